/- The claim FnGraphCounts: every text that its row comes to, laid together by slim.py (the words of the kit's print, the printed walks, the pure law, the row). -/
import Derived.Below
import Derived.ChangeArms
import Derived.ChangeOld
import Derived.DataReads
import Derived.Deep.Slices
import Derived.OpenShut
import Derived.ProofKit
import Derived.ShutString
import Derived.SizedLaws
import Derived.Test.YtmpodackojmojaaRows
import Derived.WalkKit
import Derived.Test.YtmpodackojmojaaYFnGraphCounts3
section
namespace Go.Proofs.Ytmpodackojmojaa.Gr
open Go.RowKit Go.Proofs.Ytmpodackojmojaa.Pr Go.Proofs.Ytmpodackojmojaa.gT Go.Proofs.Ytmpodackojmojaa.Sets Go.Proofs.Ytmpodackojmojaa.je Go.Proofs.Ytmpodackojmojaa.eN Go.Proofs.Ytmpodackojmojaa.Flat Go.Proofs.Ytmpodackojmojaa.fo Go.Proofs.Ytmpodackojmojaa.eP Go.Proofs.Ytmpodackojmojaa.mw Go.Proofs.Ytmpodackojmojaa.gD Go.Proofs.Ytmpodackojmojaa.fW Go.Proofs.Ytmpodackojmojaa.eg Go.Proofs.Ytmpodackojmojaa.fJ Go.Proofs.ag.aT Go.Proofs.ag.bu Go.Proofs.ag.bw
set_option linter.unusedVariables false
structure Good (V:Nat) (a b:List Int):Prop where
 v6:V≤6
 m8:a.length≤8
 ab:a.length = b.length
 lo:∀ k,k < a.length→0≤a.getD k 0∧a.getD k 0 < V∧0≤b.getD k 0∧b.getD k 0 < V
def gd (V:Int) (a b:List Int) (k:Nat):Bool:=decide (0≤a.getD k 0∧a.getD k 0 < V∧0≤b.getD k 0∧b.getD k 0 < V)
def oH (V:Int) (a b:List Int):Bool:=decide (0≤V∧V≤6∧a.length≤8∧a.length = b.length) && (List.range' 0 a.length).all (gd V a b)
theorem iO {V:Int} {a b:List Int}:oH V a b = true↔∃ W:Nat,V = W∧Good W a b:=by
 unfold oH
 rw [Bool.and_eq_true,decide_eq_true_iff,List.all_eq_true]
 constructor
 ·rintro ⟨⟨h1,h2,h3,h4⟩,h5⟩
  refine ⟨V.toNat,by omega,by omega,h3,h4,fun k hk=>?_⟩
  have:=of_decide_eq_true (h5 k (List.mem_range'_1.2 ⟨by omega,by omega⟩))
  omega
 ·rintro ⟨W,rfl,h1,h2,h3,h4⟩
  refine ⟨⟨by omega,by omega,h2,h3⟩,fun k hk=>decide_eq_true ?_⟩
  have:=List.mem_range'_1.1 hk
  exact h4 k (by omega)
theorem sX {x V:Int} (h0:0≤V) (j:V≤6):az.f x 0 (wrap64 (V - 1)) = some (decide (0≤x∧x < V)):=by
 unfold az.f
 rw [cB.gv (by omega) (by omega)]
 by_cases h:x≥0
 ·rw [if_pos h]
  refine congrArg some ?_
  rw [decide_eq_decide]
  omega
 ·rw [if_neg h]
  refine congrArg some ?_
  rw [eq_comm,decide_eq_false_iff_not]
  omega
theorem jX (V:Int) (a b:List Int) (ha:a.length≤1048576) (hb:b.length≤1048576):Ev (fun k=>aQ.f k V a b) (oH V a b):=by
 unfold aQ.f oH
 have y:az.f V 0 6 = some (decide (0≤V∧V≤6)):=by
  unfold az.f
  by_cases h:V≥0
  ·rw [if_pos h]
   refine congrArg some ?_
   rw [decide_eq_decide]
   omega
  ·rw [if_neg h]
   refine congrArg some ?_
   rw [eq_comm,decide_eq_false_iff_not]
   omega
 rw [y]
 simp only [Option.bind_some]
 have no:∀ p:Prop,[Decidable p]→¬ p→∀ q:Bool,Ev (fun k=>aQ.j0 k true V a b) (decide p && q):=fun p _ hp q=>by
  rw [decide_eq_false hp,Bool.false_and]
  exact Ev.step (fun k=>by rw [aQ.j0,if_pos rfl]) (Ev.now false)
 by_cases h1:0≤V∧V≤6
 ·refine Ev.congr (fun k=>if_pos (decide_eq_true h1)) ?_
  by_cases h2:(a.length:Int) > 8
  ·exact Ev.congr (fun k=>if_pos h2) (no _ (by omega) _)
  ·refine Ev.congr (fun k=>if_neg h2) ?_
   by_cases h3:(a.length:Int) = (b.length:Int)
   ·have j:((a.length:Int) != (b.length:Int)) = false:=bne_eq_false_iff_eq.2 h3
    rw [decide_eq_true (by omega),Bool.true_and,j]
    refine Ev.step (f:=fun k=>aQ.l0 k 0 V a b) (fun k=>by rw [aQ.j0,if_neg (by decide)]) ?_
    have key:∀ d i:Nat,i+d = a.length→Ev (fun k=>aQ.l0 k (i:Int) V a b) ((List.range' i d).all (gd V a b)):=by
     intro d
     induction d with
     | zero =>
      intro i hi
      refine Ev.step (f:=fun _=>some true) (fun k=>?_) (Ev.now _)
      rw [aQ.l0,if_neg (by omega)]
     | succ d ih =>
      intro i hi
      rw [List.range'_succ,List.all_cons]
      have ea:rd a (i:Int) = a.getD i 0:=cB.dn _ _
      have eb:rd b (i:Int) = b.getD i 0:=cB.dn _ _
      by_cases g1:0≤a.getD i 0∧a.getD i 0 < V
      ·by_cases g2:0≤b.getD i 0∧b.getD i 0 < V
       ·rw [gd,decide_eq_true ⟨g1.1,g1.2,g2.1,g2.2⟩,Bool.true_and]
        refine Ev.step (fun k=>?_) (ih (i+1) (by omega))
        rw [aQ.l0,if_pos (by omega),if_pos (by omega),ea,sX h1.1 h1.2,Option.bind_some,if_pos (decide_eq_true g1),if_pos (by omega),eb,sX h1.1 h1.2,Option.bind_some,if_pos (decide_eq_true g2),cB.cZ i (by omega)]
       ·rw [gd,decide_eq_false (fun h=>g2 ⟨h.2.2.1,h.2.2.2⟩),Bool.false_and]
        refine Ev.step (f:=fun _=>some false) (fun k=>?_) (Ev.now _)
        rw [aQ.l0,if_pos (by omega),if_pos (by omega),ea,sX h1.1 h1.2,Option.bind_some,if_pos (decide_eq_true g1),if_pos (by omega),eb,sX h1.1 h1.2,Option.bind_some,decide_eq_false g2,if_neg (by decide)]
      ·rw [gd,decide_eq_false (fun h=>g1 ⟨h.1,h.2.1⟩),Bool.false_and]
       refine Ev.step (f:=fun _=>some false) (fun k=>?_) (Ev.now _)
       rw [aQ.l0,if_pos (by omega),if_pos (by omega),ea,sX h1.1 h1.2,Option.bind_some,decide_eq_false g1,if_neg (by decide)]
    exact key a.length 0 (by omega)
   ·have j:((a.length:Int) != (b.length:Int)) = true:=bne_iff_ne.2 h3
    rw [j]
    exact no _ (by omega) _
 ·refine Ev.congr (fun k=>if_neg (by rw [decide_eq_false h1];decide)) ?_
  exact no _ (fun h=>h1 ⟨h.1,h.2.1⟩) _
section
variable {V:Nat} {a b:List Int} (h:Good V a b)
include h
theorem s6:Ev (fun k=>bk.f k V a b) true:=by
 have y:=h.v6
 have z:=h.m8
 have hab:=h.ab
 unfold bk.f
 refine Ev.congr (fun k=>if_neg (by omega)) (Ev.congr (fun k=>if_neg (by omega)) (Ev.congr (fun k=>if_neg (by omega)) ?_))
 have j:((a.length:Int) != (b.length:Int)) = false:=bne_eq_false_iff_eq.2 (by omega)
 rw [j]
 refine Ev.step (f:=fun k=>bk.l0 k (a.length:Int) 0 V a b) (fun k=>by rw [bk.j0,if_neg (by decide)]) ?_
 have key:∀ d i:Nat,i+d = a.length→Ev (fun k=>bk.l0 k (a.length:Int) (i:Int) V a b) true:=by
  intro d
  induction d with
  | zero =>
   intro i hi
   refine Ev.step (f:=fun _=>some true) (fun k=>?_) (Ev.now _)
   rw [bk.l0,if_neg (by omega)]
  | succ d ih =>
   intro i hi
   have hg:=h.lo i (by omega)
   have ea:rd a (i:Int) = a.getD i 0:=cB.dn _ _
   have eb:rd b (i:Int) = b.getD i 0:=cB.dn _ _
   refine Ev.step (fun k=>?_) (ih (i+1) (by omega))
   rw [bk.l0,if_pos (by omega),if_pos (by omega),if_pos (by omega),ea,if_neg (by omega),if_neg (by omega),if_pos (by omega),eb,if_neg (by omega),if_neg (by omega),cB.cZ i (by omega)]
 exact key a.length 0 (by omega)
end
def Eg (a b:List Int) (k:Nat):Nat×Nat:=((a.getD k 0).toNat,(b.getD k 0).toNat)
theorem Good.ends {V:Nat} {a b:List Int} (h:Good V a b) (k:Nat) (hk:k < a.length):(Eg a b k).1 < V∧(Eg a b k).2 < V:=by
 have:=h.lo k hk
 unfold Eg
 constructor
 ·show (a.getD k 0).toNat < V
  omega
 ·show (b.getD k 0).toNat < V
  omega
def part (V:Nat) (g f:Nat→Int) (i:Nat):List Int:=(List.range V).map fun v=>if v < i then g v else f v
theorem jY (V:Nat) (g f:Nat→Int) (i:Nat):(part V g f i).length = V:=by simp [part]
theorem iv {V v:Nat} (g:Nat→Int) (hv:v < V):rd ((List.range V).map g) (v:Int) = g v:=by
 rw [cB.dn]
 simp [List.getD,hv]
theorem nR {V i:Nat} (g f:Nat→Int) (hi:i < V):rd (part V g f i) (i:Int) = f i:=by
 unfold part
 rw [iv _ hi,if_neg (by omega)]
theorem jZ {V i:Nat} (g f:Nat→Int) (hi:i < V):(part V g f i).set i (g i) = part V g f (i+1):=by
 refine List.ext_getElem (by simp [part]) fun j h1 h2=>?_
 rw [List.getElem_set]
 simp only [part,List.getElem_map,List.getElem_range]
 by_cases hij:i = j
 ·subst hij
  rw [if_pos rfl,if_pos (by omega)]
 ·rw [if_neg hij]
  by_cases hj:j < i
  ·rw [if_pos hj,if_pos (by omega)]
  ·rw [if_neg hj,if_neg (by omega)]
theorem kC {V i:Nat} (g f:Nat→Int) (h:f i = g i):part V g f i = part V g f (i+1):=by
 unfold part
 refine List.map_congr_left fun v _=>?_
 by_cases hv:v = i
 ·rw [if_neg (by omega),if_pos (by omega),hv,h]
 ·by_cases j:v < i
  ·rw [if_pos j,if_pos (by omega)]
  ·rw [if_neg j,if_neg (by omega)]
theorem iZ (V:Nat) (g f:Nat→Int):part V g f 0 = (List.range V).map f:=by
 unfold part
 exact List.map_congr_left fun v _=>if_neg (by omega)
theorem kD (V:Nat) (g f:Nat→Int):part V g f V = (List.range V).map g:=by
 unfold part
 exact List.map_congr_left fun v hv=>if_pos (List.mem_range.1 hv)
def pl (V:Nat) (L:Ed):List Int:=(List.range V).map fun v=>(dN L v:Int)
theorem k5 (V:Nat) (L:Ed):(pl V L).length = V:=by simp [pl]
theorem sY {V v:Nat} (L:Ed) (hv:v < V):rd (pl V L) (v:Int) = dN L v:=iv _ hv
theorem nS {V:Nat} {e:Nat×Nat} {L:Ed} (h:dN L e.1 = dN L e.2):pl V (e :: L) = pl V L∧cn V (e :: L) = cn V L:=by
 constructor
 ·refine List.map_congr_left fun v _=>?_
  rw [dN]
  split
  ·rw [h];omega
  ·rfl
 ·rw [cn,if_pos h]
def gL (L:Ed) (e:Nat×Nat) (v:Nat):Int:=if (dN L v:Int) = dN L e.2 then dN L e.1 else dN L v
theorem nT (V:Nat) (L:Ed) (e:Nat×Nat):part V (gL L e) (fun v=>(dN L v:Int)) V = pl V (e :: L):=by
 rw [kD]
 refine List.map_congr_left fun v _=>?_
 unfold gL
 rw [dN]
 by_cases h:dN L v = dN L e.2
 ·rw [if_pos h,if_pos (by omega)]
 ·rw [if_neg h,if_neg (by omega)]
theorem nU {V k:Nat} {a:List Int} (L:Ed) (h:0≤a.getD k 0∧a.getD k 0 < V):rd (pl V L) (a.getD k 0) = dN L (a.getD k 0).toNat:=by
 have e:a.getD k 0 = ((a.getD k 0).toNat:Int):=by omega
 rw [e,sY L (by omega),Int.toNat_natCast]
theorem mj (E:Nat→Nat×Nat) (s:Nat):∀ m,eL E m s = (((List.range' 0 m).filter fun j=>s.testBit j).map E).reverse
 | 0=>rfl
 | m+1=>by
  rw [lA.ja,List.map_append,List.reverse_append,← mj E s m,eL]
  split <;> rfl
section
variable {V:Nat} {a b:List Int} (h:Good V a b)
include h
theorem n9 (s:Nat) (hs:s < 2 ^ a.length):Ev (fun k=>au.f k V a b s) (cn V (eL (Eg a b) a.length s):Int):=by
 have Y:=h.v6
 have X:=h.m8
 have hab:=h.ab
 have z:s < 256:=Nat.lt_of_lt_of_le hs (Nat.pow_le_pow_right (by decide) X:2 ^ a.length≤2 ^ 8)
 unfold au.f
 have inner:∀ (i:Nat) (L:Ed),i < a.length→Ok V (Eg a b i :: L)→dN L (Eg a b i).1≠dN L (Eg a b i).2→∀ r:Int,Ev (fun k=>au.l1 k s (pl V (Eg a b i :: L)) (cn V (Eg a b i :: L):Int) ((i+1:Nat):Int) V a b) r→∀ d v:Nat,v+d = V →
   Ev (fun k=>au.l2 k s (part V (gL L (Eg a b i)) (fun v=>(dN L v:Int)) v) (cn V L:Int) (i:Int) (dN L (Eg a b i).1:Int) (dN L (Eg a b i).2:Int) (v:Int) V a b) r:=by
  intro i L hi hok hne r hr d
  have hpos:=jM hok hne
  have hle:=fE V L
  induction d with
  | zero =>
   intro v hv
   obtain rfl:v = V:=by omega
   refine Ev.step (fun k=>?_) hr
   rw [au.l2,if_neg (by omega),cB.cZ i (by omega),cB.gv (by omega) (by omega),nT,show ((cn v L:Int) - 1) = (cn v (Eg a b i :: L):Int) by omega]
  | succ d ih =>
   intro v hv
   refine Ev.step (fun k=>?_) (ih (v+1) (by omega))
   rw [au.l2,if_pos (by omega),if_pos (by omega),if_pos (by rw [jY];omega),nR _ _ (by omega),cB.cZ v (by omega)]
   by_cases he:(dN L v:Int) = dN L (Eg a b i).2
   ·rw [if_pos he,Int.toNat_natCast,← jZ _ _ (by omega:v < V)]
    have:gL L (Eg a b i) v = dN L (Eg a b i).1:=if_pos he
    rw [this]
   ·rw [if_neg he,← kC]
    exact (if_neg he:gL L (Eg a b i) v = dN L v).symm
 have outer:∀ d i:Nat,i+d = a.length→Ev (fun k=>au.l1 k s (pl V (eL (Eg a b) i s)) (cn V (eL (Eg a b) i s):Int) (i:Int) V a b) (cn V (eL (Eg a b) a.length s):Int):=by
  intro d
  induction d with
  | zero =>
   intro i hi
   obtain rfl:i = a.length:=by omega
   refine Ev.step (f:=fun _=>some (cn V (eL (Eg a b) a.length s):Int)) (fun k=>?_) (Ev.now _)
   rw [au.l1,if_neg (by omega)]
  | succ d ih =>
   intro i hi
   have hg:=h.lo i (by omega)
   have ea:rd a (i:Int) = a.getD i 0:=cB.dn _ _
   have eb:rd b (i:Int) = b.getD i 0:=cB.dn _ _
   have hnext:=ih (i+1) (by omega)
   have start:∀ k:Nat,au.l1 (k+1) s (pl V (eL (Eg a b) i s)) (cn V (eL (Eg a b) i s):Int) (i:Int) V a b = if s.testBit i = true then (au.j2 k s (pl V (eL (Eg a b) i s)) (cn V (eL (Eg a b) i s):Int) (i:Int) (dN (eL (Eg a b) i s) (Eg a b i).1:Int) (dN (eL (Eg a b) i s) (Eg a b i).2:Int) ((dN (eL (Eg a b) i s) (Eg a b i).1:Int) == (dN (eL (Eg a b) i s) (Eg a b i).2:Int)) V a b) else (au.j2 k s (pl V (eL (Eg a b) i s)) (cn V (eL (Eg a b) i s):Int) (i:Int) (dN (eL (Eg a b) i s) (Eg a b i).1:Int) (dN (eL (Eg a b) i s) (Eg a b i).2:Int) true V a b):=by
    intro k
    rw [au.l1,if_pos (by omega),if_pos (by omega),ea,eb,if_pos (by omega),if_pos (by rw [k5];omega),if_pos (by omega),if_pos (by omega),if_pos (by rw [k5];omega),gZ s i z (by omega),Option.bind_some,nU _ ⟨hg.1,hg.2.1⟩,nU _ ⟨hg.2.2.1,hg.2.2.2⟩]
    rfl
   have y:pl V (eL (Eg a b) (i+1) s) = pl V (eL (Eg a b) i s)→cn V (eL (Eg a b) (i+1) s) = cn V (eL (Eg a b) i s)→Ev (fun k=>au.j2 k s (pl V (eL (Eg a b) i s)) (cn V (eL (Eg a b) i s):Int) (i:Int) (dN (eL (Eg a b) i s) (Eg a b i).1:Int) (dN (eL (Eg a b) i s) (Eg a b i).2:Int) true V a b) (cn V (eL (Eg a b) a.length s):Int):=fun h1 h2=>by
    rw [h1,h2] at hnext
    refine Ev.step (fun k=>?_) hnext
    rw [au.j2,if_pos rfl,cB.cZ i (by omega)]
   by_cases hb:s.testBit i = true
   ·have hL:eL (Eg a b) (i+1) s = Eg a b i :: eL (Eg a b) i s:=by rw [eL,if_pos hb]
    refine Ev.step (fun k=>(start k).trans (if_pos hb)) ?_
    by_cases hl:dN (eL (Eg a b) i s) (Eg a b i).1 = dN (eL (Eg a b) i s) (Eg a b i).2
    ·rw [show ((dN (eL (Eg a b) i s) (Eg a b i).1:Int) == (dN (eL (Eg a b) i s) (Eg a b i).2:Int)) = true from beq_iff_eq.2 (by omega)]
     obtain ⟨h1,h2⟩:=nS (V:=V) hl
     exact y (by rw [hL,h1]) (by rw [hL,h2])
    ·rw [show ((dN (eL (Eg a b) i s) (Eg a b i).1:Int) == (dN (eL (Eg a b) i s) (Eg a b i).2:Int)) = false from beq_eq_false_iff_ne.2 (by omega)]
     have hok:Ok V (Eg a b i :: eL (Eg a b) i s):=fun e he=>by
      rcases List.mem_cons.1 he with rfl | h'
      ·exact h.ends i (by omega)
      ·obtain ⟨j,hj,_,rfl⟩:=gy.1 h'
       exact h.ends j (by omega)
     rw [hL] at hnext
     have:=inner i _ (by omega) hok hl _ hnext V 0 (by omega)
     rw [iZ] at this
     refine Ev.step (fun k=>?_) this
     rw [au.j2,if_neg (by decide)]
     rfl
   ·refine Ev.step (fun k=>(start k).trans (if_neg hb)) ?_
    have hL:eL (Eg a b) (i+1) s = eL (Eg a b) i s:=by rw [eL,if_neg hb]
    exact y (by rw [hL]) (by rw [hL])
 have fill:∀ d v:Nat,v+d = V→Ev (fun k=>au.l0 k s ((List.range v).map fun u:Nat=>(u:Int)) (v:Int) V a b) (cn V (eL (Eg a b) a.length s):Int):=by
  intro d
  induction d with
  | zero =>
   intro v hv
   obtain rfl:v = V:=by omega
   refine Ev.step (fun k=>?_) (outer a.length 0 (by omega))
   rw [au.l0,if_neg (by omega)]
   rfl
  | succ d ih =>
   intro v hv
   refine Ev.step (fun k=>?_) (ih (v+1) (by omega))
   rw [au.l0,if_pos (by omega),if_pos (by simp;omega),cB.cZ v (by omega),List.range_succ,List.map_append]
   rfl
 exact fill V 0 (by omega)
theorem nc (s:Nat) (hs:s < 2 ^ a.length):Ev (fun k=>aE.f k V a b s) (cn V (eL (Eg a b) a.length s):Int):=by
 have X:=h.v6
 have z:=h.m8
 have hab:=h.ab
 have y:s < 256:=Nat.lt_of_lt_of_le hs (Nat.pow_le_pow_right (by decide) z:2 ^ a.length≤2 ^ 8)
 have hel:∀ j∈elems s,j < a.length:=fun j hj=>by
  rw [lA.ir z hs] at hj
  have:=List.mem_range'_1.1 (List.mem_filter.1 hj).1
  omega
 have hlen:(elems s).length≤8:=dy s
 have inner:∀ (j e:Nat) (L:Ed),e < a.length→j < (elems s).length→Ok V (Eg a b e :: L)→dN L (Eg a b e).1≠dN L (Eg a b e).2→∀ r:Int,Ev (fun k=>aE.l1 k (pl V (Eg a b e :: L)) (cn V (Eg a b e :: L):Int) (ints (elems s)) ((ints (elems s)).length:Int) ((j+1:Nat):Int) V a b) r→∀ d v:Nat,v+d = V →
   Ev (fun k=>aE.l2 k (part V (gL L (Eg a b e)) (fun v=>(dN L v:Int)) v) (cn V (Eg a b e :: L):Int) (dN L (Eg a b e).1:Int) (dN L (Eg a b e).2:Int) (ints (elems s)) ((ints (elems s)).length:Int) (j:Int) (V:Int) (v:Int) V a b) r:=by
  intro j e L hi hj hok hne r hr d
  induction d with
  | zero =>
   intro v hv
   obtain rfl:v = V:=by omega
   refine Ev.step (fun k=>?_) hr
   rw [aE.l2,if_neg (by omega),cB.cZ j (by omega),nT]
  | succ d ih =>
   intro v hv
   refine Ev.step (fun k=>?_) (ih (v+1) (by omega))
   rw [aE.l2,if_pos (by omega),if_pos (by omega),if_pos (by rw [jY];omega),nR _ _ (by omega),cB.cZ v (by omega)]
   by_cases he:(dN L v:Int) = dN L (Eg a b e).2
   ·rw [if_pos he,Int.toNat_natCast,← jZ _ _ (by omega:v < V)]
    have:gL L (Eg a b e) v = dN L (Eg a b e).1:=if_pos he
    rw [this]
   ·rw [if_neg he,← kC]
    exact (if_neg he:gL L (Eg a b e) v = dN L v).symm
 have outer:∀ d j:Nat,j+d = (elems s).length→Ev (fun k=>aE.l1 k (pl V (((elems s).take j).map (Eg a b)).reverse) (cn V (((elems s).take j).map (Eg a b)).reverse:Int) (ints (elems s)) ((ints (elems s)).length:Int) (j:Int) V a b) (cn V (eL (Eg a b) a.length s):Int):=by
  intro d
  induction d with
  | zero =>
   intro j hj
   refine Ev.step (f:=fun _=>some (cn V (eL (Eg a b) a.length s):Int)) (fun k=>?_) (Ev.now _)
   rw [aE.l1,if_neg (by rw [aM];omega),List.take_of_length_le (by omega),mj,← lA.ir z hs]
  | succ d ih =>
   intro j hj
   have hjl:j < (elems s).length:=by omega
   have hnext:=ih (j+1) (by omega)
   have hmem:(elems s).getD j 0∈elems s:=cL _ 0 j hjl
   have hlt:=hel _ hmem
   have htake:(((elems s).take (j+1)).map (Eg a b)).reverse = Eg a b ((elems s).getD j 0) :: (((elems s).take j).map (Eg a b)).reverse:=by
    rw [List.take_succ_eq_append_getElem hjl,List.map_append,List.reverse_append,lA.lp _ 0 hjl]
    rfl
   rw [htake] at hnext
   generalize hL:(((elems s).take j).map (Eg a b)).reverse = L at hnext ⊢
   generalize he:(elems s).getD j 0 = e at hnext hlt hmem
   have hg:=h.lo e hlt
   have hes:rd (ints (elems s)) (j:Int) = (e:Int):=by
    rw [cB.dn,gQ,he]
   have ea:rd a (e:Int) = a.getD e 0:=cB.dn _ _
   have eb:rd b (e:Int) = b.getD e 0:=cB.dn _ _
   have hok:Ok V (Eg a b e :: L):=fun x hx=>by
    rcases List.mem_cons.1 hx with rfl | h'
    ·exact h.ends e hlt
    ·rw [← hL,List.mem_reverse,List.mem_map] at h'
     obtain ⟨i,hi,rfl⟩:=h'
     exact h.ends i (hel i (List.mem_of_mem_take hi))
   have start:∀ k:Nat,aE.l1 (k+1) (pl V L) (cn V L:Int) (ints (elems s)) ((ints (elems s)).length:Int) (j:Int) V a b = if (dN L (Eg a b e).1:Int) = (dN L (Eg a b e).2:Int) then (aE.l1 k (pl V L) (cn V L:Int) (ints (elems s)) ((ints (elems s)).length:Int) (wrap64 ((j:Int)+1)) V a b) else (aE.l2 k (pl V L) (wrap64 ((cn V L:Int) - 1)) (dN L (Eg a b e).1:Int) (dN L (Eg a b e).2:Int) (ints (elems s)) ((ints (elems s)).length:Int) (j:Int) ((pl V L).length:Int) 0 V a b):=by
    intro k
    rw [aE.l1,if_pos (by rw [aM];omega),if_pos (by omega),if_pos (by rw [aM];omega),hes,if_pos (by omega),if_pos (by omega),ea,eb,if_pos (by omega),if_pos (by rw [k5];omega),if_pos (by omega),if_pos (by omega),if_pos (by rw [k5];omega),nU _ ⟨hg.1,hg.2.1⟩,nU _ ⟨hg.2.2.1,hg.2.2.2⟩]
    rfl
   by_cases hl:dN L (Eg a b e).1 = dN L (Eg a b e).2
   ·obtain ⟨h1,h2⟩:=nS (V:=V) hl
    rw [h1,h2] at hnext
    refine Ev.step (fun k=>?_) hnext
    rw [start,if_pos (by omega),cB.cZ j (by omega)]
   ·have hpos:=jM hok hl
    have hle:=fE V L
    have:=inner j e L hlt hjl hok hl _ hnext V 0 (by omega)
    rw [iZ] at this
    refine Ev.step (fun k=>?_) this
    rw [start,if_neg (by omega),k5,cB.gv (by omega) (by omega),show ((cn V L:Int) - 1) = (cn V (Eg a b e :: L):Int) by omega]
    rfl
 have fill:∀ d v:Nat,v+d = V→Ev (fun k=>aE.l0 k s (part V (fun v=>(v:Int)) (fun _=>0) v) (V:Int) (v:Int) V a b) (cn V (eL (Eg a b) a.length s):Int):=by
  intro d
  induction d with
  | zero =>
   intro v hv
   obtain rfl:v = V:=by omega
   have hO:=outer (elems s).length 0 (by omega)
   refine Ev.step (f:=fun k=>(aD.f k s).bind fun t=>aE.l1 k (pl v []) (v:Int) t (t.length:Int) 0 v a b) (fun k=>?_) (Ev.bind (er s y) hO)
   rw [aE.l0,if_neg (by omega),kD]
   rfl
  | succ d ih =>
   intro v hv
   refine Ev.step (fun k=>?_) (ih (v+1) (by omega))
   rw [aE.l0,if_pos (by omega),if_pos (by omega),if_pos (by rw [jY];omega),cB.cZ v (by omega),Int.toNat_natCast,← jZ _ _ (by omega:v < V)]
 unfold aE.f
 refine Ev.congr (fun k=>if_pos (by omega)) (Ev.congr (fun k=>if_pos (by omega)) ?_)
 simp only [Option.bind_some]
 have:=fill V 0 (by omega)
 rw [iZ] at this
 have e:(List.range V).map (fun _=>(0:Int)) = List.replicate V 0:=by
  rw [List.map_const',List.length_range]
 rw [e] at this
 rw [Int.toNat_natCast,List.length_replicate]
 exact this
end
end Go.Proofs.Ytmpodackojmojaa.Gr
end
section
namespace Go.Proofs.Ytmpodackojmojaa.nZ
open Go.RowKit Go.Proofs.Ytmpodackojmojaa.Pr Go.Proofs.Ytmpodackojmojaa.Sets Go.Proofs.Ytmpodackojmojaa.je Go.Proofs.Ytmpodackojmojaa.eN Go.Proofs.Ytmpodackojmojaa.Flat Go.Proofs.Ytmpodackojmojaa.fo Go.Proofs.Ytmpodackojmojaa.eP Go.Proofs.Ytmpodackojmojaa.Sort Go.Proofs.Ytmpodackojmojaa.sn Go.Proofs.Ytmpodackojmojaa.mw Go.Proofs.Ytmpodackojmojaa.oG Go.Proofs.Ytmpodackojmojaa.fW Go.Proofs.ag.aT Go.Proofs.ag.bu Go.Proofs.ag.bw
set_option linter.unusedVariables false
def s7 (l:List Nat):List Int:=kept (fun t s=>me s t) l
theorem qO (l:List Nat) (hl:∀ s∈l,s < 256) (hn:l.length≤1048576):Ev (fun k=>bz.f k (ints l)) (s7 l):=by
 unfold bz.f
 refine Ev.bind (qJ l hl hn) ?_
 simp only [if_true]
 have hs:=pE (ints l) (by rw [aM];exact hn)
 rw [hs]
 simp only [Option.bind_some]
 refine pR l hn (fun t s=>me s t) bH.f bz.l0 (fun s hs t ht=>?_) (fun k q y j=>by rw [bz.l0])
 unfold bH.f
 by_cases e:t = s
 ·subst e
  rw [if_pos rfl]
  simp
 ·rw [if_neg (by omega),qI s t (hl s hs) (hl t ht),decide_eq_false e]
  simp
theorem nf (m:Nat) (P:Nat→Bool):s7 ((List.range' 0 (2 ^ m)).filter P) = ints (dj m P):=by
 unfold s7 kept
 refine oz (kB m P) fun s=>?_
 rw [List.mem_filter,List.mem_filter,dU,Bool.not_eq_true',List.any_eq_false]
 constructor
 ·rintro ⟨⟨h1,h2⟩,h3⟩
  refine ⟨by have:=List.mem_range'_1.1 h1;omega,h2,fun t ht hp hs=>?_⟩
  have:=h3 t (List.mem_filter.2 ⟨List.mem_range'_1.2 (by omega),hp⟩)
  have e:me s t = true:=by unfold me;rw [eT.2 hs];exact decide_eq_true rfl
  simpa [e] using this
 ·rintro ⟨h1,h2,h3⟩
  refine ⟨⟨List.mem_range'_1.2 (by omega),h2⟩,fun t ht=>?_⟩
  obtain ⟨j,y⟩:=List.mem_filter.1 ht
  by_cases e:s &&& t = s
  ·have:=h3 t (by have:=List.mem_range'_1.1 j;omega) y (eT.1 e)
   simp [this]
  ·have z:me s t = false:=by unfold me;exact decide_eq_false e
   simp [z]
theorem pW {m:Nat} (hm:m≤8) (P:Nat→Bool):∀ s∈(List.range' 0 (2 ^ m)).filter P,s < 256:=fun s hs=>by
 have:=List.mem_range'_1.1 (List.mem_filter.1 hs).1
 have:=bZ hm
 omega
theorem oD {m:Nat} (hm:m≤8) (P:Nat→Bool):((List.range' 0 (2 ^ m)).filter P).length≤1048576:=by
 refine Nat.le_trans (List.length_filter_le _ _) ?_
 rw [List.length_range']
 exact Nat.le_trans (bZ hm) (by decide)
theorem pX {m:Nat} (hm:m≤8) {P:Nat→Bool} (h:my m P):Ev (fun k=>cj.f k (m:Int) (ints ((List.range' 0 (2 ^ m)).filter P))) ((m:Int),ints (dj m P),true):=by
 unfold cj.f
 refine Ev.bind (qO _ (pW hm P) (oD hm P)) ?_
 rw [nf]
 have hM:=nM (m:Int) (ints (dj m P)) (by rw [aM];exact Nat.le_trans (iN m hm P) (by decide))
 rw [j9 hm h] at hM
 refine Ev.bind hM ?_
 simp only [if_true]
 exact Ev.now _
end Go.Proofs.Ytmpodackojmojaa.nZ
end
section
namespace Go.Proofs.Ytmpodackojmojaa.Gr
open Go.RowKit Go.Proofs.Ytmpodackojmojaa.Pr Go.Proofs.Ytmpodackojmojaa.gT Go.Proofs.Ytmpodackojmojaa.Sets Go.Proofs.Ytmpodackojmojaa.je Go.Proofs.Ytmpodackojmojaa.eN Go.Proofs.Ytmpodackojmojaa.Flat Go.Proofs.Ytmpodackojmojaa.fo Go.Proofs.Ytmpodackojmojaa.eP Go.Proofs.Ytmpodackojmojaa.mw Go.Proofs.Ytmpodackojmojaa.oG Go.Proofs.Ytmpodackojmojaa.gD Go.Proofs.Ytmpodackojmojaa.fW Go.Proofs.Ytmpodackojmojaa.nZ Go.Proofs.Ytmpodackojmojaa.eg Go.Proofs.Ytmpodackojmojaa.fJ Go.Proofs.ag.aT Go.Proofs.ag.bu Go.Proofs.ag.bw
set_option linter.unusedVariables false
section
variable {V:Nat} {a b:List Int} (h:Good V a b)
include h
theorem pY:Ev (fun k=>cr.f k V a b) ((a.length:Int),ints (dj a.length (gI (Eg a b) V a.length))):=by
 have y:=h.m8
 have z:=h.v6
 unfold cr.f
 refine Ev.bind (s6 h) ?_
 simp only [if_true]
 refine Ev.bind (mU a.length y (fun k s=>b5.f k s V a b) (gI (Eg a b) V a.length) (fun s hs=>?_) (fun k s=>b5.mono _ _ _ _ k)) ?_
 ·have j:s < 256:=Nat.lt_of_lt_of_le hs (Nat.pow_le_pow_right (by decide) y:2 ^ a.length≤2 ^ 8)
  unfold b5.f
  refine Ev.bind (nc h s hs) ?_
  rw [gR s j]
  simp only [Option.bind_some]
  have hle:=fE V (eL (Eg a b) a.length s)
  have e:(wrap64 ((V:Int) - (cn V (eL (Eg a b) a.length s):Int)) == (cnt s:Int)) = gI (Eg a b) V a.length s:=by
   rw [cB.gv (by omega) (by omega),Bool.eq_iff_iff,beq_iff_eq,gI,decide_eq_true_iff]
   omega
  rw [e]
  exact Ev.now _
 ·exact Ev.bind (pX y (iY h.ends y)) (Ev.now _)
end
theorem eW {q n i:Nat} (hq:q≤4) (hn:n≤8) (hi:i≤n):q ^ i≤65536 :=
 Nat.le_trans (Nat.pow_le_pow_left hq i) (Nat.le_trans (Nat.pow_le_pow_right (by decide) (by omega:i≤8)) (by decide))
theorem nV {q n:Nat} (hq:q≤4) (hn:n≤8):Ev (fun k=>bp.f k (q:Int) (n:Int)) ((q ^ n:Nat):Int):=by
 unfold bp.f
 have key:∀ d i:Nat,i+d = n→Ev (fun k=>bp.l0 k (q:Int) (n:Int) ((q ^ i:Nat):Int) (i:Int)) ((q ^ n:Nat):Int):=by
  intro d
  induction d with
  | zero =>
   intro i hi
   obtain rfl:i = n:=by omega
   refine Ev.step (f:=fun _=>some ((q ^ i:Nat):Int)) (fun k=>?_) (Ev.now _)
   rw [bp.l0,if_neg (by omega)]
  | succ d ih =>
   intro i hi
   have hs:=eW hq hn (show i+1≤n by omega)
   refine Ev.step (fun k=>?_) (ih (i+1) (by omega))
   have j:q ^ i * q = q ^ (i+1):=(Nat.pow_succ ..).symm
   rw [bp.l0,if_pos (by omega),← Int.natCast_mul,j,cB.gv (by omega) (by omega),cB.cZ i (by omega)]
 exact key n 0 (by omega)
theorem s8 (x:Bool):cQ.f x = some (b1 x):=by cases x <;> rfl
theorem mm (x:Bool):0≤b1 x∧b1 x≤1:=by cases x <;> decide
theorem pZ (p:Nat→Bool):∀ n,0≤S n (fun i=>b1 (p i))∧S n (fun i=>b1 (p i))≤n
 | 0=>by rw [S];omega
 | n+1=>by
  have h1:=pZ p n
  have h2:=mm (p n)
  rw [S]
  omega
theorem tm (x q:Nat):Int.tmod (x:Int) (q:Int) = ((x % q:Nat):Int):=(Int.ofNat_tmod x q).symm
theorem td (x q:Nat):Int.tdiv (x:Int) (q:Int) = ((x / q:Nat):Int):=(Int.ofNat_tdiv x q).symm
theorem sZ {q n j:Nat} (hn:n≤65536):wrap64 (Int.tdiv ((n / q ^ j:Nat):Int) (q:Int)) = ((n / q ^ (j+1):Nat):Int):=by
 have X:q ^ j * q = q ^ (j+1):=(Nat.pow_succ ..).symm
 have y:n / q ^ (j+1)≤n:=Nat.div_le_self _ _
 rw [td,Nat.div_div_eq_div_mul,X]
 generalize n / q ^ (j+1) = z at *
 exact cB.gv (by omega) (by omega)
theorem tC {q:Nat} (hq:1≤q) (j:q≤4):wrap64 ((q:Int) - 1) = ((q - 1:Nat):Int):=by
 rw [cB.gv (by omega) (by omega)]
 omega
theorem tr {q n j:Nat} (hq:0 < q) (y:q≤4):wrap64 (1+Int.tmod ((n / q ^ j:Nat):Int) (q:Int)) = ((1+dg q n j:Nat):Int):=by
 have hd:dg q n j < q:=nG hq
 rw [tm]
 show wrap64 (1+((dg q n j:Nat):Int)) = _
 rw [cB.gv (by omega) (by omega)]
 omega
theorem map_set {V i:Nat} (g:Nat→Int) (x:Int) (hi:i < V):((List.range V).map g).set i x = (List.range V).map fun v=>if v = i then x else g v:=by
 refine List.ext_getElem (by simp) fun j h1 h2=>?_
 rw [List.getElem_set]
 simp only [List.getElem_map,List.getElem_range]
 by_cases hij:i = j
 ·rw [if_pos hij,if_pos hij.symm]
 ·rw [if_neg hij,if_neg fun e=>hij e.symm]
theorem tu {V e:Nat} (g:Nat→Int) (f:Int) (he:e < V) (hb:0≤g e∧g e≤64) (hf:0≤f∧f≤4):((List.range V).map g).set ((e:Int)).toNat (wrap64 (g e+f)) = (List.range V).map fun v=>g v+if v = e then f else 0:=by
 rw [Int.toNat_natCast,map_set _ _ he,cB.gv (by omega) (by omega)]
 refine List.map_congr_left fun v _=>?_
 by_cases hv:v = e
 ·rw [if_pos hv,if_pos hv,hv]
 ·rw [if_neg hv,if_neg hv,Int.add_zero]
theorem tv {V e:Nat} (g:Nat→Int) (q f:Int) (he:e < V) (hb:0≤g e∧g e≤128) (hf:0≤f∧f≤4) (hq:0≤q∧q≤4):((List.range V).map g).set ((e:Int)).toNat (wrap64 (wrap64 (g e+q) - f)) = (List.range V).map fun v=>g v+if v = e then q - f else 0:=by
 rw [Int.toNat_natCast,map_set _ _ he,cB.gv (i:=g e+q) (by omega) (by omega),cB.gv (by omega) (by omega)]
 refine List.map_congr_left fun v _=>?_
 by_cases hv:v = e
 ·rw [if_pos hv,if_pos hv,hv]
  omega
 ·rw [if_neg hv,if_neg hv,Int.add_zero]
section
variable {V:Nat} {a b:List Int} (h:Good V a b)
include h
theorem nh {q n all:Nat} {c:Int} {r:Int} (hr:Ev (fun k=>aq.l0 k (q:Int) (wrap64 (c+b1 (al a.length fun k=>dg q n (Eg a b k).1 != dg q n (Eg a b k).2))) (all:Int) (wrap64 ((n:Int)+1)) V a b) r):∀ d j:Nat,j+d = a.length →
  Ev (fun k=>aq.l2 k (q:Int) c (all:Int) (n:Int) ((List.range V).map fun v=>(dg q n v:Int)) (al j fun k=>dg q n (Eg a b k).1 != dg q n (Eg a b k).2) (j:Int) V a b) r:=by
 have Y:=h.m8
 have hab:=h.ab
 intro d
 induction d with
 | zero =>
  intro j hj
  obtain rfl:j = a.length:=by omega
  refine Ev.step (fun k=>?_) hr
  rw [aq.l2,if_neg (by omega),s8,Option.bind_some]
 | succ d ih =>
  intro j hj
  have hg:=h.lo j (by omega)
  have hnext:=ih (j+1) (by omega)
  have ea:rd a (j:Int) = a.getD j 0:=cB.dn _ _
  have eb:rd b (j:Int) = b.getD j 0:=cB.dn _ _
  have hl:((List.range V).map fun v=>(dg q n v:Int)).length = V:=by simp
  have y:rd ((List.range V).map fun v=>(dg q n v:Int)) (a.getD j 0) = dg q n (Eg a b j).1:=by
   have e:a.getD j 0 = ((a.getD j 0).toNat:Int):=by omega
   rw [e,iv (fun v=>(dg q n v:Int)) (by omega)]
   rfl
  have z:rd ((List.range V).map fun v=>(dg q n v:Int)) (b.getD j 0) = dg q n (Eg a b j).2:=by
   have e:b.getD j 0 = ((b.getD j 0).toNat:Int):=by omega
   rw [e,iv (fun v=>(dg q n v:Int)) (by omega)]
   rfl
  cases hx:al j fun k=>dg q n (Eg a b k).1 != dg q n (Eg a b k).2 with
  | true =>
   refine Ev.step (fun k=>?_) hnext
   have X:((dg q n (Eg a b j).1:Int) != (dg q n (Eg a b j).2:Int)) = (dg q n (Eg a b j).1 != dg q n (Eg a b j).2):=by
    rw [Bool.eq_iff_iff,bne_iff_ne,bne_iff_ne]
    omega
   rw [aq.l2,if_pos (by omega),if_pos rfl,if_pos (by omega),ea,eb,if_pos (by omega),if_pos (by rw [hl];omega),if_pos (by omega),if_pos (by omega),if_pos (by rw [hl];omega),y,z,X,cB.cZ j (by omega),al,hx,Bool.true_and]
  | false =>
   refine Ev.step (fun k=>?_) hnext
   rw [aq.l2,if_pos (by omega),if_neg Bool.false_ne_true,cB.cZ j (by omega),al,hx,Bool.false_and]
theorem lq {q n all:Nat} (j:q≤4) (hn:n < all) (hall:all = q ^ V) {c:Int} {r:Int} (hr:Ev (fun k=>aq.l0 k (q:Int) (wrap64 (c+b1 (al a.length fun k=>dg q n (Eg a b k).1 != dg q n (Eg a b k).2))) (all:Int) (wrap64 ((n:Int)+1)) V a b) r):∀ d v:Nat,v+d = V →
  Ev (fun k=>aq.l1 k (q:Int) c (all:Int) (n:Int) ((List.range v).map fun u:Nat=>(dg q n u:Int)) ((n / q ^ v:Nat):Int) (v:Int) V a b) r:=by
 have y:=h.v6
 have hp:=eW (n:=8) j (by decide) (show V≤8 by omega)
 intro d
 induction d with
 | zero =>
  intro v hv
  obtain rfl:v = V:=by omega
  refine Ev.step (fun k=>?_) (nh h hr a.length 0 (by omega))
  rw [aq.l1,if_neg (by omega)]
  rfl
 | succ d ih =>
  intro v hv
  have hq:q≠0:=fun h0=>by
   rw [hall,h0,Nat.zero_pow (by omega)] at hn
   omega
  refine Ev.step (fun k=>?_) (ih (v+1) (by omega))
  have hl:((List.range v).map fun u:Nat=>(dg q n u:Int)).length = v:=by simp
  rw [aq.l1,if_pos (by omega),if_neg (by omega),if_pos (by rw [hl];omega),sZ (by omega),show Int.tmod ((n / q ^ v:Nat):Int) (q:Int) = (dg q n v:Int) from tm _ _,cB.cZ v (by omega),List.range_succ,List.map_append]
  rfl
theorem qP {q:Nat} (hq:q≤4) (ha:a.length≤1048576) (hb:b.length≤1048576):Ev (fun k=>aq.f k V a b (q:Int)) (S (q ^ V) fun n=>b1 (al a.length fun k=>dg q n (Eg a b k).1 != dg q n (Eg a b k).2)):=by
 have z:=h.v6
 have hp:=eW (n:=8) hq (by decide) (show V≤8 by omega)
 have hok:oH V a b = true:=iO.2 ⟨V,rfl,h⟩
 have hi:=jX V a b ha hb
 rw [hok] at hi
 unfold aq.f
 refine Ev.bind hi (Ev.congr (fun k=>if_pos rfl) ?_)
 have j:az.f (q:Int) 0 4 = some true:=by
  unfold az.f
  rw [if_pos (by omega),decide_eq_true (by omega)]
 rw [j]
 simp only [Option.bind_some]
 refine Ev.step (f:=fun k=>(bp.f k (q:Int) (V:Int)).bind fun t194=>aq.l0 k (q:Int) 0 t194 0 V a b) (fun k=>?_) (Ev.bind (nV hq (by omega)) ?_)
 ·rw [aq.j0,if_neg (by decide)]
 have key:∀ d n:Nat,n+d = q ^ V→Ev (fun k=>aq.l0 k (q:Int) (S n fun n=>b1 (al a.length fun k=>dg q n (Eg a b k).1 != dg q n (Eg a b k).2)) ((q ^ V:Nat):Int) (n:Int) V a b) (S (q ^ V) fun n=>b1 (al a.length fun k=>dg q n (Eg a b k).1 != dg q n (Eg a b k).2)):=by
  intro d
  induction d with
  | zero =>
   intro n hn
   have hn:n = q ^ V:=by omega
   refine Ev.step (f:=fun _=>some (S (q ^ V) fun n=>b1 (al a.length fun k=>dg q n (Eg a b k).1 != dg q n (Eg a b k).2))) (fun k=>?_) (Ev.now _)
   rw [aq.l0,if_neg (by omega),hn]
  | succ d ih =>
   intro n hn
   have hb:=pZ (fun n=>al a.length fun k=>dg q n (Eg a b k).1 != dg q n (Eg a b k).2) n
   have y:=mm (al a.length fun k=>dg q n (Eg a b k).1 != dg q n (Eg a b k).2)
   have hnext:=ih (n+1) (by omega)
   rw [S] at hnext
   have:=lq h (q:=q) (n:=n) (all:=q ^ V) (c:=S n fun n=>b1 (al a.length fun k=>dg q n (Eg a b k).1 != dg q n (Eg a b k).2)) hq (by omega) rfl (r:=S (q ^ V) fun n=>b1 (al a.length fun k=>dg q n (Eg a b k).1 != dg q n (Eg a b k).2)) (by rw [cB.gv (by omega) (by omega),cB.cZ n (by omega)];exact hnext) V 0 (by omega)
   rw [Nat.pow_zero,Nat.div_one] at this
   refine Ev.step (fun k=>?_) this
   rw [aq.l0,if_pos (by omega)]
   rfl
 exact key (q ^ V) 0 (by omega)
end
theorem ta {V q:Int} {a b:List Int} (ha:a.length≤1048576) (hb:b.length≤1048576) (h:¬ (oH V a b = true∧0≤q∧q≤4)):Ev (fun k=>aq.f k V a b q) (-1):=by
 have hi:=jX V a b ha hb
 unfold aq.f
 refine Ev.bind hi ?_
 have no:Ev (fun k=>aq.j0 k q true V a b) (-1):=Ev.step (f:=fun _=>some (-1)) (fun k=>by rw [aq.j0,if_pos rfl]) (Ev.now _)
 cases hx:oH V a b with
 | false=>exact Ev.congr (fun k=>if_neg Bool.false_ne_true) no
 | true =>
  refine Ev.congr (fun k=>if_pos rfl) ?_
  have j:az.f q 0 4 = some false:=by
   unfold az.f
   by_cases hq:q≥0
   ·rw [if_pos hq,decide_eq_false (fun h4=>h ⟨hx,hq,h4⟩)]
   ·rw [if_neg hq]
  rw [j]
  simp only [Option.bind_some]
  exact no
theorem nW (E:Nat→Nat×Nat) {q:Nat} (hq:1 < q) (n v:Nat):∀ k,0≤sm E q n k v∧sm E q n k v≤q * k
 | 0=>by rw [sm];simp
 | k+1=>by
  have h1:=nW E hq n v k
  have h2:dg (q - 1) n k < q - 1:=nG (by omega)
  have e:(q:Int) * ((k+1:Nat):Int) = q * k+q:=by rw [Int.natCast_add,Int.mul_add];simp
  rw [sm,e]
  generalize (q:Int) * (k:Int) = z at *
  generalize sm E q n k v = w at *
  split <;> split <;> omega
section
variable {V:Nat} {a b:List Int} (h:Good V a b)
include h
theorem s9 {q n:Nat} (hq:1 < q) (z:q≤4) (hn:n < 65536):Ev (fun k=>aK.f k V a b (q:Int) (n:Int)) (gf q V (sm (Eg a b) q n a.length)):=by
 have h6:=h.v6
 have h8:=h.m8
 have hab:=h.ab
 have check:∀ d v:Nat,v+d = V→(al v fun v=>sm (Eg a b) q n a.length v % (q:Int) == 0) = true→Ev (fun k=>aK.l1 k (q:Int) ((List.range V).map (sm (Eg a b) q n a.length)) (v:Int) V a b) (gf q V (sm (Eg a b) q n a.length)):=by
  intro d
  induction d with
  | zero =>
   intro v hv hal
   obtain rfl:v = V:=by omega
   refine Ev.step (f:=fun _=>some true) (fun k=>?_) (by unfold gf;rw [hal];exact Ev.now _)
   rw [aK.l1,if_neg (by omega)]
  | succ d ih =>
   intro v hv hal
   have hl:((List.range V).map (sm (Eg a b) q n a.length)).length = V:=by simp
   have e1:rd ((List.range V).map (sm (Eg a b) q n a.length)) (v:Int) = sm (Eg a b) q n a.length v:=iv _ (by omega)
   have hs:=nW (Eg a b) hq n v a.length
   have e2:Int.tmod (sm (Eg a b) q n a.length v) (q:Int) = sm (Eg a b) q n a.length v % (q:Int):=Int.tmod_eq_emod_of_nonneg hs.1
   by_cases hz:sm (Eg a b) q n a.length v % (q:Int) = 0
   ·refine Ev.step (fun k=>?_) (ih (v+1) (by omega) (by rw [al,hal,Bool.true_and,beq_iff_eq];exact hz))
    rw [aK.l1,if_pos (by omega),if_pos (by omega),if_pos (by rw [hl];omega),if_neg (by omega),e1,e2,if_pos hz,cB.cZ v (by omega)]
   ·have hf:gf q V (sm (Eg a b) q n a.length) = false:=by
     cases hx:gf q V (sm (Eg a b) q n a.length) with
     | false=>rfl
     | true =>
      unfold gf at hx
      rw [gx] at hx
      have:=hx v (by omega)
      rw [beq_iff_eq] at this
      exact absurd this hz
    rw [hf]
    refine Ev.step (f:=fun _=>some false) (fun k=>?_) (Ev.now _)
    rw [aK.l1,if_pos (by omega),if_pos (by omega),if_pos (by rw [hl];omega),if_neg (by omega),e1,e2,if_neg hz]
 have key:∀ d j:Nat,j+d = a.length→Ev (fun k=>aK.l0 k (q:Int) ((n / (q - 1) ^ j:Nat):Int) ((List.range V).map (sm (Eg a b) q n j)) (j:Int) V a b) (gf q V (sm (Eg a b) q n a.length)):=by
  intro d
  induction d with
  | zero =>
   intro j hj
   obtain rfl:j = a.length:=by omega
   refine Ev.step (fun k=>?_) (check V 0 (by omega) rfl)
   rw [aK.l0,if_neg (by omega)]
   rfl
  | succ d ih =>
   intro j hj
   have hg:=h.lo j (by omega)
   have hnext:=ih (j+1) (by omega)
   have ea:rd a (j:Int) = a.getD j 0:=cB.dn _ _
   have eb:rd b (j:Int) = b.getD j 0:=cB.dn _ _
   have hA:a.getD j 0 = ((Eg a b j).1:Int):=by
    show _ = ((a.getD j 0).toNat:Int)
    omega
   have hB:b.getD j 0 = ((Eg a b j).2:Int):=by
    show _ = ((b.getD j 0).toNat:Int)
    omega
   have y:=h.ends j (by omega)
   have hl:∀ g:Nat→Int,((List.range V).map g).length = V:=fun g=>by simp
   have hd:dg (q - 1) n j < q - 1:=nG (by omega)
   have hqj:(q:Int) * (j:Int)≤4 * 8:=Int.mul_le_mul (by omega) (by omega) (by omega) (by decide)
   have a0:=nW (Eg a b) hq n (Eg a b j).1 j
   have a1:=nW (Eg a b) hq n (Eg a b j).2 j
   have hf:0≤((1+dg (q - 1) n j:Nat):Int)∧((1+dg (q - 1) n j:Nat):Int)≤4:=by omega
   have X:0≤sm (Eg a b) q n j (Eg a b j).1∧sm (Eg a b) q n j (Eg a b j).1≤64:=by omega
   have Y:0≤(sm (Eg a b) q n j (Eg a b j).2+if (Eg a b j).2 = (Eg a b j).1 then ((1+dg (q - 1) n j:Nat):Int) else 0)∧(sm (Eg a b) q n j (Eg a b j).2+if (Eg a b j).2 = (Eg a b j).1 then ((1+dg (q - 1) n j:Nat):Int) else 0)≤128:=by
    split <;> omega
   refine Ev.step (fun k=>?_) hnext
   rw [aK.l0,if_pos (by omega),tC (by omega) z,if_neg (by omega),if_pos (by omega),ea,eb,hA,hB,if_pos (by omega),if_pos (by rw [hl];omega),iv (sm (Eg a b) q n j) y.1,tr (by omega) (by omega),tu (sm (Eg a b) q n j) _ y.1 X hf,Option.bind_some,if_pos (by omega),if_pos (by omega),if_pos (by rw [hl];omega),iv (fun v=>sm (Eg a b) q n j v+if v = (Eg a b j).1 then ((1+dg (q - 1) n j:Nat):Int) else 0) y.2,tv (fun v=>sm (Eg a b) q n j v+if v = (Eg a b j).1 then ((1+dg (q - 1) n j:Nat):Int) else 0) _ _ y.2 Y hf (by omega),sZ (by omega),cB.cZ j (by omega)]
   rfl
 unfold aK.f
 refine Ev.congr (fun k=>if_pos (by omega)) (Ev.congr (fun k=>if_pos (by omega)) ?_)
 have:=key a.length 0 (by omega)
 have e:(List.range V).map (sm (Eg a b) q n 0) = List.replicate V 0:=by
  show (List.range V).map (fun _=>(0:Int)) = _
  rw [List.map_const',List.length_range]
 rw [e,Nat.pow_zero,Nat.div_one] at this
 rw [Int.toNat_natCast]
 exact this
def fl (q V:Nat) (a b:List Int):Int:=if q = 1 then b1 (decide (a.length = 0)) else S ((q - 1) ^ a.length) fun n=>b1 (gf q V (sm (Eg a b) q n a.length))
theorem oE {q:Nat} (hq:1≤q) (j:q≤4) (ha:a.length≤1048576) (hb:b.length≤1048576):Ev (fun k=>bj.f k V a b (q:Int)) (fl q V a b):=by
 have X:=h.m8
 have hp:=eW (q:=q - 1) (n:=8) (by omega) (by decide) X
 have hok:oH V a b = true:=iO.2 ⟨V,rfl,h⟩
 have hi:=jX V a b ha hb
 rw [hok] at hi
 unfold bj.f
 refine Ev.bind hi (Ev.congr (fun k=>if_pos rfl) ?_)
 have Y:az.f (q:Int) 1 4 = some true:=by
  unfold az.f
  rw [if_pos (by omega),decide_eq_true (by omega)]
 rw [Y]
 simp only [Option.bind_some]
 by_cases h1:q = 1
 ·refine Ev.step (f:=fun _=>some (fl q V a b)) (fun k=>?_) (Ev.now _)
  rw [bj.j0,if_neg (by decide),if_pos (by omega),s8,Option.bind_some,fl,if_pos h1]
  refine congrArg (fun z=>some (b1 z)) ?_
  rw [Bool.eq_iff_iff,beq_iff_eq,decide_eq_true_iff]
  omega
 ·refine Ev.step (f:=fun k=>(bp.f k ((q - 1:Nat):Int) (a.length:Int)).bind fun y=>bj.l0 k (q:Int) 0 y 0 V a b) (fun k=>?_) (Ev.bind (nV (by omega) X) ?_)
  ·rw [bj.j0,if_neg (by decide),if_neg (by omega),tC hq j]
  rw [fl,if_neg h1]
  have key:∀ d n:Nat,n+d = (q - 1) ^ a.length→Ev (fun k=>bj.l0 k (q:Int) (S n fun n=>b1 (gf q V (sm (Eg a b) q n a.length))) (((q - 1) ^ a.length:Nat):Int) (n:Int) V a b) (S ((q - 1) ^ a.length) fun n=>b1 (gf q V (sm (Eg a b) q n a.length))):=by
   intro d
   induction d with
   | zero =>
    intro n hn
    have hn:n = (q - 1) ^ a.length:=by omega
    refine Ev.step (f:=fun _=>some (S ((q - 1) ^ a.length) fun n=>b1 (gf q V (sm (Eg a b) q n a.length)))) (fun k=>?_) (Ev.now _)
    rw [bj.l0,if_neg (by omega),hn]
   | succ d ih =>
    intro n hn
    have hb:=pZ (fun n=>gf q V (sm (Eg a b) q n a.length)) n
    have a0:=mm (gf q V (sm (Eg a b) q n a.length))
    have hnext:=ih (n+1) (by omega)
    rw [S] at hnext
    refine Ev.step (f:=fun k=>(aK.f k V a b (q:Int) (n:Int)).bind fun t=>bj.l0 k (q:Int) ((S n fun n=>b1 (gf q V (sm (Eg a b) q n a.length)))+b1 t) (((q - 1) ^ a.length:Nat):Int) ((n+1:Nat):Int) V a b) (fun k=>?_) (Ev.bind (s9 h (by omega) j (by omega)) hnext)
    rw [bj.l0,if_pos (by omega),cB.cZ n (by omega)]
    refine congrArg (Option.bind _) (funext fun t=>?_)
    have:=mm t
    rw [s8,Option.bind_some,cB.gv (by omega) (by omega)]
  exact key ((q - 1) ^ a.length) 0 (by omega)
end
theorem qQ {V q:Int} {a b:List Int} (ha:a.length≤1048576) (hb:b.length≤1048576) (h:¬ (oH V a b = true∧1≤q∧q≤4)):Ev (fun k=>bj.f k V a b q) (-1):=by
 have hi:=jX V a b ha hb
 unfold bj.f
 refine Ev.bind hi ?_
 have no:Ev (fun k=>bj.j0 k q true V a b) (-1):=Ev.step (f:=fun _=>some (-1)) (fun k=>by rw [bj.j0,if_pos rfl]) (Ev.now _)
 cases hx:oH V a b with
 | false=>exact Ev.congr (fun k=>if_neg Bool.false_ne_true) no
 | true =>
  refine Ev.congr (fun k=>if_pos rfl) ?_
  have j:az.f q 1 4 = some false:=by
   unfold az.f
   by_cases hq:q≥1
   ·rw [if_pos hq,decide_eq_false (fun h4=>h ⟨hx,hq,h4⟩)]
   ·rw [if_neg hq]
  rw [j]
  simp only [Option.bind_some]
  exact no
end Go.Proofs.Ytmpodackojmojaa.Gr
end
section
namespace Go.Proofs.Ytmpodackojmojaa.Gr
open Go.RowKit Go.Proofs.Ytmpodackojmojaa.gT Go.Proofs.Ytmpodackojmojaa.Sets Go.Proofs.Ytmpodackojmojaa.je Go.Proofs.Ytmpodackojmojaa.eN Go.Proofs.Ytmpodackojmojaa.Flat Go.Proofs.Ytmpodackojmojaa.fo Go.Proofs.Ytmpodackojmojaa.eP Go.Proofs.Ytmpodackojmojaa.mw Go.Proofs.Ytmpodackojmojaa.gD Go.Proofs.Ytmpodackojmojaa.fW Go.Proofs.Ytmpodackojmojaa.eg Go.Proofs.Ytmpodackojmojaa.fJ Go.Proofs.Ytmpodackojmojaa.Poly Go.Proofs.ag.aT Go.Proofs.ag.bu Go.Proofs.ag.bw
def cg (a b:Int):Prop:=a % 18446744073709551616 = b % 18446744073709551616
theorem cg.rfl {a:Int}:cg a a:=Eq.refl _
theorem cg.trans {a b c:Int} (h:cg a b) (k:cg b c):cg a c:=Eq.trans h k
theorem cg.symm {a b:Int} (h:cg a b):cg b a:=Eq.symm h
theorem fV (a:Int):cg (wrap64 a) a:=by
 unfold cg wrap64
 omega
theorem sg {a b c d:Int} (h:cg a b) (k:cg c d):cg (a+c) (b+d):=by
 unfold cg at *
 rw [Int.add_emod,h,k,← Int.add_emod]
theorem iw {a b c d:Int} (h:cg a b) (k:cg c d):cg (a * c) (b * d):=by
 unfold cg at *
 rw [Int.mul_emod,h,k,← Int.mul_emod]
theorem rh {a b:Int} (h:cg a b) (h0:-9223372036854775808≤b) (h1:b≤9223372036854775807):wrap64 a = b:=by
 have h2:=(fV a).trans h
 have h3:-9223372036854775808≤wrap64 a∧wrap64 a≤9223372036854775807:=by
  unfold wrap64
  omega
 unfold cg at h2
 omega
theorem q6 (y:Int):∀ (r:List Int) (s:Int×Int) (a p:Int),cg s.1 a→cg s.2 p→cg (r.foldl (Eval.cell y) s).1 (a+rs y p r)
 | [],s,a,p,h,_=>by
  rw [List.foldl_nil,rs,Int.add_zero]
  exact h
 | c :: r,s,a,p,h,k=>by
  rw [List.foldl_cons,rs,← Int.add_assoc]
  exact q6 y r _ _ _ ((fV _).trans (sg h ((fV _).trans (iw cg.rfl k)))) ((fV _).trans (iw k cg.rfl))
theorem q7 (x y:Int):∀ (t:List (List Int)) (s:Int×Int) (a p:Int),cg s.1 a→cg s.2 p→cg (t.foldl (Eval.row x y) s).1 (a+vs x y p t)
 | [],s,a,p,h,_=>by
  rw [List.foldl_nil,vs,Int.add_zero]
  exact h
 | r :: t,s,a,p,h,k=>by
  rw [List.foldl_cons,vs,← Int.add_assoc]
  exact q7 x y t _ _ _ (q6 y r s a p h k) ((fV _).trans (iw k cg.rfl))
theorem si {x y:Int} {r c:Nat} {t:List (List Int)} (hR:eu r c t):cg (Eval.val t x y) (V x y r c (ik t)):=by
 have h0:=q7 x y t (0,1) 0 1 cg.rfl cg.rfl
 rw [Int.zero_add] at h0
 have e:vs x y 1 t = V x y r c (ik t):=by
  unfold V
  have h1:=pU x y t 1 0
  rw [Int.pow_zero,Int.mul_one] at h1
  rw [h1,hR.1]
  congr 1
  refine List.map_congr_left fun i hi=>?_
  have hi:=List.mem_range'_1.1 hi
  have h2:=pT y (t.getD (i - 0) []) (1 * x ^ i) 0
  rw [Int.pow_zero,Int.mul_one] at h2
  rw [h2,Nat.sub_zero,hR.at_ (by omega)]
  congr 1
  refine List.map_congr_left fun j hj=>?_
  rw [Int.one_mul,Nat.sub_zero]
  rfl
 rw [← e]
 exact h0
theorem nX (f:Nat→Int):∀ n,((List.range' 0 n).map f).sum = S n f
 | 0=>rfl
 | n+1=>by
  rw [List.range'_concat,List.map_append,List.sum_append,nX f n,S]
  simp
theorem tD:∀ k:Nat,k < 5→∀ r,r < 10→∀ a,a < r→S r (fun i=>P a i * (1 - (k:Int)) ^ i) = (-(k:Int)) ^ a:=by decide +kernel
theorem tw {k j r c a b:Nat} (hk:k < 5) (hj:j < 5) (hr:r < 10) (hc:c < 10) (ha:a < r) (hb:b < c):V (1 - (k:Int)) (1 - (j:Int)) r c (fun i i'=>P a i * P b i') = (-(k:Int)) ^ a * (-(j:Int)) ^ b:=by
 unfold V
 rw [nX,cw r (g:=fun i=>(-(j:Int)) ^ b * (P a i * (1 - (k:Int)) ^ i)),gY,tD k hk r hr a ha,Int.mul_comm]
 intro i _
 rw [nX,← tD j hj c hc b hb,Int.mul_comm,← gY]
 refine cw c fun i' _=>?_
 show P a i * P b i' * ((1 - (k:Int)) ^ i * (1 - (j:Int)) ^ i') = P a i * (1 - (k:Int)) ^ i * (P b i' * (1 - (j:Int)) ^ i')
 generalize (1 - (k:Int)) ^ i = u
 generalize (1 - (j:Int)) ^ i' = v
 generalize P a i = p
 generalize P b i' = q
 rw [Int.mul_assoc,Int.mul_assoc,Int.mul_left_comm q u v]
theorem sj {m:Nat} (hm:m≤8) {l:List Nat} (hl:∀ s∈l,s < 2 ^ m) (h0:0 < l.length) {k j:Nat} (hk:k < 5) (hj:j < 5):cg (Eval.val (gA m l) (1 - (k:Int)) (1 - (j:Int))) (S (2 ^ m) fun s=>(-(k:Int)) ^ (top l - cD l s) * (-(j:Int)) ^ (cnt s - cD l s)):=by
 have ht:=gz hm hl h0
 have h1:=si (x:=1 - (k:Int)) (y:=1 - (j:Int)) (jV m l)
 have e:ik (gA m l) = co (fun s=>top l - cD l s) (fun s=>cnt s - cD l s) (List.range' 0 (2 ^ m)):=by
  funext i i'
  exact ld hm hl h0 i i'
 rw [e,sW,nX] at h1
 rw [← cw (2 ^ m) fun s hs=>tw (a:=top l - cD l s) (b:=cnt s - cD l s) hk hj (show top l+1 < 10 by omega) (show m - top l+1 < 10 by omega) (by omega) (by have:=iJ hm hl h0 hs;omega)]
 exact h1
theorem tE {a b:Nat} (h:a % 2 = b % 2):(-1:Int) ^ a = (-1) ^ b:=by
 have key:∀ n:Nat,(-1:Int) ^ n = if n % 2 = 0 then 1 else -1:=by
  intro n
  induction n with
  | zero=>rfl
  | succ n ih =>
   rw [Int.pow_succ,ih]
   by_cases h:n % 2 = 0
   ·have h2:¬ (n+1) % 2 = 0:=by omega
    rw [if_pos h,if_neg h2];rfl
   ·have h2:(n+1) % 2 = 0:=by omega
    rw [if_neg h,if_pos h2];rfl
 rw [key,key,h]
theorem neg_pow (x:Int):∀ n:Nat,(-x) ^ n = (-1) ^ n * x ^ n
 | 0=>by rw [Int.pow_zero,Int.pow_zero,Int.pow_zero];rfl
 | n+1=>by
  rw [Int.pow_succ,Int.pow_succ,Int.pow_succ,neg_pow x n]
  generalize (-1:Int) ^ n = a
  generalize x ^ n = b
  rw [Int.mul_neg,Int.mul_neg,Int.mul_one,Int.neg_mul,Int.mul_assoc]
section
variable {E:Nat→Nat×Nat} {W m:Nat} (h:∀ k,k < m→(E k).1 < W∧(E k).2 < W) (hm:m≤8)
include h hm in
theorem ni:top (dj m (gI E W m)) = W - cn W (eL E m (2 ^ m - 1)):=by
 have hI:=iY h hm
 have hl:∀ s∈dj m (gI E W m),s < 2 ^ m:=fun s hs=>(dU.1 hs).1
 rw [← Poly.oB hm hl (hI.some hm) (hI.dD hm),nQ h hm]
 have:=Nat.two_pow_pos m
 omega
include h hm in
theorem ri {k j:Nat} (hk:k < 5) (hj:j < 5):cg (Eval.val (gA m (dj m (gI E W m))) (1 - (k:Int)) (1 - (j:Int))) (T E m fun L=>(-(k:Int)) ^ (cn W L - cn W (eL E m (2 ^ m - 1))) * (-(j:Int)) ^ (L.length+cn W L - W)):=by
 have hI:=iY h hm
 have hl:∀ s∈dj m (gI E W m),s < 2 ^ m:=fun s hs=>(dU.1 hs).1
 have h1:=sj hm hl (hI.some hm) hk hj
 have e:T E m (fun L=>(-(k:Int)) ^ (cn W L - cn W (eL E m (2 ^ m - 1))) * (-(j:Int)) ^ (L.length+cn W L - W)) = S (2 ^ m) fun s=>(-(k:Int)) ^ (top (dj m (gI E W m)) - cD (dj m (gI E W m)) s) * (-(j:Int)) ^ (cnt s - cD (dj m (gI E W m)) s):=by
  refine cw _ fun s hs=>?_
  have h2:=nQ h hm hs
  have h3:=ni h hm
  have h4:=fE W (eL E m s)
  have h5:=fE W (eL E m (2 ^ m - 1))
  have z:=gB (E:=E) (V:=W) hm hs
  have y:=iu E hm hs
  have X:cn W (eL E m (2 ^ m - 1))≤cn W (eL E m s):=jr h fun j hj=>by
   rw [Nat.testBit_two_pow_sub_one,decide_eq_true_iff]
   exact fm hs hj
  show _ * _ = _ * _
  rw [h2,h3,y,show cn W (eL E m s) - cn W (eL E m (2 ^ m - 1)) = W - cn W (eL E m (2 ^ m - 1)) - (W - cn W (eL E m s)) by omega,show cnt s+cn W (eL E m s) - W = cnt s - (W - cn W (eL E m s)) by omega]
 rw [e]
 exact h1
include h hm in
theorem nj (q:Nat) (hq:q < 5) {a b:Int} (ha:cg a ((-1) ^ top (dj m (gI E W m)))) (hb:cg b ((q:Int) ^ cn W (eL E m (2 ^ m - 1)))):cg (wrap64 (a * b) * Eval.val (gA m (dj m (gI E W m))) (1 - (q:Int)) 0) (S (q ^ W) fun n=>b1 (al m fun k=>dg q n (E k).1 != dg q n (E k).2)):=by
 have h1:=ri h hm hq (show 1 < 5 by decide)
 rw [show (1:Int) - ((1:Nat):Int) = 0 from rfl] at h1
 refine (iw ((fV _).trans (iw ha hb)) h1).trans ?_
 rw [qx h q,ni h hm,← lQ]
 refine congrArg (· % _) (cw _ fun s hs=>?_)
 have h4:=fE W (eL E m s)
 have h5:=fE W (eL E m (2 ^ m - 1))
 have z:=gB (E:=E) (V:=W) hm hs
 have X:=iu E hm hs
 have y:cn W (eL E m (2 ^ m - 1))≤cn W (eL E m s):=jr h fun j hj=>by
  rw [Nat.testBit_two_pow_sub_one,decide_eq_true_iff]
  exact fm hs hj
 show _ * (_ * (-((1:Nat):Int)) ^ _) = (-1) ^ (eL E m s).length * (q:Int) ^ cn W (eL E m s)
 rw [neg_pow (q:Int),show (-((1:Nat):Int)) = -1 from rfl,tE (show (eL E m s).length % 2 = ((W - cn W (eL E m (2 ^ m - 1)))+(cn W (eL E m s) - cn W (eL E m (2 ^ m - 1)))+((eL E m s).length+cn W (eL E m s) - W)) % 2 by omega),Int.pow_add,Int.pow_add]
 have e:(q:Int) ^ cn W (eL E m s) = (q:Int) ^ cn W (eL E m (2 ^ m - 1)) * (q:Int) ^ (cn W (eL E m s) - cn W (eL E m (2 ^ m - 1))):=by
  rw [← Int.pow_add,Nat.add_sub_cancel' y]
 rw [e]
 generalize (-1:Int) ^ (W - cn W (eL E m (2 ^ m - 1))) = Y
 generalize (-1:Int) ^ (cn W (eL E m s) - cn W (eL E m (2 ^ m - 1))) = x2
 generalize (-1:Int) ^ ((eL E m s).length+cn W (eL E m s) - W) = x3
 generalize (q:Int) ^ cn W (eL E m (2 ^ m - 1)) = y1
 generalize (q:Int) ^ (cn W (eL E m s) - cn W (eL E m (2 ^ m - 1))) = y2
 simp only [Int.mul_comm,Int.mul_left_comm]
include h hm in
theorem q8 (q:Nat) (hq:q < 5) {a:Int} (ha:cg a ((-1) ^ (m - top (dj m (gI E W m))))):cg (a * Eval.val (gA m (dj m (gI E W m))) 0 (1 - (q:Int))) (T E m fun L=>(-1) ^ (m+L.length) * (q:Int) ^ (L.length+cn W L - W)):=by
 have h1:=ri h hm (show 1 < 5 by decide) hq
 rw [show (1:Int) - ((1:Nat):Int) = 0 from rfl] at h1
 refine (iw ha h1).trans ?_
 rw [ni h hm,← lQ]
 refine congrArg (· % _) (cw _ fun s hs=>?_)
 have h4:=fE W (eL E m s)
 have h5:=fE W (eL E m (2 ^ m - 1))
 have z:=gB (E:=E) (V:=W) hm hs
 have X:=iu E hm hs
 have Y:cn W (eL E m (2 ^ m - 1))≤cn W (eL E m s):=jr h fun j hj=>by
  rw [Nat.testBit_two_pow_sub_one,decide_eq_true_iff]
  exact fm hs hj
 have hfull:2 ^ m - 1 < 2 ^ m:=by have:=Nat.two_pow_pos m;omega
 have h9:=gB (E:=E) (V:=W) hm hfull
 have y:cnt (2 ^ m - 1)≤m:=by
  have:=n8 E (2 ^ m - 1) m
  rw [iu E hm hfull] at this
  rw [this]
  exact Nat.le_trans (List.length_filter_le _ _) (by simp)
 show _ * ((-((1:Nat):Int)) ^ _ * _) = (-1) ^ (m+(eL E m s).length) * (q:Int) ^ ((eL E m s).length+cn W (eL E m s) - W)
 rw [neg_pow (q:Int),show (-((1:Nat):Int)) = -1 from rfl,tE (show (m+(eL E m s).length) % 2 = ((m - (W - cn W (eL E m (2 ^ m - 1))))+(cn W (eL E m s) - cn W (eL E m (2 ^ m - 1)))+((eL E m s).length+cn W (eL E m s) - W)) % 2 by omega),Int.pow_add,Int.pow_add]
 generalize (-1:Int) ^ (m - (W - cn W (eL E m (2 ^ m - 1)))) = x1
 generalize (-1:Int) ^ (cn W (eL E m s) - cn W (eL E m (2 ^ m - 1))) = x2
 generalize (-1:Int) ^ ((eL E m s).length+cn W (eL E m s) - W) = x3
 generalize (q:Int) ^ ((eL E m s).length+cn W (eL E m s) - W) = y1
 simp only [Int.mul_assoc]
end
end Go.Proofs.Ytmpodackojmojaa.Gr
end
section
namespace Go.Proofs.Ytmpodackojmojaa.Pure
open Go.RowKit Go.Proofs.Ytmpodackojmojaa.Pr Go.Proofs.Ytmpodackojmojaa.gT Go.Proofs.Ytmpodackojmojaa.Sets Go.Proofs.Ytmpodackojmojaa.je Go.Proofs.Ytmpodackojmojaa.Flat Go.Proofs.Ytmpodackojmojaa.fo Go.Proofs.Ytmpodackojmojaa.eg Go.Proofs.Ytmpodackojmojaa.fJ Go.Proofs.ag.aT Go.Proofs.ag.bu Go.Proofs.ag.bw
set_option linter.unusedVariables false
theorem nk (n:Int) (l:List Int):Small (ox n l):=by
 unfold ox
 split
 ·next c =>
  obtain ⟨m,j,rfl,hm,rfl,hl,h0,hf⟩:=jk c
  rw [Int.toNat_natCast,di]
  have:=gz hm hl h0
  have hR:=jV m j
  exact ⟨by rw [hR.1];omega,fun x hx=>by rw [hR.2 x hx];omega⟩
 ·exact ⟨by simp,by simp⟩
end Go.Proofs.Ytmpodackojmojaa.Pure
end
section
namespace Go.Proofs.Ytmpodackojmojaa.Pure
open Go.RowKit Go.Proofs.Ytmpodackojmojaa.Pr Go.Proofs.Ytmpodackojmojaa.gT Go.Proofs.Ytmpodackojmojaa.Sets Go.Proofs.Ytmpodackojmojaa.je Go.Proofs.Ytmpodackojmojaa.eN Go.Proofs.Ytmpodackojmojaa.Flat Go.Proofs.Ytmpodackojmojaa.fo Go.Proofs.Ytmpodackojmojaa.eP Go.Proofs.Ytmpodackojmojaa.mw Go.Proofs.Ytmpodackojmojaa.gD Go.Proofs.Ytmpodackojmojaa.fW Go.Proofs.Ytmpodackojmojaa.eg Go.Proofs.Ytmpodackojmojaa.fJ Go.Proofs.Ytmpodackojmojaa.Gr Go.Proofs.ag.aT Go.Proofs.ag.bu Go.Proofs.ag.bw
set_option linter.unusedVariables false
namespace qd
def qe (x:Int):Nat→Int
 | 0=>1
 | n+1=>wrap64 (qe x n * x)
theorem lz (x:Int):∀ n,cg (qe x n) (x ^ n)
 | 0=>by
  rw [Int.pow_zero]
  exact cg.rfl
 | n+1=>by
  rw [qe,Int.pow_succ]
  exact (fV _).trans (iw (lz x n) cg.rfl)
theorem power (x:Int) (n:Nat) (hn:n≤8):Ev (fun k=>bJ.f k x (n:Int)) (qe x n):=by
 unfold bJ.f
 have key:∀ d i:Nat,i+d = n→Ev (fun k=>bJ.l0 k x (n:Int) (qe x i) (i:Int)) (qe x n):=by
  intro d
  induction d with
  | zero =>
   intro i hi
   obtain rfl:i = n:=by omega
   refine Ev.step (f:=fun _=>some (qe x i)) (fun k=>?_) (Ev.now _)
   rw [bJ.l0,if_neg (by omega)]
  | succ d ih =>
   intro i hi
   refine Ev.step (fun k=>?_) (ih (i+1) (by omega))
   rw [bJ.l0,if_pos (by omega),cB.cZ i (by omega)]
   rfl
 exact key n 0 (by omega)
section
variable {V:Nat} {a b:List Int} (h:Gr.Good V a b)
def ms (V:Nat) (a b:List Int):List Nat:=dj a.length (gI (Eg a b) V a.length)
include h
theorem nm:eI (a.length:Int) (ints (ms V a b)) = true:=j9 h.m8 (iY h.ends h.m8)
theorem q9:(ints (ms V a b)).length≤1048576:=by
 rw [aM]
 exact Nat.le_trans (iN _ h.m8 _) (by decide)
theorem nY:Ev (fun k=>bI.f k (a.length:Int) (ints (ms V a b))) ((top (ms V a b):Nat):Int):=by
 have h1:=qT.mY (a.length:Int) (ints (ms V a b)) (q9 h)
 rw [if_pos (nm h),di] at h1
 exact h1
theorem qa:Ev (fun k=>aR.f k (a.length:Int) (ints (ms V a b))) (gA a.length (ms V a b)):=by
 have h1:=qE (a.length:Int) (ints (ms V a b)) (q9 h)
 unfold ox at h1
 rw [if_pos (nm h),Int.toNat_natCast,di] at h1
 exact h1
theorem mo:Small (gA a.length (ms V a b)):=by
 have h1:=nk (a.length:Int) (ints (ms V a b))
 unfold ox at h1
 rw [if_pos (nm h),Int.toNat_natCast,di] at h1
 exact h1
theorem qb:top (ms V a b)≤a.length:=eg.gz h.m8 (fun s hs=>(dU.1 hs).1) ((iY h.ends h.m8).some h.m8)
theorem qR {q:Nat} (hq:1≤q) (y:q≤4):wrap64 (qe (-1) (a.length - top (ms V a b)) * Eval.val (gA a.length (ms V a b)) 0 (1 - (q:Int))) = fl q V a b∧0≤fl q V a b:=by
 have h1:=q8 h.ends h.m8 q (by omega) (lz (-1) (a.length - top (ms V a b)))
 have h2:(T (Eg a b) a.length fun L=>(-1) ^ (a.length+L.length) * (q:Int) ^ (L.length+cn V L - V)) = fl q V a b:=by
  unfold fl
  by_cases j:q = 1
  ·rw [if_pos j,← rS (Eg a b) a.length]
   refine iH fun s=>?_
   rw [j]
   show _ * (1:Int) ^ _ = _
   rw [Int.one_pow,Int.mul_one]
  ·rw [if_neg j,sO h.ends (q:=q) (by omega)]
 rw [h2] at h1
 have h3:0≤fl q V a b∧fl q V a b≤65536:=by
  unfold fl
  split
  ·have:=mm (decide (a.length = 0))
   omega
  ·have h4:=pZ (fun n=>gf q V (sm (Eg a b) q n a.length)) ((q - 1) ^ a.length)
   have h5:=eW (q:=q - 1) (n:=8) (i:=a.length) (by omega) (by decide) h.m8
   omega
 exact ⟨rh h1 (by omega) (by omega),h3.1⟩
theorem oF {q:Nat} (j:q≤4):wrap64 (wrap64 (qe (-1) (top (ms V a b)) * qe (q:Int) (cn V (eL (Eg a b) a.length (2 ^ a.length - 1)))) * Eval.val (gA a.length (ms V a b)) (1 - (q:Int)) 0) = (S (q ^ V) fun n=>b1 (al a.length fun k=>dg q n (Eg a b k).1 != dg q n (Eg a b k).2))∧0≤(S (q ^ V) fun n=>b1 (al a.length fun k=>dg q n (Eg a b k).1 != dg q n (Eg a b k).2)):=by
 have h1:=nj h.ends h.m8 q (by omega) (lz (-1) (top (ms V a b))) (lz (q:Int) (cn V (eL (Eg a b) a.length (2 ^ a.length - 1))))
 have h4:=pZ (fun n=>al a.length fun k=>dg q n (Eg a b k).1 != dg q n (Eg a b k).2) (q ^ V)
 have y:=h.v6
 have h5:=eW (q:=q) (n:=8) (i:=V) j (by decide) (by omega)
 exact ⟨rh h1 (by omega) (by omega),h4.1⟩
theorem mq (ha:a.length≤1048576) (hb:b.length≤1048576):Ev (fun k=>cS.f k V a b ((2 ^ a.length - 1:Nat):Int)) (cn V (eL (Eg a b) a.length (2 ^ a.length - 1)):Int):=by
 have hfull:2 ^ a.length - 1 < 2 ^ a.length:=by have:=Nat.two_pow_pos a.length;omega
 have hi:=jX V a b ha hb
 rw [iO.2 ⟨V,rfl,h⟩] at hi
 unfold cS.f
 refine Ev.bind hi (Ev.congr (fun k=>if_pos rfl) ?_)
 have hs:isSet (a.length:Int) ((2 ^ a.length - 1:Nat):Int) = true:=by
  have j:=h.m8
  unfold isSet
  rw [Int.toNat_natCast,decide_eq_true_iff]
  refine ⟨by omega,by omega,by omega,?_⟩
  have e:(2:Int) ^ a.length = ((2 ^ a.length:Nat):Int):=(Int.natCast_pow 2 a.length).symm
  rw [e]
  omega
 rw [ku,hs]
 simp only [Option.bind_some,if_true]
 exact Ev.bind (n9 h _ hfull) (Ev.now _)
end
theorem w1 {q:Nat} (hq:q≤4):wrap64 (1 - (q:Int)) = 1 - (q:Int):=cB.gv (by omega) (by omega)
theorem second (code:List Int) (hc:code.length≤1048576):Ev (fun k=>aC.j0 k code) true:=by
 obtain ⟨V,p,r,x,hd,hp,hr⟩:=sk.rQ code hc
 have body:Ev (fun k=>(bj.f k V p r x).bind fun z=>(if z < 0 then (some true) else ((cr.f k V p r).bind fun j=>((bI.f k j.1 j.2).bind fun a1=>((bJ.f k (-1) (wrap64 (j.1 - a1))).bind fun X=>((aR.f k j.1 j.2).bind fun Y=>((aI.f k Y 0 (wrap64 (1 - x))).bind fun a0=>(some (z == (wrap64 (X * a0))))))))))) true:=by
  by_cases hg:oH V p r = true∧1≤x∧x≤4
  ·obtain ⟨W,rfl,h⟩:=iO.1 hg.1
   obtain ⟨q,rfl⟩:∃ q:Nat,x = q:=⟨x.toNat,by omega⟩
   have hq:1≤q∧q≤4:=by omega
   obtain ⟨e1,e2⟩:=qR h hq.1 hq.2
   have ht:=qb h
   have h8:=h.m8
   have ew:∀ _:Unit,wrap64 ((p.length:Int) - ((top (ms W p r):Nat):Int)) = ((p.length - top (ms W p r):Nat):Int):=fun _=>by
    rw [cB.gv (by omega) (by omega)]
    omega
   refine Ev.bind (oE h hq.1 hq.2 (by omega) (by omega)) (Ev.congr (fun k=>if_neg (by omega)) ?_)
   refine Ev.bind (pY h) (Ev.bind (nY h) ?_)
   show Ev (fun k=>(bJ.f k (-1) (wrap64 ((p.length:Int) - ((top (ms W p r):Nat):Int)))).bind fun X=>((aR.f k (p.length:Int) (ints (ms W p r))).bind fun Y=>((aI.f k Y 0 (wrap64 (1 - (q:Int)))).bind fun a0=>(some (fl q W p r == (wrap64 (X * a0))))))) true
   rw [ew (),w1 hq.2]
   refine Ev.bind (power (-1) _ (by omega)) (Ev.bind (qa h) (Ev.bind (Eval.impl _ 0 (1 - (q:Int)) (mo h)) ?_))
   rw [e1,beq_self_eq_true]
   exact Ev.now _
  ·exact Ev.bind (qQ (V:=V) (q:=x) (a:=p) (b:=r) (by omega) (by omega) hg) (Ev.congr (fun k=>if_pos (by decide)) (Ev.now _))
 refine Ev.step (f:=fun k=>(cK.f k code).bind fun y=>((bj.f k y.1 y.2.1 y.2.2.1 y.2.2.2).bind fun z=>(if z < 0 then (some true) else ((cr.f k y.1 y.2.1 y.2.2.1).bind fun j=>((bI.f k j.1 j.2).bind fun a1=>((bJ.f k (-1) (wrap64 (j.1 - a1))).bind fun X=>((aR.f k j.1 j.2).bind fun Y=>((aI.f k Y 0 (wrap64 (1 - y.2.2.2))).bind fun a0=>(some (z == (wrap64 (X * a0))))))))))) ) (fun k=>?_) (Ev.bind hd body)
 rw [aC.j0]
end qd
open qd in
theorem kg (code:List Int) (hm:code.length≤maxLen∧∀ x∈code,(Lit.int .u8 x).wf = true):∃ k,aC.f k code = some true:=by
 refine Ev.rounds ?_
 unfold aC.f fb.f
 simp only [Option.bind_some]
 by_cases hbig:(code.length:Int) > 1048576
 ·simp only [decide_eq_true hbig,if_true]
  exact Ev.now _
 ·simp only [decide_eq_false hbig,Bool.false_eq_true,if_false]
  have hc:code.length≤1048576:=by omega
  have h2:=second code hc
  obtain ⟨V,p,r,x,hd,hp,hr⟩:=sk.mJ code hc
  refine Ev.bind hd ?_
  by_cases hg:oH V p r = true∧0≤x∧x≤4
  ·obtain ⟨W,rfl,h⟩:=iO.1 hg.1
   obtain ⟨q,rfl⟩:∃ q:Nat,x = q:=⟨x.toNat,by omega⟩
   have hq:q≤4:=by omega
   obtain ⟨e1,e2⟩:=oF h hq
   have ht:=qb h
   have h8:=h.m8
   have h6:=h.v6
   have hcn:=fE W (eL (Eg p r) p.length (2 ^ p.length - 1))
   refine Ev.bind (qP h hq (by omega) (by omega)) (Ev.congr (fun k=>if_pos e2) ?_)
   refine Ev.bind (pY h) (Ev.bind (nY h) ?_)
   show Ev (fun k=>(da.f (p.length:Int)).bind fun j=>((cS.f k (W:Int) p r j).bind fun y=>((bJ.f k (-1) ((top (ms W p r):Nat):Int)).bind fun z=>((bJ.f k (q:Int) y).bind fun X=>((aR.f k (p.length:Int) (ints (ms W p r))).bind fun Y=>((aI.f k Y (wrap64 (1 - (q:Int))) 0).bind fun a0=>(if (S (q ^ W) fun n=>b1 (al p.length fun k=>dg q n (Eg p r k).1 != dg q n (Eg p r k).2)) = (wrap64 ((wrap64 (z * X)) * a0)) then (aC.j0 k code) else (some false)))))))) true
   rw [ot p.length h8,w1 hq]
   simp only [Option.bind_some]
   refine Ev.bind (mq h (by omega) (by omega)) (Ev.bind (power (-1) _ (by omega)) (Ev.bind (power (q:Int) _ (by omega)) (Ev.bind (qa h) (Ev.bind (Eval.impl _ (1 - (q:Int)) 0 (mo h)) ?_))))
   exact Ev.congr (fun k=>if_pos e1.symm) h2
  ·exact Ev.bind (ta (V:=V) (q:=x) (a:=p) (b:=r) (by omega) (by omega) hg) (Ev.congr (fun k=>if_neg (by decide)) h2)
end Go.Proofs.Ytmpodackojmojaa.Pure
end
section
namespace Go.Proofs.Ytmpodackojmojaa.Open
open Go.ChangeShapes Go.WideShapes Go.RowKit Go.Proofs.ag.aT Go.Deep
set_option linter.unusedVariables false
structure eO {α:Type} (P:Program) (d:Kd α) (t:TypeId) (Wf:α→Prop):Prop where
 go:∀ (H:Type) (enc:TypeId×Value→H) (w:World) (base:Nat) (spare:Nat→Bool) (held:Bool) (fuel:Nat) (cs:List Value) (x:DataW H×List MemPlace),
  DataW.trod enc P w base spare held fuel t cs = some x→∃ a,d.K w a cs∧Wf a
theorem eO.int {P:Program} {t:TypeId} {k:IntKind} (ht:P.underlying t = some (.int k)):eO P (Kd.int k) t (fun n=>(Lit.int k n).wf = true):=by
 refine ⟨fun H enc w base spare held fuel cs x h=>?_⟩
 obtain ⟨n,rfl,_,hw⟩:=DataW.trod_int ht h
 exact ⟨n,rfl,hw⟩
theorem eO.bool {P:Program} {t:TypeId} (ht:P.underlying t = some .bool):eO P Kd.bool t (fun _=>True):=by
 refine ⟨fun H enc w base spare held fuel cs x h=>?_⟩
 obtain ⟨n,rfl,_⟩:=DataW.trod_bool ht h
 exact ⟨n,rfl,trivial⟩
theorem qS {α:Type} {p:Nat→α→Prop}:∀ {len:Nat},(∀ i,i < len→∃ y,p i y)→∃ xs:List α,xs.length = len∧∀ i y,xs[i]? = some y→p i y:=by
 intro len
 induction len with
 | zero=>exact fun _=>⟨[],rfl,fun i y h=>by simp at h⟩
 | succ len ih =>
  intro key
  obtain ⟨xs,hxl,hxs⟩:=ih (fun i hi=>key i (by omega))
  obtain ⟨y,hy⟩:=key len (by omega)
  refine ⟨xs ++ [y],by simp [hxl],fun i z hz=>?_⟩
  by_cases hi:i < xs.length
  ·rw [List.getElem?_append_left hi] at hz
   exact hxs i z hz
  ·have hlt:i < (xs ++ [y]).length:=(List.getElem?_eq_some_iff.1 hz).1
   have e:i = len:=by simp [hxl] at hlt hi;omega
   subst e
   rw [List.getElem?_append_right (by omega),hxl] at hz
   simp at hz
   subst hz
   exact hy
theorem eO.slice {α:Type} {P:Program} {t e:TypeId} {d:Kd α} {Wf:α→Prop} (ht:P.underlying t = some (.slice e)) (hs:P.cellsOf e = d.sz) (h:eO P d e Wf) :
  eO P (Kd.slice e d) t (fun xs=>xs.length≤maxLen∧∀ x∈xs,Wf x):=by
 refine ⟨fun H enc w base spare held fuel cs x hx=>?_⟩
 rcases open_slice ht hx with ⟨rfl,_⟩ | ⟨a,len,cap,m,n,D,Pl,rfl,hb,hl,hm,hmm,_,hel⟩
 ·exact ⟨[],⟨none,0,rfl,Nat.le_refl _,rfl,by simp,fun h=>absurd h (by simp)⟩,by simp,by simp⟩
 ·have hlm:len≤m:=by rw [hmm];split <;> omega
  have key:∀ i,i < len→∃ y:α,(∃ cs',w.cells? base (a.add (i * P.cellsOf e)) (P.cellsOf e) = some cs'∧d.K w y cs')∧Wf y:=fun i hi=>by
   obtain ⟨cs',h1,h2⟩:=hel i (by omega)
   obtain ⟨y,h3,h4⟩:=h.go _ enc w base spare held n cs' _ h2
   exact ⟨y,⟨cs',h1,h3⟩,h4⟩
  obtain ⟨xs,hxl,hxs⟩:=qS key
  refine ⟨xs,⟨some a,cap,by rw [hxl],by omega,rfl,by have:=hm;unfold maxLen at this;omega,fun _=>⟨a,rfl,fun j p hj=>?_⟩⟩,by omega,fun y hy=>?_⟩
  ·obtain ⟨⟨cs',h1,h2⟩,_⟩:=hxs j p hj
   obtain ⟨_,h3,h4⟩:=World.cells?_some h1
   refine ⟨cs',by rw [h3,hs],h2,fun i u hu=>?_⟩
   have hlt:i < cs'.length:=(List.getElem?_eq_some_iff.1 hu).1
   have:=h4 i (by omega)
   rw [hs,Go.Deep.add_add] at this
   rw [this,hu]
  ·obtain ⟨i,hi⟩:=List.getElem?_of_mem hy
   exact (hxs i y hi).2
structure gS {α:Type} (P:Program) (fs:List Field) (off:Nat) (d:Kd α) (Wf:α→Prop):Prop where
 go:∀ (H:Type) (enc:TypeId×Value→H) (w:World) (base:Nat) (spare:Nat→Bool) (held:Bool) (n:Nat) (cs:List Value),
  cs.length = off+d.sz→(∀ f∈fs,∃ x,DataW.trod enc P w base spare held n f.type ((cs.drop f.offset).take (P.cellsOf f.type)) = some x)→∃ a,d.K w a (cs.drop off)∧Wf a
theorem gS.one {α:Type} {P:Program} {f:Field} {off:Nat} {d:Kd α} {Wf:α→Prop} (ho:f.offset = off) (hs:P.cellsOf f.type = d.sz) (h:eO P d f.type Wf):gS P [f] off d Wf:=by
 refine ⟨fun H enc w base spare held n cs hl hf=>?_⟩
 obtain ⟨x,hx⟩:=hf f (by simp)
 rw [ho,hs,List.take_of_length_le (by rw [List.length_drop];omega)] at hx
 exact h.go _ enc w base spare held n _ x hx
theorem gS.cons {α β:Type} {P:Program} {f:Field} {fs:List Field} {off:Nat} {d:Kd α} {d':Kd β} {Wf:α→Prop} {j:β→Prop} (ho:f.offset = off) (hs:P.cellsOf f.type = d.sz) (h:eO P d f.type Wf)
  (h':gS P fs (off+d.sz) d' j):gS P (f :: fs) off (Kd.pair d d') (fun x=>Wf x.1∧j x.2):=by
 refine ⟨fun H enc w base spare held n cs hl hf=>?_⟩
 have hl':cs.length = off+(d.sz+d'.sz):=hl
 obtain ⟨x,hx⟩:=hf f (by simp)
 rw [ho,hs] at hx
 obtain ⟨a,ha,wa⟩:=h.go _ enc w base spare held n _ x hx
 obtain ⟨b,hb,wb⟩:=h'.go _ enc w base spare held n cs (by omega) (fun g hg=>hf g (by simp [hg]))
 refine ⟨(a,b),⟨(cs.drop off).take d.sz,cs.drop (off+d.sz),?_,ha,hb⟩,wa,wb⟩
 rw [← List.drop_drop,List.take_append_drop]
theorem eO.struct {α:Type} {P:Program} {t:TypeId} {fs:Array Field} {d:Kd α} {Wf:α→Prop} (ht:P.underlying t = some (.struct fs)) (hs:P.cellsOf t = d.sz) (h:gS P fs.toList 0 d Wf):eO P d t Wf:=by
 refine ⟨fun H enc w base spare held fuel cs x hx=>?_⟩
 obtain ⟨xs,n,_,_,hl,hlen,hg⟩:=DataW.trod_struct ht hx
 obtain ⟨a,ha,wa⟩:=h.go _ enc w base spare held n cs (by omega) (fun f hf=>by
  obtain ⟨i,hi⟩:=List.getElem?_of_mem hf
  have h1:=hg i f (by simpa using hi)
  have hlt:i < fs.size:=by have:=(List.getElem?_eq_some_iff.1 hi).1;simpa using this
  exact ⟨_,h1.trans (List.getElem?_eq_getElem (by omega))⟩)
 exact ⟨a,by simpa using ha,wa⟩
theorem eO.qc {α:Type} {P:Program} {t e:TypeId} {d:Kd α} {Wf:List α→Prop} (h:eO P (Kd.slice e d) t Wf) {H:Type} {enc:TypeId×Value→H} {w:World} {base:Nat} {spare:Nat→Bool} {held:Bool} {v:Value} {x:DataW H} {ps:List MemPlace}
  (hv:∃ a len cap,v = .slice a len cap) (ht:DataW.Trod enc P w base spare held t v x ps):∃ A c xs,v = .slice A xs.length c∧xs.length≤c∧d.C w A xs.length xs∧Wf xs:=by
 obtain ⟨a,len,cap,rfl⟩:=hv
 obtain ⟨fuel,hf⟩:=ht
 obtain ⟨xs,⟨A,c,hc,hl,hr⟩,wf⟩:=h.go _ enc w base spare held fuel _ _ hf
 simp only [Value.cells,List.cons.injEq,and_true] at hc
 exact ⟨A,c,xs,hc,hl,hr,wf⟩
end Go.Proofs.Ytmpodackojmojaa.Open
end
section
namespace Go.Proofs.Ytmpodackojmojaa.hJ
open Go.ChangeShapes Go.WideShapes Go.ChangeAt Go.RowKit Go.Proofs.Ytmpodackojmojaa.Open Go.Proofs.ag.aT
open Go.ChangeMaps (open_string shut_string)
set_option linter.unusedVariables false
theorem own:ownKnob Try.prog.godebug = none:=by kernel_rfl
theorem laidOut:laidOutB Try.prog = true:=by kernel_rfl
set_option maxRecDepth 100000 in
theorem lifted (os:Os) (started:os.Started) (H:Type) (enc:TypeId×Value→H) :
  ReturnsInHanded {} Try.checked os 11 .any (Rows.fnGraphCountsSpec.pre6 enc Try.prog Try.f11 Rows.fnGraphCountsRow.domain false) (Rows.fnGraphCountsSpec.post enc Try.prog Try.f11 false true false false):=by
 refine returnsInHanded_of_change_sized (C:=Try.checked) own started (by kernel_rfl) Try.func11
  (ChangeSpec.witness6 (enc:=enc) (C:=Try.checked) false ⟨#[],#[.slice none 0 0],[]⟩ 8 (by kernel_rfl) (by kernel_rfl) (by kernel_rfl) (by kernel_rfl)) ?_
 intro W base args ds gs before y hW hcnd z _
 have hval:∀ (j:Nat) t v,Try.f11.params[j]? = some t→args[j]? = some v→Value.okWide Try.prog W .any base t v:=y
 have hW':=hW
 obtain ⟨p,q,X,hV,rfl,hfz,hnd⟩:=hW
 have hA:DataW.TrodAll enc Try.prog W 0 (fun _=>true) true Try.f11.params.toList args.toList ds p:=X
 rw [Try.params11] at hA hval
 obtain ⟨v0,a2,d0,a3,p0,q0,hargs,rfl,rfl,h0,r0⟩:=trodAll_cons hA
 obtain ⟨rfl,rfl,rfl⟩:=trodAll_nil r0
 obtain rfl:args = #[v0]:=by cases args;simp_all
 obtain ⟨rfl,rfl⟩:=trodVars_none hV
 have k0:=h0
 have Y:∀ x∈p0,x.block < W.heap.size:=by obtain ⟨m,hm⟩:=k0;exact DataW.trod_lt m _ _ _ hm
 obtain ⟨A0,c0,x0,rfl,a0,a1,w0⟩:=eO.qc (eO.slice Try.underlying55 (by kernel_rfl) (eO.int Try.underlying5)) (okWide_slice Try.underlying55 (hval 0 55 v0 rfl rfl)) h0
 clear X y z
 obtain ⟨k,hk⟩:=Pure.kg x0 w0
 refine (Pr.aC.calls k _ _ x0 true W a1 a0 ⟨rfl⟩ hk).mono fun e W' ⟨he,bel⟩=>?_
 subst he
 exact ⟨_,rfl,_,_,_,[],_,[],hW',trodAll_mk1 (shut_bool Try.underlying4 _),(trodAll_cons_mk (Below.trod laidOut (by kernel_rfl) (of_decide_eq_true (by kernel_rfl)) k0 bel Y) trodAll_mk0),rfl,bel.frame _,fun h=>by cases h⟩
theorem tx:Rows.fnGraphCountsRow.holds Try.pinned (OpenSpec.ofChange Rows.fnGraphCountsSpec) :=
 OpenClaim.holds_of_wide 11 Try.f11 rfl rfl rfl rfl rfl rfl rfl ⟨rfl,rfl,rfl,rfl,rfl⟩ rfl rfl rfl rfl rfl (by kernel_rfl) Try.func11 (by kernel_rfl)
  (of_decide_eq_true (by kernel_rfl)) (by unfold Func.isWrapper;first | (rw [if_pos (by decide +kernel)];kernel_rfl) | (rw [if_neg (by decide +kernel)];exact ⟨rfl,rfl⟩))
  (fun os started H enc _=>lifted os started H enc)
theorem proved:Rows.FnGraphCountsSaid:=tx
#print axioms proved
end Go.Proofs.Ytmpodackojmojaa.hJ
namespace Go.Proofs.Ytmpodackojmojaa
theorem fnGraphCounts_holds:Rows.FnGraphCountsSaid:=hJ.proved
end Go.Proofs.Ytmpodackojmojaa
end
