/- The claim FnExactCountKinds: every text that its row comes to, laid together by slim.py (the words of the kit's print, the printed walks, the pure law, the row). -/
import Derived.Below
import Derived.ChangeArms
import Derived.ChangeOld
import Derived.DataReads
import Derived.Deep.Slices
import Derived.OpenShut
import Derived.ProofKit
import Derived.RowKit
import Derived.ShutString
import Derived.SizedLaws
import Derived.Test.YtlfkfdmggpipbaaGreatRows
import Derived.WalkKit
import Derived.Test.YtlfkfdmggpipbaaGreatYFnExactCountKinds3
namespace Go.Proofs.YtlfkfdmggpipbaaGreat
section
namespace Act
open Go.RowKit Go.Proofs.YtlfkfdmggpipbaaGreat.Pr Go.Proofs.YtlfkfdmggpipbaaGreat.Sets oz j5 Go.Proofs.YtlfkfdmggpipbaaGreat.Flat ag.b6 ag.cz ag.cA
set_option linter.unusedVariables false
theorem od {σ γ:Type} (L:Nat→σ→Int→Option γ) (q:List Nat) (f:σ→Nat→σ) (P:Nat→σ→Prop) (r:γ) (s:σ)
  (j:∀ i s,i < q.length→P i s→P (i+1) (f s (q.getD i 0))∧(Ev (fun k=>L k (f s (q.getD i 0)) ((i+1:Nat):Int)) r→Ev (fun k=>L k s (i:Int)) r))
  (hs:P 0 s) (hend:P q.length (q.foldl f s)→Ev (fun k=>L k (q.foldl f s) (q.length:Int)) r):Ev (fun k=>L k s 0) r:=by
 have:=cU.ei L q.length (fun i s=>f s (q.getD i 0)) P r (fun i s hi hp=>j i s hi hp) q.length 0 s (by omega) hs;rw [mh q f s] at this;exact this hend
theorem mU {s i:Nat} (h:i < (elems s).length):(elems s).getD i 0 < 8∧s.testBit ((elems s).getD i 0) = true:=gN (ek _ 0 i h)
theorem k7 {σ:Type} (p:Nat→Bool) (f:σ→Nat→σ) (q:List Nat) (s:σ):(q.filter p).foldl f s = q.foldl (fun s j=>if p j = true then f s j else s) s:=by
 rw [List.foldl_filter]
end Act
end
section
namespace oA
open Go.RowKit Go.Proofs.YtlfkfdmggpipbaaGreat.Sets j5
set_option linter.unusedVariables false
theorem jh (s:Nat):cnt s = (List.range' 0 8).countP fun j=>s.testBit j:=by
 unfold cnt elems;rw [List.countP_eq_length_filter]
theorem pE:∀ a,a < 256→∀ e,e < 8→∀ f,f < 8→a.testBit e = true→a.testBit f = false→cnt (diff a (2 ^ e) ||| 2 ^ f) = cnt a:=by decide +kernel
theorem lH:∀ a,a < 256→cnt a = 0→a = 0:=by decide +kernel
end oA
end
section
namespace n4
open Go.RowKit Go.Proofs.YtlfkfdmggpipbaaGreat.Pr Go.Proofs.YtlfkfdmggpipbaaGreat.Sets oz j5 Go.Proofs.YtlfkfdmggpipbaaGreat.Flat Go.Proofs.YtlfkfdmggpipbaaGreat.Sort ag.b6 ag.cz ag.cA
set_option linter.unusedVariables false
def kept (p:Nat→Nat→Bool) (l:List Nat):List Int:=sset (ints (l.filter fun s=>!l.any fun t=>!decide (t = s) && p t s))
theorem iY {l:List Nat} {x:Int}:x∈ints l↔∃ y∈l,x = (y:Int):=by
 unfold ints;rw [List.mem_map];constructor
 ·rintro ⟨y,h,rfl⟩;exact ⟨y,h,rfl⟩
 ·rintro ⟨y,h,rfl⟩;exact ⟨y,h,rfl⟩
theorem pF (l:List Nat):∃ q:List Nat,sset (ints l) = ints q∧(∀ s,s∈q↔s∈l)∧q.length≤l.length:=by
 have h:∀ x∈sset (ints l),∃ y∈l,x = (y:Int):=fun x hx=>iY.1 ((iX _ _).1 hx)
 refine ⟨(sset (ints l)).map Int.toNat,?_,fun s=>?_,?_⟩
 ·unfold ints
  rw [List.map_map];conv=>lhs;rw [← List.map_id (sset _)]
  refine List.map_congr_left fun x hx=>?_
  obtain ⟨y,_,rfl⟩:=h x hx;rfl
 ·rw [List.mem_map]
  constructor
  ·rintro ⟨x,hx,rfl⟩
   obtain ⟨y,hy,rfl⟩:=h x hx;simpa using hy
  ·intro hs
   exact ⟨(s:Int),(iX _ _).2 (iY.2 ⟨s,hs,rfl⟩),by simp⟩
 ·rw [List.length_map]
  have:=mm (ints l);rw [ay] at this;exact this
end n4
end
section
namespace s6
open Go.RowKit Go.Proofs.YtlfkfdmggpipbaaGreat.Sets j5 oA
set_option linter.unusedVariables false
def Sub (a b:Nat):Prop:=∀ j,a.testBit j = true→b.testBit j = true
theorem lI {a b:Nat}:a &&& b = a↔Sub a b:=by
 constructor
 ·intro h j hj
  rw [← h,Nat.testBit_and,Bool.and_eq_true] at hj;exact hj.2
 ·intro h
  apply Nat.eq_of_testBit_eq
  intro j;rw [Nat.testBit_and];cases ha:a.testBit j with
  | false=>rfl
  | true=>rw [h j ha];rfl
theorem Sub.refl (a:Nat):Sub a a:=fun _ h=>h
theorem Sub.trans {a b c:Nat} (h:Sub a b) (k:Sub b c):Sub a c:=fun j hj=>k j (h j hj)
theorem sub_zero (a:Nat):Sub 0 a:=fun j h=>by rw [Nat.zero_testBit] at h;exact Bool.noConfusion h
theorem iZ {a b:Nat} (h:Sub a b) (k:Sub b a):a = b:=by
 apply Nat.eq_of_testBit_eq
 intro j;cases ha:a.testBit j with
 | true=>exact (h j ha).symm
 | false =>
  cases hb:b.testBit j with
  | false=>rfl
  | true=>rw [k j hb] at ha;exact Bool.noConfusion ha
theorem gP (a b:Nat):Sub a (a ||| b):=fun j h=>by rw [Nat.testBit_or,h];rfl
theorem kA (a b:Nat):Sub (a &&& b) b:=fun j h=>by rw [Nat.testBit_and,Bool.and_eq_true] at h;exact h.2
theorem pG (a b:Nat):Sub (diff a b) a:=fun j h=>by rw [eE,Bool.and_eq_true] at h;exact h.1
theorem mV {a b c:Nat} (h:Sub c a) (k:Sub c b):Sub c (a &&& b):=fun j hj=>by
 rw [Nat.testBit_and,h j hj,k j hj];rfl
theorem lJ {a e:Nat} (ha:a < 256) (h:a.testBit e = true):e < 8:=by
 refine Nat.lt_of_not_le fun hle=>?_
 rw [gF (n:=8) ha hle] at h;exact Bool.noConfusion h
theorem jF {a e n:Nat} (ha:a < 2 ^ n) (h:a.testBit e = true):e < n:=by
 refine Nat.lt_of_not_le fun hle=>?_
 rw [gF ha hle] at h;exact Bool.noConfusion h
theorem lK (e j:Nat):(2 ^ e).testBit j = decide (e = j):=Nat.testBit_two_pow
theorem pH (a e j:Nat):(a ||| 2 ^ e).testBit j = (a.testBit j || decide (e = j)):=by rw [Nat.testBit_or,lK]
theorem mo (a e:Nat):(a ||| 2 ^ e).testBit e = true:=by rw [pH,decide_eq_true rfl,Bool.or_true]
theorem k8 (a e j:Nat):(diff a (2 ^ e)).testBit j = (a.testBit j && !decide (e = j)):=by rw [eE,lK]
theorem lM {α:Type} (p q:α→Bool) (l:List α):l.countP p = l.countP (fun x=>p x && q x)+l.countP (fun x=>p x && !q x):=by
 induction l with
 | nil=>rfl
 | cons a l ih =>
  rw [List.countP_cons,List.countP_cons,List.countP_cons,ih];cases p a <;> cases q a <;> simp <;> omega
theorem kM (a b:Nat):cnt a = cnt (a &&& b)+cnt (diff a b):=by
 rw [jh,jh,jh,lM (fun j=>a.testBit j) (fun j=>b.testBit j)];congr 1
 ·refine List.countP_congr fun j _=>?_
  rw [Nat.testBit_and]
 ·refine List.countP_congr fun j _=>?_
  rw [eE]
theorem pI:∀ e,e < 8→cnt (2 ^ e) = 1:=by decide +kernel
theorem pJ {a b:Nat} (h:∀ j,a.testBit j = true→b.testBit j = false):cnt (a ||| b) = cnt a+cnt b:=by
 rw [kM (a ||| b) a];congr 1
 ·congr 1
  exact iZ (fun j hj=>(kA _ _) j hj) (mV (gP _ _) (Sub.refl _))
 ·congr 1
  apply Nat.eq_of_testBit_eq
  intro j;rw [eE,Nat.testBit_or];cases ha:a.testBit j with
  | false=>simp
  | true=>rw [h j ha];rfl
theorem k9 {a e:Nat} (he:e < 8) (h:a.testBit e = false):cnt (a ||| 2 ^ e) = cnt a+1:=by
 rw [pJ fun j hj=>?_,pI e he];rw [lK,decide_eq_false_iff_not];rintro rfl
 rw [h] at hj;exact Bool.noConfusion hj
theorem lO {a e:Nat} (ha:a < 256) (h:a.testBit e = true):cnt a = cnt (diff a (2 ^ e))+1:=by
 rw [← k9 (lJ ha h) (a:=diff a (2 ^ e)) (by rw [k8,decide_eq_true rfl];simp)];congr 1
 apply Nat.eq_of_testBit_eq
 intro j;rw [pH,k8];by_cases e':e = j
 ·subst e'
  simp [h]
 ·simp [e']
theorem oe {a b:Nat} (hb:b < 256) (h:Sub a b) (hc:cnt b≤cnt a):a = b:=by
 have hs:=kM b a;have hba:b &&& a = a:=by
  rw [Nat.and_comm];exact lI.2 h
 rw [hba] at hs;have hz:diff b a = 0:=lH _ (fQ (n:=8) hb) (by omega);refine iZ h fun j hj=>?_
 have:=eE b a j;rw [hz,Nat.zero_testBit,hj] at this;simpa using this.symm
structure q8 (m:Nat) (P:Nat→Bool):Prop where
 zero:P 0 = true
 down:∀ a b,b < 2 ^ m→Sub a b→P b = true→P a = true
 aug:∀ a b,a < 2 ^ m→b < 2 ^ m→P a = true→P b = true→cnt a < cnt b→∃ e,b.testBit e = true∧a.testBit e = false∧P (a ||| 2 ^ e) = true
def ju (m:Nat) (P:Nat→Bool):List Nat:=(List.range' 0 (2 ^ m)).filter fun s=>P s && (List.range' 0 (2 ^ m)).all fun t=>!(P t && !decide (t = s) && decide (s &&& t = s))
theorem ij {m:Nat} {P:Nat→Bool} {s:Nat}:s∈ju m P↔s < 2 ^ m∧P s = true∧∀ t,t < 2 ^ m→P t = true→Sub s t→t = s:=by
 unfold ju;rw [List.mem_filter,Bool.and_eq_true,List.all_eq_true];constructor
 ·rintro ⟨h1,h2,h3⟩
  refine ⟨by have:=List.mem_range'_1.1 h1;omega,h2,fun t ht hp hs=>?_⟩;have:=h3 t (List.mem_range'_1.2 (by omega));rw [hp,lI.2 hs] at this;simpa using this
 ·rintro ⟨h1,h2,h3⟩
  refine ⟨List.mem_range'_1.2 (by omega),h2,fun t ht=>?_⟩;cases hp:P t with
  | false=>rfl
  | true =>
   by_cases hs:s &&& t = s
   ·have:=h3 t (by have:=List.mem_range'_1.1 ht;omega) hp (lI.1 hs)
    simp [this]
   ·simp [hs]
section
variable {m:Nat} {P:Nat→Bool}
theorem q8.mW (h:q8 m P) (hm:m≤8) {s t:Nat} (hs:s∈ju m P) (ht:t < 2 ^ m) (hp:P t = true):cnt t≤cnt s:=by
 obtain ⟨h1,h2,h3⟩:=ij.1 hs;refine Nat.le_of_not_lt fun hlt=>?_
 obtain ⟨e,h4,h5,y⟩:=h.aug s t h1 ht h2 hp hlt;have hlt':s ||| 2 ^ e < 2 ^ m:=mj h1 (k5 (jF ht h4))
 have:=h3 _ hlt' y (gP _ _);have j:=mo s e;rw [this,h5] at j;exact Bool.noConfusion j
theorem q8.mX (h:q8 m P) (hm:m≤8) {s:Nat} (hs:s < 2 ^ m) (hp:P s = true) (hmax:∀ t,t < 2 ^ m→P t = true→cnt t≤cnt s):s∈ju m P:=by
 have j:=dU hm;refine ij.2 ⟨hs,hp,fun t ht hpt hst=>(oe (by omega) hst (hmax t ht hpt)).symm⟩
theorem q8.ext (h:q8 m P) (hm:m≤8):∀ n s,s < 2 ^ m→P s = true→8≤cnt s+n→∃ t∈ju m P,Sub s t:=by
 have j:=dU hm;intro n;induction n with
 | zero =>
  intro s hs hp hn;exact ⟨s,h.mX hm hs hp (fun t _ _=>Nat.le_trans (rU t) (by omega)),Sub.refl s⟩
 | succ n ih =>
  intro s hs hp hn;by_cases hmx:∃ t,t < 2 ^ m∧P t = true∧cnt s < cnt t
  ·obtain ⟨t,ht,hpt,hlt⟩:=hmx
   obtain ⟨e,h4,h5,y⟩:=h.aug s t hs ht hp hpt hlt;have hlt':s ||| 2 ^ e < 2 ^ m:=mj hs (k5 (jF ht h4))
   have:=k9 (lJ (by omega) h4) h5;obtain ⟨u,hu,hsub⟩:=ih _ hlt' y (by omega);exact ⟨u,hu,(gP _ _).trans hsub⟩
  ·exact ⟨s,h.mX hm hs hp (fun t ht hpt=>Nat.le_of_not_lt fun hlt=>hmx ⟨t,ht,hpt,hlt⟩),Sub.refl s⟩
theorem q8.some (h:q8 m P) (hm:m≤8):0 < (ju m P).length:=by
 obtain ⟨t,ht,_⟩:=h.ext hm 8 0 (Nat.pow_pos (by decide)) h.zero (by omega);exact List.length_pos_of_mem ht
theorem q8.eK (h:q8 m P) (hm:m≤8):gr (ju m P) = false:=by
 have U:=dU hm;unfold gr;rw [List.any_eq_false];intro a ha;rw [Bool.not_eq_true,List.any_eq_false];intro b hb;rw [Bool.not_eq_true,List.any_eq_false];intro e he;have y:e < 8:=by have:=List.mem_range'_1.1 he;omega
 obtain ⟨J,a2,a3⟩:=ij.1 ha;obtain ⟨M,X,b3⟩:=ij.1 hb;cases hae:a.testBit e with
 | false=>simp
 | true =>
  cases hbe:b.testBit e with
  | true=>simp
  | false =>
   have hx:Sets.eK (ju m P) a b e = true:=by
    have hsame:cnt a≤cnt b:=h.mW hm hb J a2;have I:cnt b≤cnt a:=h.mW hm ha M X;have hless:=lO (a:=a) (e:=e) (by omega) hae;have hd:diff a (2 ^ e) < 2 ^ m:=fQ J;obtain ⟨f,h4,h5,Y⟩:=h.aug (diff a (2 ^ e)) b hd M (h.down _ a J (pG _ _) a2) X (by omega);have hef:e≠f:=fun e'=>by
     subst e';rw [hbe] at h4;exact Bool.noConfusion h4
    rw [k8] at h5;have j:a.testBit f = false:=by simpa [hef] using h5
    have z:f < 8:=lJ (by omega) h4;have hlt':diff a (2 ^ e) ||| 2 ^ f < 2 ^ m:=mj hd (k5 (jF M h4))
    have hc:cnt (diff a (2 ^ e) ||| 2 ^ f) = cnt a:=pE a (by omega) e y f z hae j;unfold Sets.eK;rw [List.any_eq_true];refine ⟨f,List.mem_range'_1.2 (by omega),?_⟩;rw [h4,j,← swap_eq a (by omega) e y f z hae j,List.contains_iff_mem.2 (h.mX hm hlt' Y (fun t ht hpt=>by rw [hc];exact h.mW hm ha ht hpt))];rfl
   rw [hx];simp
end
end s6
end
section
namespace jm
open Go.RowKit Go.Proofs.YtlfkfdmggpipbaaGreat.Pr Go.Proofs.YtlfkfdmggpipbaaGreat.Sets oz j5 Go.Proofs.YtlfkfdmggpipbaaGreat.Flat oA Go.Proofs.YtlfkfdmggpipbaaGreat.Sort s6 n4 ag.b6 ag.cz ag.cA
set_option linter.unusedVariables false
theorem og {l q:List Nat} (hq:q.Pairwise (· < ·)) (h:∀ s,s∈l↔s∈q):sset (ints l) = ints q:=by
 refine nF _ _ (gO _) ?_ fun x=>?_
 ·unfold ints
  rw [List.pairwise_map];exact hq.imp fun h=>by omega
 ·rw [iX,iY,iY]
  constructor
  ·rintro ⟨y,hy,rfl⟩;exact ⟨y,(h y).1 hy,rfl⟩
  ·rintro ⟨y,hy,rfl⟩;exact ⟨y,(h y).2 hy,rfl⟩
theorem kN (n m:Nat):(List.range' n m).Pairwise (· < ·):=List.pairwise_lt_range'
end jm
end
section
namespace j6
open Go.RowKit Go.Proofs.YtlfkfdmggpipbaaGreat.Pr Go.Proofs.YtlfkfdmggpipbaaGreat.Sets oz j5 Go.Proofs.YtlfkfdmggpipbaaGreat.Flat oA Go.Proofs.YtlfkfdmggpipbaaGreat.Sort s6 n4 jm ag.b6 ag.cz ag.cA
set_option linter.unusedVariables false
theorem ik {m:Nat} {l:List Nat} (h:eP (m:Int) (ints l) = true):l.Pairwise (· < ·):=by
 unfold eP at h;rw [Bool.and_eq_true,Bool.and_eq_true] at h;have hf:=h.1.1;unfold nA at hf;rw [Bool.and_eq_true] at hf;rw [List.pairwise_iff_getElem];have step:∀ i,i+1 < l.length→l.getD i 0 < l.getD (i+1) 0:=fun i hi=>by
  have:=List.all_eq_true.1 hf.1 (i+1) (List.mem_range'_1.2 (by rw [ay];omega));rw [Bool.and_eq_true,jf,jf] at this;have h2:=this.2;rw [decide_eq_false (show ¬ i+1 = 0 by omega),Bool.false_or,decide_eq_true_eq] at h2;rw [show i+1 - 1 = i by omega] at h2;omega
 have key:∀ d i,i+d+1 < l.length→l.getD i 0 < l.getD (i+d+1) 0:=by
  intro d;induction d with
  | zero=>exact fun i hi=>step i hi
  | succ d ih=>exact fun i hi=>Nat.lt_trans (ih i (by omega)) (step (i+d+1) (by omega))
 intro i j hi hj hij;have:=key (j - i - 1) i (by omega);rw [show i+(j - i - 1)+1 = j by omega] at this;have y:l.getD i 0 = l[i]:=by simp [List.getD,hi]
 have z:l.getD j 0 = l[j]:=by simp [List.getD,hj]
 rw [y,z] at this;exact this
end j6
end
section
namespace Canon
set_option linter.unusedVariables false
def ji:Nat→Nat→List Nat→List (List Nat)
 | 0,_,done=>[done]
 | d+1,n,done=>(List.range' 0 n).flatMap fun e=>if done.contains e = true then [] else ji d n (done ++ [e])
def rs (x:List Nat) (s:Nat):Nat:=(List.range' 0 x.length).foldl (fun o k=>if s.testBit k = true then o ||| 2 ^ x.getD k 0 else o) 0
def inv (x:List Nat):List Nat:=(List.range' 0 x.length).map fun j=>x.findIdx fun e=>e == j
def mq (n:Nat) (x:List Nat):Bool:=decide (x.length = n) && (x.all fun e=>decide (e < n)) && (List.range' 0 (2 ^ n)).all fun s=>decide (rs (inv x) (rs x s) = s) && decide (rs x s < 2 ^ n)
set_option maxRecDepth 100000 in
theorem mY:∀ n,n < 6→(ji n n []).all (mq n) = true:=by decide +kernel
set_option maxRecDepth 100000 in
theorem pK:∀ n,n < 6→ji n n [] = List.range' 0 n :: (ji n n []).tail:=by decide +kernel
set_option maxRecDepth 100000 in
theorem sC:∀ n,n < 6→∀ s,s < 32→s < 2 ^ n→rs (List.range' 0 n) s = s:=by decide +kernel
theorem pL {n:Nat} {x:List Nat} (h:mq n x = true):x.length = n:=by
 unfold mq at h;rw [Bool.and_eq_true,Bool.and_eq_true,decide_eq_true_iff] at h;exact h.1.1
theorem qX {n:Nat} {x:List Nat} (h:mq n x = true):∀ e∈x,e < n:=fun e he=>by
 unfold mq at h;rw [Bool.and_eq_true,Bool.and_eq_true] at h;exact of_decide_eq_true (List.all_eq_true.1 h.1.2 e he)
theorem qY {n:Nat} {x:List Nat} (h:mq n x = true) {s:Nat} (hs:s < 2 ^ n):rs (inv x) (rs x s) = s∧rs x s < 2 ^ n:=by
 unfold mq at h;rw [Bool.and_eq_true] at h;have:=List.all_eq_true.1 h.2 s (List.mem_range'_1.2 ⟨Nat.zero_le _,by omega⟩);rw [Bool.and_eq_true,decide_eq_true_iff,decide_eq_true_iff] at this;exact this
theorem rV {n:Nat} {x:List Nat} (h:mq n x = true) {s t:Nat} (hs:s < 2 ^ n) (ht:t < 2 ^ n) (he:rs x s = rs x t):s = t:=by
 rw [← (qY h hs).1,← (qY h ht).1,he]
theorem mu {n:Nat} {x:List Nat} (h:mq n x = true):∀ l:List Nat,(∀ s∈l,s < 2 ^ n)→l.Nodup→(l.map (rs x)).Nodup
 | [],_,_=>List.nodup_nil
 | a :: l,hl,hn=>by
  rw [List.nodup_cons] at hn;rw [List.map_cons,List.nodup_cons];refine ⟨fun hm=>?_,mu h l (fun s hs=>hl s (List.mem_cons_of_mem _ hs)) hn.2⟩;obtain ⟨b,hb,he⟩:=List.mem_map.1 hm;have:=rV h (hl b (List.mem_cons_of_mem _ hb)) (hl a List.mem_cons_self) he;rw [this] at hb;exact hn.1 hb
theorem kO {α:Type} [DecidableEq α]:∀ (a b:List α),a.Nodup→b.Nodup→(∀ x,x∈a↔x∈b)→a.length = b.length
 | [],b,_,_,h=>by
  cases b with
  | nil=>rfl
  | cons y b=>exact absurd ((h y).2 List.mem_cons_self) List.not_mem_nil
 | y :: a,b,ha,hb,h=>by
  rw [List.nodup_cons] at ha;have hy:=(h y).1 List.mem_cons_self;have h1:=List.length_erase_of_mem hy;have h2:=kO a (b.erase y) ha.2 (hb.erase y) fun x=>by
   rw [hb.mem_erase_iff];constructor
   ·intro hx
    exact ⟨fun e=>by rw [e] at hx;exact ha.1 hx,(h x).1 (List.mem_cons_of_mem _ hx)⟩
   ·rintro ⟨hne,hx⟩
    rcases List.mem_cons.1 ((h x).2 hx) with e | e
    ·exact absurd e hne
    ·exact e
  have h3:=List.length_pos_of_mem hy;rw [List.length_cons,h2,h1];omega
theorem kf {α β γ:Type} (u:β→α→β) (v:γ→α→γ) (R:β→γ→Prop):∀ (q:List α) (b:β) (c:γ),R b c→(∀ x∈q,∀ b c,R b c→R (u b x) (v c x))→R (q.foldl u b) (q.foldl v c)
 | [],b,c,h,_=>h
 | x :: q,b,c,h,hs=>by
  rw [List.foldl_cons,List.foldl_cons];exact kf u v R q _ _ (hs x List.mem_cons_self b c h) fun y hy=>hs y (List.mem_cons_of_mem _ hy)
end Canon
end
section
namespace Canon
open Go.RowKit Go.Proofs.YtlfkfdmggpipbaaGreat.Pr Go.Proofs.YtlfkfdmggpipbaaGreat.Sets oz j5 Go.Proofs.YtlfkfdmggpipbaaGreat.Flat Go.Proofs.YtlfkfdmggpipbaaGreat.Sort s6 n4 jm iD ag.b6 ag.cz ag.cA
set_option linter.unusedVariables false
def jG (x l:List Nat):List Int:=sset (ints (l.map (rs x)))
def jz (n:Nat) (l:List Nat) (b:Int×List Int) (x:List Nat):Int×List Int:=if fg (jG x l) b.2 < 0 then ((n:Int),jG x l) else b
def jj (l:List Nat) (c:List Int) (x:List Nat):List Int:=if c = [] then jG x l else if dN (jG x l) c < 0 then jG x l else c
def canon (n:Nat) (l:List Nat):List Int:=(ji n n []).foldl (jj l) []
theorem iq {l:List Nat} (h:l.Pairwise (· < ·)):l.Nodup:=h.imp fun h=>Nat.ne_of_lt h
theorem jH {n:Nat} {x l:List Nat} (hx:mq n x = true) (hl:∀ s∈l,s < 2 ^ n) (ha:l.Pairwise (· < ·)):(jG x l).length = l.length:=by
 unfold jG;obtain ⟨q,h1,h2,_⟩:=pF (l.map (rs x));have h3:=gO (ints (l.map (rs x)));rw [h1] at h3 ⊢;have h4:q.Nodup:=by
  unfold ints at h3;rw [List.pairwise_map] at h3;exact h3.imp fun {a b} h=>by
   intro e;rw [e] at h;exact absurd h (Int.lt_irrefl _)
 rw [ay,kO q (l.map (rs x)) h4 (mu hx l hl (iq ha)) h2,List.length_map]
theorem pM {n:Nat} (hn:n < 6) {l:List Nat} (hl:∀ s∈l,s < 2 ^ n) (ha:l.Pairwise (· < ·)):jG (List.range' 0 n) l = ints l:=by
 have hp:2 ^ n≤2 ^ 5:=Nat.pow_le_pow_right (by decide) (by omega);have e:l.map (rs (List.range' 0 n)) = l:=by
  conv=>rhs;rw [← List.map_id l]
  exact List.map_congr_left fun s hs=>sC n hn s (by have:=hl s hs;omega) (hl s hs)
 unfold jG;rw [e];exact og ha fun _=>Iff.rfl
theorem gG {n:Nat} (hn:n < 6) {l:List Nat} (hl:∀ s∈l,s < 2 ^ n) (ha:l.Pairwise (· < ·)) (J:0 < l.length):(ji n n []).foldl (jz n l) ((n:Int),ints l) = ((n:Int),canon n l)∧(canon n l).length = l.length:=by
 have hok:=List.all_eq_true.1 (mY n hn);have hd:=pK n hn;have z:jz n l ((n:Int),ints l) (List.range' 0 n) = ((n:Int),ints l):=by
  unfold jz;rw [pM hn hl ha,je,if_neg (by decide)]
 have I:jj l [] (List.range' 0 n) = ints l:=by
  unfold jj;rw [if_pos rfl,pM hn hl ha]
 have h:=kf (jz n l) (jj l) (fun b c=>b = ((n:Int),c)∧c.length = l.length) (ji n n []).tail ((n:Int),ints l) (ints l) ⟨rfl,ay l⟩ fun x hx b c hbc=>by
  obtain ⟨rfl,hc⟩:=hbc;have y:mq n x = true:=hok x (by rw [hd];exact List.mem_cons_of_mem _ hx);have hr:=jH y hl ha;have hcm:dN (jG x l) c = fg (jG x l) c:=by rw [dN,if_pos (by rw [hr,hc])]
  have j:c≠[]:=fun e=>by
   rw [e] at hc;simp at hc;omega
  unfold jz jj;simp only [if_neg j,hcm];by_cases hlt:fg (jG x l) c < 0
  ·rw [if_pos hlt,if_pos hlt]
   exact ⟨rfl,hr⟩
  ·rw [if_neg hlt,if_neg hlt]
   exact ⟨rfl,hc⟩
 unfold canon;rw [hd,List.foldl_cons,List.foldl_cons,z,I];exact h
theorem fu (m:Nat) (h:m < 8):IntKind.u64.wrap (m:Int) = m:=jE m (by omega)
theorem nG {x:List Nat} {n:Nat} (h:∀ e∈x,e < n) {i:Nat} (hi:i < x.length):x.getD i 0 < n:=h _ (ek x 0 i hi)
theorem rW {n:Nat} (hn:n < 6) {x:List Nat} (hx:mq n x = true) {s:Nat} (hs:s < 2 ^ n):Ev (fun k=>bf.f k (ints x) (s:Int)) (rs x s:Int):=by
 have hp:2 ^ n≤2 ^ 5:=Nat.pow_le_pow_right (by decide) (by omega);have hxl:=pL hx;have hxe:=qX hx;have e:rs x s = (elems s).foldl (fun o e=>o ||| 2 ^ x.getD e 0) 0:=by
  unfold rs elems;rw [Act.k7,hxl,show (8:Nat) = n+(8 - n) by omega,cU.mO];intro j hj o;rw [gF hs hj,if_neg (by decide)]
 unfold bf.f;refine Ev.bind (fl s (by omega)) ?_;rw [e,ay];refine Act.od (fun k (o:Nat) i=>bf.l0 k (ints x) (o:Int) (ints (elems s)) ((elems s).length:Int) i) (elems s) (fun o e=>o ||| 2 ^ x.getD e 0) (fun _ o=>o < 2 ^ n) _ 0 (fun i o hi hP=>?_) (Nat.two_pow_pos n) (fun _=>cU.di 1 fun k hk=>?_)
 ·obtain ⟨h1,h2⟩:=Act.mU hi
  have hel:=ej s;obtain ⟨y,z⟩:∃ y,(elems s).getD i 0 = y:=⟨_,rfl⟩
  rw [z] at h1 h2 ⊢;have hen:y < n:=jF hs h2;have I:=nG hxe (i:=y) (by omega);have hpe:2 ^ x.getD y 0 < 2 ^ n:=k5 I;refine ⟨mj hP hpe,fun h=>Ev.step (fun k=>?_) h⟩;simp only [bf.l0];rw [if_pos (by omega),if_pos (by omega),if_pos (by rw [ay];omega),dX,z,if_pos (by omega),if_pos (by rw [ay];omega),dX,if_pos (by omega),eT _ (by omega),mP _ _ (by omega) (by omega),cU.dP i (by omega)]
 ·obtain ⟨m,rfl⟩:∃ m,k = m+1:=⟨k - 1,by omega⟩
  simp only [bf.l0];rw [if_neg (by omega)]
theorem rX {n:Nat} (hn:n < 6) {x:List Nat} (hx:mq n x = true) {s:Nat} (hs:s < 2 ^ n):Ev (fun k=>cm.f k (ints x) (s:Int)) (rs x s:Int):=by
 have hp:2 ^ n≤2 ^ 5:=Nat.pow_le_pow_right (by decide) (by omega);have hxl:=pL hx;have hxe:=qX hx;unfold cm.f rs;refine cU.ei (fun k (o:Nat) i=>cm.l0 k (ints x) (s:Int) (o:Int) i) x.length (fun k o=>if s.testBit k = true then o ||| 2 ^ x.getD k 0 else o) (fun _ o=>o < 2 ^ n) _ (fun i o hi hP=>?_) x.length 0 0 (by omega) (Nat.two_pow_pos n) (fun _=>cU.di 1 fun k hk=>?_)
 ·have j:=nG hxe (i:=i) hi
  have hpe:2 ^ x.getD i 0 < 2 ^ n:=k5 j;have y:(if s.testBit i = true then o ||| 2 ^ x.getD i 0 else o) < 2 ^ n:=by
   split
   ·exact mj hP hpe
   ·exact hP
  refine ⟨y,fun h=>Ev.step (fun k=>?_) h⟩;simp only [cm.l0];rw [if_pos (by rw [ay];omega),iC s i (by omega) (by omega),Option.bind_some,dX,fu _ (by omega),cU.dP i (by omega)];by_cases hb:s.testBit i = true
  ·rw [if_pos hb,if_pos hb,if_pos (by omega),if_pos (by omega),eT _ (by omega),mP _ _ (by omega) (by omega)]
  ·rw [if_neg hb,if_neg hb]
 ·obtain ⟨m,rfl⟩:∃ m,k = m+1:=⟨k - 1,by omega⟩
  simp only [cm.l0];rw [if_neg (by rw [ay];omega)]
theorem mw (f:Nat→Nat) (l:List Nat):ints (l.map f) = (List.range' 0 l.length).foldl (fun (s:List Int) i=>s ++ [((f (l.getD i 0):Nat):Int)]) []:=by
 have key:∀ (d i:Nat) (s:List Int),i+d = l.length→(List.range' i d).foldl (fun (s:List Int) i=>s ++ [((f (l.getD i 0):Nat):Int)]) s = s ++ ints ((l.drop i).map f):=by
  intro d;induction d with
  | zero =>
   intro i s hi;rw [List.drop_eq_nil_of_le (by omega)];simp [ints]
  | succ d ih =>
   intro i s hi;rw [List.range'_succ,List.foldl_cons,ih (i+1) _ (by omega)];have hd:l.drop i = l.getD i 0 :: l.drop (i+1):=by
    rw [List.drop_eq_getElem_cons (by omega)];congr 1
    rw [List.getD_eq_getElem?_getD,List.getElem?_eq_getElem (by omega)];rfl
   rw [hd,List.map_cons,ints,ints,List.map_cons,List.append_assoc];rfl
 rw [key l.length 0 [] (by omega)];simp
theorem qD {n:Nat} (hn:n < 6) {x:List Nat} (hx:mq n x = true) {l:List Nat} (hl:∀ s∈l,s < 2 ^ n) (hlen:l.length≤1048576):Ev (fun k=>b5.f k (n:Int) (ints l) (ints x)) ((n:Int),jG x l):=by
 unfold b5.f;have h:=cU.ei (fun k (u:List Int) i=>b5.l0 k (ints x) (ints l) (l.length:Int) i (n:Int) u) l.length (fun i s=>s ++ [((rs x (l.getD i 0):Nat):Int)]) (fun i u=>u.length = i) ((n:Int),jG x l) (fun i u hi hP=>by
  have hs:l.getD i 0 < 2 ^ n:=hl _ (ek l 0 i hi);refine ⟨by simp [hP],fun h=>Ev.step (f:=fun k=>(bf.f k (ints x) ((l.getD i 0:Nat):Int)).bind fun t=>b5.l0 k (ints x) (ints l) (l.length:Int) ((i+1:Nat):Int) (n:Int) (u ++ [t])) (fun k=>?_) (Ev.bind (rW hn hx hs) h)⟩;simp only [b5.l0];rw [if_pos (by omega),if_pos (by omega),if_pos (by rw [ay];omega),dX,cU.dP i (by omega)];simp only [if_pos (show u.length < 17592186044416 by omega)]) l.length 0 [] (by omega) rfl (fun hP=>by
  rw [← mw (rs x) l] at hP ⊢;refine cU.di 1 fun k hk=>?_
  obtain ⟨m,rfl⟩:∃ m,k = m+1:=⟨k - 1,by omega⟩
  simp only [b5.l0];rw [if_neg (by omega),pB _ (by rw [ay,List.length_map];exact hlen),Option.bind_some];rfl)
 rw [ay];exact h
theorem qE {n:Nat} (hn:n < 6) {x:List Nat} (hx:mq n x = true) {l:List Nat} (hl:∀ s∈l,s < 2 ^ n) (hlen:l.length≤1048576):Ev (fun k=>bS.f k (ints x) (ints l)) (jG x l):=by
 unfold bS.f;refine cU.ei (fun k (u:List Int) i=>bS.l0 k (ints x) (ints l) u i) l.length (fun i s=>s ++ [((rs x (l.getD i 0):Nat):Int)]) (fun i u=>u.length = i) (jG x l) (fun i u hi hP=>by
  have hs:l.getD i 0 < 2 ^ n:=hl _ (ek l 0 i hi);refine ⟨by simp [hP],fun h=>Ev.step (f:=fun k=>(cm.f k (ints x) ((l.getD i 0:Nat):Int)).bind fun t=>bS.l0 k (ints x) (ints l) (u ++ [t]) ((i+1:Nat):Int)) (fun k=>?_) (Ev.bind (rX hn hx hs) h)⟩;simp only [bS.l0];rw [if_pos (by rw [ay];omega),if_pos (by omega),dX,cU.dP i (by omega)];simp only [if_pos (show u.length < 17592186044416 by omega)]) l.length 0 [] (by omega) rfl (fun hP=>by
  rw [← mw (rs x) l] at hP ⊢;refine Ev.step (f:=fun k=>(aq.f k (ints (l.map (rs x)))).bind fun t=>some t) (fun k=>?_) (Ev.bind (pD _ (by rw [ay,List.length_map];exact hlen)) (Ev.now _));simp only [bS.l0];rw [if_neg (by rw [ay];omega)])
theorem rY (a b:Int):cQ.f a b = some (if a < b then -1 else if a > b then 1 else 0):=by
 unfold cQ.f cmp_isNaN_int.f;simp only [Option.bind_some];by_cases h:a < b
 ·simp [h]
 ·by_cases h2:a > b
  ·simp [h,h2]
  ·simp [h,h2]
theorem pN {a b:Int} (h:a = b):cQ.f a b = some 0:=by
 rw [rY,if_neg (by omega),if_neg (by omega)]
theorem pO {a b:Int} (h:a < b):cQ.f a b = some (-1):=by
 rw [rY,if_pos h]
theorem pP {a b:Int} (h:b < a):cQ.f a b = some 1:=by
 rw [rY,if_neg (by omega),if_pos h]
theorem fI (a:List Int) {i:Nat} (h:i < a.length):a.drop i = a.getD i 0 :: a.drop (i+1):=drop_cons a i h
theorem nH (a b:List Int) (ha:a.length≤1048576) (hb:b.length≤1048576):Ev (fun k=>ax.f k a b) (fg a b):=by
 unfold ax.f;have key:∀ d i:Nat,i+d = a.length→i≤b.length→Ev (fun k=>ax.l0 k a b a (a.length:Int) (i:Int)) (fg (a.drop i) (b.drop i)):=by
  intro d;induction d with
  | zero =>
   intro i hi hib;refine cU.di 1 fun k hk=>?_
   obtain ⟨m,rfl⟩:∃ m,k = m+1:=⟨k - 1,by omega⟩
   simp only [ax.l0];rw [if_neg (by omega),List.drop_eq_nil_of_le (by omega:a.length≤i)];by_cases h:i < b.length
   ·rw [if_pos (by omega),fI b h]
    rfl
   ·rw [if_neg (by omega),List.drop_eq_nil_of_le (by omega:b.length≤i)]
    rfl
  | succ d ih =>
   intro i hi hib;by_cases h:i < b.length
   ·rw [fI a (by omega:i < a.length),fI b h,fg]
    by_cases he:a.getD i 0 = b.getD i 0
    ·rw [if_pos he]
     refine Ev.step (fun k=>?_) (ih (i+1) (by omega) (by omega));simp only [ax.l0];rw [if_pos (by omega),if_pos (by omega),if_pos (by omega),if_neg (by omega),if_pos (by omega),cU.dI,cU.dI,pN he,Option.bind_some,if_pos rfl,cU.dP i (by omega)]
    ·rw [if_neg he]
     refine cU.di 1 fun k hk=>?_
     obtain ⟨m,rfl⟩:∃ m,k = m+1:=⟨k - 1,by omega⟩
     simp only [ax.l0];rw [if_pos (by omega),if_pos (by omega),if_pos (by omega),if_neg (by omega),if_pos (by omega),cU.dI,cU.dI];by_cases hlt:a.getD i 0 < b.getD i 0
     ·rw [if_pos hlt,pO hlt,Option.bind_some,if_neg (by decide)]
     ·rw [if_neg hlt,pP (by omega),Option.bind_some,if_neg (by decide)]
   ·refine cU.di 1 fun k hk=>?_
    obtain ⟨m,rfl⟩:∃ m,k = m+1:=⟨k - 1,by omega⟩
    simp only [ax.l0];rw [if_pos (by omega),if_pos (by omega),if_pos (by omega),if_pos (by omega),fI a (by omega:i < a.length),List.drop_eq_nil_of_le (by omega:b.length≤i)];rfl
 exact key a.length 0 (by omega) (Nat.zero_le _)
theorem kg (a b:List Int) (ha:a.length≤1048576) (hb:b.length≤1048576):Ev (fun k=>bz.f k a b) (decide (dN a b < 0)):=by
 unfold bz.f dN;by_cases hl:a.length = b.length
 ·simp only [if_pos hl,if_pos (show (a.length:Int) = (b.length:Int) by omega)]
  have key:∀ d i:Nat,i+d = a.length→Ev (fun k=>bz.l0 k a b (i:Int)) (decide (fg (a.drop i) (b.drop i) < 0)):=by
   intro d;induction d with
   | zero =>
    intro i hi;rw [List.drop_eq_nil_of_le (by omega:a.length≤i),List.drop_eq_nil_of_le (by omega:b.length≤i)];refine cU.di 1 fun k hk=>?_
    obtain ⟨m,rfl⟩:∃ m,k = m+1:=⟨k - 1,by omega⟩
    simp only [bz.l0];rw [if_neg (by omega)];rfl
   | succ d ih =>
    intro i hi;rw [fI a (by omega:i < a.length),fI b (by omega:i < b.length),fg];by_cases he:a.getD i 0 = b.getD i 0
    ·rw [if_pos he]
     refine Ev.step (fun k=>?_) (ih (i+1) (by omega));simp only [bz.l0];rw [if_pos (by omega),if_pos (by omega),if_pos (by omega),cU.dI,cU.dI,if_pos he,cU.dP i (by omega)]
    ·rw [if_neg he]
     refine cU.di 1 fun k hk=>?_
     obtain ⟨m,rfl⟩:∃ m,k = m+1:=⟨k - 1,by omega⟩
     simp only [bz.l0];rw [if_pos (by omega),if_pos (by omega),if_pos (by omega),cU.dI,cU.dI,if_neg he];by_cases hlt:a.getD i 0 < b.getD i 0
     ·rw [if_pos hlt,decide_eq_true hlt]
      rfl
     ·rw [if_neg hlt,decide_eq_false hlt]
      rfl
  exact key a.length 0 (by omega)
 ·simp only [if_neg hl,if_neg (show ¬ (a.length:Int) = (b.length:Int) by omega)]
  have:decide ((a.length:Int) < (b.length:Int)) = decide ((a.length:Int) - (b.length:Int) < 0):=by
   rw [decide_eq_decide];omega
  rw [this];exact Ev.now _
theorem lP (l:List Nat) (x:Nat) (hn:l.length≤1048576):Ev (fun k=>aV.f k (ints l) (x:Int)) (l.contains x):=by
 have h:=cU.di (l.length+1) fun k hk=>nB l x hn k (by omega)
 refine Ev.congr (fun k=>?_) h;unfold eG.f;cases aV.f k (ints l) (x:Int) <;> rfl
theorem lQ (l:List Nat) (x:Nat) (hn:l.length≤1048576):Ev (fun k=>bL.f k (ints l) (x:Int)) (l.contains x):=cU.di (l.length+1) fun k hk=>lD l x hn k (by omega)
theorem mZ {α β:Type} (F:α→Nat→Option β) (r:α→β):∀ L:List α,(∀ x∈L,Ev (F x) (r x))→∃ K,∀ x∈L,∀ k,K≤k→F x k = some (r x)
 | [],_=>⟨0,fun x hx=>absurd hx List.not_mem_nil⟩
 | x :: L,h=>by
  obtain ⟨j,h1⟩:=h x List.mem_cons_self;obtain ⟨z,h2⟩:=mZ F r L fun y hy=>h y (List.mem_cons_of_mem _ hy)
  refine ⟨j+z,fun y hy k hk=>?_⟩;rcases List.mem_cons.1 hy with rfl | hy
  ·exact h1 k (by omega)
  ·exact h2 y hy k (by omega)
theorem kP (l:List Nat) (e:Nat):ints l ++ [(e:Int)] = ints (l ++ [e]):=by simp [ints]
section
variable {n:Nat} (hn:n < 6) (u:Int×List Int→List Nat→Int×List Int) (B:List (Int×List Int)) (G:List Int→Int×List Int→Option (Int×List Int)) (hG:∀ x∈ji n n [],∀ b∈B,G (ints x) b = some (u b x)∧u b x∈B)
include hn hG
theorem nI:∀ (d:Nat) (done:List Nat),done.length+d = n→(∀ x∈ji d n done,x∈ji n n [])→∀ b∈B,Ev (fun k=>ak.f G k (n:Int) (ints done) b) ((ji d n done).foldl u b)∧(ji d n done).foldl u b∈B
 | 0,done,hd,hs,b,hb=>by
  obtain ⟨h1,h2⟩:=hG done (hs done (by simp [ji])) b hb;refine ⟨cU.di 1 fun k hk=>?_,h2⟩;obtain ⟨m,rfl⟩:∃ m,k = m+1:=⟨k - 1,by omega⟩
  simp only [ak.f];rw [if_pos (by rw [ay];omega)];exact h1
 | d+1,done,hd,hs,b,hb=>by
  have key:∀ (j e:Nat),e+j = n→∀ b∈B,Ev (fun k=>ak.l0 G k (n:Int) (ints done) (e:Int) b) (((List.range' e j).flatMap fun e=>if done.contains e = true then [] else ji d n (done ++ [e])).foldl u b)∧((List.range' e j).flatMap fun e=>if done.contains e = true then [] else ji d n (done ++ [e])).foldl u b∈B:=by
   intro j;induction j with
   | zero =>
    intro e he b hb;refine ⟨cU.di 1 fun k hk=>?_,hb⟩;obtain ⟨m,rfl⟩:∃ m,k = m+1:=⟨k - 1,by omega⟩
    simp only [ak.l0];rw [if_neg (by omega)];rfl
   | succ j ih =>
    intro e he b hb;rw [List.range'_succ,List.flatMap_cons,List.foldl_append];have hC:=lP done e (by omega);cases hc:done.contains e with
    | true =>
     rw [hc] at hC;simp only [if_true,List.foldl_nil];obtain ⟨h1,h2⟩:=ih (e+1) (by omega) b hb;refine ⟨Ev.step (f:=fun k=>(aV.f k (ints done) (e:Int)).bind fun t=>(if t = true then (ak.l0 G k (n:Int) (ints done) ((e+1:Nat):Int) b) else (if (ints done).length < 17592186044416 then ((ak.f G k (n:Int) (ints done ++ [(e:Int)]) b).bind fun y=>(ak.l0 G k (n:Int) (ints done) ((e+1:Nat):Int) y)) else none))) (fun k=>?_) (Ev.bind hC (Ev.congr (fun k=>if_pos rfl) h1)),h2⟩;simp only [ak.l0];rw [if_pos (by omega),cU.dP e (by omega)]
    | false =>
     rw [hc] at hC;simp only [Bool.false_eq_true,if_false];obtain ⟨h3,h4⟩:=nI d (done ++ [e]) (by rw [List.length_append];simp;omega) (fun x hx=>hs x (by
      rw [ji,List.mem_flatMap];refine ⟨e,List.mem_range'_1.2 ⟨Nat.zero_le _,by omega⟩,?_⟩;rw [hc,if_neg Bool.false_ne_true];exact hx)) b hb
     obtain ⟨h1,h2⟩:=ih (e+1) (by omega) _ h4;rw [← kP] at h3;refine ⟨Ev.step (f:=fun k=>(aV.f k (ints done) (e:Int)).bind fun t=>(if t = true then (ak.l0 G k (n:Int) (ints done) ((e+1:Nat):Int) b) else (if (ints done).length < 17592186044416 then ((ak.f G k (n:Int) (ints done ++ [(e:Int)]) b).bind fun y=>(ak.l0 G k (n:Int) (ints done) ((e+1:Nat):Int) y)) else none))) (fun k=>?_) (Ev.bind hC (Ev.congr (fun k=>if_neg Bool.false_ne_true) (Ev.congr (fun k=>if_pos (by rw [ay];omega)) (Ev.bind h3 h1)))),h2⟩;simp only [ak.l0];rw [if_pos (by omega),cU.dP e (by omega)]
  obtain ⟨h1,h2⟩:=key n 0 (by omega) b hb;refine ⟨Ev.step (fun k=>?_) h1,h2⟩;simp only [ak.f];rw [if_neg (by rw [ay];omega)];rfl
end
section
variable {n:Nat} (hn:n < 6) {l:List Nat} (hl:∀ s∈l,s < 2 ^ n) (ha:l.Pairwise (· < ·)) (hlen:l.length≤1048576)
include hn hl ha hlen
theorem my:∀ (d:Nat) (done:List Nat),done.length+d = n→(∀ x∈ji d n done,mq n x = true)→∀ c:List Int,c.length≤1048576→Ev (fun k=>aI.f k (n:Int) (ints l) (ints done) c) ((ji d n done).foldl (jj l) c)∧((ji d n done).foldl (jj l) c).length≤1048576
 | 0,done,hd,hs,c,hc=>by
  have hx:=hs done (by simp [ji]);have hr:=jH hx hl ha;have hB:=kg (jG done l) c (by omega) hc;have e:(ji 0 n done).foldl (jj l) c = jj l c done:=rfl;rw [e];refine ⟨Ev.step (f:=fun k=>(bS.f k (ints done) (ints l)).bind fun t=>(if (c.length:Int) = 0 then (some t) else ((bz.f k t c).bind fun t2=>(if t2 = true then (some t) else (some c))))) (fun k=>?_) (Ev.bind (qE hn hx hl hlen) ?_),?_⟩
  ·simp only [aI.f]
   rw [if_pos (by rw [ay];omega)]
  ·unfold jj
   by_cases z:c = []
   ·rw [if_pos z]
    exact Ev.congr (fun k=>if_pos (by rw [z];rfl)) (Ev.now _)
   ·rw [if_neg z]
    have hp:=List.length_pos_iff.2 z;refine Ev.congr (fun k=>if_neg (by omega)) (Ev.bind hB ?_);by_cases hlt:dN (jG done l) c < 0
    ·rw [if_pos hlt]
     exact Ev.congr (fun k=>if_pos (decide_eq_true hlt)) (Ev.now _)
    ·rw [if_neg hlt]
     exact Ev.congr (fun k=>if_neg (by rw [decide_eq_false hlt];decide)) (Ev.now _)
  ·unfold jj
   split
   ·omega
   ·split
    ·omega
    ·exact hc
 | d+1,done,hd,hs,c,hc=>by
  have key:∀ (j e:Nat),e+j = n→∀ c:List Int,c.length≤1048576→Ev (fun k=>aI.l0 k (ints done) c (e:Int) (n:Int) (ints l)) (((List.range' e j).flatMap fun e=>if done.contains e = true then [] else ji d n (done ++ [e])).foldl (jj l) c)∧(((List.range' e j).flatMap fun e=>if done.contains e = true then [] else ji d n (done ++ [e])).foldl (jj l) c).length≤1048576:=by
   intro j;induction j with
   | zero =>
    intro e he c hc;refine ⟨cU.di 1 fun k hk=>?_,hc⟩;obtain ⟨m,rfl⟩:∃ m,k = m+1:=⟨k - 1,by omega⟩
    simp only [aI.l0];rw [if_neg (by omega)];rfl
   | succ j ih =>
    intro e he c hc;rw [List.range'_succ,List.flatMap_cons,List.foldl_append];have hC:=lQ done e (by omega);have step:∀ k,aI.l0 (k+1) (ints done) c (e:Int) (n:Int) (ints l) = (bL.f k (ints done) (e:Int)).bind fun t=>(if t = true then (aI.l0 k (ints done) c ((e+1:Nat):Int) (n:Int) (ints l)) else ((aI.f k (n:Int) (ints l) (ints done ++ [(e:Int)]) c).bind fun t1=>(aI.l0 k (ints done) t1 ((e+1:Nat):Int) (n:Int) (ints l)))):=fun k=>by
     simp only [aI.l0,Option.bind_some,List.nil_append];rw [if_pos (by omega),cU.dP e (by omega)];congr 1
     funext t
     rw [if_pos (show ([]:List Int).length+(ints done).length < 17592186044416 by rw [ay];simp;omega),if_pos (show (ints done).length+[(e:Int)].length < 17592186044416 by rw [ay];simp;omega)]
    cases y:done.contains e with
    | true =>
     rw [y] at hC;simp only [if_true,List.foldl_nil];obtain ⟨h1,h2⟩:=ih (e+1) (by omega) c hc;exact ⟨Ev.step step (Ev.bind hC (Ev.congr (fun k=>if_pos rfl) h1)),h2⟩
    | false =>
     rw [y] at hC;simp only [Bool.false_eq_true,if_false];obtain ⟨h3,h4⟩:=my d (done ++ [e]) (by rw [List.length_append];simp;omega) (fun x hx=>hs x (by
      rw [ji,List.mem_flatMap];refine ⟨e,List.mem_range'_1.2 ⟨Nat.zero_le _,by omega⟩,?_⟩;rw [y,if_neg Bool.false_ne_true];exact hx)) c hc
     obtain ⟨h1,h2⟩:=ih (e+1) (by omega) _ h4;rw [← kP] at h3;exact ⟨Ev.step step (Ev.bind hC (Ev.congr (fun k=>if_neg Bool.false_ne_true) (Ev.bind h3 h1))),h2⟩
  obtain ⟨h1,h2⟩:=key n 0 (by omega) c hc;refine ⟨Ev.step (fun k=>?_) h1,h2⟩;simp only [aI.f];rw [if_neg (by rw [ay];omega)];rfl
theorem qF {x:List Nat} (hx:mq n x = true) (b:Int×List Int) (hb:b.2.length≤1048576):Ev (fun k=>bI.f k (n:Int) (ints l) (ints x) b) (jz n l b x):=by
 have hr:=jH hx hl ha;unfold bI.f;have e:jz n l b x = if fg (jG x l) b.2 < 0 then ((n:Int),jG x l) else b:=rfl
 rw [e];refine Ev.bind (qD hn hx hl hlen) (Ev.bind (nH (jG x l) b.2 (by omega) hb) ?_);by_cases hlt:fg (jG x l) b.2 < 0
 ·rw [if_pos hlt]
  exact Ev.congr (fun k=>by rw [if_pos hlt]) (Ev.now _)
 ·rw [if_neg hlt]
  exact Ev.congr (fun k=>by rw [if_neg hlt]) (Ev.now _)
theorem pQ (J:0 < l.length):Ev (fun k=>ak.f (fun xs b=>bI.f k (n:Int) (ints l) xs b) k (n:Int) [] ((n:Int),ints l)) ((n:Int),canon n l):=by
 have hok:=List.all_eq_true.1 (mY n hn);obtain ⟨B,hB⟩:∃ B:List (Int×List Int),B = ((n:Int),ints l) :: (ji n n []).map fun x=>((n:Int),jG x l):=⟨_,rfl⟩
 have hBl:∀ b∈B,b.2.length≤1048576:=fun b hb=>by
  rw [hB] at hb;rcases List.mem_cons.1 hb with rfl | hb
  ·rw [ay];exact hlen
  ·obtain ⟨x,hx,rfl⟩:=List.mem_map.1 hb
   show (jG x l).length≤1048576;rw [jH (hok x hx) hl ha];exact hlen
 obtain ⟨y,I⟩:=mZ (fun (p:List Nat×(Int×List Int)) k=>bI.f k (n:Int) (ints l) (ints p.1) p.2) (fun p=>jz n l p.2 p.1) ((ji n n []).flatMap fun x=>B.map fun b=>(x,b)) (fun p hp=>by
  obtain ⟨x,hx,hp⟩:=List.mem_flatMap.1 hp;obtain ⟨b,hb,rfl⟩:=List.mem_map.1 hp;exact qF hn hl ha hlen (hok x hx) b (hBl b hb))
 have hG:∀ x∈ji n n [],∀ b∈B,bI.f y (n:Int) (ints l) (ints x) b = some (jz n l b x)∧jz n l b x∈B:=fun x hx b hb=>by
  refine ⟨I (x,b) (List.mem_flatMap.2 ⟨x,hx,List.mem_map.2 ⟨b,hb,rfl⟩⟩) y (Nat.le_refl _),?_⟩;unfold jz;split
  ·rw [hB]
   exact List.mem_cons_of_mem _ (List.mem_map.2 ⟨x,hx,rfl⟩)
  ·exact hb
 obtain ⟨⟨M,z⟩,_⟩:=nI hn (jz n l) B (fun xs b=>bI.f y (n:Int) (ints l) xs b) hG n [] (by simp) (fun x hx=>hx) ((n:Int),ints l) (by rw [hB];exact List.mem_cons_self);rw [(gG hn hl ha J).1] at z;refine ⟨y+M+1,fun k hk=>?_⟩;obtain ⟨j,rfl⟩:∃ j,k = j+1:=⟨k - 1,by omega⟩
 exact ak.mono (g:=fun xs b=>bI.f y (n:Int) (ints l) xs b) (g':=fun xs b=>bI.f (j+1) (n:Int) (ints l) xs b) (fun x b r h=>kB (fun i=>bI.mono _ _ _ _ i) (by omega:y≤j+1) h) j (n:Int) [] ((n:Int),ints l) _ (z j (by omega))
end
def jk (n:Int) (l:List Int):Int×List Int×Bool:=if eP n l = true then (n,canon n.toNat (l.map Int.toNat),true) else (0,[],false)
theorem oh (n:Int) (l:List Int) (hl:l.length≤1048576) (h5:n≤5):Ev (fun k=>ct.f k n l) (jk n l):=by
 unfold ct.f jk;refine Ev.bind (nC n l hl) ?_;cases hM:eP n l with
 | false =>
  refine Ev.congr (fun k=>if_neg Bool.false_ne_true) (cU.di 1 fun k hk=>?_);obtain ⟨m,rfl⟩:∃ m,k = m+1:=⟨k - 1,by omega⟩
  simp only [ct.j0];rfl
 | true =>
  refine Ev.congr (fun k=>if_pos rfl) ?_;rw [decide_eq_false (show ¬ n > 6 by omega)];obtain ⟨m,j,rfl,hm,rfl,y,z,hf⟩:=iW hM;rw [if_pos rfl,Int.toNat_natCast,fb];rw [ay] at hl;have hB:=pQ (n:=m) (by omega) y (j6.ik hM) hl z;refine Ev.step (f:=fun k=>(ak.f (fun xs b=>bI.f k (m:Int) (ints j) xs b) k (m:Int) [] ((m:Int),ints j)).bind fun t=>some (t.1,t.2,true)) (fun k=>?_) (Ev.bind hB (Ev.now _));simp only [ct.j0];rw [if_neg Bool.false_ne_true];unfold bT.f;simp only [Option.bind_some,List.nil_append];rw [if_pos (show ([]:List Int).length+(ints j).length < 17592186044416 by rw [ay];simp;omega)];rfl
theorem om (n:Int) (l:List Int) (hl:l.length≤1048576) (h5:n≤5):Ev (fun k=>bW.f k n l) (jk n l):=by
 unfold bW.f jk;refine Ev.bind (nD n l hl) ?_;cases hM:eP n l with
 | false=>exact Ev.congr (fun k=>if_neg Bool.false_ne_true) (Ev.now _)
 | true =>
  refine Ev.congr (fun k=>if_pos rfl) (Ev.congr (fun k=>if_neg (by omega)) ?_);obtain ⟨m,y,rfl,hm,rfl,j,z,hf⟩:=iW hM;rw [if_pos rfl,Int.toNat_natCast,fb];rw [ay] at hl;have ha:=j6.ik hM;have hok:=List.all_eq_true.1 (mY m (by omega));obtain ⟨h1,h2⟩:=my (n:=m) (by omega) j ha hl m [] (by simp) hok [] (by simp);simp only [Option.bind_some,List.nil_append];refine Ev.bind h1 (Ev.congr (fun k=>if_pos ?_) (Ev.now _));show ([]:List Int).length+(canon m y).length < 17592186044416;have:=(gG (by omega) j ha z).2;simp;omega
end Canon
end
section
namespace Count
open Go.RowKit Go.Proofs.YtlfkfdmggpipbaaGreat.Pr Go.Proofs.YtlfkfdmggpipbaaGreat.Sets oz j5 Go.Proofs.YtlfkfdmggpipbaaGreat.Flat ag.b6 ag.cz ag.cA
set_option linter.unusedVariables false
def cK (m:Nat) (r:Int):List Nat:=(List.range' 0 (2 ^ m)).filter fun s=>decide ((cnt s:Int) = r)
theorem fV (m:Nat) (r:Int):(cK m r).length≤2 ^ m:=by
 refine Nat.le_trans (List.length_filter_le _ _) ?_;rw [List.length_range'];exact Nat.le_refl _
theorem pR (m:Nat) (hm:m≤8) (r:Int) (y:0≤r) (h1:r≤m):Ev (fun k=>eJ.f k r (m:Int)) ((m:Int),ints (cK m r)):=by
 have j:=dU hm;have hs:cw.f (m:Int) = some true:=by
  unfold cw.f;rw [if_pos (by omega),decide_eq_true (by omega)]
 unfold eJ.f;simp only [hs,Option.bind_some,if_true,if_neg (show ¬ r < 0 by omega),if_neg (show ¬ r > (m:Int) by omega)];refine Ev.bind (mS m hm (fun _ s=>de.f r s) (fun s=>decide ((cnt s:Int) = r)) (fun s hs=>?_) (fun _ _=>eX.refl _)) (Ev.now _);unfold de.f;rw [o9 s (by omega)];exact Ev.now _
theorem pS (m:Nat) (hm:m≤8) (r:Int) (z:0≤r) (h1:r≤m):Ev (fun k=>bu.f k r (m:Int)) ((m:Int),ints (cK m r)):=by
 have y:=dU hm;have hpos:0 < 2 ^ m:=Nat.pow_pos (by decide);have i1:bG.f (m:Int) 0 8 = some true:=by
  unfold bG.f;rw [if_pos (by omega),decide_eq_true (by omega)]
 have i2:bG.f r 0 (m:Int) = some true:=by
  unfold bG.f;rw [if_pos (by omega),decide_eq_true (by omega)]
 unfold bu.f;simp only [i1,i2,Option.bind_some,if_true,Bool.not_true];refine Ev.step (f:=fun k=>bu.l0 k r (m:Int) 0 (m:Int) []) (fun k=>?_) ?_
 ·simp only [bu.j0]
  rw [if_neg (by decide)]
 ·have e:ints (cK m r) = (List.range' 0 (2 ^ m)).foldl (fun (s:List Int) j=>if decide ((cnt j:Int) = r) = true then s ++ [(j:Int)] else s) []:=(foldl_filter _ _).symm
  rw [e];refine cU.ei (fun k (s:List Int) i=>bu.l0 k r (m:Int) i (m:Int) s) (2 ^ m) (fun i s=>if decide ((cnt i:Int) = r) = true then s ++ [(i:Int)] else s) (fun i s=>s.length≤i) _ (fun i s hi hP=>⟨?_,fun h=>?_⟩) (2 ^ m) 0 [] (by omega) (by simp) (fun _=>cU.di 1 (fun k hk=>?_))
  ·split
   ·simp;omega
   ·omega
  ·refine Ev.step (f:=fun k=>(aN.f k (i:Int)).bind fun t226=>(if t226 = r then (bu.l0 k r (m:Int) ((i+1:Nat):Int) (m:Int) (s ++ [(i:Int)])) else (bu.l0 k r (m:Int) ((i+1:Nat):Int) (m:Int) s))) (fun k=>?_) ?_
   ·simp only [bu.l0]
    rw [kL m hm];simp only [Option.bind_some];rw [if_pos (by omega),cU.dP i (by omega)];simp only [if_pos (show s.length < 17592186044416 by omega)]
   ·refine Ev.bind (iL i (by omega)) ?_
    by_cases hx:(cnt i:Int) = r
    ·rw [if_pos (decide_eq_true hx)] at h
     simp only [if_pos hx];exact h
    ·rw [if_neg (by rw [decide_eq_true_eq];exact hx)] at h
     simp only [if_neg hx];exact h
  ·obtain ⟨q,rfl⟩:∃ q,k = q+1:=⟨k - 1,by omega⟩
   simp only [bu.l0];rw [kL m hm];simp only [Option.bind_some];rw [if_neg (by omega)]
def da (q:List Nat) (x:Nat):List Int:=(List.range' 0 q.length).foldl (fun (s:List Int) i=>if x.testBit i = true then s ++ [((q.getD i 0:Nat):Int)] else s) []
theorem oo (q:List Nat) (x:Nat) (p:List Nat) (s:List Int):(p.foldl (fun (s:List Int) i=>if x.testBit i = true then s ++ [((q.getD i 0:Nat):Int)] else s) s).length≤s.length+p.length:=by
 induction p generalizing s with
 | nil=>simp
 | cons a p ih =>
  rw [List.foldl_cons];refine Nat.le_trans (ih _) ?_;split <;> simp <;> omega
theorem eU (q:List Nat) (x:Nat):(da q x).length≤q.length:=by
 have:=oo q x (List.range' 0 q.length) [];simpa [da] using this
theorem nJ (x i:Nat) (hi:i < 62) (hx:x < 2 ^ 62):(Go.bits .and .i64 (shr .i64 (x:Int) (i:Int)) 1 = 1) = (x.testBit i = true):=by
 rw [← lB x i hi hx,beq_iff_eq]
theorem qG (q:List Nat) (x:Nat) (hq:q.length≤32) (hx:x < 2 ^ 62):Ev (fun k=>bg.f k (ints q) (x:Int)) (da q x):=by
 unfold bg.f da;refine cU.ei (fun k (s:List Int) i=>bg.l0 k (ints q) (x:Int) s i) q.length (fun i s=>if x.testBit i = true then s ++ [((q.getD i 0:Nat):Int)] else s) (fun i s=>s.length≤i) _ (fun i s hi hP=>⟨?_,fun h=>Ev.step (fun k=>?_) h⟩) q.length 0 [] (by omega) (by simp) (fun _=>cU.di 1 (fun k hk=>?_))
 ·split
  ·simp;omega
  ·omega
 ·simp only [bg.l0]
  rw [if_pos (by rw [ay];omega),jE i (by omega),if_pos (by omega),dX,cU.dP i (by omega)];simp only [nJ x i (by omega) hx,if_pos (show (0:Int)≤(i:Int) by omega),if_pos (show s.length < 17592186044416 by omega)];split <;> rfl
 ·obtain ⟨n,rfl⟩:∃ n,k = n+1:=⟨k - 1,by omega⟩
  simp only [bg.l0];rw [if_neg (by rw [ay];omega)]
def total (m:Nat) (q:List Nat):List Nat:=(List.range' 1 (2 ^ q.length - 1)).filter fun x=>eP (m:Int) (da q x)
abbrev SM:=dA
theorem oq (m:Nat) (hm:m≤5) (r:Int) (y:0≤r) (h1:r≤m):Ev (fun k=>aA.f k (m:Int) r) ((total m (cK m r)).map fun x=>(⟨(m:Int),da (cK m r) x⟩:SM)):=by
 unfold aA.f;refine Ev.bind (pR m (by omega) r y h1) ?_;have hq:(cK m r).length≤32:=Nat.le_trans (fV m r) (Nat.pow_le_pow_right (n:=2) (by decide) hm);generalize cK m r = q at *;have hp:2 ^ q.length≤2 ^ 32:=Nat.pow_le_pow_right (by decide) hq;have z:1≤2 ^ q.length:=Nat.one_le_two_pow;have e:(total m q).map (fun x=>(⟨(m:Int),da q x⟩:SM)) = (List.range' 1 (2 ^ q.length - 1)).foldl (fun (s:List SM) x=>if eP (m:Int) (da q x) = true then s ++ [⟨(m:Int),da q x⟩] else s) []:=by
  unfold total;have:∀ (p:List Nat) (s:List SM),p.foldl (fun (s:List SM) x=>if eP (m:Int) (da q x) = true then s ++ [⟨(m:Int),da q x⟩] else s) s = s ++ (p.filter fun x=>eP (m:Int) (da q x)).map (fun x=>(⟨(m:Int),da q x⟩:SM)):=by
   intro p;induction p with
   | nil=>intro s;simp
   | cons a p ih =>
    intro s;rw [List.foldl_cons,ih];cases h:eP (m:Int) (da q a) <;> simp [h]
  rw [this,List.nil_append]
 rw [e];refine cU.ei (fun k (s:List SM) i=>aA.l0 k (m:Int) (ints q) s i) (2 ^ q.length) (fun x s=>if eP (m:Int) (da q x) = true then s ++ [⟨(m:Int),da q x⟩] else s) (fun i s=>s.length≤i) _ (fun x s hx hP=>⟨?_,fun h=>?_⟩) (2 ^ q.length - 1) 1 [] (by omega) (by simp) (fun _=>cU.di 1 (fun k hk=>?_))
 ·split
  ·simp;omega
  ·omega
 ·refine Ev.step (f:=fun k=>aA.l1 k (m:Int) (ints q) s (x:Int) (ints q) ((ints q).length:Int) 0 (m:Int) []) (fun k=>?_) ?_
  ·simp only [aA.l0]
   rw [ay,eT _ (by omega),if_pos (by omega)]
  ·refine cU.ei (fun k (u:List Int) i=>aA.l1 k (m:Int) (ints q) s (x:Int) (ints q) ((ints q).length:Int) i (m:Int) u) q.length (fun i u=>if x.testBit i = true then u ++ [((q.getD i 0:Nat):Int)] else u) (fun i u=>u.length≤i) _ (fun i u hi hU=>⟨?_,fun h=>Ev.step (fun k=>?_) h⟩) q.length 0 [] (by omega) (by simp) (fun hU=>?_)
   ·split
    ·simp;omega
    ·omega
   ·simp only [aA.l1]
    rw [if_pos (by rw [ay];omega),if_pos (by omega),if_pos (by rw [ay];omega),dX,cU.dP i (by omega)];simp only [nJ x i (by omega) (show x < 2 ^ 62 by omega),if_pos (show u.length < 17592186044416 by omega)];split <;> rfl
   ·refine Ev.step (f:=fun k=>(cP.f k (m:Int) (da q x)).bind fun j=>(if j = true then (aA.l0 k (m:Int) (ints q) (s ++ [(⟨(m:Int),da q x⟩:SM)]) ((x+1:Nat):Int)) else (aA.l0 k (m:Int) (ints q) s ((x+1:Nat):Int)))) (fun k=>?_) ?_
    ·simp only [aA.l1]
     rw [if_neg (by rw [ay];omega),cU.dP x (by omega)];simp only [if_pos (show s.length < 4398046511104 by omega)];rfl
    ·have hl:=eU q x
     refine Ev.bind (nC (m:Int) (da q x) (by omega)) ?_;cases hM:eP (m:Int) (da q x) with
     | true =>
      rw [hM] at h;simp only [if_true] at h ⊢;exact h
     | false =>
      rw [hM] at h;simp only [Bool.false_eq_true,if_false] at h ⊢;exact h
 ·obtain ⟨n,rfl⟩:∃ n,k = n+1:=⟨k - 1,by omega⟩
  simp only [aA.l0];rw [ay,eT _ (by omega),if_neg (by omega)]
def count (n r:Int):Int:=if 0≤n∧n≤5∧0≤r∧r≤n then ((total n.toNat (cK n.toNat r)).length:Int) else -1
end Count
end
section
namespace Find
open Go.RowKit Go.Proofs.YtlfkfdmggpipbaaGreat.Pr Go.Proofs.YtlfkfdmggpipbaaGreat.Sets oz j5 Go.Proofs.YtlfkfdmggpipbaaGreat.Flat oA Go.Proofs.YtlfkfdmggpipbaaGreat.Sort s6 n4 jm Go.Proofs.YtlfkfdmggpipbaaGreat.Count ag.b6 ag.cz ag.cA
set_option linter.unusedVariables false
theorem drop_eq {a b:List Int} {i:Nat} (hl:a.length = b.length) (h:i < a.length):(a.drop i = b.drop i)↔(a.getD i 0 = b.getD i 0∧a.drop (i+1) = b.drop (i+1)):=by
 rw [List.drop_eq_getElem_cons h,List.drop_eq_getElem_cons (show i < b.length by omega),List.cons.injEq];have j:a.getD i 0 = a[i]:=by simp [List.getD,h]
 have y:b.getD i 0 = b[i]:=by simp [List.getD,show i < b.length by omega]
 rw [j,y]
theorem kQ (a b:List Int) (hl:a.length = b.length) (hn:a.length≤1048576) (L:Nat→Int→Option Bool)
  (hstep:∀ k i,i < a.length→L (k+1) (i:Int) = if a.getD i 0 = b.getD i 0 then L k ((i+1:Nat):Int) else some false)
  (hend:∀ k,L (k+1) (a.length:Int) = some true):Ev (fun k=>L k 0) (decide (a = b)):=by
 have key:∀ d i:Nat,i+d = a.length→Ev (fun k=>L k (i:Int)) (decide (a.drop i = b.drop i)):=by
  intro d;induction d with
  | zero =>
   intro i hi;obtain rfl:i = a.length:=by omega
   rw [List.drop_length,hl,List.drop_length,decide_eq_true rfl,← hl];exact Ev.step (f:=fun _=>some true) (fun k=>hend k) (Ev.now _)
  | succ d ih =>
   intro i hi;have hlt:i < a.length:=by omega
   have hd:=drop_eq (i:=i) hl hlt;by_cases e:a.getD i 0 = b.getD i 0
   ·rw [show decide (a.drop i = b.drop i) = decide (a.drop (i+1) = b.drop (i+1)) by rw [decide_eq_decide,hd];exact ⟨fun h=>h.2,fun h=>⟨e,h⟩⟩]
    refine Ev.step (fun k=>?_) (ih (i+1) (by omega));rw [hstep k i hlt,if_pos e]
   ·rw [decide_eq_false (fun h=>e (hd.1 h).1)]
    refine Ev.step (f:=fun _=>some false) (fun k=>?_) (Ev.now _);rw [hstep k i hlt,if_neg e]
 have:=key a.length 0 (by omega);simpa using this
theorem rZ (n n':Int) (a b:List Int) (hn:a.length≤1048576):Ev (fun k=>cW.f k n a n' b) (decide (n = n') && decide (a = b)):=by
 unfold cW.f;by_cases e:n = n'
 ·simp only [if_pos e,decide_eq_true e,Bool.true_and]
  refine Ev.bind ?_ (Ev.now _);unfold bF.f;by_cases hl:a.length = b.length
  ·simp only [if_pos (show (a.length:Int) = (b.length:Int) by omega)]
   refine kQ a b hl hn (fun k i=>bF.l0 k a b (a.length:Int) i) (fun k i hi=>?_) (fun k=>?_)
   ·simp only [bF.l0]
    rw [if_pos (by omega),if_pos (by omega),if_pos (by omega),if_pos (by omega),cU.dI,cU.dI,cU.dP i (by omega)]
   ·simp only [bF.l0]
    rw [if_neg (by omega)]
  ·simp only [if_neg (show ¬ (a.length:Int) = (b.length:Int) by omega)]
   rw [decide_eq_false (fun h=>hl (by rw [h]))];exact Ev.now _
 ·simp only [if_neg e,decide_eq_false e,Bool.false_and]
  exact Ev.now _
theorem pT (n n':Int) (a b:List Int) (hn:a.length≤1048576):Ev (fun k=>aK.f k n a n' b) (decide (n = n') && decide (a = b)):=by
 unfold aK.f;by_cases e:n = n'
 ·simp only [if_pos e,decide_eq_true e,Bool.true_and]
  by_cases hl:a.length = b.length
  ·refine Ev.step (f:=fun k=>aK.l0 k 0 n a n' b) (fun k=>?_) ?_
   ·simp only [aK.j0]
    rw [if_neg (by simp;omega)]
   ·refine kQ a b hl hn (fun k i=>aK.l0 k i n a n' b) (fun k i hi=>?_) (fun k=>?_)
    ·simp only [aK.l0]
     rw [if_pos (by omega),if_pos (by omega),if_pos (by omega),cU.dI,cU.dI,cU.dP i (by omega)]
    ·simp only [aK.l0]
     rw [if_neg (by omega)]
  ·rw [decide_eq_false (fun h=>hl (by rw [h]))]
   refine Ev.step (f:=fun _=>some false) (fun k=>?_) (Ev.now _);simp only [aK.j0];rw [if_pos (by simp;omega)]
 ·simp only [if_neg e,decide_eq_false e,Bool.false_and]
  refine Ev.step (f:=fun _=>some false) (fun k=>?_) (Ev.now _);simp only [aK.j0];rw [if_pos (by trivial)]
end Find
end
section
namespace Canon
open Go.RowKit Go.Proofs.YtlfkfdmggpipbaaGreat.Pr Go.Proofs.YtlfkfdmggpipbaaGreat.Sets oz j5 Go.Proofs.YtlfkfdmggpipbaaGreat.Flat Go.Proofs.YtlfkfdmggpipbaaGreat.Sort s6 n4 jm iD ag.b6 ag.cz ag.cA
set_option linter.unusedVariables false
abbrev KM:=dA
theorem nK (f:Nat→Int) (p:Nat→Bool):∀ (q:List Nat) (s:List Int),q.foldl (fun (s:List Int) i=>if p i = true then s ++ [f i] else s) s = s ++ (q.filter p).map f
 | [],s=>by simp
 | a :: q,s=>by
  rw [List.foldl_cons,nK f p q];cases h:p a <;> simp [h]
theorem pU (q:List Nat) (x:Nat):Count.da q x = ((List.range' 0 q.length).filter fun i=>x.testBit i).map fun i=>((q.getD i 0:Nat):Int):=by
 unfold Count.da;rw [nK (fun i=>((q.getD i 0:Nat):Int)) (fun i=>x.testBit i),List.nil_append]
theorem qH {q:List Nat} {x:Nat} {v:Int} (h:v∈Count.da q x):∃ s∈q,v = (s:Int):=by
 rw [pU] at h;obtain ⟨i,hi,rfl⟩:=List.mem_map.1 h;have:=List.mem_range'_1.1 (List.mem_filter.1 hi).1;exact ⟨_,ek q 0 i (by omega),rfl⟩
theorem nL {q:List Nat} (hq:q.Nodup) {x j:Nat} (hj:j < q.length):((q.getD j 0:Nat):Int)∈Count.da q x↔x.testBit j = true:=by
 rw [pU,List.mem_map];constructor
 ·rintro ⟨i,hi,h⟩
  have h1:=List.mem_filter.1 hi;have h2:=List.mem_range'_1.1 h1.1;have h3:q.getD i 0 = q.getD j 0:=by omega
  rw [List.getD_eq_getElem?_getD,List.getD_eq_getElem?_getD,List.getElem?_eq_getElem (by omega:i < q.length),List.getElem?_eq_getElem hj] at h3;have h4:i = j:=(List.getElem_inj hq).1 h3;rw [← h4];exact h1.2
 ·intro h
  exact ⟨j,List.mem_filter.2 ⟨List.mem_range'_1.2 ⟨Nat.zero_le _,by omega⟩,h⟩,rfl⟩
theorem nM {q:List Nat} (hq:q.Nodup) {x y:Nat} (hx:x < 2 ^ q.length) (hy:y < 2 ^ q.length) (h:Count.da q x = Count.da q y):x = y:=by
 apply Nat.eq_of_testBit_eq
 intro j;by_cases hj:j < q.length
 ·rw [Bool.eq_iff_iff,← nL hq hj,← nL hq hj,h]
 ·rw [gF hx (by omega),gF hy (by omega)]
theorem ki (m:Nat) (r:Int):(Count.cK m r).Pairwise (· < ·):=(kN _ _).filter _
theorem ot {m:Nat} {r:Int} {s:Nat} (h:s∈Count.cK m r):s < 2 ^ m∧(cnt s:Int) = r:=by
 unfold Count.cK at h;have h1:=List.mem_filter.1 h;have h2:=List.mem_range'_1.1 h1.1;exact ⟨by omega,of_decide_eq_true h1.2⟩
theorem ou {α σ:Type} (z:α) (f:σ→α→σ):∀ (L:List α) (s:σ),(List.range' 0 L.length).foldl (fun s i=>f s (L.getD i z)) s = L.foldl f s:=by
 intro L;have key:∀ (d i:Nat) (s:σ),i+d = L.length→(List.range' i d).foldl (fun s i=>f s (L.getD i z)) s = (L.drop i).foldl f s:=by
  intro d;induction d with
  | zero =>
   intro i s hi;rw [List.drop_eq_nil_of_le (by omega)];rfl
  | succ d ih =>
   intro i s hi;rw [List.range'_succ,List.foldl_cons,ih (i+1) _ (by omega),List.drop_eq_getElem_cons (by omega:i < L.length),List.foldl_cons,List.getD_eq_getElem?_getD,List.getElem?_eq_getElem (by omega)];rfl
 intro s;rw [key L.length 0 s (by omega),List.drop_zero]
theorem kj {α:Type} (p:α→Bool):∀ (L s:List α),L.foldl (fun s e=>if p e = true then s ++ [e] else s) s = s ++ L.filter p
 | [],s=>by simp
 | e :: L,s=>by
  rw [List.foldl_cons,kj p L];cases h:p e <;> simp [h]
def iy (a:KM):List KM→List KM
 | []=>[a]
 | e :: S=>if dN a.f1 e.f1 < 0 then a :: e :: S else e :: iy a S
theorem ir (a:KM):∀ S:List KM,(iy a S).Perm (a :: S)
 | []=>List.Perm.refl _
 | e :: S=>by
  unfold iy;split
  ·exact List.Perm.refl _
  ·exact ((ir a S).cons e).trans (List.Perm.swap a e S)
theorem jv (a:KM):∀ S:List KM,S.Pairwise (fun x y=>dN x.f1 y.f1 < 0)→(∀ e∈S,e.f1≠a.f1)→(iy a S).Pairwise (fun x y=>dN x.f1 y.f1 < 0)
 | [],_,_=>List.pairwise_singleton _ _
 | e :: S,h,hne=>by
  obtain ⟨h1,h2⟩:=List.pairwise_cons.1 h;unfold iy;by_cases hlt:dN a.f1 e.f1 < 0
  ·rw [if_pos hlt]
   refine List.pairwise_cons.2 ⟨fun y hy=>?_,h⟩;rcases List.mem_cons.1 hy with rfl | hy
   ·exact hlt
   ·exact gC _ _ _ hlt (h1 y hy)
  ·rw [if_neg hlt]
   have hea:dN e.f1 a.f1 < 0:=by
    have h3:=fe e.f1 a.f1;have h4:dN e.f1 a.f1≠0:=fun h5=>hne e List.mem_cons_self (iU _ _ h5)
    omega
   refine List.pairwise_cons.2 ⟨fun y hy=>?_,jv a S h2 fun x hx=>hne x (List.mem_cons_of_mem _ hx)⟩;rcases List.mem_cons.1 ((ir a S).mem_iff.1 hy) with rfl | hy
   ·exact hea
   ·exact h1 y hy
theorem mA:∀ (L S:List KM),(L.map fun x=>x.f1).Nodup→(∀ e∈S,∀ x∈L,e.f1≠x.f1)→S.Pairwise (fun x y=>dN x.f1 y.f1 < 0)→(L.foldl (fun S a=>iy a S) S).Pairwise (fun x y=>dN x.f1 y.f1 < 0)∧(L.foldl (fun S a=>iy a S) S).Perm (L ++ S)
 | [],S,_,_,hS=>⟨hS,List.Perm.refl _⟩
 | a :: L,S,hn,hd,hS=>by
  rw [List.map_cons,List.nodup_cons] at hn;have hins:=jv a S hS fun e he=>hd e he a List.mem_cons_self
  have hp:=ir a S;rw [List.foldl_cons];obtain ⟨h1,h2⟩:=mA L (iy a S) hn.2 (fun e he x hx=>by
   rcases List.mem_cons.1 (hp.mem_iff.1 he) with rfl | he
   ·exact fun h=>hn.1 (by rw [h];exact List.mem_map_of_mem hx)
   ·exact hd e he x (List.mem_cons_of_mem _ hx)) hins
  refine ⟨h1,h2.trans ?_⟩;exact (hp.append_left L).trans List.perm_middle
theorem ov {m:Int} {L:List KM} (hn:(L.map fun x=>x.f1).Nodup) (I:∀ e∈L,e.f0 = m):L.foldl (fun S a=>iy a S) [] = gq L:=by
 obtain ⟨h1,h2⟩:=mA L [] hn (fun e he=>absurd he List.not_mem_nil) List.Pairwise.nil;rw [List.append_nil] at h2;have h3:(gq L).Perm L:=List.mergeSort_perm _ _;have h4:(gq L).Pairwise (fun x y=>(!decide (dN y.f1 x.f1 < 0)) = true):=by
  refine List.pairwise_mergeSort (fun x y z hxy hyz=>?_) (fun x y=>?_) L
  ·simp only [Bool.not_eq_true',decide_eq_false_iff_not] at *
   intro hzx;have j:=fe x.f1 y.f1;by_cases he:dN x.f1 y.f1 = 0
   ·rw [iU _ _ he] at hzx
    exact hyz hzx
   ·exact hyz (gC _ _ _ hzx (by omega))
  ·have j:=fe x.f1 y.f1
   simp only [Bool.or_eq_true,Bool.not_eq_true',decide_eq_false_iff_not];omega
 refine List.Perm.eq_of_pairwise (le:=fun x y:KM=>(!decide (dN y.f1 x.f1 < 0)) = true) ?_ ?_ h4 (h2.trans h3.symm)
 ·intro a b ha hb hab hba
  simp only [Bool.not_eq_true',decide_eq_false_iff_not] at hab hba;have j:=fe a.f1 b.f1;have J:=iU a.f1 b.f1 (by omega);have M:=I a (h2.mem_iff.1 ha);have U:=I b (h3.mem_iff.1 hb);cases a
  cases b
  simp only at J M U;rw [J,M,U]
 ·refine h1.imp fun {x y} h=>?_
  have j:=fe x.f1 y.f1;simp only [Bool.not_eq_true',decide_eq_false_iff_not];omega
theorem pV (a b:List Int) (ha:a.length≤1048576) (hb:b.length≤1048576):wrap64 ((a.length:Int) - (b.length:Int)) = (a.length:Int) - (b.length:Int):=cU.qW (by omega) (by omega)
theorem ow (a b:KM) (ha:a.f1.length≤1048576) (hb:b.f1.length≤1048576):Ev (fun k=>cB.f k a.f0 a.f1 b.f0 b.f1) (dN a.f1 b.f1):=by
 unfold cB.f;refine Ev.bind ?_ (Ev.now _);unfold bZ.f dN;by_cases hl:a.f1.length = b.f1.length
 ·simp only [if_pos hl,if_pos (show (a.f1.length:Int) = (b.f1.length:Int) by omega)]
  exact Ev.bind (nH _ _ ha hb) (Ev.now _)
 ·simp only [if_neg hl,if_neg (show ¬ (a.f1.length:Int) = (b.f1.length:Int) by omega)]
  rw [pV _ _ ha hb];exact Ev.now _
theorem sO {L:List KM} (hl:∀ e∈L,e.f1.length≤1048576) (hn:(L.map fun x=>x.f1).Nodup) (hlen:L.length < 4398046511104):Ev (fun k=>pb k L) (gq L):=by
 obtain ⟨K,hK⟩:=mZ (fun (p:KM×KM) k=>cB.f k p.1.f0 p.1.f1 p.2.f0 p.2.f1) (fun p=>dN p.1.f1 p.2.f1) (L.flatMap fun x=>L.map fun y=>(x,y)) (fun p hp=>by
  obtain ⟨x,hx,hp⟩:=List.mem_flatMap.1 hp;obtain ⟨y,hy,rfl⟩:=List.mem_map.1 hp;exact ow x y (hl x hx) (hl y hy))
 refine ⟨K,fun k hk=>?_⟩;have hok:q7 k L = true:=by
  unfold q7;rw [Bool.and_eq_true];refine ⟨List.all_eq_true.2 fun x hx=>List.all_eq_true.2 fun y hy=>?_,decide_eq_true hn⟩;exact decide_eq_true (hK (x,y) (List.mem_flatMap.2 ⟨x,hx,List.mem_map.2 ⟨y,hy,rfl⟩⟩) k hk)
 show pb k L = some (gq L);unfold pb;rw [if_pos hlen,if_pos hok]
def kp (m:Nat) (e:KM):Bool:=decide (canon m (e.f1.map Int.toNat) = e.f1)
def n2 (m:Nat) (q:List Nat) (x:Nat):KM:=⟨(m:Int),Count.da q x⟩
def gv (m:Nat) (q:List Nat) (x:Nat):Bool:=eP (m:Int) (Count.da q x) && kp m (n2 m q x)
def jl (m:Nat) (q:List Nat):List KM:=((List.range' 1 (2 ^ q.length - 1)).filter (gv m q)).map (n2 m q)
def pW (m:Nat) (r:Int):List KM:=gq (jl m (Count.cK m r))
theorem kR (m:Nat) (q:List Nat):((Count.total m q).map (n2 m q)).filter (kp m) = jl m q:=by
 unfold jl Count.total;rw [List.filter_map,List.filter_filter];congr 1
 refine List.filter_congr fun x _=>?_
 unfold gv;rw [Bool.and_comm];rfl
theorem pX {q:List Nat} (hq:q.length≤32):2 ^ q.length≤4294967296:=Nat.pow_le_pow_right (n:=2) (by decide) hq
theorem qI (m:Nat) {q:List Nat} (hq:q.length≤32):(jl m q).length < 4398046511104:=by
 unfold jl;have h1:=pX hq;have h2:=List.length_filter_le (gv m q) (List.range' 1 (2 ^ q.length - 1));rw [List.length_range'] at h2;rw [List.length_map];omega
theorem s4 (m:Nat) {q:List Nat} (hq:q.length≤32):∀ e∈jl m q,e.f1.length≤1048576:=fun e he=>by
 unfold jl at he;obtain ⟨x,_,rfl⟩:=List.mem_map.1 he;have:=Count.eU q x;show (Count.da q x).length≤1048576;omega
theorem s5 (m:Nat) (q:List Nat):∀ e∈jl m q,e.f0 = (m:Int):=fun e he=>by
 unfold jl at he;obtain ⟨x,_,rfl⟩:=List.mem_map.1 he;rfl
theorem kS {α β:Type} {f:α→β}:∀ {L:List α},L.Nodup→(∀ a∈L,∀ b∈L,f a = f b→a = b)→(L.map f).Nodup
 | [],_,_=>List.nodup_nil
 | a :: L,hn,hi=>by
  rw [List.nodup_cons] at hn;rw [List.map_cons,List.nodup_cons];refine ⟨fun hm=>?_,kS hn.2 fun x hx y hy=>hi x (List.mem_cons_of_mem _ hx) y (List.mem_cons_of_mem _ hy)⟩;obtain ⟨b,hb,he⟩:=List.mem_map.1 hm;have:=hi b (List.mem_cons_of_mem _ hb) a List.mem_cons_self he;rw [this] at hb;exact hn.1 hb
theorem kT (m:Nat) {q:List Nat} (hq:q.Nodup):((jl m q).map fun x=>x.f1).Nodup:=by
 unfold jl;rw [List.map_map];refine kS ((iq (kN _ _)).filter _) fun a ha b hb h=>?_
 have h1:=List.mem_range'_1.1 (List.mem_filter.1 ha).1;have h2:=List.mem_range'_1.1 (List.mem_filter.1 hb).1;have hp:=Nat.one_le_two_pow (n:=q.length);exact nM hq (by omega) (by omega) h
theorem qZ (n r:Int):dr.f n r = some (decide (0≤n∧n≤5∧0≤r∧r≤n)):=by
 unfold dr.f;by_cases a:n≥0
 ·by_cases b:n≤5
  ·by_cases c:r≥0
   ·rw [if_pos a,if_pos b,if_pos c]
    congr 1
    rw [decide_eq_decide];omega
   ·rw [if_pos a,if_pos b,if_neg c,decide_eq_false (by omega)]
  ·rw [if_pos a,if_neg b,decide_eq_false (by omega)]
 ·rw [if_neg a,decide_eq_false (by omega)]
theorem qJ (m:Nat) (hm:m≤5) (r:Int) (U:0≤r) (h1:r≤m):Ev (fun k=>bh.f k (m:Int) r) (pW m r):=by
 have hq:(Count.cK m r).length≤32:=Nat.le_trans (Count.fV m r) (Nat.pow_le_pow_right (n:=2) (by decide) hm);have z:=iq (ki m r);unfold bh.f;simp only [qZ,Option.bind_some,decide_eq_true (show 0≤(m:Int)∧(m:Int)≤5∧0≤r∧r≤(m:Int) by omega),if_true];refine Ev.bind (Count.oq m hm r U h1) ?_;have y:pW m r = gq (((Count.total m (Count.cK m r)).map (n2 m (Count.cK m r))).filter (kp m)):=by
  rw [kR];rfl
 have hsel:=kR m (Count.cK m r);have hsl:=qI m hq;have hsf:=s4 m hq;have hsn:=kT m z;rw [← hsel] at hsl hsf hsn;rw [y];show Ev (fun k=>bh.l0 k [] ((Count.total m (Count.cK m r)).map (n2 m (Count.cK m r))) (((Count.total m (Count.cK m r)).map (n2 m (Count.cK m r))).length:Int) 0) _;have hL:∀ e∈(Count.total m (Count.cK m r)).map (n2 m (Count.cK m r)),e.f0 = (m:Int)∧eP (m:Int) e.f1 = true∧e.f1.length≤1048576:=fun e he=>by
  obtain ⟨x,hx,rfl⟩:=List.mem_map.1 he;unfold Count.total at hx;have:=Count.eU (Count.cK m r) x;refine ⟨rfl,(List.mem_filter.1 hx).2,?_⟩;show (Count.da (Count.cK m r) x).length≤1048576;omega
 have X:((Count.total m (Count.cK m r)).map (n2 m (Count.cK m r))).length≤4294967296:=by
  rw [List.length_map];unfold Count.total;refine Nat.le_trans (List.length_filter_le _ _) ?_;rw [List.length_range'];have:=pX hq;omega
 generalize (Count.total m (Count.cK m r)).map (n2 m (Count.cK m r)) = L at *;have hz:∀ i,aG L (i:Nat) = L.getD i z37:=fun i=>rfl
 refine cU.ei (fun k (s:List KM) i=>bh.l0 k s L (L.length:Int) i) L.length (fun i s=>if kp m (L.getD i z37) = true then s ++ [L.getD i z37] else s) (fun i s=>s.length≤i) _ (fun i s hi hP=>⟨?_,fun h=>?_⟩) L.length 0 [] (by omega) (by simp) (fun hP=>?_)
 ·split
  ·simp;omega
  ·omega
 ·obtain ⟨e,he⟩:∃ e,L.getD i z37 = e:=⟨_,rfl⟩
  have hmem:e∈L:=by
   rw [← he];exact ek L _ i hi
  obtain ⟨I,a2,a3⟩:=hL e hmem;rw [he] at h;have hcan:=oh e.f0 e.f1 a3 (by omega);unfold jk at hcan;rw [I,if_pos a2,Int.toNat_natCast] at hcan;have j:(canon m (e.f1.map Int.toNat)).length≤1048576:=by
   obtain ⟨m',lN,e1,hm',J,M,h0',hf⟩:=iW a2;have Y:m' = m:=by omega
   subst Y;rw [J,fb,(gG (by omega) M (j6.ik (by rw [← J];exact a2)) h0').2];rw [J,ay] at a3;exact a3
  have heq:=Find.rZ (m:Int) (m:Int) (canon m (e.f1.map Int.toNat)) e.f1 j;rw [decide_eq_true rfl,Bool.true_and] at heq;refine Ev.step (f:=fun k=>(ct.f k (m:Int) e.f1).bind fun bt=>(cW.f k bt.1 bt.2.1 (m:Int) e.f1).bind fun t=>(if t = true then bh.l0 k (s ++ [e]) L (L.length:Int) ((i+1:Nat):Int) else bh.l0 k s L (L.length:Int) ((i+1:Nat):Int))) (fun k=>?_) (Ev.bind hcan (Ev.bind heq ?_))
  ·simp only [bh.l0]
   rw [if_pos (by omega),if_pos (by omega),if_pos (by omega),hz,he,I,cU.dP i (by omega)];simp only [if_pos (show s.length < 4398046511104 by omega)];have ee:(⟨(m:Int),e.f1⟩:KM) = e:=by rw [← I]
   rw [ee]
  ·by_cases hk:kp m e = true
   ·rw [if_pos hk] at h
    exact Ev.congr (fun k=>if_pos hk) h
   ·rw [if_neg hk] at h
    exact Ev.congr (fun k=>if_neg hk) h
 ·rw [ou z37 (fun s e=>if kp m e = true then s ++ [e] else s) L [],kj,List.nil_append] at hP ⊢
  refine Ev.step (fun k=>?_) (sO hsf hsn hsl);simp only [bh.l0];rw [if_neg (by omega)]
theorem qK (n n':Int) (a b:List Int) (s t:Nat) (j:0 < a.length) (y:0 < b.length) (ha:a.length≤1048576) (hb:b.length≤1048576) (has:a.getD 0 0 = (s:Int)) (hbt:b.getD 0 0 = (t:Int)) (hs:s < 256) (ht:t < 256) (hc:cnt s = cnt t):Ev (fun k=>cO.f k n a n' b) (decide (dN a b < 0)):=by
 have z:rd a 0 = (s:Int):=has;have I:rd b 0 = (t:Int):=hbt;unfold cO.f;refine Ev.congr (fun k=>if_pos (by omega)) ?_;rw [z,I];refine Ev.bind (iL s hs) (Ev.congr (fun k=>if_pos (by omega)) (Ev.bind (iL t ht) (Ev.congr (fun k=>if_pos (by rw [hc])) (Ev.bind (kg a b ha hb) (Ev.now _)))))
theorem pY (n:Int) (l:List Int) (hl:l.length≤1048576):cv.f n l = some (n,l):=by
 unfold cv.f;simp only [Option.bind_some,List.nil_append];rw [if_pos (by simp;omega)]
theorem qL (a:KM) (S:List KM) (hS:S.length≤4294967296) (ha:a.f1.length≤1048576) (hne:∀ e∈S,e.f1≠a.f1) (hl:∀ e∈S,e.f1.length≤1048576) (hB:∀ e∈S,Ev (fun k=>cO.f k a.f0 a.f1 e.f0 e.f1) (decide (dN a.f1 e.f1 < 0))):Ev (fun k=>aC.f k S a.f0 a.f1) (iy a S):=by
 have hz:∀ i,aG S (i:Nat) = S.getD i z37:=fun i=>rfl
 have key:∀ d i:Nat,i+d = S.length→(∀ out:List KM,out.length≤i+1→Ev (fun k=>aC.l0 k S out true (i:Int) a.f0 a.f1) (out ++ S.drop i))∧(∀ out:List KM,out.length≤i→Ev (fun k=>aC.l0 k S out false (i:Int) a.f0 a.f1) (out ++ iy a (S.drop i))):=by
  intro d;induction d with
  | zero =>
   intro i hi;rw [List.drop_eq_nil_of_le (by omega)];refine ⟨fun out ho=>cU.di 1 fun k hk=>?_,fun out ho=>cU.di 1 fun k hk=>?_⟩
   ·obtain ⟨m,rfl⟩:∃ m,k = m+1:=⟨k - 1,by omega⟩
    simp only [aC.l0];rw [if_neg (by omega),if_pos trivial,List.append_nil]
   ·obtain ⟨m,rfl⟩:∃ m,k = m+1:=⟨k - 1,by omega⟩
    simp only [aC.l0];rw [if_neg (by omega),if_neg Bool.false_ne_true,pY _ _ ha,Option.bind_some,if_pos (by omega)];rfl
  | succ d ih =>
   intro i hi;obtain ⟨h1,h2⟩:=ih (i+1) (by omega);obtain ⟨e,he⟩:∃ e,S.getD i z37 = e:=⟨_,rfl⟩
   have hmem:e∈S:=by
    rw [← he];exact ek S _ i (by omega)
   have hd:S.drop i = e :: S.drop (i+1):=by
    rw [List.drop_eq_getElem_cons (by omega:i < S.length),← he,List.getD_eq_getElem?_getD,List.getElem?_eq_getElem (by omega)];rfl
   have heq:=Find.pT e.f0 a.f0 e.f1 a.f1 (hl e hmem);rw [decide_eq_false (hne e hmem),Bool.and_false] at heq;rw [hd];have st:∀ (out:List KM) (b:Bool) (r:List KM),Ev (fun k=>aC.j1 k S out b (i:Int) a.f0 a.f1) r→Ev (fun k=>aC.l0 k S out b (i:Int) a.f0 a.f1) r:=fun out b r h=>by
    refine Ev.step (f:=fun k=>(aK.f k e.f0 e.f1 a.f0 a.f1).bind fun t=>(if t = true then (aC.j1 k S out true (i:Int) a.f0 a.f1) else (aC.j1 k S out b (i:Int) a.f0 a.f1))) (fun k=>?_) (Ev.bind heq (Ev.congr (fun k=>if_neg Bool.false_ne_true) h));simp only [aC.l0];rw [if_pos (by omega),if_pos (by omega),hz,he]
   refine ⟨fun out ho=>st _ _ _ ?_,fun out ho=>st _ _ _ ?_⟩
   ·have h3:=h1 (out ++ [e]) (by simp;omega)
    rw [List.append_assoc] at h3;refine Ev.step (fun k=>?_) h3;simp only [aC.j1];rw [if_pos trivial,if_pos (by omega),if_pos (by omega),if_pos (by omega),hz,he,cU.dP i (by omega)]
   ·have hb:=hB e hmem
    unfold iy;by_cases hlt:dN a.f1 e.f1 < 0
    ·rw [if_pos hlt]
     have h3:=h1 ((out ++ [a]) ++ [e]) (by simp;omega);rw [List.append_assoc,List.append_assoc] at h3;refine Ev.step (f:=fun k=>(cO.f k a.f0 a.f1 e.f0 e.f1).bind fun t=>(if t = true then (aC.l0 k S ((out ++ [a]) ++ [e]) true ((i+1:Nat):Int) a.f0 a.f1) else (aC.l0 k S (out ++ [e]) false ((i+1:Nat):Int) a.f0 a.f1))) (fun k=>?_) (Ev.bind hb (Ev.congr (fun k=>if_pos (decide_eq_true hlt)) (by simpa only [List.append_assoc,List.cons_append,List.nil_append] using h3)));simp only [aC.j1];rw [if_neg Bool.false_ne_true,if_pos (by omega),if_pos (by omega),hz,he,cU.dP i (by omega),pY _ _ ha];simp only [Option.bind_some,if_pos (show out.length < 4398046511104 by omega),if_pos (show (out ++ [a]).length < 4398046511104 by simp;omega)]
    ·rw [if_neg hlt]
     have h3:=h2 (out ++ [e]) (by simp;omega);rw [List.append_assoc] at h3;refine Ev.step (f:=fun k=>(cO.f k a.f0 a.f1 e.f0 e.f1).bind fun t=>(if t = true then (aC.l0 k S ((out ++ [a]) ++ [e]) true ((i+1:Nat):Int) a.f0 a.f1) else (aC.l0 k S (out ++ [e]) false ((i+1:Nat):Int) a.f0 a.f1))) (fun k=>?_) (Ev.bind hb (Ev.congr (fun k=>if_neg (by rw [decide_eq_false hlt];decide)) h3));simp only [aC.j1];rw [if_neg Bool.false_ne_true,if_pos (by omega),if_pos (by omega),hz,he,cU.dP i (by omega),pY _ _ ha];simp only [Option.bind_some,if_pos (show out.length < 4398046511104 by omega),if_pos (show (out ++ [a]).length < 4398046511104 by simp;omega)]
 have h:=(key S.length 0 (by omega)).2 [] (by simp);rw [List.drop_zero,List.nil_append] at h;unfold aC.f;exact h
end Canon
end
section
namespace Canon
open Go.RowKit Go.Proofs.YtlfkfdmggpipbaaGreat.Pr Go.Proofs.YtlfkfdmggpipbaaGreat.Sets oz j5 Go.Proofs.YtlfkfdmggpipbaaGreat.Flat oA Go.Proofs.YtlfkfdmggpipbaaGreat.Sort s6 n4 jm iD ag.b6 ag.cz ag.cA
set_option linter.unusedVariables false
theorem ox {m:Nat} (hm:m≤8) {r:Int} {x:Nat} (hM:eP (m:Int) (Count.da (Count.cK m r) x) = true):0 < (Count.da (Count.cK m r) x).length∧∃ s:Nat,(Count.da (Count.cK m r) x).getD 0 0 = (s:Int)∧s < 256∧(cnt s:Int) = r:=by
 have hp:2 ^ m≤2 ^ 8:=Nat.pow_le_pow_right (by decide) hm;have j:0 < (Count.da (Count.cK m r) x).length:=by
  obtain ⟨m',y,_,_,e,_,j,_⟩:=iW hM;rw [e,ay];exact j
 obtain ⟨s,hs,he⟩:=qH (ek (Count.da (Count.cK m r) x) 0 0 j);obtain ⟨h1,h2⟩:=ot hs;exact ⟨j,s,he,by omega,h2⟩
theorem pZ (m:Nat) (q:List Nat):(List.range' 1 (2 ^ q.length - 1)).foldl (fun (S:List KM) x=>if gv m q x = true then iy (n2 m q x) S else S) [] = (jl m q).foldl (fun S a=>iy a S) []:=by
 unfold jl;rw [List.foldl_map,Act.k7]
theorem sS (a b c:Int):bG.f a b c = some (decide (b≤a∧a≤c)):=by
 unfold bG.f;by_cases h:a≥b
 ·rw [if_pos h]
  congr 1
  rw [decide_eq_decide];omega
 ·rw [if_neg h,decide_eq_false (by omega)]
theorem qM (m:Nat) (hm:m≤5) (r:Int) (h0:0≤r) (h1:r≤m):Ev (fun k=>aD.f k (m:Int) r) (pW m r):=by
 have hq:(Count.cK m r).length≤32:=Nat.le_trans (Count.fV m r) (Nat.pow_le_pow_right (n:=2) (by decide) hm);have Y:=iq (ki m r);have a0:pW m r = (List.range' 1 (2 ^ (Count.cK m r).length - 1)).foldl (fun (S:List KM) x=>if gv m (Count.cK m r) x = true then iy (n2 m (Count.cK m r) x) S else S) []:=by
  rw [pZ,ov (kT m Y) (s5 m _)];rfl
 unfold aD.f;simp only [Option.bind_some,sS,decide_eq_true (show (0:Int)≤m∧(m:Int)≤5 by omega),decide_eq_true (show 0≤r∧r≤(m:Int) by omega),if_true,Bool.not_true];refine Ev.step (f:=fun k=>(ec.f k (m:Int) r).bind fun t=>aD.l0 k (m:Int) [] t 1) (fun k=>?_) (Ev.bind (a:=ints (Count.cK m r)) ?_ ?_)
 ·simp only [aD.j0]
  rw [if_neg Bool.false_ne_true]
 ·unfold ec.f
  exact Ev.bind (Count.pS m (by omega) r h0 h1) (Ev.now _)
 ·rw [a0]
  have hfirst:=fun (x:Nat)=>ox (m:=m) (r:=r) (by omega) (x:=x)
  generalize Count.cK m r = q at *;have hp:=pX hq;have a9:=Nat.one_le_two_pow (n:=q.length);have hsh:shl .i64 1 (IntKind.u64.wrap ((ints q).length:Int)) = ((2 ^ q.length:Nat):Int):=by
   rw [ay,jE _ (by omega),eT _ (by omega)]
  have hu:(0:Int)≤IntKind.u64.wrap ((ints q).length:Int):=by
   rw [ay,jE _ (by omega)];omega
  refine cU.ei (fun k (S:List KM) i=>aD.l0 k (m:Int) S (ints q) i) (2 ^ q.length) (fun x S=>if gv m q x = true then iy (n2 m q x) S else S) (fun i S=>S.length≤i∧∀ e∈S,∃ y,y < i∧gv m q y = true∧e = n2 m q y) _ (fun x S hx hP=>⟨?_,fun h=>?_⟩) (2 ^ q.length - 1) 1 [] (by omega) ⟨by simp,fun e he=>absurd he List.not_mem_nil⟩ (fun hP=>?_)
  ·split
   ·next hk =>
    have hpm:=ir (n2 m q x) S;refine ⟨by rw [hpm.length_eq,List.length_cons];have:=hP.1;omega,fun e he=>?_⟩;rcases List.mem_cons.1 (hpm.mem_iff.1 he) with rfl | he
    ·exact ⟨x,by omega,hk,rfl⟩
    ·obtain ⟨y,hy,h2⟩:=hP.2 e he
     exact ⟨y,by omega,h2⟩
   ·refine ⟨by have:=hP.1;omega,fun e he=>?_⟩
    obtain ⟨y,hy,h2⟩:=hP.2 e he;exact ⟨y,by omega,h2⟩
  ·have hfl:=Count.eU q x
   have aa:=hP.1;refine Ev.step (f:=fun k=>(bg.f k (ints q) (x:Int)).bind fun z=>((cq.f k (m:Int) z).bind fun J=>(if J = true then ((bW.f k (m:Int) z).bind fun I=>((aK.f k I.1 I.2.1 (m:Int) z).bind fun M=>(if M = true then ((aC.f k S (m:Int) z).bind fun U=>(aD.l0 k (m:Int) U (ints q) ((x+1:Nat):Int))) else (aD.l0 k (m:Int) S (ints q) ((x+1:Nat):Int))))) else (aD.l0 k (m:Int) S (ints q) ((x+1:Nat):Int))))) (fun k=>?_) (Ev.bind (Count.qG q x hq (by omega)) (Ev.bind (nD (m:Int) (Count.da q x) (by omega)) ?_))
   ·simp only [aD.l0]
    rw [if_pos hu,hsh,if_pos (by omega),cU.dP x (by omega)]
   ·cases hM:eP (m:Int) (Count.da q x) with
    | false =>
     have hk:gv m q x = false:=by
      unfold gv;rw [hM,Bool.false_and]
     rw [hk,if_neg Bool.false_ne_true] at h;exact Ev.congr (fun k=>if_neg Bool.false_ne_true) h
    | true =>
     have hcan:=om (m:Int) (Count.da q x) (by omega) (by omega);unfold jk at hcan;rw [if_pos hM,Int.toNat_natCast] at hcan;have X:(canon m ((Count.da q x).map Int.toNat)).length≤1048576:=by
      obtain ⟨m',lN,e1,hm',e2,a1,h0',hf⟩:=iW hM;have e3:m' = m:=by omega
      subst e3;rw [e2,fb,(gG (by omega) a1 (j6.ik (by rw [← e2];exact hM)) h0').2];rw [e2,ay] at hfl;omega
     have heq:=Find.pT (m:Int) (m:Int) (canon m ((Count.da q x).map Int.toNat)) (Count.da q x) X;rw [decide_eq_true rfl,Bool.true_and] at heq;have hkk:gv m q x = decide (canon m ((Count.da q x).map Int.toNat) = Count.da q x):=by
      unfold gv;rw [hM,Bool.true_and];rfl
     refine Ev.congr (fun k=>if_pos rfl) (Ev.bind hcan (Ev.bind heq ?_));rw [← hkk];by_cases hk:gv m q x = true
     ·rw [if_pos hk] at h
      obtain ⟨a2,s,a3,a4,ab⟩:=hfirst x hM;have hput:=qL (n2 m q x) S (by omega) (show (Count.da q x).length≤1048576 by omega) (fun e he=>by
       obtain ⟨y,hy,_,rfl⟩:=hP.2 e he;intro hee;have:=nM Y (by omega) hx hee;omega) (fun e he=>by
       obtain ⟨y,hy,_,rfl⟩:=hP.2 e he;have:=Count.eU q y;show (Count.da q y).length≤1048576;omega) (fun e he=>by
       obtain ⟨y,hy,hky,rfl⟩:=hP.2 e he;have a5:eP (m:Int) (Count.da q y) = true:=by
        unfold gv at hky;rw [Bool.and_eq_true] at hky;exact hky.1
       obtain ⟨a6,t,a7,a8,al⟩:=hfirst y a5;have:=Count.eU q y;exact qK (m:Int) (m:Int) (Count.da q x) (Count.da q y) s t a2 a6 (by omega) (by omega) a3 a7 a4 a8 (by omega))
      exact Ev.congr (fun k=>if_pos hk) (Ev.bind hput h)
     ·rw [if_neg hk] at h
      exact Ev.congr (fun k=>if_neg hk) h
  ·refine cU.di 1 fun k hk=>?_
   obtain ⟨j,rfl⟩:∃ j,k = j+1:=⟨k - 1,by omega⟩
   simp only [aD.l0];rw [if_pos hu,hsh,if_neg (by omega)]
def mB (n r:Int):List KM:=if 0≤n∧n≤5∧0≤r∧r≤n then pW n.toNat r else []
theorem q4 (n r:Int):Ev (fun k=>bh.f k n r) (mB n r):=by
 unfold mB;by_cases h:0≤n∧n≤5∧0≤r∧r≤n
 ·obtain ⟨m,rfl⟩:∃ m:Nat,n = m:=⟨n.toNat,by omega⟩
  rw [if_pos h,Int.toNat_natCast];exact qJ m (by omega) r (by omega) (by omega)
 ·rw [if_neg h]
  unfold bh.f;simp only [qZ,Option.bind_some,decide_eq_false h,Bool.false_eq_true,if_false];exact Ev.now _
theorem q6 (n r:Int):Ev (fun k=>aD.f k n r) (mB n r):=by
 have hend:Ev (fun k=>aD.j0 k n r [] true) []:=cU.di 1 fun k hk=>by
  obtain ⟨q,rfl⟩:∃ q,k = q+1:=⟨k - 1,by omega⟩
  simp only [aD.j0];rw [if_pos trivial]
 unfold mB;by_cases h:0≤n∧n≤5∧0≤r∧r≤n
 ·obtain ⟨m,rfl⟩:∃ m:Nat,n = m:=⟨n.toNat,by omega⟩
  rw [if_pos h,Int.toNat_natCast];exact qM m (by omega) r (by omega) (by omega)
 ·rw [if_neg h]
  unfold aD.f;simp only [sS,Option.bind_some];by_cases h1:(0:Int)≤n∧n≤5
  ·simp only [decide_eq_true h1,if_true,decide_eq_false (show ¬ (0≤r∧r≤n) by omega),Bool.not_false]
   exact hend
  ·simp only [decide_eq_false h1,Bool.false_eq_true,if_false]
   exact hend
def gQ (n:Int):List Int:=if 0≤n∧n≤5 then (List.range' 0 (n.toNat+1)).foldl (fun (s:List Int) (i:Nat)=>s ++ [((mB n (i:Int)).length:Int)]) [] else []
theorem oy (n:Int):(gQ n).length≤6:=by
 unfold gQ;split
 ·next h =>
  have key:∀ (p:List Nat) (s:List Int),(p.foldl (fun (s:List Int) (i:Nat)=>s ++ [((mB n (i:Int)).length:Int)]) s).length = s.length+p.length:=by
   intro p;induction p with
   | nil=>intro s;simp
   | cons a p ih =>
    intro s;rw [List.foldl_cons,ih];simp;omega
  rw [key,List.length_range'];simp;omega
 ·simp
theorem kk (n:Int):Ev (fun k=>aZ.f k n) (gQ n):=by
 have hend:Ev (fun k=>aZ.j0 k n true) []:=cU.di 1 fun k hk=>by
  obtain ⟨q,rfl⟩:∃ q,k = q+1:=⟨k - 1,by omega⟩
  simp only [aZ.j0];rw [if_pos trivial]
 unfold aZ.f gQ;by_cases y:n < 0
 ·rw [if_neg (by omega)]
  exact Ev.congr (fun k=>if_pos y) hend
 ·refine Ev.congr (fun k=>if_neg y) ?_
  by_cases h5:n > 5
  ·rw [if_neg (by omega),decide_eq_true h5]
   exact hend
  ·rw [if_pos (by omega),decide_eq_false h5]
   refine Ev.step (f:=fun k=>aZ.l0 k n [] 0) (fun k=>by
    simp only [aZ.j0];rw [if_neg Bool.false_ne_true]) ?_
   refine cU.ei (fun k (s:List Int) i=>aZ.l0 k n s i) (n.toNat+1) (fun (i:Nat) (s:List Int)=>s ++ [((mB n (i:Int)).length:Int)]) (fun i s=>s.length = i) _ (fun i s hi hP=>⟨by simp [hP],fun h=>?_⟩) (n.toNat+1) 0 [] (by omega) rfl (fun hP=>?_)
   ·refine Ev.step (f:=fun k=>(bh.f k n (i:Int)).bind fun t=>aZ.l0 k n (s ++ [(t.length:Int)]) ((i+1:Nat):Int)) (fun k=>?_) (Ev.bind (q4 n (i:Int)) h)
    simp only [aZ.l0];rw [if_pos (by omega),cU.dP i (by omega)];simp only [if_pos (show s.length < 17592186044416 by omega)]
   ·refine cU.di 1 fun k hk=>?_
    obtain ⟨j,rfl⟩:∃ j,k = j+1:=⟨k - 1,by omega⟩
    simp only [aZ.l0];rw [if_neg (by omega)]
theorem n3 (n:Int):Ev (fun k=>bH.f k n) (gQ n):=by
 unfold bH.f gQ;by_cases y:n < 0
 ·rw [if_neg (by omega)]
  refine cU.di 1 fun k hk=>?_
  obtain ⟨j,rfl⟩:∃ j,k = j+1:=⟨k - 1,by omega⟩
  simp only [bH.l0];rw [if_neg (by omega)]
 ·by_cases h5:n > 5
  ·rw [if_neg (by omega)]
   refine cU.di 1 fun k hk=>?_
   obtain ⟨j,rfl⟩:∃ j,k = j+1:=⟨k - 1,by omega⟩
   simp only [bH.l0];rw [if_pos (by omega),if_neg (by omega)]
  ·rw [if_pos (by omega)]
   refine cU.ei (fun k (s:List Int) i=>bH.l0 k n s i) (n.toNat+1) (fun (i:Nat) (s:List Int)=>s ++ [((mB n (i:Int)).length:Int)]) (fun i s=>s.length = i) _ (fun i s hi hP=>⟨by simp [hP],fun h=>?_⟩) (n.toNat+1) 0 [] (by omega) rfl (fun hP=>?_)
   ·refine Ev.step (f:=fun k=>(aD.f k n (i:Int)).bind fun t=>bH.l0 k n (s ++ [(t.length:Int)]) ((i+1:Nat):Int)) (fun k=>?_) (Ev.bind (q6 n (i:Int)) h)
    simp only [bH.l0];rw [if_pos (by omega),if_pos (by omega),cU.dP i (by omega)];simp only [if_pos (show s.length < 17592186044416 by omega)]
   ·refine cU.di 1 fun k hk=>?_
    obtain ⟨j,rfl⟩:∃ j,k = j+1:=⟨k - 1,by omega⟩
    simp only [bH.l0];rw [if_neg (by omega)]
end Canon
end
section
namespace Pure
open Go.RowKit Go.Proofs.YtlfkfdmggpipbaaGreat.Pr sD Go.Proofs.YtlfkfdmggpipbaaGreat.Sets oz j5 Go.Proofs.YtlfkfdmggpipbaaGreat.Flat Go.Proofs.YtlfkfdmggpipbaaGreat.Canon ag.b6 ag.cz ag.cA
set_option linter.unusedVariables false
theorem j3 (n:Int) (_:(Lit.int .i64 n).wf = true):∃ k,dh.f k n = some true:=by
 refine Ev.rounds ?_;unfold dh.f;have hr:=oy n;have hrl:(gQ n).length≤1048576:=by omega
 have hh:=po 1 (gQ n).length hrl (by decide) (by decide);refine Ev.bind (n3 n) (Ev.bind (kk n) (Ev.bind (ny _ hrl) (Ev.congr (fun k=>if_pos rfl) (Ev.bind (pn _ 1 hrl (by decide) (by decide)) (Ev.bind hh (Ev.congr (fun k=>if_neg (by omega)) (Ev.congr (fun k=>if_pos rfl) (Ev.bind (kk n) (Ev.bind (ny _ hrl) (Ev.congr (fun k=>if_pos rfl) (Ev.bind hh (Ev.congr (fun k=>if_neg (by omega)) (Ev.congr (fun k=>if_pos rfl) (Ev.now _))))))))))))))
end Pure
end
section
namespace Open
open Go.ChangeShapes Go.WideShapes Go.RowKit ag.b6 Go.Deep
set_option linter.unusedVariables false
structure fR {α:Type} (P:Program) (d:Kd α) (t:TypeId) (Wf:α→Prop):Prop where
 go:∀ (H:Type) (enc:TypeId×Value→H) (w:World) (base:Nat) (spare:Nat→Bool) (held:Bool) (fuel:Nat) (cs:List Value) (x:DataW H×List MemPlace),
  DataW.trod enc P w base spare held fuel t cs = some x→∃ a,d.K w a cs∧Wf a
theorem fR.int {P:Program} {t:TypeId} {k:IntKind} (ht:P.underlying t = some (.int k)):fR P (Kd.int k) t (fun n=>(Lit.int k n).wf = true):=by
 refine ⟨fun H enc w base spare held fuel cs x h=>?_⟩;obtain ⟨n,rfl,_,hw⟩:=DataW.trod_int ht h;exact ⟨n,rfl,hw⟩
theorem fR.bool {P:Program} {t:TypeId} (ht:P.underlying t = some .bool):fR P Kd.bool t (fun _=>True):=by
 refine ⟨fun H enc w base spare held fuel cs x h=>?_⟩;obtain ⟨n,rfl,_⟩:=DataW.trod_bool ht h;exact ⟨n,rfl,trivial⟩
theorem qN {α:Type} {p:Nat→α→Prop}:∀ {len:Nat},(∀ i,i < len→∃ y,p i y)→∃ xs:List α,xs.length = len∧∀ i y,xs[i]? = some y→p i y:=by
 intro len;induction len with
 | zero=>exact fun _=>⟨[],rfl,fun i y h=>by simp at h⟩
 | succ len ih =>
  intro key;obtain ⟨xs,hxl,hxs⟩:=ih (fun i hi=>key i (by omega));obtain ⟨y,hy⟩:=key len (by omega);refine ⟨xs ++ [y],by simp [hxl],fun i z hz=>?_⟩;by_cases hi:i < xs.length
  ·rw [List.getElem?_append_left hi] at hz
   exact hxs i z hz
  ·have hlt:i < (xs ++ [y]).length:=(List.getElem?_eq_some_iff.1 hz).1
   have e:i = len:=by simp [hxl] at hlt hi;omega
   subst e;rw [List.getElem?_append_right (by omega),hxl] at hz;simp at hz;subst hz;exact hy
theorem fR.slice {α:Type} {P:Program} {t e:TypeId} {d:Kd α} {Wf:α→Prop} (ht:P.underlying t = some (.slice e)) (hs:P.cellsOf e = d.sz) (h:fR P d e Wf) :
  fR P (Kd.slice e d) t (fun xs=>xs.length≤maxLen∧∀ x∈xs,Wf x):=by
 refine ⟨fun H enc w base spare held fuel cs x hx=>?_⟩;rcases open_slice ht hx with ⟨rfl,_⟩ | ⟨a,len,cap,m,n,D,Pl,rfl,hb,hl,hm,hmm,_,hel⟩
 ·exact ⟨[],⟨none,0,rfl,Nat.le_refl _,rfl,by simp,fun h=>absurd h (by simp)⟩,by simp,by simp⟩
 ·have hlm:len≤m:=by rw [hmm];split <;> omega
  have key:∀ i,i < len→∃ y:α,(∃ cs',w.cells? base (a.add (i * P.cellsOf e)) (P.cellsOf e) = some cs'∧d.K w y cs')∧Wf y:=fun i hi=>by
   obtain ⟨cs',h1,h2⟩:=hel i (by omega);obtain ⟨y,h3,h4⟩:=h.go _ enc w base spare held n cs' _ h2;exact ⟨y,⟨cs',h1,h3⟩,h4⟩
  obtain ⟨xs,hxl,hxs⟩:=qN key;refine ⟨xs,⟨some a,cap,by rw [hxl],by omega,rfl,by have:=hm;unfold maxLen at this;omega,fun _=>⟨a,rfl,fun j p hj=>?_⟩⟩,by omega,fun y hy=>?_⟩
  ·obtain ⟨⟨cs',h1,h2⟩,_⟩:=hxs j p hj
   obtain ⟨_,h3,h4⟩:=World.cells?_some h1;refine ⟨cs',by rw [h3,hs],h2,fun i u hu=>?_⟩;have hlt:i < cs'.length:=(List.getElem?_eq_some_iff.1 hu).1;have:=h4 i (by omega);rw [hs,Go.Deep.add_add] at this;rw [this,hu]
  ·obtain ⟨i,hi⟩:=List.getElem?_of_mem hy
   exact (hxs i y hi).2
structure iu {α:Type} (P:Program) (fs:List Field) (off:Nat) (d:Kd α) (Wf:α→Prop):Prop where
 go:∀ (H:Type) (enc:TypeId×Value→H) (w:World) (base:Nat) (spare:Nat→Bool) (held:Bool) (n:Nat) (cs:List Value),
  cs.length = off+d.sz→(∀ f∈fs,∃ x,DataW.trod enc P w base spare held n f.type ((cs.drop f.offset).take (P.cellsOf f.type)) = some x)→∃ a,d.K w a (cs.drop off)∧Wf a
theorem iu.one {α:Type} {P:Program} {f:Field} {off:Nat} {d:Kd α} {Wf:α→Prop} (ho:f.offset = off) (hs:P.cellsOf f.type = d.sz) (h:fR P d f.type Wf):iu P [f] off d Wf:=by
 refine ⟨fun H enc w base spare held n cs hl hf=>?_⟩;obtain ⟨x,hx⟩:=hf f (by simp);rw [ho,hs,List.take_of_length_le (by rw [List.length_drop];omega)] at hx;exact h.go _ enc w base spare held n _ x hx
theorem iu.cons {α β:Type} {P:Program} {f:Field} {fs:List Field} {off:Nat} {d:Kd α} {d':Kd β} {Wf:α→Prop} {j:β→Prop} (ho:f.offset = off) (hs:P.cellsOf f.type = d.sz) (h:fR P d f.type Wf)
  (h':iu P fs (off+d.sz) d' j):iu P (f :: fs) off (Kd.pair d d') (fun x=>Wf x.1∧j x.2):=by
 refine ⟨fun H enc w base spare held n cs hl hf=>?_⟩;have hl':cs.length = off+(d.sz+d'.sz):=hl;obtain ⟨x,hx⟩:=hf f (by simp);rw [ho,hs] at hx;obtain ⟨a,ha,wa⟩:=h.go _ enc w base spare held n _ x hx;obtain ⟨b,hb,wb⟩:=h'.go _ enc w base spare held n cs (by omega) (fun g hg=>hf g (by simp [hg]));refine ⟨(a,b),⟨(cs.drop off).take d.sz,cs.drop (off+d.sz),?_,ha,hb⟩,wa,wb⟩;rw [← List.drop_drop,List.take_append_drop]
theorem fR.struct {α:Type} {P:Program} {t:TypeId} {fs:Array Field} {d:Kd α} {Wf:α→Prop} (ht:P.underlying t = some (.struct fs)) (hs:P.cellsOf t = d.sz) (h:iu P fs.toList 0 d Wf):fR P d t Wf:=by
 refine ⟨fun H enc w base spare held fuel cs x hx=>?_⟩;obtain ⟨xs,n,_,_,hl,hlen,hg⟩:=DataW.trod_struct ht hx;obtain ⟨a,ha,wa⟩:=h.go _ enc w base spare held n cs (by omega) (fun f hf=>by
  obtain ⟨i,hi⟩:=List.getElem?_of_mem hf;have h1:=hg i f (by simpa using hi);have hlt:i < fs.size:=by have:=(List.getElem?_eq_some_iff.1 hi).1;simpa using this
  exact ⟨_,h1.trans (List.getElem?_eq_getElem (by omega))⟩)
 exact ⟨a,by simpa using ha,wa⟩
theorem fR.sH {α β:Type} {P:Program} {t:TypeId} {d:Kd α} {Wf:α→Prop} (h:fR P d t Wf) (f:β→α) (g:α→β) (hfg:∀ a,f (g a) = a):fR P (Kd.sH d f) t (fun b=>Wf (f b)):=by
 refine ⟨fun H enc w base spare held fuel cs x hx=>?_⟩;obtain ⟨a,ha,wa⟩:=h.go _ enc w base spare held fuel cs x hx;exact ⟨g a,by show d.K w (f (g a)) cs;rw [hfg];exact ha,by show Wf (f (g a));rw [hfg];exact wa⟩
end Open
end
section
namespace fS
open Go.ChangeShapes Go.WideShapes Go.ChangeAt Go.RowKit Go.Proofs.YtlfkfdmggpipbaaGreat.Open ag.b6
open Go.ChangeMaps (open_string shut_string)
set_option linter.unusedVariables false
theorem own:ownKnob Tryz.prog.godebug = none:=by kernel_rfl
set_option maxRecDepth 100000 in
theorem lifted (os:Os) (started:os.Started) (H:Type) (enc:TypeId×Value→H) :
  ReturnsInHanded {} Tryz.checked os 3 .any (Rows.fnExactCountKindsSpec.pre6 enc Tryz.prog Tryz.f3 Rows.fnExactCountKindsRow.domain false) (Rows.fnExactCountKindsSpec.post enc Tryz.prog Tryz.f3 false true false false):=by
 refine returnsInHanded_of_change_sized (C:=Tryz.checked) own started (by kernel_rfl) Tryz.func3
  (ChangeSpec.witness6 (enc:=enc) (C:=Tryz.checked) false ⟨#[],#[.int .i64 0],[]⟩ 8 (by kernel_rfl) (by kernel_rfl) (by kernel_rfl) (by kernel_rfl)) ?_
 intro W base args ds gs before y hW hcnd z _;have hval:∀ (j:Nat) t v,Tryz.f3.params[j]? = some t→args[j]? = some v→Value.okWide Tryz.prog W .any base t v:=y;have hW':=hW;obtain ⟨p,q,I,hV,rfl,hfz,hnd⟩:=hW;have hA:DataW.TrodAll enc Tryz.prog W 0 (fun _=>true) true Tryz.f3.params.toList args.toList ds p:=I;rw [Tryz.params3] at hA hval;obtain ⟨v0,J,d0,M,Y,q0,hargs,rfl,rfl,U,X⟩:=trodAll_cons hA;obtain ⟨rfl,rfl,rfl⟩:=trodAll_nil X;obtain rfl:args = #[v0]:=by cases args;simp_all
 obtain ⟨rfl,rfl⟩:=trodVars_none hV;obtain ⟨a0,rfl,rfl,rfl,w0⟩:=open_int Tryz.underlying3 (hval 0 3 v0 rfl rfl) U;clear I y z;obtain ⟨k,hk⟩:=Pure.j3 a0 w0;refine (Pr.dh.calls k a0 true W  ⟨rfl⟩ hk).mono fun e W' ⟨he,bel⟩=>?_
 subst he;exact ⟨_,rfl,_,_,_,[],_,[],hW',trodAll_mk1 (shut_bool Tryz.underlying4 _),(trodAll_cons_mk (shut_int Tryz.underlying3 w0) trodAll_mk0),rfl,bel.frame _,fun h=>by cases h⟩
theorem sP:Rows.fnExactCountKindsRow.holds Tryz.pinned (OpenSpec.ofChange Rows.fnExactCountKindsSpec) :=
 OpenClaim.holds_of_wide 3 Tryz.f3 rfl rfl rfl rfl rfl rfl rfl ⟨rfl,rfl,rfl,rfl,rfl⟩ rfl rfl rfl rfl rfl (by kernel_rfl) Tryz.func3 (by kernel_rfl)
  (of_decide_eq_true (by kernel_rfl)) (by unfold Func.isWrapper;first | (rw [if_pos (by decide +kernel)];kernel_rfl) | (rw [if_neg (by decide +kernel)];exact ⟨rfl,rfl⟩))
  (fun os started H enc _=>lifted os started H enc)
theorem proved:Rows.FnExactCountKindsSaid:=sP
#print axioms proved
end fS
theorem fnExactCountKinds_holds:Rows.FnExactCountKindsSaid:=fS.proved
end
end Go.Proofs.YtlfkfdmggpipbaaGreat
