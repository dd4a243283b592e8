/- The claim FnLattice: every text that its row comes to, laid together by slim.py (the words of the kit's print, the printed walks, the pure law, the row). -/
import Derived.Below
import Derived.ChangeArms
import Derived.ChangeOld
import Derived.DataReads
import Derived.Deep.Slices
import Derived.OpenShut
import Derived.ProofKit
import Derived.ShutString
import Derived.SizedLaws
import Derived.Test.YtmpodackojmojaaGreatRows
import Derived.WalkKit
import Derived.Test.YtmpodackojmojaaGreatYFnLattice6
section
namespace Go.Proofs.YtmpodackojmojaaGreat.Gr
open Go.RowKit Go.Proofs.YtmpodackojmojaaGreat.lT Go.Proofs.YtmpodackojmojaaGreat.Sets Go.Proofs.YtmpodackojmojaaGreat.jD Go.Proofs.YtmpodackojmojaaGreat.fH Go.Proofs.YtmpodackojmojaaGreat.Flat Go.Proofs.YtmpodackojmojaaGreat.iD Go.Proofs.YtmpodackojmojaaGreat.eP Go.Proofs.YtmpodackojmojaaGreat.pT Go.Proofs.YtmpodackojmojaaGreat.j7 Go.Proofs.YtmpodackojmojaaGreat.iU Go.Proofs.YtmpodackojmojaaGreat.iA Go.Proofs.YtmpodackojmojaaGreat.jS Go.Proofs.YtmpodackojmojaaGreat.Poly Go.Proofs.ag.aX Go.Proofs.ag.bU Go.Proofs.ag.bQ
def cg (a b:Int):Prop:=a % 18446744073709551616 = b % 18446744073709551616
theorem cg.rfl {a:Int}:cg a a:=Eq.refl _
theorem cg.trans {a b c:Int} (h:cg a b) (k:cg b c):cg a c:=Eq.trans h k
theorem cg.symm {a b:Int} (h:cg a b):cg b a:=Eq.symm h
theorem gV (a:Int):cg (wrap64 a) a:=by
 unfold cg wrap64
 omega
theorem lF {a b c d:Int} (h:cg a b) (k:cg c d):cg (a+c) (b+d):=by
 unfold cg at *
 rw [Int.add_emod,h,k,← Int.add_emod]
theorem iT {a b c d:Int} (h:cg a b) (k:cg c d):cg (a * c) (b * d):=by
 unfold cg at *
 rw [Int.mul_emod,h,k,← Int.mul_emod]
theorem uw {a b:Int} (h:cg a b) (h0:-9223372036854775808≤b) (h1:b≤9223372036854775807):wrap64 a = b:=by
 have h2:=(gV a).trans h
 have h3:-9223372036854775808≤wrap64 a∧wrap64 a≤9223372036854775807:=by
  unfold wrap64
  omega
 unfold cg at h2
 omega
theorem sP (y:Int):∀ (r:List Int) (s:Int×Int) (a p:Int),cg s.1 a→cg s.2 p→cg (r.foldl (Eval.cell y) s).1 (a+rs y p r)
 | [],s,a,p,h,_=>by
  rw [List.foldl_nil,rs,Int.add_zero]
  exact h
 | c :: r,s,a,p,h,k=>by
  rw [List.foldl_cons,rs,← Int.add_assoc]
  exact sP y r _ _ _ ((gV _).trans (lF h ((gV _).trans (iT cg.rfl k)))) ((gV _).trans (iT k cg.rfl))
theorem sQ (x y:Int):∀ (t:List (List Int)) (s:Int×Int) (a p:Int),cg s.1 a→cg s.2 p→cg (t.foldl (Eval.row x y) s).1 (a+vs x y p t)
 | [],s,a,p,h,_=>by
  rw [List.foldl_nil,vs,Int.add_zero]
  exact h
 | r :: t,s,a,p,h,k=>by
  rw [List.foldl_cons,vs,← Int.add_assoc]
  exact sQ x y t _ _ _ (sP y r s a p h k) ((gV _).trans (iT k cg.rfl))
theorem vp {x y:Int} {r c:Nat} {t:List (List Int)} (hR:gP r c t):cg (Eval.val t x y) (V x y r c (kO t)):=by
 have h0:=sQ x y t (0,1) 0 1 cg.rfl cg.rfl
 rw [Int.zero_add] at h0
 have e:vs x y 1 t = V x y r c (kO t):=by
  unfold V
  have h1:=sO x y t 1 0
  rw [Int.pow_zero,Int.mul_one] at h1
  rw [h1,hR.1]
  congr 1
  refine List.map_congr_left fun i hi=>?_
  have hi:=List.mem_range'_1.1 hi
  have h2:=sN y (t.getD (i - 0) []) (1 * x ^ i) 0
  rw [Int.pow_zero,Int.mul_one] at h2
  rw [h2,Nat.sub_zero,hR.at_ (by omega)]
  congr 1
  refine List.map_congr_left fun j hj=>?_
  rw [Int.one_mul,Nat.sub_zero]
  rfl
 rw [← e]
 exact h0
theorem qu (f:Nat→Int):∀ n,((List.range' 0 n).map f).sum = S n f
 | 0=>rfl
 | n+1=>by
  rw [List.range'_concat,List.map_append,List.sum_append,qu f n,S]
  simp
theorem wR:∀ k:Nat,k < 5→∀ r,r < 10→∀ a,a < r→S r (fun i=>P a i * (1 - (k:Int)) ^ i) = (-(k:Int)) ^ a:=by decide +kernel
theorem wL {k j r c a b:Nat} (hk:k < 5) (hj:j < 5) (hr:r < 10) (hc:c < 10) (ha:a < r) (hb:b < c):V (1 - (k:Int)) (1 - (j:Int)) r c (fun i i'=>P a i * P b i') = (-(k:Int)) ^ a * (-(j:Int)) ^ b:=by
 unfold V
 rw [qu,eH r (g:=fun i=>(-(j:Int)) ^ b * (P a i * (1 - (k:Int)) ^ i)),nt,wR k hk r hr a ha,Int.mul_comm]
 intro i _
 rw [qu,← wR j hj c hc b hb,Int.mul_comm,← nt]
 refine eH c fun i' _=>?_
 show P a i * P b i' * ((1 - (k:Int)) ^ i * (1 - (j:Int)) ^ i') = P a i * (1 - (k:Int)) ^ i * (P b i' * (1 - (j:Int)) ^ i')
 generalize (1 - (k:Int)) ^ i = u
 generalize (1 - (j:Int)) ^ i' = v
 generalize P a i = p
 generalize P b i' = q
 rw [Int.mul_assoc,Int.mul_assoc,Int.mul_left_comm q u v]
theorem vq {m:Nat} (hm:m≤8) {l:List Nat} (hl:∀ s∈l,s < 2 ^ m) (h0:0 < l.length) {k j:Nat} (hk:k < 5) (hj:j < 5):cg (Eval.val (kp m l) (1 - (k:Int)) (1 - (j:Int))) (S (2 ^ m) fun s=>(-(k:Int)) ^ (top l - bu l s) * (-(j:Int)) ^ (cnt s - bu l s)):=by
 have ht:=iR hm hl h0
 have h1:=vp (x:=1 - (k:Int)) (y:=1 - (j:Int)) (mK m l)
 have e:kO (kp m l) = co (fun s=>top l - bu l s) (fun s=>cnt s - bu l s) (List.range' 0 (2 ^ m)):=by
  funext i i'
  exact oc hm hl h0 i i'
 rw [e,wm,qu] at h1
 rw [← eH (2 ^ m) fun s hs=>wL (a:=top l - bu l s) (b:=cnt s - bu l s) hk hj (show top l+1 < 10 by omega) (show m - top l+1 < 10 by omega) (by omega) (by have:=l9 hm hl h0 hs;omega)]
 exact h1
theorem xe {a b:Nat} (h:a % 2 = b % 2):(-1:Int) ^ a = (-1) ^ b:=by
 have key:∀ n:Nat,(-1:Int) ^ n = if n % 2 = 0 then 1 else -1:=by
  intro n
  induction n with
  | zero=>rfl
  | succ n ih =>
   rw [Int.pow_succ,ih]
   by_cases h:n % 2 = 0
   ·have h2:¬ (n+1) % 2 = 0:=by omega
    rw [if_pos h,if_neg h2];rfl
   ·have h2:(n+1) % 2 = 0:=by omega
    rw [if_neg h,if_pos h2];rfl
 rw [key,key,h]
theorem neg_pow (x:Int):∀ n:Nat,(-x) ^ n = (-1) ^ n * x ^ n
 | 0=>by rw [Int.pow_zero,Int.pow_zero,Int.pow_zero];rfl
 | n+1=>by
  rw [Int.pow_succ,Int.pow_succ,Int.pow_succ,neg_pow x n]
  generalize (-1:Int) ^ n = a
  generalize x ^ n = b
  rw [Int.mul_neg,Int.mul_neg,Int.mul_one,Int.neg_mul,Int.mul_assoc]
end Go.Proofs.YtmpodackojmojaaGreat.Gr
end
section
namespace Go.Proofs.YtmpodackojmojaaGreat.tc
open Go.RowKit Go.Proofs.YtmpodackojmojaaGreat.Pr Go.Proofs.YtmpodackojmojaaGreat.Sets Go.Proofs.YtmpodackojmojaaGreat.jD Go.Proofs.YtmpodackojmojaaGreat.fH Go.Proofs.YtmpodackojmojaaGreat.Flat Go.Proofs.YtmpodackojmojaaGreat.iD Go.Proofs.YtmpodackojmojaaGreat.eP Go.Proofs.YtmpodackojmojaaGreat.pT Go.Proofs.YtmpodackojmojaaGreat.j7 Go.Proofs.YtmpodackojmojaaGreat.iU Go.Proofs.YtmpodackojmojaaGreat.iA Go.Proofs.YtmpodackojmojaaGreat.jS Go.Proofs.YtmpodackojmojaaGreat.Gr Go.Proofs.YtmpodackojmojaaGreat.od Go.Proofs.ag.aX Go.Proofs.ag.bU Go.Proofs.ag.bQ
set_option linter.unusedVariables false
theorem r7 (m:Nat) (l:List Nat):(aY m l).Pairwise (· < ·):=(nk _ _).filter _
theorem j6 {m:Nat} {l:List Nat} {i j:Nat} (hij:i < j) (hj:j < (aY m l).length):(aY m l).getD i 0 < (aY m l).getD j 0:=by
 rw [mZ.l7 _ 0 (by omega),mZ.l7 _ 0 hj]
 exact List.pairwise_iff_getElem.1 (r7 m l) i j _ _ hij
theorem mP {m:Nat} {l:List Nat} {i:Nat} (hi:i < (aY m l).length):(aY m l).getD i 0 < 2 ^ m∧cl m l ((aY m l).getD i 0) = (aY m l).getD i 0:=gU (dM _ 0 i hi)
theorem mQ {m:Nat} {l:List Nat} {x:Nat} (hx:x < 2 ^ m) (hc:cl m l x = x):∃ i,i < (aY m l).length∧(aY m l).getD i 0 = x:=by
 have h1:x∈aY m l:=by
  unfold aY
  rw [List.mem_filter]
  exact ⟨List.mem_range'_1.2 ⟨by omega,by omega⟩,decide_eq_true hc⟩
 obtain ⟨i,hi,h2⟩:=List.getElem_of_mem h1
 exact ⟨i,hi,by rw [mZ.l7 _ 0 hi,h2]⟩
theorem sub_le {a b:Nat} (h:Sub a b):a≤b:=by
 have:=gI.2 h
 rw [← this]
 exact Nat.and_le_right
theorem tW (q:List Nat) (v:List Int) (w:Nat→Int) (i:Nat) (hv:∀ k,k < i→v.getD k 0 = w k):cg (oS q v i) (S i fun k=>if jc (q.getD k 0) (q.getD i 0) = true then w k else 0):=by
 unfold oS
 have key:∀ j,j≤i→cg ((List.range' 0 j).foldl (fun s k=>if jc (q.getD k 0) (q.getD i 0) = true then wrap64 (s+v.getD k 0) else s) 0) (S j fun k=>if jc (q.getD k 0) (q.getD i 0) = true then w k else 0):=by
  intro j
  induction j with
  | zero=>exact fun _=>cg.rfl
  | succ j ih =>
   intro hj
   rw [List.range'_concat,List.foldl_append,S]
   simp only [List.foldl_cons,List.foldl_nil,Nat.zero_add,Nat.one_mul]
   by_cases h:jc (q.getD j 0) (q.getD i 0) = true
   ·rw [if_pos h,if_pos h,hv j (by omega)]
    exact (gV _).trans (lF (ih (by omega)) cg.rfl)
   ·rw [if_neg h,if_neg h,Int.add_zero]
    exact ih (by omega)
 exact key i (Nat.le_refl i)
section
variable {m:Nat} {l:List Nat} (M:Mt m l)
include M
open Classical in
theorem below {i:Nat} (hi:i < (aY m l).length):S i (fun k=>if jc ((aY m l).getD k 0) ((aY m l).getD i 0) = true then W m l ((aY m l).getD k 0) else 0) = (if i = 0 then 1 else 0) - W m l ((aY m l).getD i 0):=by
 obtain ⟨hF,hc⟩:=mP hi
 have h1:=mO (fun s=>decide (gT m l s 0 = s)) (fun x=>if jc x ((aY m l).getD i 0) = true then W m l x else 0) (2 ^ m)
 have h2:=sH M hF hc
 have h3:S (2 ^ m) (fun x=>if decide (gT m l x 0 = x) = true then (if jc x ((aY m l).getD i 0) = true then W m l x else 0) else 0) = S (2 ^ m) (fun x=>if cl m l x = x∧Sub x ((aY m l).getD i 0) then W m l x else 0):=by
  refine eH _ fun x _=>?_
  have e:jc x ((aY m l).getD i 0) = true↔Sub x ((aY m l).getD i 0):=by
   unfold jc
   rw [decide_eq_true_iff,gI]
  by_cases h4:gT m l x 0 = x
  ·rw [if_pos (decide_eq_true h4)]
   exact vY ⟨fun h=>⟨h4,e.1 h⟩,fun h=>e.2 h.2⟩ _ _
  ·rw [if_neg (by rw [decide_eq_false h4];decide),if_neg fun h=>h4 h.1]
 rw [h3,h2] at h1
 have h4:((aY m l).getD i 0 = cl m l 0)↔i = 0:=by
  obtain ⟨j,hj,z⟩:=mQ (l:=l) (jC m l 0) (j3 M (Nat.two_pow_pos m))
  have h5:∀ k,k < (aY m l).length→cl m l 0≤(aY m l).getD k 0:=fun k hk=>sub_le ((kA M (mP hk).1 (mP hk).2 (Nat.two_pow_pos m)).2 (sub_zero _))
  constructor
  ·intro h
   refine Classical.byContradiction fun h0=>?_
   have X:=j6 (l:=l) (show 0 < i by omega) hi
   have y:=h5 0 (by omega)
   omega
  ·rintro rfl
   rcases Nat.eq_zero_or_pos j with rfl | h0
   ·exact z
   ·have X:=j6 (l:=l) h0 hj
    have y:=h5 0 hi
    omega
 have hs:(aY m l).length = i+((aY m l).length - i):=by omega
 have h5:S ((aY m l).length) (fun k=>if jc ((aY m l).getD k 0) ((aY m l).getD i 0) = true then W m l ((aY m l).getD k 0) else 0) = if i = 0 then 1 else 0:=by
  refine Eq.trans h1 (vY h4 _ _)
 rw [hs,sG] at h5
 have X:S ((aY m l).length - i) (fun t=>if jc ((aY m l).getD (i+t) 0) ((aY m l).getD i 0) = true then W m l ((aY m l).getD (i+t) 0) else 0) = W m l ((aY m l).getD i 0):=by
  rw [eH _ (g:=fun t=>if t = 0 then W m l ((aY m l).getD i 0) else 0),kN (fun _=>W m l ((aY m l).getD i 0)),if_pos (by omega)]
  intro t ht
  by_cases h0:t = 0
  ·rw [if_pos h0,h0,Nat.add_zero,if_pos]
   unfold jc
   rw [Nat.and_self]
   exact decide_eq_true rfl
  ·rw [if_neg h0,if_neg]
   intro y
   unfold jc at y
   rw [decide_eq_true_iff] at y
   have Y:=sub_le (gI.1 y)
   have h9:=j6 (m:=m) (l:=l) (show i < i+t by omega) (by omega)
   omega
 rw [X] at h5
 omega
theorem vr:∀ i,i≤(aY m l).length→∀ j,j < i→(mu (aY m l) i).getD j 0 = W m l ((aY m l).getD j 0)
 | 0,_,j,hj=>absurd hj (by omega)
 | i+1,hi,j,hj=>by
  have ih:=vr i (by omega)
  have hlen:=fL (aY m l) i
  rw [mu]
  by_cases h:j < i
  ·rw [List.getD_eq_getElem?_getD,List.getElem?_append_left (by omega),← List.getD_eq_getElem?_getD]
   exact ih j h
  ·obtain rfl:j = i:=by omega
   rw [List.getD_eq_getElem?_getD,List.getElem?_append_right (by omega),hlen,Nat.sub_self]
   show wrap64 _ = _
   have h1:=tW (aY m l) (mu (aY m l) j) (fun k=>W m l ((aY m l).getD k 0)) j ih
   rw [below M (by omega)] at h1
   have h2:=vZ m l ((aY m l).getD j 0)
   have h3:=cr M.hm
   refine uw ?_ (by omega) (by omega)
   have h4:cg ((if j = 0 then 1 else 0) - oS (aY m l) (mu (aY m l) j) j) ((if j = 0 then 1 else 0) - ((if j = 0 then 1 else 0) - W m l ((aY m l).getD j 0))):=by
    have h5:=lF (cg.rfl (a:=if j = 0 then 1 else 0)) (iT (cg.rfl (a:=-1)) h1)
    rw [Int.neg_one_mul,Int.neg_one_mul] at h5
    exact h5
   rw [show (if j = 0 then (1:Int) else 0) - ((if j = 0 then 1 else 0) - W m l ((aY m l).getD j 0)) = W m l ((aY m l).getD j 0) by omega] at h4
   exact h4
end
theorem qv (x:Int):∀ (a v:List Int) (i:Nat),i < a.length→a.getD i 0 = x→(∀ j,j < i→a.getD j 0≠x)→od.look a v x = v.getD i 0
 | [],v,i,h,_,_=>absurd h (by simp)
 | y :: a,v,i,h,h1,h2=>by
  rw [od.look]
  cases i with
  | zero =>
   rw [if_pos (show y = x from h1)]
   cases v <;> rfl
  | succ i =>
   rw [if_neg (show ¬ y = x from h2 0 (by omega)),qv x a v.tail i (by simpa using h) (by simpa using h1) fun j hj=>by simpa using h2 (j+1) (by omega)]
   cases v <;> simp
theorem vt {m:Nat} {l:List Nat} (M:Mt m l) (hM:dN (m:Int) (ints l) = true) {x:Nat} (hx:x < 2 ^ m) (hc:cl m l x = x):j4 (m:Int) (ints l) (x:Int) = W m l x:=by
 have hf:dx (m:Int) (ints l) (x:Int) = true:=by
  unfold dx
  rw [hM,jK M.hm hx,Int.toNat_natCast,cu,Int.toNat_natCast]
  exact decide_eq_true hc
 unfold j4
 rw [if_pos hf,Int.toNat_natCast,cu]
 obtain ⟨i,hi,hix⟩:=mQ hx hc
 rw [qv (x:Int) (ints (aY m l)) _ i (by rw [aG];exact hi) (by rw [jj,hix]) fun j hj=>by
  have:=j6 (l:=l) hj hi
  rw [jj]
  omega]
 rw [vr M _ (Nat.le_refl _) i hi,hix]
def pl (a:Int):List Int→Int
 | []=>0
 | x :: r=>x+a * pl a r
def rh (a:Int):List Int→Int
 | []=>0
 | x :: r=>wrap64 (wrap64 (rh a r * a)+x)
theorem sR (a:Int):∀ q,cg (rh a q) (pl a q)
 | []=>cg.rfl
 | x :: r=>by
  rw [rh,pl,Int.add_comm x]
  refine (gV _).trans (lF ((gV _).trans ?_) cg.rfl)
  rw [Int.mul_comm]
  exact iT cg.rfl (sR a r)
theorem sS (a:Int):∀ (q:List Int) (i:Nat) (v:Int),i < q.length→pl a (q.set i v) = pl a q+a ^ i * (v - q.getD i 0)
 | [],i,v,h=>absurd h (by simp)
 | x :: r,0,v,_=>by
  rw [List.set_cons_zero,pl,pl,Int.pow_zero,Int.one_mul]
  show _ = _+(v - x)
  omega
 | x :: r,i+1,v,h=>by
  rw [List.set_cons_succ,pl,pl,sS a r i v (by simpa using h),Int.pow_succ]
  show _ = _+_ * (v - r.getD i 0)
  generalize v - r.getD i 0 = z
  generalize a ^ i = p
  rw [Int.mul_add,Int.mul_comm p a,Int.mul_assoc,Int.add_assoc]
theorem mR (a:Int):∀ n,pl a (List.replicate n 0) = 0
 | 0=>rfl
 | n+1=>by
  rw [List.replicate_succ,pl,mR a n]
  simp
theorem vu {a b c d:Int} (h:cg a b) (k:cg c d):cg (a - c) (b - d):=by
 have:=lF h (iT (cg.rfl (a:=-1)) k)
 rw [Int.neg_one_mul,Int.neg_one_mul] at this
 exact this
theorem qw {a b:Int} (h:cg a b):wrap64 a = wrap64 b:=by
 unfold cg at h
 unfold wrap64
 omega
section
variable {m:Nat} {l:List Nat} (M:Mt m l)
include M
omit M in
theorem nw (a:Int) (w:Nat→Int) (v:List Int) (hv:∀ k,k < (aY m l).length→v.getD k 0 = w k):∀ (d:Nat),d≤(aY m l).length→((List.range' 0 d).foldl (fun s i=>Char.step l (aY m l) v i s) (List.replicate (top l+1) 0)).length = top l+1∧cg (pl a ((List.range' 0 d).foldl (fun s i=>Char.step l (aY m l) v i s) (List.replicate (top l+1) 0))) (S d fun k=>w k * a ^ (top l - bu l ((aY m l).getD k 0)))
 | 0,_=>by
  refine ⟨by simp,?_⟩
  show cg (pl a (List.replicate (top l+1) 0)) 0
  rw [mR]
  exact cg.rfl
 | d+1,hd=>by
  obtain ⟨h1,h2⟩:=nw a w v hv d (by omega)
  rw [List.range'_concat,List.foldl_append]
  simp only [List.foldl_cons,List.foldl_nil,Nat.zero_add,Nat.one_mul]
  generalize (List.range' 0 d).foldl (fun s i=>Char.step l (aY m l) v i s) (List.replicate (top l+1) 0) = s at h1 h2 ⊢
  unfold Char.step
  refine ⟨by rw [List.length_set];exact h1,?_⟩
  rw [sS a s _ _ (by omega),S,hv d (by omega)]
  refine lF h2 ?_
  rw [Int.mul_comm (w d)]
  refine iT cg.rfl ?_
  have h3:=vu (gV (s.getD (top l - bu l ((aY m l).getD d 0)) 0+w d)) (cg.rfl (a:=s.getD (top l - bu l ((aY m l).getD d 0)) 0))
  rw [show s.getD (top l - bu l ((aY m l).getD d 0)) 0+w d - s.getD (top l - bu l ((aY m l).getD d 0)) 0 = w d by omega] at h3
  exact h3
omit M in
theorem sU (l:List Nat) (j:Nat):∀ a:Nat,(l.foldl diff a).testBit j = (a.testBit j && l.all fun b=>!b.testBit j):=by
 induction l with
 | nil=>intro a;simp
 | cons b l ih=>intro a;rw [List.foldl_cons,ih,dz,List.all_cons,Bool.and_assoc]
theorem oY (e:Nat):(Char.loops m l).testBit e = true↔(cl m l 0).testBit e = true:=by
 unfold Char.loops
 rw [sU,Bool.and_eq_true,Nat.testBit_two_pow_sub_one,decide_eq_true_iff,iz,Nat.zero_or,kk,List.all_eq_true]
 refine and_congr Iff.rfl ?_
 constructor
 ·intro h
  obtain ⟨b,hb,hr⟩:=oM M.h0 (2 ^ e)
  have h1:=h b hb
  have:2 ^ e &&& b = 0:=by
   apply Nat.eq_of_testBit_eq
   intro j
   rw [Nat.testBit_and,kf,Nat.zero_testBit]
   by_cases hj:e = j
   ·rw [← hj,decide_eq_true rfl,Bool.true_and]
    simpa using h1
   ·rw [decide_eq_false hj,Bool.false_and]
  rw [this] at hr
  exact hr.symm
 ·intro h b hb
  cases hbe:b.testBit e with
  | false=>rfl
  | true =>
   have h1:=k9 l (2 ^ e) b hb
   rw [gI.2 (jv hbe),h] at h1
   have he:e < 8:=ju (oQ M (M.hl b hb)) hbe
   have:=l5 e he
   omega
theorem sV (a:Int) (hL:cl m l 0 = 0):S (aY m l).length (fun k=>W m l ((aY m l).getD k 0) * a ^ (top l - bu l ((aY m l).getD k 0))) = S (2 ^ m) fun A=>sg A * a ^ (top l - bu l A):=by
 have h1:=mO (fun s=>decide (gT m l s 0 = s)) (fun x=>W m l x * a ^ (top l - bu l x)) (2 ^ m)
 refine Eq.trans h1 ?_
 have j:∀ x,(if decide (gT m l x 0 = x) = true then W m l x * a ^ (top l - bu l x) else 0) = S (2 ^ m) fun A=>if x = cl m l A then (if cl m l x = x then sg A * a ^ (top l - bu l x) else 0) else 0:=by
  intro x
  by_cases hx:gT m l x 0 = x
  ·rw [if_pos (decide_eq_true hx),W,Int.mul_comm,← nt]
   refine eH _ fun A _=>?_
   rw [hL]
   by_cases h2:cl m l A = x
   ·rw [if_pos ⟨Nat.and_zero A,h2⟩,if_pos h2.symm,if_pos (show cl m l x = x from hx),Int.mul_comm]
   ·rw [if_neg fun h3=>h2 h3.2,if_neg fun h3=>h2 h3.symm,Int.mul_zero]
  ·rw [if_neg (by rw [decide_eq_false hx];decide),eH (2 ^ m) (g:=fun _=>0),kM]
   intro A _
   by_cases h3:x = cl m l A
   ·rw [if_pos h3,if_neg (show ¬ cl m l x = x from hx)]
   ·rw [if_neg h3]
 rw [eH _ fun x _=>j x,o9]
 refine eH _ fun A hA=>?_
 rw [kN (fun x=>if cl m l x = x then sg A * a ^ (top l - bu l x) else 0),if_pos (jC m l A),if_pos (j3 M hA),kj M hA]
theorem pR {k:Nat} (hk:k < 5):cg ((-1) ^ top l * Eval.val (kp m l) (1 - (k:Int)) 0) (S (2 ^ m) fun A=>sg A * (k:Int) ^ (top l - bu l A)):=by
 have h1:=vq M.hm M.hl M.h0 hk (show 1 < 5 by decide)
 rw [show (1:Int) - ((1:Nat):Int) = 0 from rfl] at h1
 refine (iT cg.rfl h1).trans ?_
 rw [← nt]
 refine congrArg (· % _) (eH _ fun A hA=>?_)
 have h2:=j7.fb l A
 have h3:=iD.ke (fun s hs=>oQ M (M.hl s hs)) M.hf M.h0 A
 show _ * ((-(k:Int)) ^ _ * (-((1:Nat):Int)) ^ _) = sg A * _
 unfold sg
 rw [neg_pow (k:Int),show (-((1:Nat):Int)) = -1 from rfl,xe (show cnt A % 2 = (top l+(top l - bu l A)+(cnt A - bu l A)) % 2 by omega),Int.pow_add,Int.pow_add]
 generalize (-1:Int) ^ top l = j
 generalize (-1:Int) ^ (top l - bu l A) = y
 generalize (-1:Int) ^ (cnt A - bu l A) = z
 generalize (k:Int) ^ (top l - bu l A) = y1
 simp only [Int.mul_comm,Int.mul_left_comm]
theorem sW {k:Nat} (hk:k < 5) {a:Int} (ha:cg a ((-1) ^ top l)):rh (k:Int) (Char.char m l) = wrap64 (a * Eval.val (kp m l) (1 - (k:Int)) 0):=by
 have h1:=(iT ha (cg.rfl (a:=Eval.val (kp m l) (1 - (k:Int)) 0))).trans (pR M hk)
 have h2:cg (rh (k:Int) (Char.char m l)) (S (2 ^ m) fun A=>sg A * (k:Int) ^ (top l - bu l A)):=by
  refine (sR _ _).trans ?_
  unfold Char.char
  by_cases hlo:Char.loops m l = 0
  ·have hL:cl m l 0 = 0:=by
    apply Nat.eq_of_testBit_eq
    intro j
    rw [Nat.zero_testBit]
    cases hb:(cl m l 0).testBit j with
    | false=>rfl
    | true =>
     have:=(oY M j).2 hb
     rw [hlo,Nat.zero_testBit] at this
     exact this.symm
   rw [if_pos hlo,← sV M (k:Int) hL]
   exact (nw (k:Int) (fun i=>W m l ((aY m l).getD i 0)) _ (fun i hi=>vr M _ (Nat.le_refl _) i hi) _ (Nat.le_refl _)).2
  ·rw [if_neg hlo,mR]
   obtain ⟨e,he⟩:∃ e,(Char.loops m l).testBit e = true:=by
    refine Classical.byContradiction fun hno=>hlo ?_
    apply Nat.eq_of_testBit_eq
    intro j
    rw [Nat.zero_testBit]
    cases hb:(Char.loops m l).testBit j with
    | false=>rfl
    | true=>exact absurd ⟨j,hb⟩ hno
   obtain ⟨hem,hr⟩:=(iz m l 0 e).1 ((oY M e).1 he)
   have:S (2 ^ m) (fun A=>sg A * (k:Int) ^ (top l - bu l A)) = 0:=oR m _ hem fun A hA hb=>by
    rw [pM (by have:=M.hm;omega) hb,nr M hA hem (sub_zero A) hr,Int.neg_mul]
   rw [this]
   exact cg.rfl
 have h3:=qw (h2.trans h1.symm)
 rw [← h3]
 have h4:=Char.jR m l
 generalize Char.char m l = q at *
 cases q with
 | nil=>simp at h4
 | cons x r =>
  rw [rh]
  exact (qw (gV _)).symm
end
theorem qx (q:List Int) (hq:q.length≤1048576) (a:Int):Ev (fun k=>bT.f k q a) (rh a q):=by
 unfold bT.f
 have key:∀ (i:Nat),i≤q.length→Ev (fun k=>bT.l0 k q a (rh a (q.drop i)) ((i:Int) - 1)) (rh a q):=by
  intro i
  induction i with
  | zero =>
   intro _
   refine Ev.step (f:=fun _=>some (rh a q)) (fun k=>?_) (Ev.now _)
   rw [bT.l0,if_neg (by omega),List.drop_zero]
  | succ i ih =>
   intro hi
   have hnext:=ih (by omega)
   rw [drop_cons q i (by omega),rh] at hnext
   refine Ev.step (fun k=>?_) hnext
   have e:((i+1:Nat):Int) - 1 = (i:Int):=by omega
   rw [e,bT.l0,if_pos (by omega),if_pos (by omega),if_pos (by omega),cZ.eD,cZ.jo (i:=(i:Int) - 1) (by omega) (by omega)]
 have h1:=key q.length (Nat.le_refl _)
 rw [List.drop_length] at h1
 rw [cZ.jo (by omega) (by omega)]
 exact h1
end Go.Proofs.YtmpodackojmojaaGreat.tc
end
section
namespace Go.Proofs.YtmpodackojmojaaGreat.Gr
open Go.RowKit Go.Proofs.YtmpodackojmojaaGreat.Pr Go.Proofs.ag.aX Go.Proofs.ag.bU Go.Proofs.ag.bQ
def ta (x:Int):Nat→Int
 | 0=>1
 | n+1=>wrap64 (ta x n * x)
theorem pS (x:Int):∀ n,cg (ta x n) (x ^ n)
 | 0=>by
  rw [Int.pow_zero]
  exact cg.rfl
 | n+1=>by
  rw [ta,Int.pow_succ]
  exact (gV _).trans (iT (pS x n) cg.rfl)
theorem power (x:Int) (n:Nat) (hn:n≤8):Ev (fun k=>dD.f k x (n:Int)) (ta x n):=by
 unfold dD.f
 have key:∀ d i:Nat,i+d = n→Ev (fun k=>dD.l0 k x (n:Int) (ta x i) (i:Int)) (ta x n):=by
  intro d
  induction d with
  | zero =>
   intro i hi
   obtain rfl:i = n:=by omega
   refine Ev.step (f:=fun _=>some (ta x i)) (fun k=>?_) (Ev.now _)
   rw [dD.l0,if_neg (by omega)]
  | succ d ih =>
   intro i hi
   refine Ev.step (fun k=>?_) (ih (i+1) (by omega))
   rw [dD.l0,if_pos (by omega),cZ.dH i (by omega)]
   rfl
 exact key n 0 (by omega)
end Go.Proofs.YtmpodackojmojaaGreat.Gr
end
section
namespace Go.Proofs.YtmpodackojmojaaGreat.Pure
open Go.RowKit Go.Proofs.YtmpodackojmojaaGreat.Pr Go.Proofs.YtmpodackojmojaaGreat.lT Go.Proofs.YtmpodackojmojaaGreat.Sets Go.Proofs.YtmpodackojmojaaGreat.jD Go.Proofs.YtmpodackojmojaaGreat.fH Go.Proofs.YtmpodackojmojaaGreat.Flat Go.Proofs.YtmpodackojmojaaGreat.iD Go.Proofs.YtmpodackojmojaaGreat.eP Go.Proofs.YtmpodackojmojaaGreat.pT Go.Proofs.YtmpodackojmojaaGreat.j7 Go.Proofs.YtmpodackojmojaaGreat.iU Go.Proofs.YtmpodackojmojaaGreat.iA Go.Proofs.YtmpodackojmojaaGreat.jS Go.Proofs.YtmpodackojmojaaGreat.Gr Go.Proofs.YtmpodackojmojaaGreat.od Go.Proofs.YtmpodackojmojaaGreat.tc Go.Proofs.YtmpodackojmojaaGreat.wq Go.Proofs.ag.aX Go.Proofs.ag.bU Go.Proofs.ag.bQ
set_option linter.unusedVariables false
namespace qA
theorem w1 {q:Nat} (hq:q≤4):wrap64 (1 - (q:Int)) = 1 - (q:Int):=cZ.jo (by omega) (by omega)
theorem sX (n:Int) (l:List Int):Small (qX n l):=by
 unfold qX
 split
 ·next c =>
  obtain ⟨m,j,rfl,hm,rfl,hl,h0,hf⟩:=eW c
  rw [Int.toNat_natCast,cu]
  have:=iA.iR hm hl h0
  have hR:=mK m j
  exact ⟨by rw [hR.1];omega,fun x hx=>by rw [hR.2 x hx];omega⟩
 ·exact ⟨by simp,by simp⟩
theorem sY (n:Int) (l:List Int) (hl:l.length≤257):Ev (fun k=>aq.j2 k (Char.gO n l) false n l) true:=by
 have hs:=kW n l (by omega)
 refine Ev.step (f:=fun k=>(bI.f k n l).bind fun y=>(if y = true then ((cm.f k n l).bind fun z=>((bZ.f k n l).bind fun X=>(aq.l0 k (Char.gO n l) z X 0))) else (some (((Char.gO n l).length:Int) == 0)))) (fun k=>by rw [aq.j2,if_neg (by decide)]) (Ev.bind hs ?_)
 cases hM:dN n l with
 | false =>
  refine Ev.congr (fun k=>if_neg Bool.false_ne_true) ?_
  unfold Char.gO
  rw [hM]
  exact Ev.now true
 | true =>
  refine Ev.congr (fun k=>if_pos rfl) ?_
  have hr:=lf.jy n l (by omega)
  have ht:=tO n l (by omega)
  have hsm:Small (qX n l):=sX n l
  unfold Char.gO
  unfold qX at ht hsm
  rw [if_pos hM] at hr ht hsm ⊢
  obtain ⟨m,j,rfl,hm,rfl,a2,h0,hf⟩:=eW hM
  rw [cu] at hr
  rw [Int.toNat_natCast,cu] at ht hsm ⊢
  have M:Mt m j:=⟨hm,a2,h0,hf⟩
  have htop:top j≤8:=jb _
  have hcl:=Char.jR m j
  refine Ev.bind hr (Ev.bind ht ?_)
  have key:∀ d i:Nat,i+d = 4→Ev (fun k=>aq.l0 k (Char.char m j) ((top j:Nat):Int) (kp m j) (i:Int)) true:=by
   intro d
   induction d with
   | zero =>
    intro i hi
    obtain rfl:i = 4:=by omega
    refine Ev.step (f:=fun _=>some true) (fun k=>?_) (Ev.now _)
    rw [aq.l0,if_neg (by decide)]
   | succ d ih =>
    intro i hi
    have e1:=sW M (k:=i) (by omega) (pS (-1) (top j))
    refine Ev.step (f:=fun k=>(bT.f k (Char.char m j) (i:Int)).bind fun Y=>((dD.f k (-1) ((top j:Nat):Int)).bind fun a0=>((bB.f k (kp m j) (1 - (i:Int)) 0).bind fun a1=>(if Y = (wrap64 (a0 * a1)) then (aq.l0 k (Char.char m j) ((top j:Nat):Int) (kp m j) ((i+1:Nat):Int)) else (some false))))) (fun k=>?_) (Ev.bind (qx _ (by omega) (i:Int)) (Ev.bind (power (-1) (top j) htop) (Ev.bind (Eval.spec _ (1 - (i:Int)) 0 hsm) (Ev.congr (fun k=>if_pos e1) (ih (i+1) (by omega))))))
    rw [aq.l0,if_pos (by omega),w1 (by omega),cZ.dH i (by omega)]
  exact key 4 0 (by omega)
theorem kP {n:Int} {l:List Int} {s:Int} (h:dx n l s = true):∃ (m:Nat) (j:List Nat) (x:Nat),n = m∧l = ints j∧s = x∧x < 2 ^ m∧cl m j x = x∧Mt m j:=by
 have hM:=jn h
 obtain ⟨m,j,rfl,hm,rfl,hl,h0,hf⟩:=eW hM
 unfold dx at h
 simp only [Bool.and_eq_true] at h
 obtain ⟨x,rfl,hx⟩:=iH h.1.2
 refine ⟨m,j,x,rfl,rfl,rfl,hx,?_,⟨hm,hl,h0,hf⟩⟩
 have:=of_decide_eq_true h.2
 rw [Int.toNat_natCast,cu,Int.toNat_natCast] at this
 exact this
theorem qy {m:Nat} {l:List Nat} (M:Mt m l) {x:Nat} (hM:dN (m:Int) (ints l) = true) (hx:x < 2 ^ m) (hc:cl m l x = x):dx (m:Int) (ints l) (x:Int) = true:=by
 unfold dx
 rw [hM,jK M.hm hx,Int.toNat_natCast,cu,Int.toNat_natCast]
 exact decide_eq_true hc
theorem asks (n:Int) (l:List Int) (s:Int) (hl:l.length≤257):Ev (fun k=>aI.f k (if dN n l = true then ints (aY n.toNat (l.map Int.toNat)) else []) s) (dx n l s):=by
 have h1:=kY (if dN n l = true then ints (aY n.toNat (l.map Int.toNat)) else []) s (by have:=iq n l;omega)
 rw [ik] at h1
 exact h1
theorem ld {m:Nat} {l:List Nat} (M:Mt m l) (hM:dN (m:Int) (ints l) = true) (hl:(ints l).length≤257) {x:Nat} (hx:x < 2 ^ m):Ev (fun k=>bK.f k (m:Int) (ints l) (x:Int)) ((bu l x:Nat):Int):=by
 have h1:=qS (m:Int) (ints l) (x:Int) (by omega)
 rw [hM,jK M.hm hx,if_pos (by rfl),cu,Int.toNat_natCast] at h1
 exact h1
theorem vv (y:Int) (l1:List Int) (s1:Int) (h1:l1.length≤257) (n:Int) (l:List Int) (hl:l.length≤257):Ev (fun k=>aq.j1 k s1 (j4 y l1 s1) (Char.gO n l) false y l1 n l) true:=by
 have h3:=sY n l hl
 have hF:=iK y l1 (by omega)
 refine Ev.step (f:=fun k=>(cL.f k y l1).bind fun z=>((aI.f k z s1).bind fun X=>(if X = true then ((bK.f k y l1 s1).bind fun Y=>((dD.f k (-1) Y).bind fun a0=>(aq.j2 k (Char.gO n l) (decide ((wrap64 (j4 y l1 s1 * a0))≤0)) n l))) else (aq.j2 k (Char.gO n l) false n l)))) (fun k=>by rw [aq.j1,if_neg (by decide)]) (Ev.bind hF (Ev.bind (asks y l1 s1 h1) ?_))
 cases hf:dx y l1 s1 with
 | false=>exact Ev.congr (fun k=>if_neg Bool.false_ne_true) h3
 | true =>
  refine Ev.congr (fun k=>if_pos rfl) ?_
  have hM:=jn hf
  obtain ⟨m,j,x,rfl,rfl,rfl,hx,hc,M⟩:=kP hf
  have a1:bu j x≤8:=Nat.le_trans (j7.fb j x) (jb x)
  refine Ev.bind (ld M hM h1 hx) (Ev.bind (power (-1) _ a1) ?_)
  rw [vt M hM hx hc]
  have e1:=wJ M _ x (Nat.le_refl _) hx hc
  have e2:=vZ m j x
  have e3:=cr M.hm
  have e4:wrap64 (W m j x * ta (-1) (bu j x)) = (-1) ^ bu j x * W m j x:=by
   have e5:cg (W m j x * ta (-1) (bu j x)) ((-1) ^ bu j x * W m j x):=by
    rw [Int.mul_comm]
    exact iT (pS (-1) _) cg.rfl
   have e6:(-1:Int) ^ bu j x = 1∨(-1:Int) ^ bu j x = -1:=by
    have key:∀ n:Nat,(-1:Int) ^ n = 1∨(-1:Int) ^ n = -1:=by
     intro n
     induction n with
     | zero=>exact .inl rfl
     | succ n ih =>
      rw [Int.pow_succ]
      rcases ih with h | h <;> rw [h]
      ·exact .inr rfl
      ·exact .inl rfl
    exact key _
   refine uw e5 ?_ ?_ <;> rcases e6 with h | h <;> rw [h] <;> omega
  have e7:decide (wrap64 (W m j x * ta (-1) (bu j x))≤0) = false:=by
   rw [e4,decide_eq_false_iff_not]
   omega
  rw [e7]
  exact h3
theorem vw (j:Int) (l3:List Int) (s t:Int) (h3:l3.length≤257) (n1:Int) (l1:List Int) (s1:Int) (h1:l1.length≤257) (n:Int) (l:List Int) (hl:l.length≤257) :
  Ev (fun k=>aq.j0 k s1 (j4 n1 l1 s1) (Char.gO n l) s t (if (dx j l3 s && dx j l3 t) = true then Go.bits .and .i64 s t else 0) (join j l3 s t) false n1 l1 n l j l3) true:=by
 have h2:=vv n1 l1 s1 h1 n l hl
 have hF:=iK j l3 (by omega)
 refine Ev.step (f:=fun k=>(cL.f k j l3).bind fun Y=>((aI.f k Y s).bind fun a3=>(if a3 = true then ((aI.f k Y t).bind fun a4=>(if a4 = true then ((aI.f k Y (if (dx j l3 s && dx j l3 t) = true then Go.bits .and .i64 s t else 0)).bind fun a5=>(if a5 = true then ((aI.f k Y (join j l3 s t)).bind fun a6=>(if a6 = true then ((bK.f k j l3 (if (dx j l3 s && dx j l3 t) = true then Go.bits .and .i64 s t else 0)).bind fun a7=>((bK.f k j l3 (join j l3 s t)).bind fun a8=>((bK.f k j l3 s).bind fun a9=>((bK.f k j l3 t).bind fun aa=>(aq.j1 k s1 (j4 n1 l1 s1) (Char.gO n l) (decide ((wrap64 (a7+a8)) > (wrap64 (a9+aa)))) n1 l1 n l))))) else (aq.j1 k s1 (j4 n1 l1 s1) (Char.gO n l) true n1 l1 n l))) else (aq.j1 k s1 (j4 n1 l1 s1) (Char.gO n l) true n1 l1 n l))) else (aq.j1 k s1 (j4 n1 l1 s1) (Char.gO n l) false n1 l1 n l))) else (aq.j1 k s1 (j4 n1 l1 s1) (Char.gO n l) false n1 l1 n l)))) (fun k=>by rw [aq.j0,if_neg (by decide)]) (Ev.bind hF (Ev.bind (asks j l3 s h3) ?_))
 cases hs:dx j l3 s with
 | false=>exact Ev.congr (fun k=>if_neg Bool.false_ne_true) h2
 | true =>
  refine Ev.congr (fun k=>if_pos rfl) (Ev.bind (asks j l3 t h3) ?_)
  cases ht:dx j l3 t with
  | false=>exact Ev.congr (fun k=>if_neg Bool.false_ne_true) h2
  | true =>
   refine Ev.congr (fun k=>if_pos rfl) ?_
   have hM:=jn hs
   obtain ⟨m,X,x,rfl,rfl,rfl,hx,hc,M⟩:=kP hs
   obtain ⟨y,rfl,hy,hd⟩:∃ y:Nat,t = y∧y < 2 ^ m∧cl m X y = y:=by
    obtain ⟨m',ab,y,e1,e2,rfl,hy,hd,_⟩:=kP ht
    obtain rfl:m = m':=by omega
    have e3:X = ab:=by
     have:=congrArg (List.map Int.toNat) e2
     rwa [cu,cu] at this
    rw [e3]
    exact ⟨y,rfl,hy,hd⟩
   have am:=cr M.hm
   have hand:(if (true && true) = true then Go.bits .and .i64 (x:Int) (y:Int) else 0) = ((x &&& y:Nat):Int):=by
    rw [if_pos (by rfl)]
    exact k8 x y (by omega) (by omega)
   have a0:join (m:Int) (ints X) (x:Int) (y:Int) = ((cl m X (x ||| y):Nat):Int):=by
    unfold join
    rw [hs,ht,if_pos (by rfl),Int.toNat_natCast,cu,Int.toNat_natCast,Int.toNat_natCast]
    rfl
   have hxy:x ||| y < 2 ^ m:=gY hx hy
   have f1:=qy M hM (kH hx) (meet M hx hy hc hd)
   have f2:=qy M hM (jC m X (x ||| y)) (j3 M hxy)
   rw [hand,a0]
   have a1:=asks (m:Int) (ints X) ((x &&& y:Nat):Int) h3
   have a2:=asks (m:Int) (ints X) ((cl m X (x ||| y):Nat):Int) h3
   rw [f1] at a1
   rw [f2] at a2
   refine Ev.bind a1 (Ev.congr (fun k=>if_pos rfl) (Ev.bind a2 (Ev.congr (fun k=>if_pos rfl) ?_)))
   refine Ev.bind (ld M hM h3 (kH hx)) (Ev.bind (ld M hM h3 (jC m X _)) (Ev.bind (ld M hM h3 hx) (Ev.bind (ld M hM h3 hy) ?_)))
   have g1:=pL M hx hy
   have g2:=kj M hxy
   have b1:∀ z,bu X z≤8:=fun z=>Nat.le_trans (j7.fb X z) (jb z)
   have b2:=b1 (x &&& y)
   have b3:=b1 (cl m X (x ||| y))
   have b4:=b1 x
   have b5:=b1 y
   have e1:decide ((wrap64 (((bu X (x &&& y):Nat):Int)+((bu X (cl m X (x ||| y)):Nat):Int))) > (wrap64 (((bu X x:Nat):Int)+((bu X y:Nat):Int)))) = false:=by
    rw [cZ.jo (by omega) (by omega),cZ.jo (by omega) (by omega),decide_eq_false_iff_not]
    omega
   rw [e1]
   exact h2
end qA
open qA in
theorem r8 (code:List Int) (hm:code.length≤maxLen∧∀ x∈code,(Lit.int .u8 x).wf = true):∃ k,aq.f k code = some true:=by
 refine Ev.rounds ?_
 unfold aq.f iO.f
 simp only [Option.bind_some]
 by_cases hbig:(code.length:Int) > 1048576
 ·simp only [decide_eq_true hbig,if_true]
  exact Ev.now _
 ·simp only [decide_eq_false hbig,Bool.false_eq_true,if_false]
  have hc:code.length≤1048576:=by omega
  obtain ⟨z,l1,s1,X,a2,a3⟩:=mS.sB code hc
  obtain ⟨n,l,Y,hl⟩:=mS.chars code hc
  obtain ⟨q,a,a0,hq⟩:=mS.uZ code hc
  obtain ⟨j,l3,s,t,a1,a4,a5⟩:=mS.two code hc
  have hcl:(Char.gO n l).length≤2097152:=by
   unfold Char.gO
   split
   ·rw [Char.jR]
    have:top (l.map Int.toNat)≤8:=jb _
    omega
   ·simp
  have hwl:(lf.nv n l).length≤2097152:=by
   unfold lf.nv
   split
   ·unfold lf.tQ
    rw [lf.gD]
    have:top (l.map Int.toNat)≤8:=jb _
    omega
   ·simp
  refine Ev.bind X (Ev.bind (pO z l1 s1 (by omega)) (Ev.bind Y (Ev.bind (Char.sK n l (by omega)) (Ev.bind a0 (Ev.bind (lf.sI n l (by omega)) (Ev.bind a1 (Ev.bind (sF j l3 s t (by omega)) (Ev.bind (sD j l3 s t (by omega)) (Ev.bind (pP z l1 s1 (by omega)) (Ev.congr (fun k=>if_pos rfl) ?_))))))))))
  refine Ev.bind (Char.sL n l (by omega)) (Ev.bind (um _ hcl) (Ev.congr (fun k=>if_pos rfl) ?_))
  have hev:=qx q (by omega) a
  have y:Ev (fun k=>cD.f k q a) (rh a q):=by
   refine Ev.congr (fun k=>?_) hev
   unfold cD.f bT.f
   exact (same k q a 0 _).symm
  refine Ev.bind hev (Ev.bind y (Ev.congr (fun k=>if_pos rfl) ?_))
  refine Ev.bind (lf.sJ n l (by omega)) (Ev.bind (um _ hwl) (Ev.congr (fun k=>if_pos rfl) ?_))
  refine Ev.bind (sE j l3 s t (by omega)) (Ev.congr (fun k=>if_pos rfl) (Ev.bind (sC j l3 s t (by omega)) ?_))
  have hb:(join j l3 s t != join j l3 s t) = false:=by simp
  rw [hb]
  exact vw j l3 s t (by omega) z l1 s1 (by omega) n l hl
end Go.Proofs.YtmpodackojmojaaGreat.Pure
end
section
namespace Go.Proofs.YtmpodackojmojaaGreat.Open
open Go.ChangeShapes Go.WideShapes Go.RowKit Go.Proofs.ag.aX Go.Deep
set_option linter.unusedVariables false
structure gZ {α:Type} (P:Program) (d:Kd α) (t:TypeId) (Wf:α→Prop):Prop where
 go:∀ (H:Type) (enc:TypeId×Value→H) (w:World) (base:Nat) (spare:Nat→Bool) (held:Bool) (fuel:Nat) (cs:List Value) (x:DataW H×List MemPlace),
  DataW.trod enc P w base spare held fuel t cs = some x→∃ a,d.K w a cs∧Wf a
theorem gZ.int {P:Program} {t:TypeId} {k:IntKind} (ht:P.underlying t = some (.int k)):gZ P (Kd.int k) t (fun n=>(Lit.int k n).wf = true):=by
 refine ⟨fun H enc w base spare held fuel cs x h=>?_⟩
 obtain ⟨n,rfl,_,hw⟩:=DataW.trod_int ht h
 exact ⟨n,rfl,hw⟩
theorem gZ.bool {P:Program} {t:TypeId} (ht:P.underlying t = some .bool):gZ P Kd.bool t (fun _=>True):=by
 refine ⟨fun H enc w base spare held fuel cs x h=>?_⟩
 obtain ⟨n,rfl,_⟩:=DataW.trod_bool ht h
 exact ⟨n,rfl,trivial⟩
theorem gZ.string {P:Program} {t:TypeId} (ht:P.underlying t = some .string):gZ P Kd.string t (fun s=>s.size≤maxLen):=by
 refine ⟨fun H enc w base spare held fuel cs x h=>?_⟩
 obtain ⟨n,rfl,_,hw⟩:=DataW.trod_string ht h
 exact ⟨n,rfl,hw⟩
theorem tX {α:Type} {p:Nat→α→Prop}:∀ {len:Nat},(∀ i,i < len→∃ y,p i y)→∃ xs:List α,xs.length = len∧∀ i y,xs[i]? = some y→p i y:=by
 intro len
 induction len with
 | zero=>exact fun _=>⟨[],rfl,fun i y h=>by simp at h⟩
 | succ len ih =>
  intro key
  obtain ⟨xs,hxl,hxs⟩:=ih (fun i hi=>key i (by omega))
  obtain ⟨y,hy⟩:=key len (by omega)
  refine ⟨xs ++ [y],by simp [hxl],fun i z hz=>?_⟩
  by_cases hi:i < xs.length
  ·rw [List.getElem?_append_left hi] at hz
   exact hxs i z hz
  ·have hlt:i < (xs ++ [y]).length:=(List.getElem?_eq_some_iff.1 hz).1
   have e:i = len:=by simp [hxl] at hlt hi;omega
   subst e
   rw [List.getElem?_append_right (by omega),hxl] at hz
   simp at hz
   subst hz
   exact hy
theorem gZ.slice {α:Type} {P:Program} {t e:TypeId} {d:Kd α} {Wf:α→Prop} (ht:P.underlying t = some (.slice e)) (hs:P.cellsOf e = d.sz) (h:gZ P d e Wf) :
  gZ P (Kd.slice e d) t (fun xs=>xs.length≤maxLen∧∀ x∈xs,Wf x):=by
 refine ⟨fun H enc w base spare held fuel cs x hx=>?_⟩
 rcases open_slice ht hx with ⟨rfl,_⟩ | ⟨a,len,cap,m,n,D,Pl,rfl,hb,hl,hm,hmm,_,hel⟩
 ·exact ⟨[],⟨none,0,rfl,Nat.le_refl _,rfl,by simp,fun h=>absurd h (by simp)⟩,by simp,by simp⟩
 ·have hlm:len≤m:=by rw [hmm];split <;> omega
  have key:∀ i,i < len→∃ y:α,(∃ cs',w.cells? base (a.add (i * P.cellsOf e)) (P.cellsOf e) = some cs'∧d.K w y cs')∧Wf y:=fun i hi=>by
   obtain ⟨cs',h1,h2⟩:=hel i (by omega)
   obtain ⟨y,h3,h4⟩:=h.go _ enc w base spare held n cs' _ h2
   exact ⟨y,⟨cs',h1,h3⟩,h4⟩
  obtain ⟨xs,hxl,hxs⟩:=tX key
  refine ⟨xs,⟨some a,cap,by rw [hxl],by omega,rfl,by have:=hm;unfold maxLen at this;omega,fun _=>⟨a,rfl,fun j p hj=>?_⟩⟩,by omega,fun y hy=>?_⟩
  ·obtain ⟨⟨cs',h1,h2⟩,_⟩:=hxs j p hj
   obtain ⟨_,h3,h4⟩:=World.cells?_some h1
   refine ⟨cs',by rw [h3,hs],h2,fun i u hu=>?_⟩
   have hlt:i < cs'.length:=(List.getElem?_eq_some_iff.1 hu).1
   have:=h4 i (by omega)
   rw [hs,Go.Deep.add_add] at this
   rw [this,hu]
  ·obtain ⟨i,hi⟩:=List.getElem?_of_mem hy
   exact (hxs i y hi).2
structure kn {α:Type} (P:Program) (fs:List Field) (off:Nat) (d:Kd α) (Wf:α→Prop):Prop where
 go:∀ (H:Type) (enc:TypeId×Value→H) (w:World) (base:Nat) (spare:Nat→Bool) (held:Bool) (n:Nat) (cs:List Value),
  cs.length = off+d.sz→(∀ f∈fs,∃ x,DataW.trod enc P w base spare held n f.type ((cs.drop f.offset).take (P.cellsOf f.type)) = some x)→∃ a,d.K w a (cs.drop off)∧Wf a
theorem kn.one {α:Type} {P:Program} {f:Field} {off:Nat} {d:Kd α} {Wf:α→Prop} (ho:f.offset = off) (hs:P.cellsOf f.type = d.sz) (h:gZ P d f.type Wf):kn P [f] off d Wf:=by
 refine ⟨fun H enc w base spare held n cs hl hf=>?_⟩
 obtain ⟨x,hx⟩:=hf f (by simp)
 rw [ho,hs,List.take_of_length_le (by rw [List.length_drop];omega)] at hx
 exact h.go _ enc w base spare held n _ x hx
theorem kn.cons {α β:Type} {P:Program} {f:Field} {fs:List Field} {off:Nat} {d:Kd α} {d':Kd β} {Wf:α→Prop} {j:β→Prop} (ho:f.offset = off) (hs:P.cellsOf f.type = d.sz) (h:gZ P d f.type Wf)
  (h':kn P fs (off+d.sz) d' j):kn P (f :: fs) off (Kd.pair d d') (fun x=>Wf x.1∧j x.2):=by
 refine ⟨fun H enc w base spare held n cs hl hf=>?_⟩
 have hl':cs.length = off+(d.sz+d'.sz):=hl
 obtain ⟨x,hx⟩:=hf f (by simp)
 rw [ho,hs] at hx
 obtain ⟨a,ha,wa⟩:=h.go _ enc w base spare held n _ x hx
 obtain ⟨b,hb,wb⟩:=h'.go _ enc w base spare held n cs (by omega) (fun g hg=>hf g (by simp [hg]))
 refine ⟨(a,b),⟨(cs.drop off).take d.sz,cs.drop (off+d.sz),?_,ha,hb⟩,wa,wb⟩
 rw [← List.drop_drop,List.take_append_drop]
theorem gZ.struct {α:Type} {P:Program} {t:TypeId} {fs:Array Field} {d:Kd α} {Wf:α→Prop} (ht:P.underlying t = some (.struct fs)) (hs:P.cellsOf t = d.sz) (h:kn P fs.toList 0 d Wf):gZ P d t Wf:=by
 refine ⟨fun H enc w base spare held fuel cs x hx=>?_⟩
 obtain ⟨xs,n,_,_,hl,hlen,hg⟩:=DataW.trod_struct ht hx
 obtain ⟨a,ha,wa⟩:=h.go _ enc w base spare held n cs (by omega) (fun f hf=>by
  obtain ⟨i,hi⟩:=List.getElem?_of_mem hf
  have h1:=hg i f (by simpa using hi)
  have hlt:i < fs.size:=by have:=(List.getElem?_eq_some_iff.1 hi).1;simpa using this
  exact ⟨_,h1.trans (List.getElem?_eq_getElem (by omega))⟩)
 exact ⟨a,by simpa using ha,wa⟩
theorem gZ.sZ {α:Type} {P:Program} {t e:TypeId} {d:Kd α} {Wf:List α→Prop} (h:gZ P (Kd.slice e d) t Wf) {H:Type} {enc:TypeId×Value→H} {w:World} {base:Nat} {spare:Nat→Bool} {held:Bool} {v:Value} {x:DataW H} {ps:List MemPlace}
  (hv:∃ a len cap,v = .slice a len cap) (ht:DataW.Trod enc P w base spare held t v x ps):∃ A c xs,v = .slice A xs.length c∧xs.length≤c∧d.C w A xs.length xs∧Wf xs:=by
 obtain ⟨a,len,cap,rfl⟩:=hv
 obtain ⟨fuel,hf⟩:=ht
 obtain ⟨xs,⟨A,c,hc,hl,hr⟩,wf⟩:=h.go _ enc w base spare held fuel _ _ hf
 simp only [Value.cells,List.cons.injEq,and_true] at hc
 exact ⟨A,c,xs,hc,hl,hr,wf⟩
end Go.Proofs.YtmpodackojmojaaGreat.Open
end
section
namespace Go.Proofs.YtmpodackojmojaaGreat.nx
open Go.ChangeShapes Go.WideShapes Go.ChangeAt Go.RowKit Go.Proofs.YtmpodackojmojaaGreat.Open Go.Proofs.ag.aX
open Go.ChangeMaps (open_string shut_string)
set_option linter.unusedVariables false
theorem own:ownKnob Tryz.prog.godebug = none:=by kernel_rfl
theorem laidOut:laidOutB Tryz.prog = true:=by kernel_rfl
set_option maxRecDepth 100000 in
theorem lifted (os:Os) (started:os.Started) (H:Type) (enc:TypeId×Value→H) :
  ReturnsInHanded {} Tryz.checked os 4 .any (Rows.fnLatticeSpec.pre6 enc Tryz.prog Tryz.f4 Rows.fnLatticeRow.domain false) (Rows.fnLatticeSpec.post enc Tryz.prog Tryz.f4 false true false false):=by
 refine returnsInHanded_of_change_sized (C:=Tryz.checked) own started (by kernel_rfl) Tryz.func4
  (ChangeSpec.witness6 (enc:=enc) (C:=Tryz.checked) false ⟨#[],#[.slice none 0 0],[]⟩ 8 (by kernel_rfl) (by kernel_rfl) (by kernel_rfl) (by kernel_rfl)) ?_
 intro W base args ds gs before y hW hcnd z _
 have hval:∀ (j:Nat) t v,Tryz.f4.params[j]? = some t→args[j]? = some v→Value.okWide Tryz.prog W .any base t v:=y
 have hW':=hW
 obtain ⟨p,q,X,hV,rfl,hfz,hnd⟩:=hW
 have hA:DataW.TrodAll enc Tryz.prog W 0 (fun _=>true) true Tryz.f4.params.toList args.toList ds p:=X
 rw [Tryz.params4] at hA hval
 obtain ⟨v0,a2,d0,a3,p0,q0,hargs,rfl,rfl,h0,r0⟩:=trodAll_cons hA
 obtain ⟨rfl,rfl,rfl⟩:=trodAll_nil r0
 obtain rfl:args = #[v0]:=by cases args;simp_all
 obtain ⟨rfl,rfl⟩:=trodVars_none hV
 have k0:=h0
 have Y:∀ x∈p0,x.block < W.heap.size:=by obtain ⟨m,hm⟩:=k0;exact DataW.trod_lt m _ _ _ hm
 obtain ⟨A0,c0,x0,rfl,a0,a1,w0⟩:=gZ.sZ (gZ.slice Tryz.underlying22 (by kernel_rfl) (gZ.int Tryz.underlying5)) (okWide_slice Tryz.underlying22 (hval 0 22 v0 rfl rfl)) h0
 clear X y z
 obtain ⟨k,hk⟩:=Pure.r8 x0 w0
 refine (Pr.aq.calls k _ _ x0 true W a1 a0 ⟨rfl⟩ hk).mono fun e W' ⟨he,bel⟩=>?_
 subst he
 exact ⟨_,rfl,_,_,_,[],_,[],hW',trodAll_mk1 (shut_bool Tryz.underlying4 _),(trodAll_cons_mk (Below.trod laidOut (by kernel_rfl) (of_decide_eq_true (by kernel_rfl)) k0 bel Y) trodAll_mk0),rfl,bel.frame _,fun h=>by cases h⟩
theorem wM:Rows.fnLatticeRow.holds Tryz.pinned (OpenSpec.ofChange Rows.fnLatticeSpec) :=
 OpenClaim.holds_of_wide 4 Tryz.f4 rfl rfl rfl rfl rfl rfl rfl ⟨rfl,rfl,rfl,rfl,rfl⟩ rfl rfl rfl rfl rfl (by kernel_rfl) Tryz.func4 (by kernel_rfl)
  (of_decide_eq_true (by kernel_rfl)) (by unfold Func.isWrapper;first | (rw [if_pos (by decide +kernel)];kernel_rfl) | (rw [if_neg (by decide +kernel)];exact ⟨rfl,rfl⟩))
  (fun os started H enc _=>lifted os started H enc)
theorem proved:Rows.FnLatticeSaid:=wM
#print axioms proved
end Go.Proofs.YtmpodackojmojaaGreat.nx
namespace Go.Proofs.YtmpodackojmojaaGreat
theorem fnLattice_holds:Rows.FnLatticeSaid:=nx.proved
end Go.Proofs.YtmpodackojmojaaGreat
end
