/- The claim FnActivities: every text that its row comes to, laid together by slim.py (the words of the kit's print, the printed walks, the pure law, the row). -/
import Derived.Below
import Derived.ChangeArms
import Derived.ChangeOld
import Derived.DataReads
import Derived.Deep.Slices
import Derived.OpenShut
import Derived.ProofKit
import Derived.ShutString
import Derived.SizedLaws
import Derived.Test.YtlfkfdmggpipbaaGreatRows
import Derived.WalkKit
import Derived.Test.YtlfkfdmggpipbaaGreatYFnActivities6
namespace Go.Proofs.YtlfkfdmggpipbaaGreat
section
namespace tG
open Go.RowKit Go.Proofs.YtlfkfdmggpipbaaGreat.Pr cX wM oQ ag.aZ ag.bR ag.bT
set_option linter.unusedVariables false
theorem Aa {p x:Int} (hp:p = 2∨p = 3∨p = 5):(x.tmod p = x % p)∨(x < 0∧x.tmod p = x % p - p∧x % p≠0):=by
 rw [Int.tmod_eq_emod];by_cases h:0≤x∨p ∣ x
 ·rw [if_pos h];left;omega
 ·rw [if_neg h]
  right
  have:x < 0:=by omega
  refine ⟨this,by rcases hp with rfl | rfl | rfl <;> rfl,fun e=>h (.inr (Int.dvd_of_emod_eq_zero e))⟩
theorem zJ {p x:Int} (hp:p = 2∨p = 3∨p = 5):Int.tmod (Int.tmod x p+p) p = x % p:=by
 have h0:=Int.emod_nonneg x (show p≠0 by omega);have h1:=Int.emod_lt_of_pos x (show 0 < p by omega);rcases Aa (p:=p) (x:=x) hp with e | ⟨_,e,j⟩
 ·rw [e,Int.tmod_eq_emod_of_nonneg (by omega),Int.add_emod_right,Int.emod_emod]
 ·rw [e,Int.sub_add_cancel,Int.tmod_eq_emod_of_nonneg h0,Int.emod_emod]
theorem Am {p:Int} (hp:p = 2∨p = 3∨p = 5) (x:Int):0≤x % p∧x % p < p:=⟨Int.emod_nonneg x (by omega),Int.emod_lt_of_pos x (by omega)⟩
theorem AD:oQ.Pr 5:=by
 refine ⟨fun a b h=>?_,by decide⟩;have h':=Int.emod_eq_zero_of_dvd h;rw [Int.mul_emod] at h';have ea:a % 5 = 0∨a % 5 = 1∨a % 5 = 2∨a % 5 = 3∨a % 5 = 4:=by omega
 have eb:b % 5 = 0∨b % 5 = 1∨b % 5 = 2∨b % 5 = 3∨b % 5 = 4:=by omega
 rcases ea with e | e | e | e | e <;> rcases eb with f | f | f | f | f <;> rw [e,f] at h' <;> simp at h' <;> first | exact .inl (Int.dvd_of_emod_eq_zero e) | exact .inr (Int.dvd_of_emod_eq_zero f)
theorem wD {p:Int} (hp:p = 2∨p = 3∨p = 5):oQ.Pr p:=by
 rcases hp with rfl | rfl | rfl
 ·exact AA
 ·exact AB
 ·exact AD
theorem zK {a b:Int} (ha:0≤a∧a < 5) (hb:0≤b∧b < 5):0≤a * b∧a * b≤25:=by
 have h1:a = 0∨a = 1∨a = 2∨a = 3∨a = 4:=by omega
 have h2:b = 0∨b = 1∨b = 2∨b = 3∨b = 4:=by omega
 rcases h1 with rfl | rfl | rfl | rfl | rfl <;> rcases h2 with rfl | rfl | rfl | rfl | rfl <;> decide
theorem val {p x y:Int} (hp:p = 2∨p = 3∨p = 5) (hx:0≤x∧x≤25) (hy:0≤y∧y≤25):Int.tmod (wrap64 ((Int.tmod (wrap64 ((wrap64 x) - (wrap64 y))) p)+p)) p = (x - y) % p:=by
 rw [jL (i:=x) (by omega) (by omega),jL (i:=y) (by omega) (by omega),jL (i:=x - y) (by omega) (by omega)];have h0:=Int.emod_nonneg (x - y) (show p≠0 by omega);have h1:=Int.emod_lt_of_pos (x - y) (show 0 < p by omega);rw [jL (i:=Int.tmod (x - y) p+p) (by rcases Aa (p:=p) (x:=x - y) hp with e | ⟨_,e,_⟩ <;> omega) (by rcases Aa (p:=p) (x:=x - y) hp with e | ⟨_,e,_⟩ <;> omega)];exact zJ hp
def row (p:Int) (f:Nat→Nat→Int) (r j i c:Nat):Int:=(f i c * f r j - f r c * f i j) % p
theorem yQ {p:Int} (hp:p = 2∨p = 3∨p = 5) {R C:Nat} (hR:R≤8) (hC:C≤8) {f:Nat→Nat→Int} (hf:Ok p R C f) {r j i:Nat} (hr:r < R) (hj:j < C) (hi:i < R) (hir:i≠r) {v:Int} (s:Int)
  (h:Ev (fun k=>ax.l3 k p R C s (lO R C (fun i' c'=>if i' = i then row p f r j i c' else f i' c')) r j ((i+1:Nat):Int)) v) :
  ∀ d c:Nat,c+d = C→Ev (fun k=>ax.l4 k p R C s (lO R C (fun i' c'=>if i' = i∧c' < c then row p f r j i c' else f i' c')) r j i (f i j) (f r j) c) v:=by
 intro d;induction d with
 | zero =>
  intro c hc;obtain rfl:c = C:=by omega
  refine Ev.step (fun k=>?_) h;simp only [ax.l4];rw [if_neg (by omega),dO i (by omega)];rw [ij (g:=fun i' c'=>if i' = i then row p f r j i c' else f i' c') fun i' c' h1 h2=>by simp only [h2,and_true]]
 | succ d ih =>
  intro c hc;have hcC:c < C:=by omega
  refine Ev.step (fun k=>?_) (ih (c+1) (by omega));simp only [ax.l4];have X:=kG (R:=R) hi hcC;have Y:=kG (R:=R) hr hcC;rw [if_pos (by omega),ix (by omega) (by omega) (by omega),ix (by omega) (by omega) (by omega),if_pos (by omega),if_pos (by rw [fz];omega),if_pos (by omega),if_pos (by rw [fz];omega),if_neg (by omega)];rw [kY _ hi hcC,kY _ hr hcC,Int.toNat_natCast,qF _ hi hcC,dO c (by omega)];have b1:=hf i c hi hcC;have b2:=hf r c hr hcC;have b3:=hf i j hi hj;have b4:=hf r j hr hj;have m1:=zK (a:=f i c) (b:=f r j) (by omega) (by omega);have m2:=zK (a:=f r c) (b:=f i j) (by omega) (by omega);rw [if_neg (show ¬ (i = i∧c < c) by omega),if_neg (show ¬ (r = i∧c < c) by omega),val hp (by omega) (by omega)];congr 1
  refine ij fun i' c' h1 h2=>?_
  by_cases e:i' = i
  ·subst e
   by_cases y:c' = c
   ·subst y
    rw [if_pos ⟨rfl,rfl⟩,if_pos ⟨rfl,by omega⟩];rfl
   ·by_cases z:c' < c
    ·rw [if_neg (fun h=>y h.2),if_pos ⟨rfl,z⟩,if_pos ⟨rfl,by omega⟩]
    ·rw [if_neg (fun h=>y h.2),if_neg (fun h=>z h.2),if_neg (by omega)]
  ·rw [if_neg (fun h=>e h.1),if_neg (fun h=>e h.1),if_neg (fun h=>e h.1)]
theorem yR {p:Int} (hp:p = 2∨p = 3∨p = 5) {R C:Nat} (hR:R≤8) (hC:C≤8) {f:Nat→Nat→Int} (hf:Ok p R C f) {r j:Nat} (hr:r < R) (hj:j < C) {v:Int} (s:Int)
  (h:Ev (fun k=>ax.l0 k p R C s (lO R C (fun i' c'=>if r < i' then row p f r j i' c' else f i' c')) ((r+1:Nat):Int) ((j+1:Nat):Int)) v) :
  ∀ d i:Nat,i+d = R→r < i→Ev (fun k=>ax.l3 k p R C s (lO R C (fun i' c'=>if r < i'∧i' < i then row p f r j i' c' else f i' c')) r j i) v:=by
 intro d;induction d with
 | zero =>
  intro i hi _;obtain rfl:i = R:=by omega
  refine Ev.step (fun k=>?_) h;simp only [ax.l3];rw [if_neg (by omega),dO r (by omega),dO j (by omega)];rw [ij (g:=fun i' c'=>if r < i' then row p f r j i' c' else f i' c') fun i' c' h1 h2=>by simp only [h1,and_true]]
 | succ d ih =>
  intro i hi X;have y:i < R:=by omega
  obtain ⟨g,hg⟩:∃ g:Nat→Nat→Int,g = fun i' c'=>if r < i'∧i' < i then row p f r j i' c' else f i' c':=⟨_,rfl⟩
  have g1:∀ c,g i c = f i c:=fun c=>by rw [hg];exact if_neg (by omega)
  have g2:∀ c,g r c = f r c:=fun c=>by rw [hg];exact if_neg (by omega)
  have hgk:Ok p R C g:=by
   intro i' c' h1 h2;rw [hg];show 0≤(if r < i'∧i' < i then row p f r j i' c' else f i' c')∧(if r < i'∧i' < i then row p f r j i' c' else f i' c') < p;by_cases e:r < i'∧i' < i
   ·rw [if_pos e];exact Am hp _
   ·rw [if_neg e];exact hf i' c' h1 h2
  have Y:lO R C (fun i' c'=>if i' = i then row p g r j i c' else g i' c') = lO R C (fun i' c'=>if r < i'∧i' < i+1 then row p f r j i' c' else f i' c'):=by
   refine ij fun i' c' h1 h2=>?_
   by_cases e:i' = i
   ·subst e
    rw [if_pos rfl,if_pos (by omega)];show (g i' c' * g r j - g r c' * g i' j) % p = _;rw [g1,g2,g2,g1];rfl
   ·rw [if_neg e,hg]
    show (if r < i'∧i' < i then row p f r j i' c' else f i' c') = _;by_cases z:r < i'∧i' < i
    ·rw [if_pos z,if_pos (by omega)]
    ·rw [if_neg z,if_neg (by omega)]
  have h2:=ih (i+1) (by omega) (by omega);rw [← Y] at h2;have h3:=yQ hp hR hC hgk hr hj y (by omega) s h2 C 0 (by omega);rw [← hg];refine Ev.step (fun k=>?_) h3;simp only [ax.l3];have a0:=kG (R:=R) y hj;have a1:=kG (R:=R) hr hj;rw [if_pos (by omega),ix (by omega) (by omega) (by omega),ix (by omega) (by omega) (by omega),if_pos (by omega),if_pos (by rw [fz];omega),if_pos (by omega),if_pos (by rw [fz];omega),kY _ y hj,kY _ hr hj];rw [ij (f:=fun i' c'=>if i' = i∧c' < 0 then row p g r j i c' else g i' c') (g:=g) fun i' c' h1 h2=>if_neg (by omega)];rfl
theorem yS {p:Int} {R C:Nat} (hR:R≤8) (hC:C≤8) {f:Nat→Nat→Int} {r j b:Nat} (hr:r < R) (hb:b < R) {v:Int} (s:Int)
  (h:Ev (fun k=>ax.l3 k p R C s (lO R C (gI f r b)) r j ((r+1:Nat):Int)) v) :
  ∀ d c:Nat,c+d = C→Ev (fun k=>ax.l2 k p R C s (lO R C (fun i' c'=>if c' < c then gI f r b i' c' else f i' c')) r j b c) v:=by
 intro d;induction d with
 | zero =>
  intro c hc;obtain rfl:c = C:=by omega
  refine Ev.step (fun k=>?_) h;simp only [ax.l2];rw [if_neg (by omega),dO r (by omega)];rw [ij (g:=gI f r b) fun i' c' h1 h2=>if_pos h2]
 | succ d ih =>
  intro c hc;have hcC:c < C:=by omega
  refine Ev.step (fun k=>?_) (ih (c+1) (by omega));simp only [ax.l2];have X:=kG (R:=R) hb hcC;have Y:=kG (R:=R) hr hcC;rw [if_pos (by omega),ix (by omega) (by omega) (by omega),ix (by omega) (by omega) (by omega),if_pos (by omega),if_pos (by rw [fz];omega),if_pos (by omega),if_pos (by rw [fz];omega)];rw [kY _ hb hcC,kY _ hr hcC,Int.toNat_natCast,Int.toNat_natCast,qF _ hb hcC,qF _ hr hcC,dO c (by omega)];rw [if_neg (show ¬ c < c by omega),if_neg (show ¬ c < c by omega)];congr 1
  refine ij fun i' c' h1 h2=>?_
  by_cases z:c' = c
  ·subst z
   rw [if_pos (show c' < c'+1 by omega)];unfold gI;by_cases e:i' = r
   ·rw [if_pos ⟨e,rfl⟩,if_pos e]
   ·rw [if_neg (fun h=>e h.1),if_neg e]
    by_cases y:i' = b
    ·rw [if_pos ⟨y,rfl⟩,if_pos y]
    ·rw [if_neg (fun h=>y h.1),if_neg y,if_neg (by omega)]
  ·rw [if_neg (fun h=>z h.2),if_neg (fun h=>z h.2)]
   by_cases y:c' < c
   ·rw [if_pos y,if_pos (by omega)]
   ·rw [if_neg y,if_neg (by omega)]
theorem yT {p:Int} {R C:Nat} (hR:R≤8) (hC:C≤8) {f:Nat→Nat→Int} {r j:Nat} (hj:j < C) (s:Int) :
  ∀ d i:Nat,i+d = R→r≤i→(∀ i',r≤i'→i' < i→f i' j = 0)→∃ b,r≤b∧((b < R∧f b j≠0)∨(b = R∧∀ i',r≤i'→i' < R→f i' j = 0)) ∧
   ∀ v:Int,Ev (fun k=>ax.j2 k p R C s (lO R C f) r j b) v→Ev (fun k=>ax.l1 k p R C s (lO R C f) r j i) v:=by
 intro d;induction d with
 | zero =>
  intro i hi z hz;obtain rfl:i = R:=by omega
  refine ⟨i,z,.inr ⟨rfl,hz⟩,fun v h=>Ev.step (fun k=>?_) h⟩;simp only [ax.l1];rw [if_neg (by omega)]
 | succ d ih =>
  intro i hi z hz;have y:i < R:=by omega
  have X:=kG (R:=R) y hj;by_cases e:f i j = 0
  ·obtain ⟨b,h1,h2,h3⟩:=ih (i+1) (by omega) (by omega) (fun i' h4 h5=>by
    by_cases Y:i' = i
    ·rw [Y];exact e
    ·exact hz i' h4 (by omega))
   refine ⟨b,h1,h2,fun v h=>Ev.step (fun k=>?_) (h3 v h)⟩;simp only [ax.l1];rw [if_pos (by omega),ix (by omega) (by omega) (by omega),if_pos (by omega),if_pos (by rw [fz];omega),kY _ y hj,if_pos e,dO i (by omega)]
  ·refine ⟨i,z,.inl ⟨y,e⟩,fun v h=>Ev.step (fun k=>?_) h⟩
   simp only [ax.l1];rw [if_pos (by omega),ix (by omega) (by omega) (by omega),if_pos (by omega),if_pos (by rw [fz];omega),kY _ y hj,if_neg e]
theorem yU {p:Int} (hp:p = 2∨p = 3∨p = 5) {R C s:Nat} (hR:R≤8) (hC:C≤8) (hs:s < 256) {A:Nat→Nat→Int} :
  ∀ d j r:Nat,j+d = C→∀ (f:Nat→Nat→Int) (PV:Nat→Bool),Ok p R C f→lF p R C A (fun j=>s.testBit j) j f r PV→∃ r':Nat,gz p R C A (fun j=>s.testBit j) r'∧Ev (fun k=>ax.l0 k p R C (s:Int) (lO R C f) r j) (r':Int):=by
 intro d;induction d with
 | zero =>
  intro j r hj f PV hf hE;obtain rfl:j = C:=by omega
  refine ⟨r,hE.bW (wD hp),Ev.step (f:=fun _=>some (r:Int)) (fun k=>?_) (Ev.now _)⟩;simp only [ax.l0];rw [if_neg (by omega)]
 | succ d ih =>
  intro j r hj f PV hf hE;have y:j < C:=by omega
  have hrR:=hE.rows;cases hb:s.testBit j with
  | false =>
   obtain ⟨r',h1,h2⟩:=ih (j+1) r (by omega) f PV hf (hE.pass fun h=>by rw [hb] at h;cases h);refine ⟨r',h1,Ev.step (fun k=>?_) h2⟩;simp only [ax.l0];rw [if_pos (by omega),kH.jy s j hs (by omega),Option.bind_some,hb,if_neg (by decide),dO j (by omega)]
  | true =>
   obtain ⟨b,h1,h2,h3⟩:=yT (p:=p) hR hC (f:=f) (r:=r) y (s:Int) (R - r) r (by omega) (Nat.le_refl _) (fun i' h4 h5=>by omega);have hstep:∀ v:Int,Ev (fun k=>ax.j2 k p R C (s:Int) (lO R C f) r j b) v→Ev (fun k=>ax.l0 k p R C (s:Int) (lO R C f) r j) v:=fun v h=>by
    refine Ev.step (fun k=>?_) (h3 v h);simp only [ax.l0];rw [if_pos (by omega),kH.jy s j hs (by omega),Option.bind_some,hb,if_pos rfl]
   rcases h2 with ⟨hbR,hne⟩ | ⟨rfl,hz⟩
   ·have hr:r < R:=by omega
    obtain ⟨g,hg⟩:∃ g,g = gI f r b:=⟨_,rfl⟩
    have hgk:Ok p R C g:=by
     intro i' c' h4 h5;rw [hg];unfold gI;by_cases e:i' = r
     ·rw [if_pos e];exact hf b c' hbR h5
     ·rw [if_neg e]
      by_cases e2:i' = b
      ·rw [if_pos e2];exact hf r c' hr h5
      ·rw [if_neg e2];exact hf i' c' h4 h5
    obtain ⟨M',hM'⟩:∃ M':Nat→Nat→Int,M' = fun i' c'=>if r < i' then row p g r j i' c' else g i' c':=⟨_,rfl⟩
    have Y:Ok p R C M':=by
     intro i' c' h4 h5;rw [hM'];show 0≤(if r < i' then row p g r j i' c' else g i' c')∧(if r < i' then row p g r j i' c' else g i' c') < p;by_cases e:r < i'
     ·rw [if_pos e];exact Am hp _
     ·rw [if_neg e];exact hgk i' c' h4 h5
    have hU:Used p R C r j (gI f r b) M':=by
     rw [← hg];refine ⟨fun i k h4 h5=>by rw [hM'];exact if_neg (by omega),fun i k h4 h5 z=>?_⟩;rw [hM'];show p ∣ (if r < i then row p g r j i k else g i k) - _;rw [if_pos h4];exact xI p _
    have a0:=hE.pivot (wD hp) y hb hbR h1 (fun h=>hne ((yP (hf b j hbR y)).1 h)) hU;obtain ⟨r',h4,h5⟩:=ih (j+1) (r+1) (by omega) M' _ Y a0;refine ⟨r',h4,hstep _ ?_⟩;rw [hM'] at h5;have z:=yR hp hR hC hgk hr y (s:Int) h5 (R - (r+1)) (r+1) (by omega) (by omega);rw [ij (g:=gI f r b) fun i' c' h1 h2=>by rw [if_neg (by omega),hg]] at z;have X:=yS (C:=C) hR hC hr hbR (s:Int) z C 0 (by omega);rw [ij (g:=f) fun i' c' h1 h2=>if_neg (by omega)] at X;refine Ev.step (fun k=>?_) X;simp only [ax.j2];rw [if_neg (by omega)];rfl
   ·obtain ⟨r',h4,h5⟩:=ih (j+1) r (by omega) f PV hf (hE.pass fun _ i z X=>by rw [hz i z X];exact Int.dvd_zero p)
    refine ⟨r',h4,hstep _ (Ev.step (fun k=>?_) h5)⟩;simp only [ax.j2];rw [if_pos (by omega),dO j (by omega)]
theorem k9 {p:Int} (hp:p = 2∨p = 3∨p = 5) {R C s:Nat} (hR:R≤8) (hC:C≤8) (hs:s < 256) {f:Nat→Nat→Int} (hf:Ok p R C f) :
  ∃ r:Nat,gz p R C f (fun j=>s.testBit j) r∧Ev (fun k=>ax.f k p R C (lO R C f) (s:Int)) (r:Int):=by
 obtain ⟨r,h1,h2⟩:=yU hp hR hC hs (A:=f) C 0 0 (by omega) f _ hf lF.start;refine ⟨r,h1,?_⟩;unfold ax.f;have hl:=fz R C f;have hb:R * C≤64:=Nat.le_trans (Nat.mul_le_mul hR hC) (by decide);refine Ev.congr (fun k=>?_) h2;simp only [Option.bind_some,List.nil_append,List.length_nil];rw [if_pos (by omega)];rfl
end tG
end
section
namespace uw
open Go.RowKit Go.Proofs.YtlfkfdmggpipbaaGreat.Pr Go.Proofs.YtlfkfdmggpipbaaGreat.Sets kH gz Go.Proofs.YtlfkfdmggpipbaaGreat.Flat jd eP pP iM cX wM ag.aZ ag.bR ag.bT
set_option linter.unusedVariables false
theorem oN {s n j:Nat} (hs:s < 2 ^ n) (hj:n≤j):s.testBit j = false:=Nat.testBit_lt_two_pow (Nat.lt_of_lt_of_le hs (Nat.pow_le_pow_right (by decide) hj))
noncomputable def ind (p:Int) (R C:Nat) (f:Nat→Nat→Int) (s:Nat):Bool:=@decide (oQ.eP p R C f (fun j=>s.testBit j)) (Classical.propDecidable _)
theorem jR {p:Int} {R C:Nat} {f:Nat→Nat→Int} {s:Nat}:ind p R C f s = true↔oQ.eP p R C f (fun j=>s.testBit j):=by
 unfold ind;exact @decide_eq_true_iff _ (Classical.propDecidable _)
theorem pO (S:Nat→Bool):∀ n,oQ.cd S n = ((List.range' 0 n).filter S).length
 | 0=>rfl
 | n+1=>by
  rw [uv.kQ,List.length_append,← pO S n,oQ.cd];split <;> rfl
theorem m0 {s n:Nat} (hn:n≤8) (hs:s < 2 ^ n):cnt s = oQ.cd (fun j=>s.testBit j) n:=by
 rw [pO,← uv.oH hn hs];rfl
def bitsOf (p:Nat→Bool):Nat→Nat
 | 0=>0
 | n+1=>bitsOf p n ||| (if p n = true then 2 ^ n else 0)
theorem jH (p:Nat→Bool) (j:Nat):∀ n,(bitsOf p n).testBit j = (decide (j < n) && p j)
 | 0=>by simp [bitsOf]
 | n+1=>by
  unfold bitsOf;rw [Nat.testBit_or,jH p j n];by_cases e:j = n
  ·subst e
   cases hp:p j with
   | true=>simp
   | false=>simp
  ·have h2:(if p n = true then 2 ^ n else 0).testBit j = false:=by
    split
    ·rw [Nat.testBit_two_pow]
     exact decide_eq_false (fun h=>e h.symm)
    ·exact Nat.zero_testBit j
   rw [h2,Bool.or_false];by_cases hl:j < n
   ·rw [decide_eq_true hl,decide_eq_true (by omega)]
   ·rw [decide_eq_false hl,decide_eq_false (by omega)]
theorem uq (p:Nat→Bool) (n:Nat):bitsOf p n < 2 ^ n:=by
 refine Nat.lt_of_not_le fun h=>?_
 obtain ⟨i,hi,hb⟩:=Nat.exists_ge_and_testBit_of_ge_two_pow h;rw [jH,decide_eq_false (by omega)] at hb;cases hb
theorem rN {p:Int} {N n:Nat} {A:Nat→Nat→Int} {S T:Nat→Bool} (h:oQ.eP p N n A S) (hs:∀ j,j < n→T j = true→S j = true):oQ.eP p N n A T:=by
 intro c hc hz k hk;have hz':oQ.Zr p N n (fun _=>true) A (fun j=>if j < n then c j else 0):=fun i hi hr=>by
  rw [oQ.gr (g:=fun j=>A i j * c j) n fun j hj=>by simp only [if_pos hj]];exact hz i hi hr
 have:=h (fun j=>if j < n then c j else 0) (fun j hj=>?_) hz' k hk
 ·simpa only [if_pos hk] using this
 ·show (if j < n then c j else 0) = 0
  by_cases hjn:j < n
  ·rw [if_pos hjn]
   refine hc j ?_;cases ht:T j with
   | false=>rfl
   | true=>rw [hs j hjn ht] at hj;cases hj
  ·rw [if_neg hjn]
theorem tF {p:Int} (hp:p = 2∨p = 3∨p = 5) {R C:Nat} (hC:C≤8) (f:Nat→Nat→Int):oP C (ind p R C f):=by
 refine ⟨?_,?_,?_⟩
 ·rw [jR]
  intro c hc _ j _;rw [hc j (Nat.zero_testBit j)];exact Int.dvd_zero p
 ·intro a b hb hab h
  rw [jR] at h ⊢;exact h.sub fun j hj=>hab j hj
 ·intro a b ha hb y z hlt
  rw [jR] at y z;rw [m0 hC ha,m0 hC hb] at hlt;obtain ⟨e,he,h1,h2,h3⟩:=oQ.eP.wN (tG.wD hp) y z hlt;refine ⟨e,h1,h2,?_⟩;rw [jR];refine h3.sub fun j hj=>?_
  rw [Nat.testBit_or,Nat.testBit_two_pow] at hj;rcases Bool.or_eq_true_iff.1 hj with h | h
  ·rw [h];rfl
  ·rw [show j = e from (of_decide_eq_true h).symm];simp
theorem kQ (q:Nat→Bool) (i:Nat):ints ((List.range' 0 (i+1)).filter q) = if q i = true then ints ((List.range' 0 i).filter q) ++ [(i:Int)] else ints ((List.range' 0 i).filter q):=by
 rw [List.range'_1_concat,List.filter_append,Nat.zero_add];by_cases h:q i = true
 ·rw [if_pos h];simp [ints,h]
 ·rw [if_neg h];simp [ints,h]
theorem filter_le (q:Nat→Bool) (i:Nat):((List.range' 0 i).filter q).length≤i:=Nat.le_trans (List.length_filter_le _ _) (by simp)
theorem sL {p:Int} (hp:p = 2∨p = 3∨p = 5) {R C r:Nat} (hC:C≤8) {f:Nat→Nat→Int} (hr:oQ.gz p R C f (fun j=>(2 ^ C - 1).testBit j) r):eD C (ind p R C f) = (List.range' 0 (2 ^ C)).filter fun s=>decide (cnt s = r) && ind p R C f s:=by
 unfold eD;refine List.filter_congr fun s hs=>?_
 have hs:s < 2 ^ C:=by have:=List.mem_range'_1.1 hs;omega
 obtain ⟨⟨PV,a2,z,X⟩,hmax⟩:=hr;have hfull:∀ t,t < 2 ^ C→ind p R C f t = true→cnt t≤r:=fun t ht hi=>by
  rw [m0 hC ht];refine hmax _ (fun j hj=>?_) (jR.1 hi);show (2 ^ C - 1).testBit j = true;rw [Nat.testBit_two_pow_sub_one];refine decide_eq_true (Nat.lt_of_not_le fun h=>?_);rw [oN ht h] at hj;cases hj
 have hb:bitsOf PV C < 2 ^ C:=uq PV C;have hbi:ind p R C f (bitsOf PV C) = true:=jR.2 (rN z fun j hj h=>by
  rw [jH,decide_eq_true hj,Bool.true_and] at h;exact h)
 have hbc:cnt (bitsOf PV C) = r:=by
  rw [m0 hC hb,← X];refine oQ.oM C fun j hj=>?_
  rw [jH,decide_eq_true hj,Bool.true_and]
 cases hi:ind p R C f s with
 | false=>rw [Bool.false_and,Bool.and_false]
 | true =>
  rw [Bool.true_and,Bool.and_true,Bool.eq_iff_iff,List.all_eq_true,decide_eq_true_iff];constructor
  ·intro h
   refine Classical.byContradiction fun hne=>?_
   have h1:=hfull s hs hi;obtain ⟨e,y,Y,a0⟩:=(tF hp hC f).wN s (bitsOf PV C) hs hb hi hbi (by omega);have a1:e < C:=by
    rw [jH] at y;exact of_decide_eq_true (Bool.and_eq_true_iff.1 y).1
   have ht:s ||| 2 ^ e < 2 ^ C:=Nat.or_lt_two_pow hs (Nat.pow_lt_pow_right (by decide) a1)
   have h2:=h (s ||| 2 ^ e) (List.mem_range'_1.2 ⟨Nat.zero_le _,by omega⟩);have h3:(s ||| 2 ^ e) &&& s = s:=by
    apply Nat.eq_of_testBit_eq
    intro j;rw [Nat.testBit_and,Nat.testBit_or];cases s.testBit j <;> simp
   have h4:s ||| 2 ^ e≠s:=fun h5=>by
    have h6:(s ||| 2 ^ e).testBit e = true:=by rw [Nat.testBit_or,Nat.testBit_two_pow];simp
    rw [h5,Y] at h6;cases h6
   rw [Nat.and_comm] at h3;rw [a0,decide_eq_false h4,decide_eq_true h3] at h2;cases h2
  ·intro hcr t ht
   have ht:t < 2 ^ C:=by have:=List.mem_range'_1.1 ht;omega
   cases hit:ind p R C f t with
   | false=>rfl
   | true =>
    by_cases e:t = s
    ·rw [decide_eq_true e];rfl
    ·by_cases h3:s &&& t = s
     ·exfalso
      have h1:=hfull t ht hit;have hsub:∀ j,s.testBit j = true→t.testBit j = true:=fun j hj=>by
       have:(s &&& t).testBit j = true:=by rw [h3];exact hj
       rw [Nat.testBit_and] at this;exact (Bool.and_eq_true_iff.1 this).2
      have h5:oQ.cd (fun j=>s.testBit j) C = oQ.cd (fun j=>t.testBit j) C:=by
       have:=oQ.qD hsub C;rw [← m0 hC hs,← m0 hC ht] at this ⊢;omega
      refine e (Nat.eq_of_testBit_eq fun j=>?_);by_cases hj:j < C
      ·cases htj:t.testBit j with
       | true=>exact (oQ.tD hsub C h5 j hj htj).symm
       | false =>
        cases hsj:s.testBit j with
        | false=>rfl
        | true=>rw [hsub j hsj] at htj;cases htj
      ·rw [oN hs (by omega),oN ht (by omega)]
     ·rw [decide_eq_false h3,Bool.and_false];rfl
theorem xJ {p:Int} (hp:p = 2∨p = 3∨p = 5) {R C:Nat} (hR:R≤8) (hC:C≤8) {f:Nat→Nat→Int} (hf:Ok p R C f):Ev (fun k=>bK.f k p R C (lO R C f)) ((C:Int),ints (eD C (ind p R C f))):=by
 have hpos:0 < 2 ^ C:=Nat.pow_pos (by decide);have a1:2 ^ C≤256:=(Nat.pow_le_pow_right (by decide) hC:2 ^ C≤2 ^ 8)
 obtain ⟨r,hr,Y⟩:=tG.k9 hp hR hC (s:=2 ^ C - 1) (by omega) hf;have key:∀ d i:Nat,i+d = 2 ^ C→Ev (fun k=>bK.l0 k p R C (lO R C f) r i C (ints ((List.range' 0 i).filter fun s=>decide (cnt s = r) && ind p R C f s))) ((C:Int),ints ((List.range' 0 (2 ^ C)).filter fun s=>decide (cnt s = r) && ind p R C f s)):=by
  intro d;induction d with
  | zero =>
   intro i hi;obtain rfl:i = 2 ^ C:=by omega
   refine Ev.step (f:=fun _=>some ((C:Int),ints ((List.range' 0 (2 ^ C)).filter fun s=>decide (cnt s = r) && ind p R C f s))) (fun k=>?_) (Ev.now _);simp only [bK.l0];rw [fh C hC,Option.bind_some,if_neg (by omega)]
  | succ d ih =>
   intro i hi;have j:=ih (i+1) (by omega);rw [kQ] at j;have hfl:(ints ((List.range' 0 i).filter fun s=>decide (cnt s = r) && ind p R C f s)).length < 17592186044416:=by
    have:=filter_le (fun s=>decide (cnt s = r) && ind p R C f s) i;rw [aA];omega
   have a0:i < 2 ^ C:=by omega
   obtain ⟨r',hr',hr2'⟩:=tG.k9 hp hR hC (s:=i) (by omega) hf;refine Ev.step (f:=fun k=>(b9.f k (i:Int)).bind fun z=>(if z = (r:Int) then ((ax.f k p R C (lO R C f) (i:Int)).bind fun X=>(if X = (r:Int) then (bK.l0 k p R C (lO R C f) r ((i+1:Nat):Int) C (ints ((List.range' 0 i).filter fun s=>decide (cnt s = r) && ind p R C f s) ++ [(i:Int)])) else (bK.l0 k p R C (lO R C f) r ((i+1:Nat):Int) C (ints ((List.range' 0 i).filter fun s=>decide (cnt s = r) && ind p R C f s))))) else (bK.l0 k p R C (lO R C f) r ((i+1:Nat):Int) C (ints ((List.range' 0 i).filter fun s=>decide (cnt s = r) && ind p R C f s))))) (fun k=>?_) ?_
   ·rw [bK.l0,fh C hC,Option.bind_some,if_pos (show (i:Int)≤((2 ^ C - 1:Nat):Int) by omega),dO i (by omega)]
    congr 1
    funext t
    by_cases e:t = (r:Int)
    ·rw [if_pos e,if_pos e]
     congr 1
     funext t'
     by_cases e':t' = (r:Int)
     ·rw [if_pos e',if_pos e',if_pos hfl]
     ·rw [if_neg e',if_neg e']
    ·rw [if_neg e,if_neg e]
   ·refine Ev.bind (fI i (by omega)) ?_
    by_cases e:cnt i = r
    ·rw [decide_eq_true e,Bool.true_and] at j
     have e1:((cnt i:Nat):Int) = (r:Int):=by omega
     simp only [if_pos e1];refine Ev.bind hr2' ?_;have y:=hr'.full;rw [← m0 hC a0] at y;by_cases e2:r' = r
     ·rw [if_pos (jR.2 (y.1 (by omega)))] at j
      have e3:(r':Int) = (r:Int):=by omega
      simp only [if_pos e3];exact j
     ·rw [if_neg (fun h=>e2 (by have:=y.2 (jR.1 h);omega))] at j
      have e3:¬ (r':Int) = (r:Int):=by omega
      simp only [if_neg e3];exact j
    ·rw [decide_eq_false e,Bool.false_and,if_neg (by decide)] at j
     have e1:¬ ((cnt i:Nat):Int) = (r:Int):=by omega
     simp only [if_neg e1];exact j
 unfold bK.f;rw [fh C hC,sL hp hC hr];simp only [Option.bind_some];exact Ev.bind Y (key (2 ^ C) 0 (by omega))
theorem wE (m r:Nat) (hm:m≤8):oP m (fun s=>decide (cnt s≤r)):=by
 refine ⟨decide_eq_true (Nat.zero_le r),fun a b hb hab h=>?_,fun a b ha hb z y hlt=>?_⟩
 ·rw [decide_eq_true_iff] at h ⊢
  exact Nat.le_trans (gS hab) h
 ·rw [decide_eq_true_iff] at y
  have j:b < 256:=Nat.lt_of_lt_of_le hb (Nat.pow_le_pow_right (by decide) hm:2 ^ m≤2 ^ 8);obtain ⟨e,h1,h2⟩:=my j hlt;refine ⟨e,h1,h2,decide_eq_true ?_⟩;rw [eC (gR j h1) h2];omega
theorem sM (m r:Nat) (hm:m≤8) (hr:r≤m):Count.kV m (r:Int) = eD m (fun s=>decide (cnt s≤r)):=by
 unfold Count.kV eD;refine List.filter_congr fun s hs=>?_
 have hs:s < 2 ^ m:=by have:=List.mem_range'_1.1 hs;omega
 have y:∀ t,t < 2 ^ m→t < 256:=fun t ht=>Nat.lt_of_lt_of_le ht (Nat.pow_le_pow_right (by decide) hm:2 ^ m≤2 ^ 8)
 rw [Bool.eq_iff_iff,decide_eq_true_iff,Bool.and_eq_true,decide_eq_true_iff,List.all_eq_true];constructor
 ·intro h
  refine ⟨by omega,fun t ht=>?_⟩;have ht:t < 2 ^ m:=by have:=List.mem_range'_1.1 ht;omega
  by_cases h1:cnt t≤r
  ·by_cases h2:s &&& t = s
   ·have h3:=gh (y t ht) (gB.1 h2) (by omega)
    rw [decide_eq_true h3.symm];simp
   ·rw [decide_eq_false h2]
    simp
  ·show (!(decide (cnt t≤r) && !decide (t = s) && decide (s &&& t = s))) = true
   rw [decide_eq_false h1];rfl
 ·rintro ⟨h1,h2⟩
  refine Classical.byContradiction fun hne=>?_
  have hfull:2 ^ m - 1 < 2 ^ m:=by have:=Nat.two_pow_pos m;omega
  have hc:cnt (2 ^ m - 1) = m:=by
   show (elems _).length = m;rw [uv.oH hm hfull,List.filter_eq_self.2,List.length_range'];intro j hj;have:=List.mem_range'_1.1 hj;rw [Nat.testBit_two_pow_sub_one];exact decide_eq_true (by omega)
  obtain ⟨e,h3,h4⟩:=my (y _ hfull) (show cnt s < cnt (2 ^ m - 1) by omega);have hem:=fa hfull h3;have h5:(!(decide (cnt (s ||| 2 ^ e)≤r) && !decide (s ||| 2 ^ e = s) && decide (s &&& (s ||| 2 ^ e) = s))) = true:=h2 (s ||| 2 ^ e) (List.mem_range'_1.2 ⟨Nat.zero_le _,by have:=hJ hs (gP hem);omega⟩);have z:=eC (a:=s) (e:=e) (by omega) h4;have X:s ||| 2 ^ e≠s:=fun h=>by rw [h] at z;omega
  rw [decide_eq_true (show cnt (s ||| 2 ^ e)≤r by omega),decide_eq_false X,decide_eq_true (gB.2 (eY s (2 ^ e)))] at h5;exact Bool.noConfusion h5
theorem wF (m r:Nat) (hm:m≤8) (hr:r≤m):dm (m:Int) (ints (Count.kV m (r:Int))) = true:=by
 rw [sM m r hm hr];exact kP hm (wE m r hm)
end uw
end
section
namespace m4
open Go.RowKit Go.Proofs.YtlfkfdmggpipbaaGreat.Pr Go.Proofs.YtlfkfdmggpipbaaGreat.Sets kH gz Go.Proofs.YtlfkfdmggpipbaaGreat.Flat wM ag.aZ ag.bR ag.bT
set_option linter.unusedVariables false
theorem wG (b:List Int) (hb:b.length≤1048576) (i:Nat) (hi:i≤b.length) (h:Int) (n:Nat) (hn:n≤8):∃ (l:List Int) (i':Nat) (h':Int),Ev (fun k=>bz.f k b (i:Int) h (n:Int)) ((n:Int),l,(i':Int),h')∧(dm (n:Int) l = true∧l.length≤256)∧i'≤b.length:=by
 obtain ⟨q,i1,h1,e1,hq,a0⟩:=below b hb i hi h 4 (by omega);have hq:=hq (by omega);obtain ⟨p,e1',hp⟩:∃ p:Int,cU.f b (i:Int) h [2,3,5,2] = some (p,(i1:Int),h1)∧(p = 2∨p = 3∨p = 5):=by
  refine ⟨rd [2,3,5,2] q,?_,?_⟩
  ·unfold cU.f
   show (aJ.f b (i:Int) h 4).bind _ = _;rw [e1,Option.bind_some,if_pos hq.1,if_pos (show q < (([2,3,5,2]:List Int).length:Int) from hq.2)]
  ·have:q = 0∨q = 1∨q = 2∨q = 3:=by omega
   rcases this with rfl | rfl | rfl | rfl <;> decide
 obtain ⟨y,i2,h2,e2,hy,a1⟩:=below b hb i1 a0 h1 3 (by omega);have hy:=hy (by omega);obtain ⟨R,hR⟩:∃ R:Nat,(R:Int) = 1+y:=⟨(1+y).toNat,by omega⟩
 have a2:R≤3:=by omega
 have a5:R * n≤24:=Nat.le_trans (Nat.mul_le_mul a2 hn) (by decide);have X:∀ _:Unit,wrap64 ((R:Int) * (n:Int)) = ((R * n:Nat):Int):=fun _=>by
  rw [show (R:Int) * (n:Int) = ((R * n:Nat):Int) by simp,cX.jL (by omega) (by omega)]
 have key:∀ (d t:Nat) (a:List Int) (j:Nat) (g:Int),t+d = R * n→a.length = t→(∀ x∈a,0≤x∧x < p)→j≤b.length→∃ (l:List Int) (i':Nat) (h':Int),Ev (fun k=>bz.l0 k (n:Int) p (R:Int) a (t:Int) b (j:Int) g) ((n:Int),l,(i':Int),h')∧(dm (n:Int) l = true∧l.length≤256)∧i'≤b.length:=by
  intro d;induction d with
  | zero =>
   intro t a j g ht ha hx hj;have Y:=yO (R:=R) (C:=n) (l:=a) (by omega);have hok:Ok p R n (fun i c=>a.getD (i * n+c) 0):=fun i c hi hc=>by
    have h1:=wM.kG hi hc;exact hx _ (cO a 0 _ (by omega))
   have hl:=uw.xJ hp (by omega:R≤8) hn hok;rw [← Y] at hl;have hM:=iM.kP hn (uw.tF hp hn (R:=R) (fun i c=>a.getD (i * n+c) 0));have a3:dm (n:Int) (ints (pP.eD n (uw.ind p R n (fun i c=>a.getD (i * n+c) 0)))) = true∧(ints (pP.eD n (uw.ind p R n (fun i c=>a.getD (i * n+c) 0)))).length≤256:=⟨hM,by rw [aA];exact iM.qv n hn _⟩
   refine ⟨_,j,g,Ev.step (f:=fun k=>(bK.f k p (R:Int) (n:Int) a).bind fun z=>some (z.1,z.2,(j:Int),g)) (fun k=>?_) (Ev.bind hl (Ev.now _)),a3,hj⟩;rw [bz.l0,X (),if_neg (by omega)]
  | succ d ih =>
   intro t a j g ht ha hx hj;obtain ⟨x,j1,g1,e1,hxx,a4⟩:=below b hb j hj g p (by omega);have hxx:=hxx (by omega);obtain ⟨l,i',h',he,hl,hi'⟩:=ih (t+1) (a ++ [x]) j1 g1 (by omega) (by rw [List.length_append,List.length_singleton,ha]) (fun y hy=>by
    rcases List.mem_append.1 hy with h' | h'
    ·exact hx y h'
    ·rw [List.mem_singleton.1 h'];exact hxx) a4
   refine ⟨l,i',h',Ev.step (fun k=>?_) he,hl,hi'⟩;rw [bz.l0,X (),if_pos (by omega),e1,Option.bind_some,if_pos (by omega),cX.dO t (by omega)]
 obtain ⟨l,i',h',he,hl,hi'⟩:=key (R * n) 0 [] i2 h2 (by omega) rfl (fun x hx=>absurd hx (by simp)) a1;refine ⟨l,i',h',?_,hl,hi'⟩;unfold bz.f;simp only [e1',Option.bind_some,e2];rw [← hR,cX.jL (by omega) (by omega)];exact he
def valid (r:Option (Int×List Int×Bool)):Bool:=match r with
  | some (n,l,_)=>dm n l && decide (l.length≤256)
  | none=>false
set_option maxRecDepth 100000 in
theorem zL:∀ j:Nat,j < 9→valid (cm.f 300 (fL ByteArray.empty names (j:Int))) = true:=by decide +kernel
theorem yV (b:List Int) (hb:b.length≤1048576) (i:Nat) (hi:i≤b.length) (h:Int):∃ (n:Int) (l:List Int) (i':Nat) (h':Int),Ev (fun k=>dW.f k b (i:Int) h) (n,l,(i':Int),h')∧(dm n l = true∧l.length≤256)∧i'≤b.length:=by
 obtain ⟨x,i1,h1,Y,hx,X⟩:=below b hb i hi h 9 (by omega);have hx:=hx (by omega);obtain ⟨j,rfl⟩:∃ j:Nat,x = (j:Int):=⟨x.toNat,by omega⟩
 have hs:=zL j (by omega);obtain ⟨⟨n,l,ok⟩,hr⟩:∃ r,cm.f 300 (fL ByteArray.empty names (j:Int)) = some r:=by
  cases hq:cm.f 300 (fL ByteArray.empty names (j:Int)) with
  | some r=>exact ⟨r,rfl⟩
  | none=>rw [hq] at hs;cases hs
 rw [hr] at hs;have hl:dm n l = true∧l.length≤256:=by
  have hs:(dm n l && decide (l.length≤256)) = true:=hs;rw [Bool.and_eq_true,decide_eq_true_iff] at hs;exact hs
 have hev:Ev (fun k=>cm.f k (fL ByteArray.empty names (j:Int))) (n,l,ok):=by
  refine cX.en 300 (fun k hk=>?_);obtain ⟨d,rfl⟩:∃ d,k = 300+d:=⟨k - 300,by omega⟩
  clear hk;induction d with
  | zero=>exact hr
  | succ d ih=>exact cm.mono _ _ _ ih
 refine ⟨n,l,i1,h1,?_,hl,X⟩;have hp:fk.f b (i:Int) h names = some (fL ByteArray.empty names (j:Int),(i1:Int),h1):=by
  unfold fk.f;show (aJ.f b (i:Int) h 9).bind _ = _;rw [Y,Option.bind_some,if_pos hx.1,if_pos (show (j:Int) < ((names.length:Nat):Int) from hx.2)]
 unfold dW.f;show Ev (fun k=>(fk.f b (i:Int) h names).bind fun y=>(cm.f k y.1).bind fun z=>some (z.1,z.2.1,y.2.1,y.2.2)) _;simp only [hp,Option.bind_some];exact Ev.bind hev (Ev.now _)
theorem wH (b:List Int) (hb:b.length≤1048576) (i:Nat) (hi:i≤b.length) (h:Int) (most:Nat) (hm:most≤8):∃ (n:Int) (l:List Int) (i':Nat) (h':Int),Ev (fun k=>dL.f k b (i:Int) h (most:Int)) (n,l,(i':Int),h')∧(dm n l = true∧l.length≤256)∧i'≤b.length:=by
 obtain ⟨x,i1,h1,e1,_,a7⟩:=below b hb i hi h 6 (by omega);have em:wrap64 ((most:Int)+1) = ((most+1:Nat):Int):=cX.dO most (by omega);have a6:∀ (j:Nat) (g:Int),j≤b.length→∃ (n:Int) (l:List Int) (i':Nat) (h':Int),Ev (fun k=>(aJ.f b (j:Int) g ((most+1:Nat):Int)).bind fun X=>((bz.f k b X.2.1 X.2.2 X.1).bind fun z=>(some (z.1,z.2.1,z.2.2.1,z.2.2.2)))) (n,l,(i':Int),h')∧(dm n l = true∧l.length≤256)∧i'≤b.length:=by
  intro j g hj;obtain ⟨n,i2,h2,e2,hn,a5⟩:=below b hb j hj g ((most+1:Nat):Int) (by omega);have hn:=hn (by omega);obtain ⟨n,rfl⟩:∃ q:Nat,n = (q:Int):=⟨n.toNat,by omega⟩
  obtain ⟨l,i3,h3,he,hl,a3⟩:=wG b hb i2 a5 h2 n (by omega);refine ⟨(n:Int),l,i3,h3,?_,hl,a3⟩;simp only [e2,Option.bind_some];exact Ev.bind he (Ev.now _)
 have hun:∀ k,dL.f k b (i:Int) h (most:Int) = (if x = 0 then ((aJ.f b (i1:Int) h1 ((most+1:Nat):Int)).bind fun Y=>((aJ.f b Y.2.1 Y.2.2 (wrap64 (Y.1+1))).bind fun a1=>((bV.f k a1.1 Y.1).bind fun a4=>(some (a4.1,a4.2,a1.2.1,a1.2.2))))) else (if x = 1 then ((dW.f k b (i1:Int) h1).bind fun y=>(if y.1≤(most:Int) then (some (y.1,y.2.1,y.2.2.1,y.2.2.2)) else ((aJ.f b y.2.2.1 y.2.2.2 ((most+1:Nat):Int)).bind fun X=>((bz.f k b X.2.1 X.2.2 X.1).bind fun z=>(some (z.1,z.2.1,z.2.2.1,z.2.2.2)))))) else ((aJ.f b (i1:Int) h1 ((most+1:Nat):Int)).bind fun a2=>((bz.f k b a2.2.1 a2.2.2 a2.1).bind fun a0=>(some (a0.1,a0.2.1,a0.2.2.1,a0.2.2.2)))))):=fun k=>by
  unfold dL.f;rw [e1,Option.bind_some,em]
 clear em;by_cases c0:x = 0
 ·obtain ⟨n,i2,h2,e2,hn,a5⟩:=below b hb i1 a7 h1 ((most+1:Nat):Int) (by omega)
  have hn:=hn (by omega);obtain ⟨n,rfl⟩:∃ q:Nat,n = (q:Int):=⟨n.toNat,by omega⟩
  obtain ⟨r,i3,h3,e3,hr,a3⟩:=below b hb i2 a5 h2 ((n+1:Nat):Int) (by omega);have hr:=hr (by omega);refine ⟨(n:Int),ints (Count.kV n r),i3,h3,?_,?_,a3⟩
  ·refine Ev.congr (f:=fun k=>(bV.f k r (n:Int)).bind fun bt=>some (bt.1,bt.2,(i3:Int),h3)) (fun k=>?_) (Ev.bind (Count.rL n (by omega) r hr.1 (by omega)) (Ev.now _))
   rw [hun,if_pos c0,e2,Option.bind_some,cX.dO n (by omega),e3,Option.bind_some]
  ·obtain ⟨r,rfl⟩:∃ q:Nat,r = (q:Int):=⟨r.toNat,by omega⟩
   refine ⟨uw.wF n r (by omega) (by omega),?_⟩;rw [aA];exact Nat.le_trans (Count.lM n (r:Int)) (Nat.pow_le_pow_right (by decide) (by omega):2 ^ n≤2 ^ 8)
 ·by_cases c1:x = 1
  ·obtain ⟨n,l,i2,h2,he,hl,a5⟩:=yV b hb i1 a7 h1
   refine (?_:n≤(most:Int)∨¬ n≤(most:Int)).elim (fun c2=>?_) (fun c2=>?_)
   ·exact Decidable.em _
   ·refine ⟨n,l,i2,h2,Ev.congr (f:=fun k=>(dW.f k b (i1:Int) h1).bind fun y=>(if y.1≤(most:Int) then (some (y.1,y.2.1,y.2.2.1,y.2.2.2)) else ((aJ.f b y.2.2.1 y.2.2.2 ((most+1:Nat):Int)).bind fun X=>((bz.f k b X.2.1 X.2.2 X.1).bind fun z=>(some (z.1,z.2.1,z.2.2.1,z.2.2.2)))))) (fun k=>by rw [hun,if_neg c0,if_pos c1]) (Ev.bind he (Ev.congr (fun k=>if_pos c2) (Ev.now _))),hl,a5⟩
   ·obtain ⟨n',l',i3,h3,he',hl',a3⟩:=a6 i2 h2 a5
    exact ⟨n',l',i3,h3,Ev.congr (f:=fun k=>(dW.f k b (i1:Int) h1).bind fun y=>(if y.1≤(most:Int) then (some (y.1,y.2.1,y.2.2.1,y.2.2.2)) else ((aJ.f b y.2.2.1 y.2.2.2 ((most+1:Nat):Int)).bind fun X=>((bz.f k b X.2.1 X.2.2 X.1).bind fun z=>(some (z.1,z.2.1,z.2.2.1,z.2.2.2)))))) (fun k=>by rw [hun,if_neg c0,if_pos c1]) (Ev.bind he (Ev.congr (fun k=>if_neg c2) he')),hl',a3⟩
  ·obtain ⟨n',l',i3,h3,he',hl',a3⟩:=a6 i1 h1 a7
   exact ⟨n',l',i3,h3,Ev.congr (fun k=>by rw [hun,if_neg c0,if_neg c1]) he',hl',a3⟩
end m4
end
section
namespace tH
open Go.RowKit Go.Proofs.YtlfkfdmggpipbaaGreat.Pr Go.Proofs.YtlfkfdmggpipbaaGreat.Sets kH gz Go.Proofs.YtlfkfdmggpipbaaGreat.Flat jd eP Go.Proofs.YtlfkfdmggpipbaaGreat.Sort wL pP qH iM ag.aZ ag.bR ag.bT
set_option linter.unusedVariables false
theorem ur {m:Nat} {l:List Nat} (h:dm (m:Int) (ints l) = true):l.Pairwise (· < ·):=by
 unfold dm at h;rw [Bool.and_eq_true,Bool.and_eq_true] at h;have hf:=h.1.1;unfold qU at hf;rw [Bool.and_eq_true] at hf;rw [List.pairwise_iff_getElem];have step:∀ i,i+1 < l.length→l.getD i 0 < l.getD (i+1) 0:=fun i hi=>by
  have:=List.all_eq_true.1 hf.1 (i+1) (List.mem_range'_1.2 (by rw [aA];omega));rw [Bool.and_eq_true,jZ,jZ] at this;have h2:=this.2;rw [decide_eq_false (show ¬ i+1 = 0 by omega),Bool.false_or,decide_eq_true_eq] at h2;rw [show i+1 - 1 = i by omega] at h2;omega
 have key:∀ d i,i+d+1 < l.length→l.getD i 0 < l.getD (i+d+1) 0:=by
  intro d;induction d with
  | zero=>exact fun i hi=>step i hi
  | succ d ih=>exact fun i hi=>Nat.lt_trans (ih i (by omega)) (step (i+d+1) (by omega))
 intro i j hi hj hij;have:=key (j - i - 1) i (by omega);rw [show i+(j - i - 1)+1 = j by omega] at this;have y:l.getD i 0 = l[i]:=by simp [List.getD,hi]
 have z:l.getD j 0 = l[j]:=by simp [List.getD,hj]
 rw [y,z] at this;exact this
end tH
end
section
namespace Char
open Go.RowKit Go.Proofs.YtlfkfdmggpipbaaGreat.Pr Go.Proofs.YtlfkfdmggpipbaaGreat.Sets kH gz Go.Proofs.YtlfkfdmggpipbaaGreat.Flat jd xL ag.aZ ag.bR ag.bT
set_option linter.unusedVariables false
theorem kC (m:Nat):2 ^ m - 1 < 2 ^ m:=by
 have:0 < 2 ^ m:=Nat.pow_pos (by decide);omega
end Char
end
section
namespace Pure
open Go.RowKit Go.Proofs.YtlfkfdmggpipbaaGreat.Pr m3 Go.Proofs.YtlfkfdmggpipbaaGreat.Sets kH gz Go.Proofs.YtlfkfdmggpipbaaGreat.Flat jd eP pP iq iM Go.Proofs.YtlfkfdmggpipbaaGreat.Act uu gF iE gT ag.aZ ag.bR ag.bT
set_option linter.unusedVariables false
namespace oO
theorem wI (p:List Int) (hp:p.length≤2097152):Ev (fun k=>cj.f k p p) true:=by
 unfold cj.f;simp only [if_true];have key:∀ d i:Nat,i+d = p.length→Ev (fun k=>cj.l0 k p p (i:Int)) true:=by
  intro d;induction d with
  | zero =>
   intro i hi;refine Ev.step (f:=fun _=>some true) (fun k=>?_) (Ev.now _);rw [cj.l0,if_neg (by omega)]
  | succ d ih =>
   intro i hi;refine Ev.step (fun k=>?_) (ih (i+1) (by omega));rw [cj.l0,if_pos (by omega),if_pos (by omega),if_pos (by omega),if_pos rfl,cX.dO i (by omega)]
 exact key p.length 0 (by omega)
theorem lists (xs:List (List Int)) (h:zO xs):Ev (fun k=>cv.f k xs xs) true:=by
 have j:=h.1;unfold cv.f;simp only [if_true];have key:∀ d i:Nat,i+d = xs.length→Ev (fun k=>cv.l0 k xs xs (i:Int)) true:=by
  intro d;induction d with
  | zero =>
   intro i hi;refine Ev.step (f:=fun _=>some true) (fun k=>?_) (Ev.now _);rw [cv.l0,if_neg (by omega)]
  | succ d ih =>
   intro i hi;have hx:(xs.getD i []).length≤2097152:=h.2 _ (cO xs [] i (by omega));refine Ev.step (f:=fun k=>(cj.f k (xs.getD i []) (xs.getD i [])).bind fun t=>(if t = true then cv.l0 k xs xs ((i+1:Nat):Int) else some false)) (fun k=>?_) (Ev.bind (wI _ hx) (Ev.congr (fun k=>if_pos rfl) (ih (i+1) (by omega))));rw [cv.l0,if_pos (by omega),if_pos (by omega),if_pos (by omega),cX.dO i (by omega)];rfl
 have hl:=h.1;exact key xs.length 0 (by omega)
theorem zM (b:List Int) (hb:b.length≤1048576):∃ (n:Int) (l:List Int) (s:Int),Ev (fun k=>dA.f k b) (n,l,s)∧l.length≤257:=by
 obtain ⟨h,z⟩:=m4.new b hb;obtain ⟨n,l,i1,h1,X,⟨hM,hl⟩,Y⟩:=m4.wH b hb 0 (by omega) h 6 (by decide);have hpos:0 < l.length:=by
  obtain ⟨m,lN,rfl,hm,rfl,a4,h0,hf⟩:=fq hM;rw [aA];exact h0
 obtain ⟨x,i2,h2,e2,hx,a0⟩:=m4.below b hb i1 Y h1 (l.length:Int) (by omega);have hx:=hx (by omega);obtain ⟨c,i3,h3,e3,hc,j⟩:=m4.below b hb i2 a0 h2 12 (by decide);obtain ⟨y,i4,h4,e4,a5⟩:=m4.yd b hb i3 j h3;obtain ⟨n5,l5,i5,h5,e5,a1,a6⟩:=m4.yN b hb i3 j h3 4 (by decide);have hd:∃ (n:Int) (l:List Int) (s:Int),Ev (fun k=>dr.f k b) (n,l,s)∧l.length≤257:=by
  unfold dr.f;by_cases c0:c = 0
  ·refine ⟨n,l,y,Ev.bind z (Ev.bind X (Ev.congr (fun k=>?_) (Ev.now _))),by omega⟩
   rw [e2,Option.bind_some,if_pos hx.1,if_pos hx.2,e3,Option.bind_some,if_pos c0,e4,Option.bind_some]
  ·by_cases c1:c = 1
   ·have a2:Ev (fun k=>(cG.f k b (i3:Int) h3 4).bind fun t=>some (t.1,t.2.1,rd l x)) (n5,l5,rd l x):=Ev.bind e5 (Ev.now _)
    refine ⟨n5,l5,rd l x,Ev.bind z (Ev.bind X (Ev.congr (fun k=>?_) a2)),a1⟩;rw [e2,Option.bind_some,if_pos hx.1,if_pos hx.2,e3,Option.bind_some,if_neg c0,if_pos c1]
   ·refine ⟨n,l,rd l x,Ev.bind z (Ev.bind X (Ev.congr (fun k=>?_) (Ev.now _))),by omega⟩
    rw [e2,Option.bind_some,if_pos hx.1,if_pos hx.2,e3,Option.bind_some,if_neg c0,if_neg c1]
 obtain ⟨n6,l6,s6,hs,a3⟩:=hd;refine ⟨n6,l6,s6,?_,a3⟩;unfold dA.f;exact Ev.bind hs (Ev.now _)
theorem Ab (b:List Int) (hb:b.length≤1048576):∃ (n:Int) (l:List Int),Ev (fun k=>dP.f k b) (n,l)∧l.length≤257:=by
 obtain ⟨h,j⟩:=m4.new b hb;obtain ⟨n,l,i1,h1,y,hl,z⟩:=m4.yN b hb 0 (by omega) h 5 (by decide);refine ⟨n,l,?_,hl⟩;unfold dP.f;exact Ev.bind j (Ev.bind y (Ev.now _))
theorem Ac (b:List Int) (hb:b.length≤1048576):∃ (n:Int) (l:List Int),Ev (fun k=>dU.f k b) (n,l)∧l.length≤257:=by
 obtain ⟨h,j⟩:=m4.new b hb;obtain ⟨n,l,i1,h1,y,hl,z⟩:=m4.yN b hb 0 (by omega) h 6 (by decide);refine ⟨n,l,?_,hl⟩;unfold dU.f;exact Ev.bind j (Ev.bind y (Ev.now _))
theorem yW {m:Nat} {l:List Nat} (M:oW.Mt m l) (hM:dm (m:Int) (ints l) = true) (hl:(ints l).length≤257) {s:Nat} (hs:s < 2 ^ m) (hi:indep l s = true):Ev (fun k=>eg.f k (m:Int) (ints l) (s:Int)) true:=by
 have h1:=ud (m:Int) (ints l) (s:Int) (by omega);rw [hM,ke M.hm hs,if_pos (by rfl),cu,Int.toNat_natCast] at h1;have j:=oW.lK M hs;have h2:=nr j M.h0;rw [hi,decide_eq_true_iff] at h2;unfold eg.f;refine Ev.bind h1 (Ev.bind (fI s j) (Ev.congr (fun k=>if_pos (by rw [h2])) (Ev.congr (fun k=>?_) (Ev.now true))));rw [k7,ke M.hm hs,Option.bind_some]
theorem wJ (n:Int) (l:List Int) (hl:l.length≤257):Ev (fun k=>ay.l0 k (ik n l) 0 n l) true:=by
 have hs:=iI n l (by omega);have hlen:=mj n l;have y:Ev (fun k=>(aY.f k n l).bind fun z=>(if z = true then ((bN.f k n l).bind fun X=>((bw.f k X 2 0).bind fun Y=>(some (((ik n l).length:Int) == Y)))) else (some true))) true:=by
  refine Ev.bind hs ?_;cases hM:dm n l with
  | false=>exact Ev.congr (fun k=>if_neg Bool.false_ne_true) (Ev.now _)
  | true =>
   refine Ev.congr (fun k=>if_pos rfl) ?_;have ht:=ta n l (by omega);unfold vI at ht;rw [if_pos hM] at ht;obtain ⟨m,lN,rfl,hm,rfl,j,h0,hf⟩:=fq hM;rw [Int.toNat_natCast,cu] at ht;have hR:=mq m lN;have htop:=jh hm j h0;have hsm:Small (ja m lN):=⟨by rw [hR.1];omega,fun x hx=>by rw [hR.2 x hx];omega⟩
   refine Ev.bind ht (Ev.bind (Eval.spec _ 2 0 hsm) ?_);have e:((ik (m:Int) (ints lN)).length:Int) = Eval.val (ja m lN) 2 0:=by
    rw [yZ.wA ⟨hm,j,h0,hf⟩];unfold ik;rw [if_pos hM,aA,Int.toNat_natCast,cu]
   rw [e,beq_self_eq_true];exact Ev.now _
 have key:∀ d i:Nat,i+d = (ik n l).length→Ev (fun k=>ay.l0 k (ik n l) (i:Int) n l) true:=by
  intro d;induction d with
  | zero =>
   intro i hi;refine Ev.step (fun k=>?_) y;rw [ay.l0,if_neg (by omega)]
  | succ d ih =>
   intro i hi;have hin:Ev (fun k=>eg.f k n l (rd (ik n l) (i:Int))) true:=by
    cases hM:dm n l with
    | false =>
     unfold ik at hi;rw [hM] at hi;simp at hi
    | true =>
     unfold ik at hi ⊢;rw [if_pos hM] at hi ⊢;obtain ⟨m,lN,rfl,hm,rfl,j,h0,hf⟩:=fq hM;rw [Int.toNat_natCast,cu] at hi ⊢;rw [aA] at hi;rw [dR];have M:oW.Mt m lN:=⟨hm,j,h0,hf⟩
     obtain ⟨h1,h2⟩:=yZ.sK M (cO (nC m lN) 0 i (by omega));exact yW M hM hl h1 h2
   refine Ev.step (f:=fun k=>(eg.f k n l (rd (ik n l) (i:Int))).bind fun t=>(if t = true then ay.l0 k (ik n l) ((i+1:Nat):Int) n l else some false)) (fun k=>?_) (Ev.bind hin (Ev.congr (fun k=>if_pos rfl) (ih (i+1) (by omega))));rw [ay.l0,if_pos (by omega),if_pos (by omega),cX.dO i (by omega)]
 exact key (ik n l).length 0 (by omega)
theorem yX (n:Int) (l:List Int) (hl:l.length≤257):Ev (fun k=>ay.j1 k (ik n l) false n l) true:=by
 refine Ev.step (fun k=>?_) (wJ n l hl);rw [ay.j1,if_neg Bool.false_ne_true]
theorem yY (j:Int) (l1:List Int) (h1:l1.length≤257) (n:Int) (l:List Int) (hl:l.length≤257):Ev (fun k=>ay.j0 k (oV j l1) (ik n l) false j l1 n l) true:=by
 have h2:=yX n l hl;refine Ev.step (f:=fun k=>(aY.f k j l1).bind fun y=>(if y = true then ((bN.f k j l1).bind fun z=>((cv.f k (oV j l1) z).bind fun X=>(ay.j1 k (ik n l) (!X) n l))) else (ay.j1 k (ik n l) false n l))) (fun k=>by rw [ay.j0,if_neg Bool.false_ne_true]) (Ev.bind (iI j l1 (by omega)) ?_);cases hM:dm j l1 with
 | false=>exact Ev.congr (fun k=>if_neg Bool.false_ne_true) h2
 | true =>
  refine Ev.congr (fun k=>if_pos rfl) ?_;have ht:=ta j l1 (by omega);have e:vI j l1 = oV j l1:=by
   unfold vI oV;rw [if_pos hM,if_pos hM];obtain ⟨m,lN,rfl,hm,rfl,Y,h0,hf⟩:=fq hM;rw [Int.toNat_natCast,cu];exact (lP.xC hm Y hM hf h0 (tH.ur hM)).symm
  rw [e] at ht;exact Ev.bind ht (Ev.bind (lists _ (rz j l1)) h2)
end oO
open oO in
theorem qG (code:List Int) (hm:code.length≤maxLen∧∀ x∈code,(Lit.int .u8 x).wf = true):∃ k,ay.f k code = some true:=by
 refine Ev.rounds ?_;unfold ay.f jw.f;simp only [Option.bind_some];by_cases hbig:(code.length:Int) > 1048576
 ·simp only [decide_eq_true hbig,if_true]
  exact Ev.now _
 ·simp only [decide_eq_false hbig,Bool.false_eq_true,if_false]
  have hc:code.length≤1048576:=by omega
  obtain ⟨y,l1,s1,X,a3⟩:=zM code hc;obtain ⟨z,l2,Y,a0⟩:=Ab code hc;obtain ⟨j,l3,a1,a2⟩:=Ac code hc;refine Ev.bind X (Ev.bind Y (Ev.bind (xj z l2 (by omega)) (Ev.bind a1 (Ev.bind (vv j l3 (by omega)) (Ev.bind (oy y l1 s1 (by omega)) (Ev.bind (ox y l1 s1 (by omega)) (Ev.congr (fun k=>if_pos rfl) (Ev.bind (vC y l1 s1 (by omega)) (Ev.bind (vD y l1 s1 (by omega)) (Ev.congr (fun k=>if_pos rfl) (Ev.bind (xk z l2 (by omega)) (Ev.bind (lists _ (rz z l2)) (Ev.congr (fun k=>if_pos rfl) (Ev.bind (vw j l3 (by omega)) (Ev.bind (wI _ (by have:=mj j l3;omega)) (Ev.congr (fun k=>if_pos rfl) (Ev.bind (rf j l3 (by omega)) (Ev.bind (rh j l3 (by omega)) (Ev.bind (wI _ (by have:=qj j l3;omega)) ?_)))))))))))))))))));exact yY z l2 a0 j l3 a2
end Pure
end
section
namespace Open
open Go.ChangeShapes Go.WideShapes Go.RowKit ag.aZ Go.Deep
set_option linter.unusedVariables false
structure iQ {α:Type} (P:Program) (d:Kd α) (t:TypeId) (Wf:α→Prop):Prop where
 go:∀ (H:Type) (enc:TypeId×Value→H) (w:World) (base:Nat) (spare:Nat→Bool) (held:Bool) (fuel:Nat) (cs:List Value) (x:DataW H×List MemPlace),
  DataW.trod enc P w base spare held fuel t cs = some x→∃ a,d.K w a cs∧Wf a
theorem iQ.int {P:Program} {t:TypeId} {k:IntKind} (ht:P.underlying t = some (.int k)):iQ P (Kd.int k) t (fun n=>(Lit.int k n).wf = true):=by
 refine ⟨fun H enc w base spare held fuel cs x h=>?_⟩;obtain ⟨n,rfl,_,hw⟩:=DataW.trod_int ht h;exact ⟨n,rfl,hw⟩
theorem iQ.bool {P:Program} {t:TypeId} (ht:P.underlying t = some .bool):iQ P Kd.bool t (fun _=>True):=by
 refine ⟨fun H enc w base spare held fuel cs x h=>?_⟩;obtain ⟨n,rfl,_⟩:=DataW.trod_bool ht h;exact ⟨n,rfl,trivial⟩
theorem iQ.string {P:Program} {t:TypeId} (ht:P.underlying t = some .string):iQ P Kd.string t (fun s=>s.size≤maxLen):=by
 refine ⟨fun H enc w base spare held fuel cs x h=>?_⟩;obtain ⟨n,rfl,_,hw⟩:=DataW.trod_string ht h;exact ⟨n,rfl,hw⟩
theorem xK {α:Type} {p:Nat→α→Prop}:∀ {len:Nat},(∀ i,i < len→∃ y,p i y)→∃ xs:List α,xs.length = len∧∀ i y,xs[i]? = some y→p i y:=by
 intro len;induction len with
 | zero=>exact fun _=>⟨[],rfl,fun i y h=>by simp at h⟩
 | succ len ih =>
  intro key;obtain ⟨xs,hxl,hxs⟩:=ih (fun i hi=>key i (by omega));obtain ⟨y,hy⟩:=key len (by omega);refine ⟨xs ++ [y],by simp [hxl],fun i z hz=>?_⟩;by_cases hi:i < xs.length
  ·rw [List.getElem?_append_left hi] at hz
   exact hxs i z hz
  ·have hlt:i < (xs ++ [y]).length:=(List.getElem?_eq_some_iff.1 hz).1
   have e:i = len:=by simp [hxl] at hlt hi;omega
   subst e;rw [List.getElem?_append_right (by omega),hxl] at hz;simp at hz;subst hz;exact hy
theorem iQ.slice {α:Type} {P:Program} {t e:TypeId} {d:Kd α} {Wf:α→Prop} (ht:P.underlying t = some (.slice e)) (hs:P.cellsOf e = d.sz) (h:iQ P d e Wf) :
  iQ P (Kd.slice e d) t (fun xs=>xs.length≤maxLen∧∀ x∈xs,Wf x):=by
 refine ⟨fun H enc w base spare held fuel cs x hx=>?_⟩;rcases open_slice ht hx with ⟨rfl,_⟩ | ⟨a,len,cap,m,n,D,Pl,rfl,hb,hl,hm,hmm,_,hel⟩
 ·exact ⟨[],⟨none,0,rfl,Nat.le_refl _,rfl,by simp,fun h=>absurd h (by simp)⟩,by simp,by simp⟩
 ·have hlm:len≤m:=by rw [hmm];split <;> omega
  have key:∀ i,i < len→∃ y:α,(∃ cs',w.cells? base (a.add (i * P.cellsOf e)) (P.cellsOf e) = some cs'∧d.K w y cs')∧Wf y:=fun i hi=>by
   obtain ⟨cs',h1,h2⟩:=hel i (by omega);obtain ⟨y,h3,h4⟩:=h.go _ enc w base spare held n cs' _ h2;exact ⟨y,⟨cs',h1,h3⟩,h4⟩
  obtain ⟨xs,hxl,hxs⟩:=xK key;refine ⟨xs,⟨some a,cap,by rw [hxl],by omega,rfl,by have:=hm;unfold maxLen at this;omega,fun _=>⟨a,rfl,fun j p hj=>?_⟩⟩,by omega,fun y hy=>?_⟩
  ·obtain ⟨⟨cs',h1,h2⟩,_⟩:=hxs j p hj
   obtain ⟨_,h3,h4⟩:=World.cells?_some h1;refine ⟨cs',by rw [h3,hs],h2,fun i u hu=>?_⟩;have hlt:i < cs'.length:=(List.getElem?_eq_some_iff.1 hu).1;have:=h4 i (by omega);rw [hs,Go.Deep.add_add] at this;rw [this,hu]
  ·obtain ⟨i,hi⟩:=List.getElem?_of_mem hy
   exact (hxs i y hi).2
structure lE {α:Type} (P:Program) (fs:List Field) (off:Nat) (d:Kd α) (Wf:α→Prop):Prop where
 go:∀ (H:Type) (enc:TypeId×Value→H) (w:World) (base:Nat) (spare:Nat→Bool) (held:Bool) (n:Nat) (cs:List Value),
  cs.length = off+d.sz→(∀ f∈fs,∃ x,DataW.trod enc P w base spare held n f.type ((cs.drop f.offset).take (P.cellsOf f.type)) = some x)→∃ a,d.K w a (cs.drop off)∧Wf a
theorem lE.one {α:Type} {P:Program} {f:Field} {off:Nat} {d:Kd α} {Wf:α→Prop} (ho:f.offset = off) (hs:P.cellsOf f.type = d.sz) (h:iQ P d f.type Wf):lE P [f] off d Wf:=by
 refine ⟨fun H enc w base spare held n cs hl hf=>?_⟩;obtain ⟨x,hx⟩:=hf f (by simp);rw [ho,hs,List.take_of_length_le (by rw [List.length_drop];omega)] at hx;exact h.go _ enc w base spare held n _ x hx
theorem lE.cons {α β:Type} {P:Program} {f:Field} {fs:List Field} {off:Nat} {d:Kd α} {d':Kd β} {Wf:α→Prop} {j:β→Prop} (ho:f.offset = off) (hs:P.cellsOf f.type = d.sz) (h:iQ P d f.type Wf)
  (h':lE P fs (off+d.sz) d' j):lE P (f :: fs) off (Kd.pair d d') (fun x=>Wf x.1∧j x.2):=by
 refine ⟨fun H enc w base spare held n cs hl hf=>?_⟩;have hl':cs.length = off+(d.sz+d'.sz):=hl;obtain ⟨x,hx⟩:=hf f (by simp);rw [ho,hs] at hx;obtain ⟨a,ha,wa⟩:=h.go _ enc w base spare held n _ x hx;obtain ⟨b,hb,wb⟩:=h'.go _ enc w base spare held n cs (by omega) (fun g hg=>hf g (by simp [hg]));refine ⟨(a,b),⟨(cs.drop off).take d.sz,cs.drop (off+d.sz),?_,ha,hb⟩,wa,wb⟩;rw [← List.drop_drop,List.take_append_drop]
theorem iQ.struct {α:Type} {P:Program} {t:TypeId} {fs:Array Field} {d:Kd α} {Wf:α→Prop} (ht:P.underlying t = some (.struct fs)) (hs:P.cellsOf t = d.sz) (h:lE P fs.toList 0 d Wf):iQ P d t Wf:=by
 refine ⟨fun H enc w base spare held fuel cs x hx=>?_⟩;obtain ⟨xs,n,_,_,hl,hlen,hg⟩:=DataW.trod_struct ht hx;obtain ⟨a,ha,wa⟩:=h.go _ enc w base spare held n cs (by omega) (fun f hf=>by
  obtain ⟨i,hi⟩:=List.getElem?_of_mem hf;have h1:=hg i f (by simpa using hi);have hlt:i < fs.size:=by have:=(List.getElem?_eq_some_iff.1 hi).1;simpa using this
  exact ⟨_,h1.trans (List.getElem?_eq_getElem (by omega))⟩)
 exact ⟨a,by simpa using ha,wa⟩
theorem iQ.wK {α:Type} {P:Program} {t e:TypeId} {d:Kd α} {Wf:List α→Prop} (h:iQ P (Kd.slice e d) t Wf) {H:Type} {enc:TypeId×Value→H} {w:World} {base:Nat} {spare:Nat→Bool} {held:Bool} {v:Value} {x:DataW H} {ps:List MemPlace}
  (hv:∃ a len cap,v = .slice a len cap) (ht:DataW.Trod enc P w base spare held t v x ps):∃ A c xs,v = .slice A xs.length c∧xs.length≤c∧d.C w A xs.length xs∧Wf xs:=by
 obtain ⟨a,len,cap,rfl⟩:=hv;obtain ⟨fuel,hf⟩:=ht;obtain ⟨xs,⟨A,c,hc,hl,hr⟩,wf⟩:=h.go _ enc w base spare held fuel _ _ hf;simp only [Value.cells,List.cons.injEq,and_true] at hc;exact ⟨A,c,xs,hc,hl,hr,wf⟩
end Open
end
section
namespace mI
open Go.ChangeShapes Go.WideShapes Go.ChangeAt Go.RowKit Go.Proofs.YtlfkfdmggpipbaaGreat.Open ag.aZ
open Go.ChangeMaps (open_string shut_string)
set_option linter.unusedVariables false
theorem own:ownKnob Tryz.prog.godebug = none:=by kernel_rfl
theorem laidOut:laidOutB Tryz.prog = true:=by kernel_rfl
set_option maxRecDepth 100000 in
theorem lifted (os:Os) (started:os.Started) (H:Type) (enc:TypeId×Value→H) :
  ReturnsInHanded {} Tryz.checked os 6 .any (Rows.fnActivitiesSpec.pre6 enc Tryz.prog Tryz.f6 Rows.fnActivitiesRow.domain false) (Rows.fnActivitiesSpec.post enc Tryz.prog Tryz.f6 false true false false):=by
 refine returnsInHanded_of_change_sized (C:=Tryz.checked) own started (by kernel_rfl) Tryz.func6
  (ChangeSpec.witness6 (enc:=enc) (C:=Tryz.checked) false ⟨#[],#[.slice none 0 0],[]⟩ 8 (by kernel_rfl) (by kernel_rfl) (by kernel_rfl) (by kernel_rfl)) ?_
 intro W base args ds gs before y hW hcnd z _;have hval:∀ (j:Nat) t v,Tryz.f6.params[j]? = some t→args[j]? = some v→Value.okWide Tryz.prog W .any base t v:=y;have hW':=hW;obtain ⟨p,q,X,hV,rfl,hfz,hnd⟩:=hW;have hA:DataW.TrodAll enc Tryz.prog W 0 (fun _=>true) true Tryz.f6.params.toList args.toList ds p:=X;rw [Tryz.params6] at hA hval;obtain ⟨v0,a2,d0,a3,p0,q0,hargs,rfl,rfl,h0,r0⟩:=trodAll_cons hA;obtain ⟨rfl,rfl,rfl⟩:=trodAll_nil r0;obtain rfl:args = #[v0]:=by cases args;simp_all
 obtain ⟨rfl,rfl⟩:=trodVars_none hV;have k0:=h0;have Y:∀ x∈p0,x.block < W.heap.size:=by obtain ⟨m,hm⟩:=k0;exact DataW.trod_lt m _ _ _ hm
 obtain ⟨A0,c0,x0,rfl,a0,a1,w0⟩:=iQ.wK (iQ.slice Tryz.underlying41 (by kernel_rfl) (iQ.int Tryz.underlying5)) (okWide_slice Tryz.underlying41 (hval 0 41 v0 rfl rfl)) h0;clear X y z;obtain ⟨k,hk⟩:=Pure.qG x0 w0;refine (Pr.ay.calls k _ _ x0 true W a1 a0 ⟨rfl⟩ hk).mono fun e W' ⟨he,bel⟩=>?_
 subst he;exact ⟨_,rfl,_,_,_,[],_,[],hW',trodAll_mk1 (shut_bool Tryz.underlying4 _),(trodAll_cons_mk (Below.trod laidOut (by kernel_rfl) (of_decide_eq_true (by kernel_rfl)) k0 bel Y) trodAll_mk0),rfl,bel.frame _,fun h=>by cases h⟩
theorem Ad:Rows.fnActivitiesRow.holds Tryz.pinned (OpenSpec.ofChange Rows.fnActivitiesSpec) :=
 OpenClaim.holds_of_wide 6 Tryz.f6 rfl rfl rfl rfl rfl rfl rfl ⟨rfl,rfl,rfl,rfl,rfl⟩ rfl rfl rfl rfl rfl (by kernel_rfl) Tryz.func6 (by kernel_rfl)
  (of_decide_eq_true (by kernel_rfl)) (by unfold Func.isWrapper;first | (rw [if_pos (by decide +kernel)];kernel_rfl) | (rw [if_neg (by decide +kernel)];exact ⟨rfl,rfl⟩))
  (fun os started H enc _=>lifted os started H enc)
theorem proved:Rows.FnActivitiesSaid:=Ad
#print axioms proved
end mI
theorem fnActivities_holds:Rows.FnActivitiesSaid:=mI.proved
end
end Go.Proofs.YtlfkfdmggpipbaaGreat
