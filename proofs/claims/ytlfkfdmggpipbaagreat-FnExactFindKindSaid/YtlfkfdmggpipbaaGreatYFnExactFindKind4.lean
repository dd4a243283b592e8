/- The claim FnExactFindKind: every text that its row comes to, laid together by slim.py (the words of the kit's print, the printed walks, the pure law, the row). -/
import Derived.Below
import Derived.ChangeArms
import Derived.ChangeOld
import Derived.DataReads
import Derived.Deep.Slices
import Derived.OpenShut
import Derived.ProofKit
import Derived.RowKit
import Derived.ShutString
import Derived.SizedLaws
import Derived.Test.YtlfkfdmggpipbaaGreatRows
import Derived.WalkKit
import Derived.Test.YtlfkfdmggpipbaaGreatYFnExactFindKind3
namespace Go.Proofs.YtlfkfdmggpipbaaGreat
section
namespace Pr
open Go.RowKit ag.b8 ag.ct ag.cu
attribute [local go_sem] fW fZ gK gM fE fF ga gf
set_option linter.unusedVariables false
set_option linter.unusedSimpArgs false
def bS.j0:Nat→Bool→Int→List Int→Int→List Int→Option (Bool)
 | 0,_,_,_,_,_=>none
 | k+1,U,y,z,I,J=>if U = true then (some false) else ((cS.f k y z).bind fun j=>((dA.f k I J j.1 j.2).bind fun M=>(if M = true then (some true) else (some false))))
def bS.f (k:Nat) (y:Int) (z:List Int):Option (Bool):=(dN.f y z 1048576).bind fun U=>(if U < 0 then (some true) else ((cS.f k y z).bind fun I=>((aU.f k I.1 I.2).bind fun J=>((cS.f k y z).bind fun j=>((bg.f k j.1 j.2).bind fun M=>(if M.1 = J.1 then (bS.j0 k (M.2 != J.2) y z j.1 j.2) else (bS.j0 k true y z j.1 j.2)))))))
set_option maxHeartbeats 8000000 in
set_option maxRecDepth 100000 in
theorem bS.calls (k:Nat) (U:Int) (a1:Option Addr) (a2:Nat) (I:List Int) (r:Bool) (w:World) (b0:Kd.C (Kd.int .i64) w a1 I.length I) (b1:I.length≤a2) (hT:ae (r = true)) (h:bS.f k U I = some r) :
  Calls Tryz.prog 5 #[.agg #[.int .i64 U,.slice a1 I.length a2]] w fun e w'=>e = .returned (.bool r)∧Below w.heap.size w w':=by
 have dT:=Tryz.underlying33;have e0:=Tryz.underlying37;have aa:=ae.mk b0;have ab:=ae.mk b1;clear b0 b1;have HB:=ae.mk (Below.refl w.heap.size w);unfold bS.f at h;have H:=h;clear h;obtain ⟨ao,A2,H⟩:=oX H;(try dsimp only at H);by_cases c3:ao < 0
 ·rw [if_pos c3] at H
  have bv:=decide_eq_true c3;clear c3;obtain rfl:=Option.some.inj H;go_enter Tryz.func5,Tryz.ntmps5;go_wp2_with (first | (refine pd 1 #[.int .i64 U,.slice a1 I.length a2] 33 ?_;intro a4 hg w4 hbox hb;have j:=ae.mk hbox;have ba:=no hg HB;have bc:=no hg HB;replace HB:=np HB hb;clear hb hbox hg;obtain ⟨d4,d5,d6,d7⟩:=nz j.out) | (refine nm (some 11) Tryz.func18 #[.agg #[.int .i64 U,.slice a1 I.length a2],.int .i64 1048576] ?_;(with_reducible refine (dN.calls U _ _ I 1048576 ao _ ?side1 ?side2 A2.out).mono ?_);(case side1=>exact ol (Kd.aJ aa.out HB.out));(case side2=>exact ab.out);rintro e w6 ⟨rfl,hb⟩;refine ⟨_,rfl,?_⟩;replace j:=ne j hb;replace HB:=ae.mk (az na hb);(try clear hb);(try clear aB);(try clear hk);(try clear hi)));go_ret;exact ⟨pj,na⟩
 ·rw [if_neg c3] at H
  have bv:decide (ao < 0) = false:=decide_eq_false c3;clear c3;obtain ⟨⟨aE,ap⟩,A7,H⟩:=oX H;(try dsimp only at H);obtain ⟨⟨a7,b2⟩,A8,H⟩:=oX H;(try dsimp only at H);obtain ⟨⟨X,J⟩,A9,H⟩:=oX H;(try dsimp only at H);obtain ⟨⟨a8,b3⟩,db,H⟩:=oX H;(try dsimp only at H);have b4:=ae.mk H;clear H;go_enter Tryz.func5,Tryz.ntmps5;go_upto_region 8 with (first | (refine pd 1 #[.int .i64 U,.slice a1 I.length a2] 33 ?_;intro a4 hg e2 hbox hb;have j:=ae.mk hbox;have ba:=no hg HB;have bc:=no hg HB;replace HB:=np HB hb;clear hb hbox hg;obtain ⟨c0,c1,ca,cb⟩:=nz j.out) | (refine nm (some 11) Tryz.func18 #[.agg #[.int .i64 U,.slice a1 I.length a2],.int .i64 1048576] ?_;(with_reducible refine (dN.calls U _ _ I 1048576 ao _ ?side1 ?side2 A2.out).mono ?_);(case side1=>exact ol (Kd.aJ aa.out HB.out));(case side2=>exact ab.out);rintro e e3 ⟨rfl,hb⟩;refine ⟨_,rfl,?_⟩;replace j:=ne j hb;replace HB:=ae.mk (az na hb);(try clear hb);(try clear aB);(try clear hk);(try clear hi);obtain ⟨cc,cd,ce,cf⟩:=nz j.out) | (refine nm (some 16) Tryz.func20 #[.agg #[.int .i64 U,.slice a1 I.length a2]] ?_;(with_reducible refine (cS.calls k U _ _ I aE ap _ ?side1 ?side2 A7.out).mono ?_);(case side1=>exact ol (Kd.aJ aa.out HB.out));(case side2=>exact ab.out);rintro e e4 ⟨dd,rfl,am,hb⟩;refine ⟨_,rfl,?_⟩;have M:=ae.mk (Kd.bE am (an na));replace j:=ne j hb;replace HB:=ae.mk (az na hb);(try clear hb);(try clear aB);(try clear hk);(try clear hi);(try clear am);obtain ⟨bk,bm,ch⟩:=Kd.bG M.out;subst ch) | (refine nm (some 17) Tryz.func19 #[.agg #[.int .i64 aE,.slice bk ap.length bm]] ?_;(with_reducible refine (aU.calls k aE _ _ ap a7 b2 _ ?side1 ?side2 A8.out).mono ?_);(case side1=>exact ol ((Kd.aC M.out).2.2));(case side2=>exact (Kd.aC M.out).2.1);rintro e e8 ⟨rfl,hb⟩;refine ⟨_,rfl,?_⟩;replace M:=pm M hb;replace j:=ne j hb;replace HB:=ae.mk (az na hb);(try clear hb);(try clear aB);(try clear hk);(try clear hi);obtain ⟨ci,cl,co,cp⟩:=nz j.out) | (refine nm (some 21) Tryz.func20 #[.agg #[.int .i64 U,.slice a1 I.length a2]] ?_;(with_reducible refine (cS.calls k U _ _ I X J _ ?side1 ?side2 A9.out).mono ?_);(case side1=>exact ol (Kd.aJ aa.out HB.out));(case side2=>exact ab.out);rintro e ea ⟨df,rfl,am,hb⟩;refine ⟨_,rfl,?_⟩;have a0:=ae.mk (Kd.bE (Kd.dx am (Kd.dB (ac M.out))) (an na));replace M:=ae.mk (Kd.cF (ac M.out) (Kd.bY am) hb);replace j:=ne j hb;replace HB:=ae.mk (az na hb);(try clear hb);(try clear aB);(try clear hk);(try clear hi);(try clear am)) | (refine pd 6 #[.int .i64 0,.slice none 0 0] 37 ?_;intro Y hg eb hbox hb;replace M:=pm M hb;replace a0:=pm a0 hb;have y:=ae.mk hbox;have d8:=pt (w:=w) hg na;have d9:=pt (w:=w) hg na;replace HB:=ae.mk (az na hb);have ar:=pk hg j;have aw:=pl hg j;replace j:=ne j hb;clear hb hbox hg;have dk:=aw.out;have dl:=ar.out;obtain ⟨cr,cx,cy,cX⟩:=nz y.out;obtain ⟨a5,a3,cY⟩:=Kd.bG a0.out;subst cY) | (refine nm (some 24) Tryz.func21 #[.agg #[.int .i64 X,.slice a5 J.length a3]] ?_;(with_reducible refine (bg.calls k X _ _ J a8 b3 _ ?side1 ?side2 db.out).mono ?_);(case side1=>refine (Kd.aC (e:=3) (base:=w.heap.size) (ok:=fun k_=>(True∧some k_≠(.slice bk ap.length bm:Value).ownBlock)) (n:=J.length) (c:=a3) ?_).2.2;exact (ac ((Kd.aX (Kd.bF (p:=⟨Y,1,none⟩) (Kd.bF (p:=⟨Y,0,none⟩) (Kd.bf a0.out y.out (by decide)) (fun _ hk=>hk.2) (.int .i64 X)) (fun _ hk=>hk.2) (.slice a5 J.length a3)) (fun _ h_=>h_.1)))));(case side2=>exact (Kd.aC a0.out).2.1);rintro e ed ⟨rfl,hb⟩;refine ⟨_,rfl,?_⟩;replace M:=ae.mk (Kd.cN (ac ((Kd.aX (Kd.bF (p:=⟨Y,1,none⟩) (Kd.bF (p:=⟨Y,0,none⟩) (Kd.bf M.out y.out (by decide)) (fun _ hk=>hk.2) (.int .i64 X)) (fun _ hk=>hk.2) (.slice a5 J.length a3)) (fun _ h_=>h_.1)))) hb);replace a0:=ae.mk (Kd.cN (ac ((Kd.aX (Kd.bF (p:=⟨Y,1,none⟩) (Kd.bF (p:=⟨Y,0,none⟩) (Kd.bf a0.out y.out (by decide)) (fun _ hk=>hk.2) (.int .i64 X)) (fun _ hk=>hk.2) (.slice a5 J.length a3)) (fun _ h_=>h_.1)))) hb);replace j:=ae.mk (aN (g:=a4) (o:=.cells #[.int .i64 U,.slice a1 I.length a2] 33 (0,0)) ph hb);replace y:=ae.mk (aN (g:=Y) (o:=.cells #[.int .i64 X,.slice a5 J.length a3] 37 (0,0)) ph hb);replace HB:=ae.mk (az na hb);(try clear hb);(try clear aB);(try clear hk);(try clear hi)))
  (try simp only [Act.put,List.setIfInBounds_toArray,List.set_cons_zero,List.set_cons_succ]);go_cut [34] (fun dp wc=>∃ (kq:Nat) (a9:Bool),dp = .bool a9∧ae (bS.j0 kq a9 U I X J = some r)∧ae (kq≤k)∧ae (Kd.R (Kd.int .i64) 3 wc w.heap.size (fun _=>True) (.slice a5 J.length a3) J)∧ae (wc.heap[a4]? = some (.cells #[.int .i64 U,(.slice a1 I.length a2)] 33 (0,0)))∧ae (wc.heap[Y]? = some (.cells #[.int .i64 X,(.slice a5 J.length a3)] 37 (0,0)))∧ae (Below w.heap.size w wc))
  case first =>
   have H:=b4.out;clear b4;by_cases aF:a8 = a7
   ·rw [if_pos aF] at H
    have al:(a8 == a7) = true:=beq_iff_eq.mpr aF;have bs:(a8 != a7) = false:=bne_eq_false_iff_eq.mpr aF;clear aF;(first | rw [al] | (simp only [b9,bB];rw [al]) | skip);have H':=ae.mk H;clear H;go_wp2;go_meet
    case rel=>exact ⟨_,((b3 != b2)),nb,H',⟨by first | omega | exact Nat.le_refl _⟩,⟨ac (Kd.aX a0.out (fun _ hk=>trivial))⟩,⟨o0 j.out⟩,⟨o0 y.out⟩,⟨na⟩⟩
   ·rw [if_neg aF] at H
    have al:(a8 == a7) = false:=beq_eq_false_iff_ne.mpr aF;have bs:(a8 != a7) = true:=bne_iff_ne.mpr aF;(first | rw [al] | (simp only [b9,bB];rw [al]) | skip);have H':=ae.mk H;clear H;go_wp2;go_meet
    case rel=>exact ⟨_,(true),nb,H',⟨by first | omega | exact Nat.le_refl _⟩,⟨ac (Kd.aX a0.out (fun _ hk=>trivial))⟩,⟨o0 j.out⟩,⟨o0 y.out⟩,⟨na⟩⟩
  case rest =>
   clear b4;obtain ⟨kq,a9,rfl,HA,e1,z,j,y,HB⟩:=hcut;cases kq with
   | zero=>exact absurd HA.out (by simp [bS.j0])
   | succ aR =>
    have H:=HA.out;clear HA;simp only [bS.j0] at H;by_cases bd:a9 = true
    ·subst bd
     replace H:(some false) = some r:=by rw [if_pos rfl] at H;exact H
     obtain rfl:=Option.some.inj H;exact absurd hT.out (by decide)
    ·replace bd:=Bool.eq_false_iff.mpr bd
     subst bd;replace H:((cS.f aR U I).bind fun aS=>((dA.f aR X J aS.1 aS.2).bind fun aL=>(if aL = true then (some true) else (some false)))) = some r:=by rw [if_neg (show ¬ (false = true) by decide)] at H;exact H
     obtain ⟨⟨aO,aP⟩,dq,H⟩:=oX H;(try dsimp only at H);obtain ⟨aL,dt,H⟩:=oX H;(try dsimp only at H);by_cases bi:aL = true
     ·subst bi
      replace H:(some true) = some r:=by rw [if_pos rfl] at H;exact H
      obtain rfl:=Option.some.inj H;(try go_wp2);replace z:=ae.mk (Kd.dw z.out);replace j:=ae.mk (cW j.out);replace y:=ae.mk (cW y.out);replace HB:=ae.mk (bZ HB.out);refine e9 (n:=5) (S:=fun w'=>w'.cell? ⟨Y,0,none⟩ = some (.int .i64 X)∧w'.cell? ⟨Y,1,none⟩ = some (.slice a5 J.length a3)∧w'.cell? ⟨a4,0,none⟩ = some (.int .i64 U)∧w'.cell? ⟨a4,1,none⟩ = some (.slice a1 I.length a2)) (ds:=[]) #[false,false,false,false,false] (by kernel_rfl) rfl rfl ⟨(ah y.out 0).trans rfl,(ah y.out 1).trans rfl,(ah j.out 0).trans rfl,(ah j.out 1).trans rfl⟩ (fun hHeld=>?_);generalize wc.drew = ee at z j y HB hHeld ⊢;refine fS (i:=0) (N:=some 35) (v:=?_) (a':=?_) #[true,false,false,false,false] rfl rfl (by kernel_rfl) (fun _ _ _ h=>h) (Or.inl ⟨by rfl,?_⟩) hHeld ?_ ?_;rotate_left
      ·rintro w' ⟨s0,s1,s2,s3⟩
       go_simp
       with_reducible rfl
      rotate_left
      ·simp only [Act.put,List.setIfInBounds_toArray,List.set_cons_zero,List.set_cons_succ,b9,bB]
       rfl
      refine fS (i:=1) (N:=some 36) (v:=?_) (a':=?_) #[true,true,false,false,false] rfl rfl (by kernel_rfl) (fun _ _ _ h=>h) (Or.inl ⟨by rfl,?_⟩) hHeld ?_ ?_;rotate_left
      ·rintro w' ⟨s0,s1,s2,s3⟩
       go_simp
       with_reducible rfl
      rotate_left
      ·simp only [Act.put,List.setIfInBounds_toArray,List.set_cons_zero,List.set_cons_succ,b9,bB]
       rfl
      refine eW (i:=2) (N:=some 37) #[true,true,true,false,false] rfl rfl (by kernel_rfl) (by decide) (fun K hK=>?_);refine fV Tryz.func20 (by kernel_rfl) rfl #[.agg #[.int .i64 U,.slice a1 I.length a2]] (by rfl) rfl rfl (by (try simp only [List.map_toArray,List.map_cons,List.map_nil]);first | done | rfl) ?_;with_reducible refine (cS.calls aR U _ _ I aO aP _ ?side1 ?side2 dq.out).mono ?_
      (case side1=>exact ol (Kd.aJ aa.out HB.out));(case side2=>exact ab.out);rintro e ef ⟨du,rfl,am,hb⟩
      refine ⟨_,rfl,?_⟩;have a6:=ae.mk (Kd.bE (Kd.dx am (Kd.dB (ac z.out))) (an na));replace z:=ae.mk (Kd.cF (ac z.out) (Kd.bY am) hb);replace j:=ne j hb;replace y:=ne y hb;replace HB:=ae.mk (az na hb);(try clear hb);(try clear aB);(try clear hk);(try clear hi);(try clear am);obtain ⟨d0,d1,bo⟩:=Kd.bG a6.out;(first | subst bo | (injection bo with d2 dv d3;have dC:=d2.symm;have dE:=d3.symm;clear d2 dv d3;subst dC;subst dE));refine hK.out _ _ ⟨(ah y.out 0).trans rfl,(ah y.out 1).trans rfl,(ah j.out 0).trans rfl,(ah j.out 1).trans rfl⟩ (fun hHeld=>?_);clear hK K;refine bX (a':=?_) ?_ ?_;rotate_left
      ·show Act.put _ (some 37) _ = _
       simp only [Act.put,List.setIfInBounds_toArray,List.set_cons_zero,List.set_cons_succ,b9,bB];rfl
      refine eW (i:=3) (N:=some 38) #[true,true,true,true,false] rfl rfl (by kernel_rfl) (by decide) (fun K hK=>?_);refine fV Tryz.func22 (by kernel_rfl) rfl #[.agg #[.int .i64 X,.slice a5 J.length a3],.agg #[.int .i64 aO,.slice d0 aP.length d1]] (by rfl) rfl rfl (by (try simp only [List.map_toArray,List.map_cons,List.map_nil]);first | done | rfl) ?_;with_reducible refine (dA.calls aR X _ _ J aO _ _ aP true _ ?side1 ?side2 ?side3 ?side4 dt.out).mono ?_
      (case side1=>exact ol ((Kd.aC z.out).2.2));(case side2=>exact (Kd.aC z.out).2.1);(case side3=>exact ol ((Kd.aC a6.out).2.2));(case side4=>exact (Kd.aC a6.out).2.1);rintro e eg ⟨rfl,hb⟩
      refine ⟨_,rfl,?_⟩;replace z:=pm z hb;replace a6:=pm a6 hb;replace j:=ne j hb;replace y:=ne y hb;replace HB:=ae.mk (az na hb);(try clear hb);(try clear aB);(try clear hk);(try clear hi);refine hK.out _ _ ⟨(ah y.out 0).trans rfl,(ah y.out 1).trans rfl,(ah j.out 0).trans rfl,(ah j.out 1).trans rfl⟩ (fun hHeld=>?_);clear hK K;refine bX (a':=?_) ?_ ?_;rotate_left
      ·show Act.put _ (some 38) _ = _
       simp only [Act.put,List.setIfInBounds_toArray,List.set_cons_zero,List.set_cons_succ,b9,bB];rfl
      refine dF (i:=4) (N:=some 39) (v:=?_) (a':=?_) #[true,true,true,true,true] rfl rfl (by kernel_rfl) (fun _ _ _ h=>h) (Or.inl ⟨by rfl,?_⟩) ?_ ?_;rotate_left
      ·intro w'
       go_simp
       with_reducible rfl
      rotate_left
      ·simp only [Act.put,List.setIfInBounds_toArray,List.set_cons_zero,List.set_cons_succ,b9,bB]
       rfl
      refine eZ (by kernel_rfl) ?_;(try go_wp2);go_ret;exact ⟨pj,na⟩
     ·replace bi:=Bool.eq_false_iff.mpr bi
      subst bi;replace H:(some false) = some r:=by rw [if_neg (show ¬ (false = true) by decide)] at H;exact H
      obtain rfl:=Option.some.inj H;exact absurd hT.out (by decide)
end Pr
end
section
namespace dg
open Go.RowKit ag.b8 ag.cu
theorem sj {i:Int} (j:-9223372036854775808≤i) (h1:i≤9223372036854775807):wrap64 i = i:=by
 unfold wrap64;omega
theorem ej (i:Nat) (h1:i < 9223372036854775807):wrap64 ((i:Int)+1) = ((i+1:Nat):Int):=by
 unfold wrap64;omega
theorem dS (xs:List Int) (i:Nat):rd xs (i:Int) = xs.getD i 0:=rfl
theorem mY {σ γ:Type} (L:Nat→σ→Int→Option γ) (n:Nat) (step:Nat→σ→σ) (P:Nat→σ→Prop) (K:Nat)
  (hstep:∀ k i s,K≤k→i < n→P i s→L (k+1) s (i:Int) = L k (step i s) ((i+1:Nat):Int)∧P (i+1) (step i s)) :
  ∀ (d i:Nat) (s:σ) (k:Nat),i+d = n→K+d≤k→P i s→∃ s',L k s (i:Int) = L (k - d) s' (n:Int)∧P n s'∧s' = (List.range' i d).foldl (fun s j=>step j s) s:=by
 intro d;induction d with
 | zero =>
  intro i s k hi hk hP;obtain rfl:i = n:=by omega
  exact ⟨s,by simp,hP,by simp⟩
 | succ d ih =>
  intro i s k hi hk hP;obtain ⟨k,rfl⟩:∃ m,k = m+1:=⟨k - 1,by omega⟩
  obtain ⟨h1,h2⟩:=hstep k i s (by omega) (by omega) hP;obtain ⟨s',h3,h4,h5⟩:=ih (i+1) (step i s) k (by omega) (by omega) h2;refine ⟨s',?_,h4,?_⟩
  ·rw [h1,h3]
   congr 1
   omega
  ·rw [h5,List.range'_succ]
   rfl
theorem oq {β γ:Type} (L:Nat→List β→Int→Option γ) (f:Nat→β) (K n:Nat)
  (hstep:∀ k i ys,K≤k→i < n→ys.length = n→L (k+1) ys (i:Int) = L k (ys.set i (f i)) ((i+1:Nat):Int))
  (ys:List β) (hy:ys.length = n) (k:Nat) (hk:K+n≤k):L k ys 0 = L (k - n) ((List.range n).map f) (n:Int):=by
 obtain ⟨s',h1,h2,_⟩:=mY L n (fun i s=>s.set i (f i)) (fun i s=>s.length = n∧∀ j,j < i→s[j]? = some (f j)) K
  (fun k i s hK hi hP=>⟨hstep k i s hK hi hP.1,by simpa using hP.1,fun j hj=>by
   rw [List.getElem?_set];by_cases e:i = j
   ·subst e
    rw [if_pos rfl,if_pos (by omega)]
   ·rw [if_neg e]
    exact hP.2 j (by omega)⟩) n 0 ys k (by omega) hk ⟨hy,fun j hj=>by omega⟩
 refine h1.trans ?_;congr 1
 apply List.ext_getElem?
 intro j;by_cases hj:j < n
 ·rw [h2.2 j hj]
  simp [hj]
 ·rw [List.getElem?_eq_none (by omega),List.getElem?_eq_none (by simp;omega)]
theorem pH {α β:Type} (xs:List α) (d:α) (g:α→β):(List.range xs.length).map (fun i=>g (xs.getD i d)) = xs.map g:=by
 apply List.ext_getElem?
 intro j;by_cases hj:j < xs.length
 ·simp [hj,List.getD]
 ·simp [hj]
theorem jh {α:Type} (xs:List α) (d:α):(List.range xs.length).map (fun i=>xs.getD i d) = xs:=by
 have:=pH xs d id;simpa using this
theorem k5 (L:Nat→Int→Option Bool) (n:Nat) (p:Nat→Bool) (K:Nat) (last:Bool)
  (hstep:∀ k i,K≤k→i < n→L (k+1) (i:Int) = if p i = true then L k ((i+1:Nat):Int) else some false)
  (hend:∀ k,K≤k→L (k+1) (n:Int) = some last) :
  ∀ (d i k:Nat),i+d = n→K+d < k→L k (i:Int) = some ((List.range' i d).all p && last):=by
 intro d;induction d with
 | zero =>
  intro i k hi hk;obtain rfl:i = n:=by omega
  obtain ⟨k,rfl⟩:∃ m,k = m+1:=⟨k - 1,by omega⟩
  simp [hend k (by omega)]
 | succ d ih =>
  intro i k hi hk;obtain ⟨k,rfl⟩:∃ m,k = m+1:=⟨k - 1,by omega⟩
  rw [hstep k i (by omega) (by omega),List.range'_succ];by_cases h:p i = true
  ·rw [if_pos h,ih (i+1) k (by omega) (by omega)]
   simp [h]
  ·rw [if_neg h]
   simp [h]
theorem fe {σ γ:Type} (L:Nat→σ→Int→Option γ) (n:Nat) (step:Nat→σ→σ) (P:Nat→σ→Prop) (r:γ)
  (y:∀ i s,i < n→P i s→P (i+1) (step i s)∧(Ev (fun k=>L k (step i s) ((i+1:Nat):Int)) r→Ev (fun k=>L k s (i:Int)) r)) :
  ∀ (d i:Nat) (s:σ),i+d = n→P i s→(P n ((List.range' i d).foldl (fun s j=>step j s) s)→Ev (fun k=>L k ((List.range' i d).foldl (fun s j=>step j s) s) (n:Int)) r)→Ev (fun k=>L k s (i:Int)) r:=by
 intro d;induction d with
 | zero =>
  intro i s hi hP h;obtain rfl:i = n:=by omega
  exact h (by simpa using hP)
 | succ d ih =>
  intro i s hi hP h;obtain ⟨h1,h2⟩:=y i s (by omega) hP;refine h2 (ih (i+1) (step i s) (by omega) h1 ?_);rw [List.range'_succ] at h;exact h
theorem dr {γ:Type} {g:Nat→Option γ} {r:γ} (K:Nat) (h:∀ k,K≤k→g k = some r):Ev g r:=⟨K,h⟩
theorem foldl_append (p:Nat→Bool) (l:List Nat) (acc:List Int):l.foldl (fun s j=>if p j = true then s ++ [(j:Int)] else s) acc = acc ++ (l.filter p).map (fun j:Nat=>(j:Int)):=by
 induction l generalizing acc with
 | nil=>simp
 | cons a l ih =>
  rw [List.foldl_cons,ih];by_cases h:p a = true
  ·simp [h]
  ·simp [h]
theorem pI {σ:Type} (f:σ→Nat→σ) (l:List Nat) (s:σ) (h:∀ j∈l,∀ s,f s j = s):l.foldl f s = s:=by
 induction l generalizing s with
 | nil=>rfl
 | cons a l ih =>
  rw [List.foldl_cons,h a (by simp),ih _ (fun j hj=>h j (by simp [hj]))]
theorem mZ {σ:Type} (f:σ→Nat→σ) (m d:Nat) (s:σ) (h:∀ j,m≤j→∀ s,f s j = s):(List.range' 0 (m+d)).foldl f s = (List.range' 0 m).foldl f s:=by
 rw [← List.range'_append_1,List.foldl_append];refine pI _ _ _ fun j hj=>h j ?_
 have:=List.mem_range'_1.1 hj;omega
theorem qQ (l:List Nat):(l.all fun _=>true) = true:=List.all_eq_true.2 (fun _ _=>rfl)
end dg
end
section
namespace sX
open Go.RowKit Go.Proofs.YtlfkfdmggpipbaaGreat.Pr ag.b8 ag.ct ag.cu
theorem sk (xs:List Int) (hn:xs.length≤1048576) (k:Nat) (hk:xs.length < k):cJ.f k xs = some xs:=by
 unfold cJ.f;rw [if_pos (by omega),if_pos (by omega)];rw [dg.oq (fun k ys i=>cJ.l0 k xs ys i) (fun i=>xs.getD i 0) 0 xs.length (fun k i ys _ hi hy=>by
  simp only [cJ.l0];rw [if_pos (by omega),if_pos (by omega),if_pos (by omega),dg.ej i (by omega),dg.dS];simp) _ (by simp) k (by omega),dg.jh]
 obtain ⟨m,hm⟩:∃ m,k - xs.length = m+1:=⟨k - xs.length - 1,by omega⟩
 rw [hm];simp only [cJ.l0];rw [if_neg (by omega)]
theorem sn (xs:List Int) (hn:xs.length≤1048576) (k:Nat) (hk:xs.length < k):cP.f k xs xs = some true:=by
 unfold cP.f;rw [if_pos rfl];have:=dg.k5 (fun k i=>cP.l0 k xs xs i) xs.length (fun _=>true) 0 true (fun k i _ hi=>by
  simp only [cP.l0];rw [if_pos (by omega),if_pos (by omega),if_pos (by omega),if_pos (by trivial),dg.ej i (by omega),if_pos (by trivial)]) (fun k _=>by
  simp only [cP.l0];rw [if_neg (by omega)]) xs.length 0 k (by omega) (by omega)
 simpa [dg.qQ] using this
theorem sq (xs:List Int) (left:Int) (hm:xs.length≤maxLen) (h1:left≤1048576) (j:0≤left):∃ z,eO.f xs left = some z∧(z < 0∨(xs.length≤1048576∧0≤z∧z≤left)):=by
 unfold maxLen at hm;unfold eO.f;rw [dg.sj (by omega) (by omega)];by_cases h:left - (xs.length:Int) < 0
 ·exact ⟨-1,by rw [if_pos h],.inl (by omega)⟩
 ·exact ⟨_,by rw [if_neg h],.inr ⟨by omega,by omega,by omega⟩⟩
theorem ot (n:Int) (xs:List Int) (left:Int) (hm:xs.length≤maxLen) (h1:left≤1048576) (j:0≤left):∃ z,dN.f n xs left = some z∧(z < 0∨(xs.length≤1048576∧0≤z∧z≤left)):=by
 obtain ⟨z,hz,h⟩:=sq xs left hm h1 j;unfold dN.f;rw [hz];simp only [Option.bind_some];by_cases hn:z < 0
 ·exact ⟨-1,by rw [if_pos hn],.inl (by omega)⟩
 ·exact ⟨z,by rw [if_neg hn],h⟩
theorem qR (xs:List Int) (hn:xs.length≤1048576):Ev (fun k=>cJ.f k xs) xs:=dg.dr (xs.length+1) (fun k hk=>sk xs hn k (by omega))
theorem qS (xs:List Int) (hn:xs.length≤1048576):Ev (fun k=>cP.f k xs xs) true:=dg.dr (xs.length+1) (fun k hk=>sn xs hn k (by omega))
theorem ji (n:Int) (xs:List Int) (hn:xs.length≤1048576):Ev (fun k=>cS.f k n xs) (n,xs):=by
 unfold cS.f;exact Ev.bind (qR xs hn) (Ev.now _)
theorem ou (n:Int) (xs:List Int) (hn:xs.length≤1048576):Ev (fun k=>dA.f k n xs n xs) true:=by
 unfold dA.f;simp only [if_true];exact Ev.bind (qS xs hn) (Ev.now _)
end sX
end
section
namespace Sets
open Go.RowKit ag.b8 ag.cu
theorem fG {γ:Type} (L:Nat→Int→Option γ) (n:Nat) (p:Nat→Bool) (S:γ→Prop)
  (hyes:∀ i,i < n→p i = true→∃ r,S r∧Ev (fun k=>L k (i:Int)) r)
  (hno:∀ i,i < n→p i = false→∀ r,Ev (fun k=>L k ((i+1:Nat):Int)) r→Ev (fun k=>L k (i:Int)) r) :
  ∀ d i:Nat,i+d = n→((List.range' i d).any p = true→∃ r,S r∧Ev (fun k=>L k (i:Int)) r)∧((List.range' i d).any p = false→∀ r,Ev (fun k=>L k (n:Int)) r→Ev (fun k=>L k (i:Int)) r):=by
 intro d;induction d with
 | zero =>
  intro i hi;obtain rfl:i = n:=by omega
  exact ⟨fun h=>by simp at h,fun _ r h=>h⟩
 | succ d ih =>
  intro i hi;obtain ⟨h1,h2⟩:=ih (i+1) (by omega);rw [List.range'_succ,List.any_cons];cases hp:p i with
  | true=>exact ⟨fun _=>hyes i (by omega) hp,fun h=>by simp at h⟩
  | false =>
   refine ⟨fun h=>?_,fun h r hr=>hno i (by omega) hp r (h2 (by simpa using h) r hr)⟩;obtain ⟨r,hr,hE⟩:=h1 (by simpa using h);exact ⟨r,hr,hno i (by omega) hp r hE⟩
theorem iy (n:Int) (j:0≤n) (h1:n < 2 ^ 62):IntKind.i64.wrap n = n:=by
 rw [IntKind.wrap_i64];omega
theorem qT (a b:Nat) (ha:a < 2 ^ 62) (hb:b < 2 ^ 62):Go.bits .and .i64 (a:Int) (b:Int) = ((a &&& b:Nat):Int):=(bits_nat .i64 62 (by decide) iy a b ha hb).1
theorem n2 (a b:Nat) (ha:a < 2 ^ 62) (hb:b < 2 ^ 62):Go.bits .or .i64 (a:Int) (b:Int) = ((a ||| b:Nat):Int):=(bits_nat .i64 62 (by decide) iy a b ha hb).2
def diff (a b:Nat):Nat:=a ^^^ (a &&& b)
theorem eN (a b i:Nat):(diff a b).testBit i = (a.testBit i && !b.testBit i):=by
 unfold diff;rw [Nat.testBit_xor,Nat.testBit_and];cases a.testBit i <;> cases b.testBit i <;> rfl
theorem gp {a b:Nat} {n:Nat} (ha:a < 2 ^ n):diff a b < 2 ^ n:=by
 apply Nat.lt_pow_two_of_testBit
 intro i hi;rw [eN,Nat.testBit_lt_two_pow (Nat.lt_of_lt_of_le ha (Nat.pow_le_pow_right (by decide) hi))];rfl
theorem gh (a b:Nat) (ha:a < 2 ^ 62):Go.bits .andNot .i64 (a:Int) (b:Int) = ((diff a b:Nat):Int):=by
 have j:(2:Nat) ^ 62≤2 ^ 64:=by decide
 have key:(BitVec.ofNat 64 a &&& ~~~(BitVec.ofNat 64 b)).toNat = diff a b:=by
  apply Nat.eq_of_testBit_eq
  intro i;rw [eN,BitVec.testBit_toNat,BitVec.getLsbD_and,BitVec.getLsbD_not,BitVec.getLsbD_ofNat,BitVec.getLsbD_ofNat];by_cases hi:i < 64
  ·simp [hi]
  ·have:a.testBit i = false:=Nat.testBit_lt_two_pow (Nat.lt_of_lt_of_le ha (Nat.pow_le_pow_right (by decide) (by omega)))
   simp [hi,this]
 show IntKind.i64.wrap ((BitVec.ofInt 64 (a:Int) &&& ~~~(BitVec.ofInt 64 (b:Int))).toNat:Int) = _;have y:BitVec.ofInt 64 (a:Int) = BitVec.ofNat 64 a:=by simp
 have z:BitVec.ofInt 64 (b:Int) = BitVec.ofNat 64 b:=by simp
 rw [y,z,key];have:=gp (b:=b) ha;exact iy _ (by omega) (by exact_mod_cast this)
theorem ff (e:Nat) (he:e < 62):shl .i64 1 (e:Int) = ((2 ^ e:Nat):Int):=by
 unfold shl;have h1:min ((e:Int)).toNat IntKind.i64.bits = e:=by
  show min e 64 = e;omega
 rw [h1,Int.one_mul];have h2:(2:Nat) ^ e < 2 ^ 62:=Nat.pow_lt_pow_right (by decide) he;rw [iy _ (by exact_mod_cast Nat.zero_le _) (by exact_mod_cast h2)];push_cast
 rfl
theorem lJ (a e:Nat) (he:e < 62) (ha:a < 2 ^ 62):((Go.bits .and .i64 (shr .i64 (a:Int) (e:Int)) 1) == 1) = a.testBit e:=by
 unfold shr;have h1:min ((e:Int)).toNat IntKind.i64.bits = e:=by
  show min e 64 = e;omega
 rw [h1];have h2:((a:Int) / 2 ^ e) = ((a / 2 ^ e:Nat):Int):=by push_cast;rfl
 have h3:a / 2 ^ e < 2 ^ 62:=Nat.lt_of_le_of_lt (Nat.div_le_self _ _) ha;rw [h2,show (1:Int) = ((1:Nat):Int) from rfl,qT _ 1 h3 (by decide),Nat.testBit_eq_decide_div_mod_eq,Nat.and_one_is_mod];by_cases h:a / 2 ^ e % 2 = 1
 ·simp [h]
 ·have h4:a / 2 ^ e % 2 = 0:=by omega
  simp [h4]
theorem gP {a n e:Nat} (ha:a < 2 ^ n) (he:n≤e):a.testBit e = false:=Nat.testBit_lt_two_pow (Nat.lt_of_lt_of_le ha (Nat.pow_le_pow_right (by decide) he))
theorem swap_eq:∀ a,a < 256→∀ e,e < 8→∀ f,f < 8→a.testBit e = true→a.testBit f = false→diff a (2 ^ e) ||| 2 ^ f = a - 2 ^ e+2 ^ f:=by decide +kernel
theorem sr:∀ a,a < 256→∀ e,e < 8→a.testBit e = true→2 ^ e≤a:=by decide +kernel
def elems (s:Nat):List Nat:=(List.range' 0 8).filter fun j=>s.testBit j
def eX (l:List Nat) (a b e:Nat):Bool:=(List.range' 0 8).any fun f=>b.testBit f && !a.testBit f && l.contains (a - 2 ^ e+2 ^ f)
def gB (l:List Nat):Bool:=l.any fun a=>l.any fun b=>(List.range' 0 8).any fun e=>a.testBit e && !b.testBit e && !eX l a b e
def ints (l:List Nat):List Int:=l.map fun j:Nat=>(j:Int)
theorem aA (l:List Nat):(ints l).length = l.length:=by simp [ints]
theorem jj (l:List Nat) (i:Nat):(ints l).getD i 0 = ((l.getD i 0:Nat):Int):=by
 by_cases h:i < l.length
 ·simp [ints,List.getD,h]
 ·simp [ints,List.getD,h]
theorem dO (l:List Nat) (i:Nat):rd (ints l) (i:Int) = ((l.getD i 0:Nat):Int):=by rw [dg.dS,jj]
theorem gC {α:Type} (l:List α) (d:α) (p:α→Bool):((List.range' 0 l.length).any fun i=>p (l.getD i d)) = l.any p:=by
 rw [Bool.eq_iff_iff];simp only [List.any_eq_true];constructor
 ·rintro ⟨i,hi,hp⟩
  have hlt:i < l.length:=by have:=List.mem_range'_1.1 hi;omega
  refine ⟨l[i],List.getElem_mem hlt,?_⟩;simpa [List.getD,hlt] using hp
 ·rintro ⟨x,hx,hp⟩
  obtain ⟨i,hi,rfl⟩:=List.getElem_of_mem hx;exact ⟨i,List.mem_range'_1.2 (by omega),by simpa [List.getD,hi] using hp⟩
theorem pJ (p:Nat→Bool) (m d:Nat) (h:∀ j,m≤j→p j = false):(List.range' 0 (m+d)).any p = (List.range' 0 m).any p:=by
 rw [← List.range'_append_1,List.any_append];have:(List.range' (0+m) d).any p = false:=by
  rw [List.any_eq_false];intro j hj;have:=List.mem_range'_1.1 hj;rw [h j (by omega)];decide
 rw [this,Bool.or_false]
theorem pK (m:Nat) (hm:m≤8) (p:Nat→Bool) (h:∀ j,m≤j→p j = false):(List.range' 0 m).any p = (List.range' 0 8).any p:=by
 have:=pJ p m (8 - m) h;rw [show m+(8 - m) = 8 by omega] at this;exact this.symm
theorem kN (s:Nat) (q:Nat→Bool):(elems s).any q = (List.range' 0 8).any fun j=>s.testBit j && q j:=by
 unfold elems;rw [List.any_filter]
theorem gZ {s j:Nat} (h:j∈elems s):j < 8∧s.testBit j = true:=by
 unfold elems at h;obtain ⟨h1,h2⟩:=List.mem_filter.1 h;have:=List.mem_range'_1.1 h1;exact ⟨by omega,h2⟩
theorem eB (s:Nat):(elems s).length≤8:=by
 unfold elems;exact Nat.le_trans (List.length_filter_le _ _) (by simp)
theorem dU {m:Nat} (hm:m≤8):(2:Nat) ^ m≤256:=Nat.pow_le_pow_right (n:=2) (by decide) hm
theorem qU:∀ a,a < 256→∀ e,e < 8→∀ f,f < 8→a.testBit e = true→a.testBit f = false→a - 2 ^ e+2 ^ f < 256:=by decide +kernel
theorem dI {α:Type} (l:List α) (d:α) (i:Nat) (h:i < l.length):l.getD i d∈l:=by
 have:l.getD i d = l[i]:=by simp [List.getD,h]
 rw [this];exact List.getElem_mem h
end Sets
end
section
namespace nZ
open Go.RowKit Go.Proofs.YtlfkfdmggpipbaaGreat.Pr Go.Proofs.YtlfkfdmggpipbaaGreat.Sets ag.b8 ag.ct ag.cu
set_option linter.unusedVariables false
def isSet (n s:Int):Bool:=decide (0≤n∧n≤8∧0≤s∧s < 2 ^ n.toNat)
theorem ov (n s:Int):eD.f n s = some (isSet n s):=by
 unfold eD.f cB.f isSet;by_cases j:n≥0
 ·rw [if_pos j]
  simp only [Option.bind_some];by_cases h1:n≤8
  ·rw [if_pos (decide_eq_true h1)]
   obtain ⟨m,rfl⟩:∃ m:Nat,n = m:=⟨n.toNat,by omega⟩
   by_cases h2:s≥0
   ·rw [if_pos h2,if_pos j,ff m (by omega)]
    congr 1
    rw [decide_eq_decide];simp only [Int.toNat_natCast];push_cast
    omega
   ·rw [if_neg h2,decide_eq_false (by omega)]
  ·rw [if_neg (by rw [decide_eq_true_eq];exact h1),decide_eq_false (by omega)]
 ·rw [if_neg j]
  simp only [Option.bind_some];rw [if_neg (by decide),decide_eq_false (by omega)]
theorem ow (n s:Int):cL.f n s = some (isSet n s):=by
 unfold cL.f bL.f isSet;by_cases j:n≥0
 ·rw [if_pos j]
  simp only [Option.bind_some];by_cases h1:n≤8
  ·rw [if_pos (decide_eq_true h1)]
   obtain ⟨m,rfl⟩:∃ m:Nat,n = m:=⟨n.toNat,by omega⟩
   have hu:IntKind.u64.wrap (m:Int) = m:=by
    have:m = 0∨m = 1∨m = 2∨m = 3∨m = 4∨m = 5∨m = 6∨m = 7∨m = 8:=by omega
    rcases this with rfl | rfl | rfl | rfl | rfl | rfl | rfl | rfl | rfl <;> decide +kernel
   have hp:=dU (m:=m) (by omega);have y:1≤2 ^ m:=Nat.one_le_two_pow;rw [hu,if_pos j,ff m (by omega),dg.sj (by omega) (by omega)];by_cases h2:s≥0
   ·rw [if_pos h2]
    simp only [Option.bind_some];congr 1
    rw [decide_eq_decide];simp only [Int.toNat_natCast];have:((2:Int) ^ m) = ((2 ^ m:Nat):Int):=by push_cast;rfl
    rw [this];omega
   ·rw [if_neg h2]
    simp only [Option.bind_some];rw [decide_eq_false (by omega)]
  ·rw [if_neg (by rw [decide_eq_true_eq];exact h1),decide_eq_false (by omega)]
 ·rw [if_neg j]
  simp only [Option.bind_some];rw [if_neg (by decide),decide_eq_false (by omega)]
def nM (n:Int) (l:List Int):Bool:=((List.range' 0 l.length).all fun i=>isSet n (l.getD i 0) && (decide (i = 0) || decide (l.getD (i - 1) 0 < l.getD i 0))) && decide (0≤n∧n≤8)
theorem k6 (n:Int) (l:List Int) (hn:l.length≤1048576) (k:Nat) (hk:l.length < k):bJ.f k n l = some (nM n l):=by
 unfold bJ.f nM;refine dg.k5 (fun k i=>bJ.l0 k n l l (l.length:Int) i) l.length (fun i=>isSet n (l.getD i 0) && (decide (i = 0) || decide (l.getD (i - 1) 0 < l.getD i 0))) 0 (decide (0≤n∧n≤8)) (fun k i _ hi=>?_) (fun k _=>?_) l.length 0 k (by omega) (by omega)
 ·simp only [bJ.l0]
  rw [if_pos (by omega),if_pos (by omega),if_pos (by omega),ov,dg.dS];simp only [Option.bind_some];cases isSet n (l.getD i 0) with
  | false=>rfl
  | true =>
   rw [if_pos rfl,dg.ej i (by omega)];by_cases j:i = 0
   ·subst j
    rw [if_neg (by decide),if_pos (by rfl)]
   ·rw [if_pos (by omega),dg.sj (by omega) (by omega),show (i:Int) - 1 = ((i - 1:Nat):Int) by omega,if_pos (by omega),if_pos (by omega),dg.dS]
    by_cases h1:l.getD i 0≤l.getD (i - 1) 0
    ·rw [if_pos h1,decide_eq_false j,decide_eq_false (by omega)]
     rfl
    ·rw [if_neg h1,decide_eq_false j,decide_eq_true (by omega)]
     rfl
 ·simp only [bJ.l0]
  rw [if_neg (by omega)];unfold cB.f;by_cases j:n≥0
  ·rw [if_pos j]
   simp only [Option.bind_some];congr 1
   rw [decide_eq_decide];omega
  ·rw [if_neg j,decide_eq_false (by omega)]
   rfl
theorem k7 (n:Int) (l:List Int) (hn:l.length≤1048576) (k:Nat) (hk:l.length < k):bI.f k n l = some (nM n l):=by
 unfold bI.f nM;refine dg.k5 (fun k i=>bI.l0 k n l i) l.length (fun i=>isSet n (l.getD i 0) && (decide (i = 0) || decide (l.getD (i - 1) 0 < l.getD i 0))) 0 (decide (0≤n∧n≤8)) (fun k i _ hi=>?_) (fun k _=>?_) l.length 0 k (by omega) (by omega)
 ·simp only [bI.l0]
  rw [if_pos (by omega),if_pos (by omega),ow,dg.dS];simp only [Option.bind_some];cases isSet n (l.getD i 0) with
  | false=>rfl
  | true =>
   rw [if_pos rfl,dg.ej i (by omega)];by_cases j:i = 0
   ·subst j
    rw [if_neg (by decide),if_pos (by rfl)]
   ·rw [if_pos (by omega),dg.sj (by omega) (by omega),show (i:Int) - 1 = ((i - 1:Nat):Int) by omega,if_pos (by omega),if_pos (by omega),dg.dS]
    by_cases h1:l.getD (i - 1) 0≥l.getD i 0
    ·rw [if_pos h1,decide_eq_false j,decide_eq_false (by omega)]
     rfl
    ·rw [if_neg h1,decide_eq_false j,decide_eq_true (by omega)]
     rfl
 ·simp only [bI.l0]
  rw [if_neg (by omega)];unfold bL.f;by_cases j:n≥0
  ·rw [if_pos j]
   simp only [Option.bind_some];congr 1
   rw [decide_eq_decide];omega
  ·rw [if_neg j,decide_eq_false (by omega)]
   rfl
theorem lK {n:Int} {l:List Int} (h:nM n l = true):∃ (m:Nat) (j:List Nat),n = m∧m≤8∧l = ints j∧∀ s∈j,s < 2 ^ m:=by
 unfold nM at h;rw [Bool.and_eq_true,decide_eq_true_eq] at h;obtain ⟨hl,y,z⟩:=h;have key:∀ s∈l,0≤s∧s < 2 ^ n.toNat:=fun s hs=>by
  obtain ⟨i,hi,rfl⟩:=List.getElem_of_mem hs;have:=List.all_eq_true.1 hl i (List.mem_range'_1.2 (by omega));rw [Bool.and_eq_true] at this;have h1:=this.1;unfold isSet at h1;rw [decide_eq_true_eq] at h1;have e:l.getD i 0 = l[i]:=by simp [List.getD,hi]
  rw [e] at h1;exact ⟨h1.2.2.1,h1.2.2.2⟩
 refine ⟨n.toNat,l.map Int.toNat,by omega,by omega,?_,fun s hs=>?_⟩
 ·unfold ints
  rw [List.map_map];conv=>lhs;rw [← List.map_id l]
  refine List.map_congr_left fun s hs=>?_
  have:=(key s hs).1;show s = ((s.toNat:Nat):Int)
  omega
 ·obtain ⟨x,hx,rfl⟩:=List.mem_map.1 hs
  obtain ⟨h1,h2⟩:=key x hx;have e:((2:Int) ^ n.toNat) = ((2 ^ n.toNat:Nat):Int):=by push_cast;rfl
  rw [e] at h2;omega
theorem index (l:List Nat) (x:Nat) (hn:l.length≤1048576):∀ (d i k:Nat),i+d = l.length→d < k→∃ r,aT.l0 k (ints l) (x:Int) ((ints l).length:Int) (i:Int) = some r∧decide (r≥0) = (l.drop i).contains x:=by
 intro d;induction d with
 | zero =>
  intro i k hi hk;obtain ⟨k,rfl⟩:∃ m,k = m+1:=⟨k - 1,by omega⟩
  refine ⟨-1,?_,?_⟩
  ·simp only [aT.l0]
   rw [if_neg (by rw [aA];omega)]
  ·rw [List.drop_of_length_le (by omega)]
   rfl
 | succ d ih =>
  intro i k hi hk;obtain ⟨k,rfl⟩:∃ m,k = m+1:=⟨k - 1,by omega⟩
  have hlt:i < l.length:=by omega
  simp only [aT.l0];rw [if_pos (by rw [aA];omega),if_pos (by omega),if_pos (by rw [aA];omega),dO,dg.ej i (by omega)];have hd:l.drop i = l.getD i 0 :: l.drop (i+1):=by
   rw [List.drop_eq_getElem_cons hlt];simp [List.getD,hlt]
  rw [hd];by_cases h:x = l.getD i 0
  ·refine ⟨i,by rw [if_pos (by omega)],?_⟩
   rw [← h,List.contains_cons,beq_self_eq_true,Bool.true_or,decide_eq_true (by omega)]
  ·obtain ⟨r,h1,h2⟩:=ih (i+1) k (by omega) (by omega)
   refine ⟨r,by rw [if_neg (by omega)];exact h1,?_⟩;rw [h2,List.contains_cons,beq_eq_false_iff_ne.2 h,Bool.false_or]
theorem nN (l:List Nat) (x:Nat) (hn:l.length≤1048576) (k:Nat) (hk:l.length < k):eP.f k (ints l) (x:Int) = some (l.contains x):=by
 unfold eP.f aY.f aT.f;obtain ⟨r,h1,h2⟩:=index l x hn l.length 0 k (by omega) hk;rw [show (0:Int) = ((0:Nat):Int) from rfl,h1];simp only [Option.bind_some];rw [show ((0:Nat):Int) = (0:Int) from rfl,h2,List.drop_zero]
theorem lM (l:List Nat) (x:Nat) (hn:l.length≤1048576) (k:Nat) (hk:l.length < k):bP.f k (ints l) (x:Int) = some (l.contains x):=by
 unfold bP.f;have key:∀ (d i k:Nat),i+d = l.length→d < k→bP.l0 k (ints l) (x:Int) (i:Int) = some ((l.drop i).contains x):=by
  intro d;induction d with
  | zero =>
   intro i k hi hk;obtain ⟨k,rfl⟩:∃ m,k = m+1:=⟨k - 1,by omega⟩
   simp only [bP.l0];rw [if_neg (by rw [aA];omega),List.drop_of_length_le (by omega)];rfl
  | succ d ih =>
   intro i k hi hk;obtain ⟨k,rfl⟩:∃ m,k = m+1:=⟨k - 1,by omega⟩
   have hlt:i < l.length:=by omega
   simp only [bP.l0];rw [if_pos (by rw [aA];omega),if_pos (by omega),dO,dg.ej i (by omega)];have hd:l.drop i = l.getD i 0 :: l.drop (i+1):=by
    rw [List.drop_eq_getElem_cons hlt];simp [List.getD,hlt]
   rw [hd,List.contains_cons];by_cases h:l.getD i 0 = x
   ·rw [if_pos (by omega),← h,beq_self_eq_true,Bool.true_or]
   ·rw [if_neg (by omega),ih (i+1) k (by omega) (by omega),beq_eq_false_iff_ne.2 (Ne.symm h),Bool.false_or]
 have:=key l.length 0 k (by omega) hk;rw [List.drop_zero] at this;exact this
theorem pL (s:Nat) (j:Nat) (hs:s < 256) (hj:j < 8):dH.f (s:Int) (j:Int) = some (s.testBit j):=by
 unfold dH.f dR.f;rw [if_pos (by omega)];simp only [Option.bind_some];rw [if_pos (decide_eq_true (by omega)),if_pos (by omega),if_pos (by omega),if_pos (by omega),lJ s j (by omega) (by omega)]
theorem mA (s:Nat):((List.range' 0 8).foldl (fun (acc:List Int) (j:Nat)=>if s.testBit j = true then acc ++ [(j:Int)] else acc) []) = ints (elems s):=by
 rw [dg.foldl_append (fun j=>s.testBit j)];rfl
theorem fC (s:Nat) (hs:s < 256):Ev (fun k=>aM.f k (s:Int)) (ints (elems s)):=by
 unfold aM.f;refine dg.fe (fun k y i=>aM.l0 k (s:Int) y i) 8 (fun j y=>if s.testBit j = true then y ++ [(j:Int)] else y) (fun i y=>y.length≤i) _ (fun i y hi hP=>⟨?_,fun h=>Ev.step (fun k=>?_) h⟩) 8 0 [] rfl (by simp) (fun _=>dg.dr 1 (fun k hk=>?_))
 ·by_cases hh:s.testBit i = true
  ·rw [if_pos hh];simp;omega
  ·rw [if_neg hh];omega
 ·simp only [aM.l0]
  rw [if_pos (by omega),pL s i hs hi];simp only [Option.bind_some];rw [dg.ej i (by omega)];by_cases hh:s.testBit i = true
  ·rw [if_pos hh,if_pos (by omega),if_pos hh]
  ·rw [if_neg hh,if_neg hh]
 ·obtain ⟨m,rfl⟩:∃ m,k = m+1:=⟨k - 1,by omega⟩
  simp only [aM.l0];rw [if_neg (by omega),mA]
theorem ox (g:Int→Option Bool) (fs:List Nat) (v:Nat→Bool) (hn:fs.length≤1048576) (hg:∀ f∈fs,g (f:Int) = some (v f)) :
  ∀ (d i k:Nat),i+d = fs.length→d < k→∃ r,bl.l0 g k (ints fs) (i:Int) = some r∧decide (r≥0) = (fs.drop i).any v:=by
 intro d;induction d with
 | zero =>
  intro i k hi hk;obtain ⟨k,rfl⟩:∃ m,k = m+1:=⟨k - 1,by omega⟩
  refine ⟨-1,?_,?_⟩
  ·simp only [bl.l0]
   rw [if_neg (by rw [aA];omega)]
  ·rw [List.drop_of_length_le (by omega)]
   rfl
 | succ d ih =>
  intro i k hi hk;obtain ⟨k,rfl⟩:∃ m,k = m+1:=⟨k - 1,by omega⟩
  have hlt:i < fs.length:=by omega
  simp only [bl.l0];rw [if_pos (by rw [aA];omega),if_pos (by omega),dO,hg _ (dI fs 0 i hlt),dg.ej i (by omega)];simp only [Option.bind_some];have hd:fs.drop i = fs.getD i 0 :: fs.drop (i+1):=by
   rw [List.drop_eq_getElem_cons hlt];simp [List.getD,hlt]
  rw [hd,List.any_cons];cases hv:v (fs.getD i 0) with
  | true=>exact ⟨i,by rw [if_pos rfl],by rw [decide_eq_true (by omega),Bool.true_or]⟩
  | false =>
   obtain ⟨r,h1,h2⟩:=ih (i+1) k (by omega) (by omega);exact ⟨r,by rw [if_neg (by decide)];exact h1,by rw [h2,Bool.false_or]⟩
theorem j4 (g:Int→Option Bool) (fs:List Nat) (v:Nat→Bool) (hn:fs.length≤1048576) (hg:∀ f∈fs,g (f:Int) = some (v f)) (k:Nat) (hk:fs.length < k) :
  bN.f k (ints fs) g = some (fs.any v):=by
 unfold bN.f bl.f;obtain ⟨r,h1,h2⟩:=ox g fs v hn hg fs.length 0 k (by omega) hk;rw [show (0:Int) = ((0:Nat):Int) from rfl,h1];simp only [Option.bind_some];rw [show ((0:Nat):Int) = (0:Int) from rfl,h2,List.drop_zero]
theorem mB (l:List Nat) (a e f:Nat) (hn:l.length≤1048576) (ha:a < 256) (he:e < 8) (hf:f < 8) (hae:a.testBit e = true) (j:a.testBit f = false) (k:Nat) (hk:l.length < k) :
  bO.f k (ints l) (a:Int) (e:Int) (f:Int) = some (l.contains (a - 2 ^ e+2 ^ f)):=by
 unfold bO.f;have h1:(2:Nat) ^ e < 2 ^ 62:=Nat.pow_lt_pow_right (by decide) (by omega);have h2:(2:Nat) ^ f < 2 ^ 62:=Nat.pow_lt_pow_right (by decide) (by omega);have h3:diff a (2 ^ e) < 2 ^ 8:=gp (n:=8) (by omega);rw [if_pos (by omega),if_pos (by omega),ff e (by omega),ff f (by omega),gh a _ (by omega),n2 _ _ (by omega) h2,swap_eq a ha e he f hf hae j];exact nN l _ hn k hk
theorem k8 (l:List Nat) (a b e:Nat):eX l a b e = (elems (diff b a)).any fun f=>l.contains (a - 2 ^ e+2 ^ f):=by
 rw [kN];unfold eX;congr 1
 funext f
 rw [eN]
theorem mC (l:List Nat):gB l = l.any fun a=>l.any fun b=>(elems (diff a b)).any fun e=>!eX l a b e:=by
 unfold gB;congr 1
 funext a
 congr 1
 funext b
 rw [kN];congr 1
 funext e
 rw [eN]
theorem oy (m:Nat) (hm:m≤8) (l:List Nat) (hl:∀ s∈l,s < 2 ^ m) (hn:l.length≤1048576) (hf:nM (m:Int) (ints l) = true) :
  ∃ x y z,Ev (fun k=>ax.f k (m:Int) (ints l)) (x,y,z,gB l):=by
 have U:=dU hm;have hlt:∀ i,i < l.length→l.getD i 0 < 256:=fun i hi=>Nat.lt_of_lt_of_le (hl _ (dI l 0 i hi)) U
 have inner:∀ x y:Nat,x < l.length→y < l.length→∀ d i:Nat,i+d = (elems (diff (l.getD x 0) (l.getD y 0))).length→_:=fun x y hx hy =>
  fG (fun k z=>ax.l2 k (m:Int) (ints l) (x:Int) ((l.getD x 0:Nat):Int) (y:Int) ((l.getD y 0:Nat):Int) (ints (elems (diff (l.getD x 0) (l.getD y 0)))) z) (elems (diff (l.getD x 0) (l.getD y 0))).length
   (fun z=>!eX l (l.getD x 0) (l.getD y 0) ((elems (diff (l.getD x 0) (l.getD y 0))).getD z 0)) (fun r=>r.2.2.2 = true)
   (by
    intro z hz hp;have ha:=hlt x hx;have hb:=hlt y hy;obtain ⟨he,hbit⟩:=gZ (dI _ 0 z hz);rw [eN,Bool.and_eq_true] at hbit;have X:=eB (diff (l.getD x 0) (l.getD y 0));have hd:diff (l.getD y 0) (l.getD x 0) < 2 ^ 8:=gp (n:=8) (by omega);refine ⟨(((l.getD x 0:Nat):Int),((l.getD y 0:Nat):Int),(((elems (diff (l.getD x 0) (l.getD y 0))).getD z 0:Nat):Int),true),rfl,?_⟩;refine Ev.step (f:=fun k=>(aM.f k (Go.bits .andNot .i64 ((l.getD y 0:Nat):Int) ((l.getD x 0:Nat):Int))).bind fun fs=>((bN.f k fs (fun f=>bO.f k (ints l) ((l.getD x 0:Nat):Int) (((elems (diff (l.getD x 0) (l.getD y 0))).getD z 0:Nat):Int) f)).bind fun t=>(if t = true then (ax.l2 k (m:Int) (ints l) (x:Int) ((l.getD x 0:Nat):Int) (y:Int) ((l.getD y 0:Nat):Int) (ints (elems (diff (l.getD x 0) (l.getD y 0)))) ((z+1:Nat):Int)) else (some (((l.getD x 0:Nat):Int),((l.getD y 0:Nat):Int),(((elems (diff (l.getD x 0) (l.getD y 0))).getD z 0:Nat):Int),true))))) (fun k=>?_) ?_
    ·simp only [ax.l2]
     rw [if_pos (by rw [aA];omega),if_pos (by omega),dO,dg.ej z (by omega)]
    ·rw [gh _ _ (by omega)]
     refine Ev.bind (fC _ (by omega)) ?_;refine Ev.bind (a:=eX l (l.getD x 0) (l.getD y 0) ((elems (diff (l.getD x 0) (l.getD y 0))).getD z 0)) (dg.dr (1048577+8) (fun k hk=>?_)) ?_
     ·rw [k8]
      refine j4 _ _ _ (by have:=eB (diff (l.getD y 0) (l.getD x 0));omega) (fun f hf=>?_) k (by have:=eB (diff (l.getD y 0) (l.getD x 0));omega);obtain ⟨M,hfb⟩:=gZ hf;rw [eN,Bool.and_eq_true] at hfb;exact mB l _ _ _ hn ha he M hbit.1 (by simpa using hfb.2) k (by omega)
     ·have hp':eX l (l.getD x 0) (l.getD y 0) ((elems (diff (l.getD x 0) (l.getD y 0))).getD z 0) = false:=by simpa using hp
      rw [hp'];exact Ev.now _)
   (by
    intro z hz hp r hr;have ha:=hlt x hx;have hb:=hlt y hy;obtain ⟨he,hbit⟩:=gZ (dI _ 0 z hz);rw [eN,Bool.and_eq_true] at hbit;have X:=eB (diff (l.getD x 0) (l.getD y 0));have hd:diff (l.getD y 0) (l.getD x 0) < 2 ^ 8:=gp (n:=8) (by omega);refine Ev.step (f:=fun k=>(aM.f k (Go.bits .andNot .i64 ((l.getD y 0:Nat):Int) ((l.getD x 0:Nat):Int))).bind fun fs=>((bN.f k fs (fun f=>bO.f k (ints l) ((l.getD x 0:Nat):Int) (((elems (diff (l.getD x 0) (l.getD y 0))).getD z 0:Nat):Int) f)).bind fun t=>(if t = true then (ax.l2 k (m:Int) (ints l) (x:Int) ((l.getD x 0:Nat):Int) (y:Int) ((l.getD y 0:Nat):Int) (ints (elems (diff (l.getD x 0) (l.getD y 0)))) ((z+1:Nat):Int)) else (some (((l.getD x 0:Nat):Int),((l.getD y 0:Nat):Int),(((elems (diff (l.getD x 0) (l.getD y 0))).getD z 0:Nat):Int),true))))) (fun k=>?_) ?_
    ·simp only [ax.l2]
     rw [if_pos (by rw [aA];omega),if_pos (by omega),dO,dg.ej z (by omega)]
    ·rw [gh _ _ (by omega)]
     refine Ev.bind (fC _ (by omega)) ?_;refine Ev.bind (a:=eX l (l.getD x 0) (l.getD y 0) ((elems (diff (l.getD x 0) (l.getD y 0))).getD z 0)) (dg.dr (1048577+8) (fun k hk=>?_)) ?_
     ·rw [k8]
      refine j4 _ _ _ (by have:=eB (diff (l.getD y 0) (l.getD x 0));omega) (fun f hf=>?_) k (by have:=eB (diff (l.getD y 0) (l.getD x 0));omega);obtain ⟨M,hfb⟩:=gZ hf;rw [eN,Bool.and_eq_true] at hfb;exact mB l _ _ _ hn ha he M hbit.1 (by simpa using hfb.2) k (by omega)
     ·have hp':eX l (l.getD x 0) (l.getD y 0) ((elems (diff (l.getD x 0) (l.getD y 0))).getD z 0) = true:=by simpa using hp
      rw [hp'];simp only [if_true];exact hr)
 have I:∀ x y:Nat,((List.range' 0 (elems (diff (l.getD x 0) (l.getD y 0))).length).any fun z=>!eX l (l.getD x 0) (l.getD y 0) ((elems (diff (l.getD x 0) (l.getD y 0))).getD z 0)) = (elems (diff (l.getD x 0) (l.getD y 0))).any fun e=>!eX l (l.getD x 0) (l.getD y 0) e:=fun x y=>gC (elems (diff (l.getD x 0) (l.getD y 0))) 0 (fun e=>!eX l (l.getD x 0) (l.getD y 0) e)
 have middle:∀ x:Nat,x < l.length→∀ d i:Nat,i+d = l.length→_:=fun x hx =>
  fG (fun k y=>ax.l1 k (m:Int) (ints l) (x:Int) ((l.getD x 0:Nat):Int) y) l.length
   (fun y=>(elems (diff (l.getD x 0) (l.getD y 0))).any fun e=>!eX l (l.getD x 0) (l.getD y 0) e) (fun r=>r.2.2.2 = true)
   (by
    intro y hy hp;have ha:=hlt x hx;obtain ⟨h1,_⟩:=inner x y hx hy (elems (diff (l.getD x 0) (l.getD y 0))).length 0 (by omega);rw [I] at h1;obtain ⟨r,hr,hE⟩:=h1 hp;refine ⟨r,hr,Ev.step (f:=fun k=>(aM.f k (Go.bits .andNot .i64 ((l.getD x 0:Nat):Int) ((l.getD y 0:Nat):Int))).bind fun es=>(ax.l2 k (m:Int) (ints l) (x:Int) ((l.getD x 0:Nat):Int) (y:Int) ((l.getD y 0:Nat):Int) es 0)) (fun k=>?_) ?_⟩
    ·simp only [ax.l1]
     rw [if_pos (by rw [aA];omega),if_pos (by omega),dO]
    ·rw [gh _ _ (by omega)]
     have hd:diff (l.getD x 0) (l.getD y 0) < 2 ^ 8:=gp (n:=8) (by omega);exact Ev.bind (fC _ (by omega)) hE)
   (by
    intro y hy hp r hr;have ha:=hlt x hx;obtain ⟨_,h2⟩:=inner x y hx hy (elems (diff (l.getD x 0) (l.getD y 0))).length 0 (by omega);rw [I] at h2;refine Ev.step (f:=fun k=>(aM.f k (Go.bits .andNot .i64 ((l.getD x 0:Nat):Int) ((l.getD y 0:Nat):Int))).bind fun es=>(ax.l2 k (m:Int) (ints l) (x:Int) ((l.getD x 0:Nat):Int) (y:Int) ((l.getD y 0:Nat):Int) es 0)) (fun k=>?_) ?_
    ·simp only [ax.l1]
     rw [if_pos (by rw [aA];omega),if_pos (by omega),dO]
    ·rw [gh _ _ (by omega)]
     have hd:diff (l.getD x 0) (l.getD y 0) < 2 ^ 8:=gp (n:=8) (by omega);refine Ev.bind (fC _ (by omega)) (h2 hp r (Ev.step (fun k=>?_) hr));simp only [ax.l2];rw [if_neg (by rw [aA];omega),dg.ej y (by omega)])
 have j:∀ x:Nat,((List.range' 0 l.length).any fun y=>(elems (diff (l.getD x 0) (l.getD y 0))).any fun e=>!eX l (l.getD x 0) (l.getD y 0) e) = l.any fun b=>(elems (diff (l.getD x 0) b)).any fun e=>!eX l (l.getD x 0) b e:=fun x=>gC l 0 (fun b=>(elems (diff (l.getD x 0) b)).any fun e=>!eX l (l.getD x 0) b e)
 obtain ⟨Y,o2⟩:=fG (fun k x=>ax.l0 k (m:Int) (ints l) x) l.length
   (fun x=>l.any fun b=>(elems (diff (l.getD x 0) b)).any fun e=>!eX l (l.getD x 0) b e) (fun r=>r.2.2.2 = true)
   (by
    intro x hx hp;obtain ⟨h1,_⟩:=middle x hx l.length 0 (by omega);rw [j] at h1;obtain ⟨r,hr,hE⟩:=h1 hp;refine ⟨r,hr,Ev.step (fun k=>?_) hE⟩;simp only [ax.l0];rw [if_pos (by rw [aA];omega),if_pos (by omega),dO];rfl)
   (by
    intro x hx hp r hr;obtain ⟨_,h2⟩:=middle x hx l.length 0 (by omega);rw [j] at h2;have h3:=h2 hp r (Ev.step (fun k=>by
     simp only [ax.l1];rw [if_neg (by rw [aA];omega),dg.ej x (by omega)]) hr)
    refine Ev.step (fun k=>?_) h3;simp only [ax.l0];rw [if_pos (by rw [aA];omega),if_pos (by omega),dO];rfl) l.length 0 (by omega)
 have J:((List.range' 0 l.length).any fun x=>l.any fun b=>(elems (diff (l.getD x 0) b)).any fun e=>!eX l (l.getD x 0) b e) = gB l:=by
  rw [mC];exact gC l 0 (fun a=>l.any fun b=>(elems (diff a b)).any fun e=>!eX l a b e)
 rw [J] at Y o2;have start:∀ r,Ev (fun k=>ax.l0 k (m:Int) (ints l) 0) r→Ev (fun k=>ax.f k (m:Int) (ints l)) r:=fun r hr=>by
  unfold ax.f;refine Ev.bind (dg.dr (l.length+1) (fun k hk=>k6 (m:Int) (ints l) (by rw [aA];exact hn) k (by rw [aA];omega))) ?_;rw [hf];simp only [if_true];exact hr
 cases hfl:gB l with
 | true =>
  obtain ⟨⟨x,y,z,b⟩,hb,hE⟩:=Y hfl;simp only at hb;subst hb;exact ⟨x,y,z,start _ hE⟩
 | false =>
  refine ⟨0,0,0,start _ (o2 hfl _ (dg.dr 1 (fun k hk=>?_)))⟩;obtain ⟨q,rfl⟩:∃ q,k = q+1:=⟨k - 1,by omega⟩
  simp only [ax.l0];rw [if_neg (by rw [aA];omega)]
theorem fH (e:Nat) (he:e < 62):IntKind.u64.wrap (e:Int) = e:=by
 unfold IntKind.wrap;simp only [IntKind.bits,IntKind.signed,Bool.false_and,Bool.false_eq_true,if_false];omega
theorem iJ (s e:Nat) (hs:s < 256) (he:e < 8):cg.f (s:Int) (e:Int) = some (s.testBit e):=by
 unfold cg.f;rw [fH e (by omega),if_pos (by omega),lJ s e (by omega) (by omega)]
theorem lO (m:Nat) (hm:m≤8) (l:List Nat) (hn:l.length≤1048576) (a b e:Nat) (ha:a < 256) (hb:b < 2 ^ m) (he:e < 8) (hae:a.testBit e = true):Ev (fun k=>aV.f k (m:Int) (ints l) (a:Int) (b:Int) (e:Int)) (eX l a b e):=by
 have z:=dU hm;unfold aV.f;have hle:=sr a ha e he hae;have key:∀ f:Nat,f < m→a.testBit f = false→wrap64 ((wrap64 ((a:Int) - ((2 ^ e:Nat):Int)))+((2 ^ f:Nat):Int)) = ((a - 2 ^ e+2 ^ f:Nat):Int):=fun f hf y=>by
  have h1:=qU a ha e he f (by omega) hae y;have h2:2 ^ f≤256:=dU (by omega);clear hae;generalize (2:Nat) ^ e = P at *;generalize (2:Nat) ^ f = Q at *;rw [dg.sj (i:=(a:Int) - (P:Int)) (by omega) (by omega),dg.sj (by omega) (by omega)];omega
 obtain ⟨I,J⟩:=fG (fun k f=>aV.l0 k (a:Int) (b:Int) (e:Int) f (m:Int) (ints l)) m (fun f=>b.testBit f && !a.testBit f && l.contains (a - 2 ^ e+2 ^ f)) (fun r=>r = true)
  (by
   intro f hf hp;rw [Bool.and_eq_true,Bool.and_eq_true] at hp;obtain ⟨⟨h1,h2⟩,h3⟩:=hp;have h2':a.testBit f = false:=by simpa using h2
   refine ⟨true,rfl,dg.dr (l.length+2) (fun k hk=>?_)⟩;obtain ⟨q,rfl⟩:∃ q,k = q+1:=⟨k - 1,by omega⟩
   simp only [aV.l0];rw [if_pos (by omega),iJ b f (by omega) (by omega),h1];simp only [Option.bind_some,if_true];rw [iJ a f ha (by omega),h2'];simp only [Option.bind_some,Bool.false_eq_true,if_false];rw [fH e (by omega),fH f (by omega),if_pos (by omega),if_pos (by omega),ff e (by omega),ff f (by omega),key f hf h2',lM l _ hn q (by omega),h3];rfl)
  (by
   intro f hf hp r hr;by_cases h1:b.testBit f = true
   ·by_cases h2:a.testBit f = true
    ·refine Ev.step (fun k=>?_) hr
     simp only [aV.l0];rw [if_pos (by omega),iJ b f (by omega) (by omega),h1];simp only [Option.bind_some,if_true];rw [iJ a f ha (by omega),h2];simp only [Option.bind_some,if_true];rw [dg.ej f (by omega)]
    ·have h2':a.testBit f = false:=by simpa using h2
     have h3:l.contains (a - 2 ^ e+2 ^ f) = false:=by
      rw [h1,h2'] at hp;simpa using hp
     refine Ev.step (f:=fun k=>(bP.f k (ints l) ((a - 2 ^ e+2 ^ f:Nat):Int)).bind fun t=>(if t = true then (some true) else (aV.l0 k (a:Int) (b:Int) (e:Int) ((f+1:Nat):Int) (m:Int) (ints l)))) (fun k=>?_) ?_
     ·simp only [aV.l0]
      rw [if_pos (by omega),iJ b f (by omega) (by omega),h1];simp only [Option.bind_some,if_true];rw [iJ a f ha (by omega),h2'];simp only [Option.bind_some,Bool.false_eq_true,if_false];rw [fH e (by omega),fH f (by omega),if_pos (by omega),if_pos (by omega),ff e (by omega),ff f (by omega),key f hf h2',dg.ej f (by omega)]
     ·refine Ev.bind (dg.dr (l.length+1) (fun k hk=>lM l _ hn k (by omega))) ?_
      rw [h3];exact hr
   ·have h1':b.testBit f = false:=by simpa using h1
    refine Ev.step (fun k=>?_) hr;simp only [aV.l0];rw [if_pos (by omega),iJ b f (by omega) (by omega),h1'];simp only [Option.bind_some,Bool.false_eq_true,if_false];rw [dg.ej f (by omega)]) m 0 (by omega)
 have M:((List.range' 0 m).any fun f=>b.testBit f && !a.testBit f && l.contains (a - 2 ^ e+2 ^ f)) = eX l a b e:=pK m hm _ (fun j hj=>by rw [gP hb hj];rfl);rw [M] at I J;cases hx:eX l a b e with
 | true =>
  obtain ⟨r,rfl,hE⟩:=I hx;exact hE
 | false =>
  refine J hx _ (dg.dr 1 (fun k hk=>?_));obtain ⟨q,rfl⟩:∃ q,k = q+1:=⟨k - 1,by omega⟩
  simp only [aV.l0];rw [if_neg (by omega)]
theorem oz (m:Nat) (hm:m≤8) (l:List Nat) (hl:∀ s∈l,s < 2 ^ m) (hn:l.length≤1048576) (hf:nM (m:Int) (ints l) = true) :
  ∃ x y z,Ev (fun k=>au.f k (m:Int) (ints l)) (x,y,z,gB l):=by
 have Y:=dU hm;have hlt:∀ i,i < l.length→l.getD i 0 < 256:=fun i hi=>Nat.lt_of_lt_of_le (hl _ (dI l 0 i hi)) Y
 have X:∀ i,i < l.length→l.getD i 0 < 2 ^ m:=fun i hi=>hl _ (dI l 0 i hi)
 have round:∀ x y z:Nat,x < l.length→y < l.length→z < m→∀ r,(((l.getD x 0).testBit z && !(l.getD y 0).testBit z && !eX l (l.getD x 0) (l.getD y 0) z) = true→r.2.2.2 = true→r = (((l.getD x 0:Nat):Int),((l.getD y 0:Nat):Int),(z:Int),true)→Ev (fun k=>au.l2 k (x:Int) (y:Int) (z:Int) (m:Int) (ints l)) r) ∧
   (((l.getD x 0).testBit z && !(l.getD y 0).testBit z && !eX l (l.getD x 0) (l.getD y 0) z) = false→Ev (fun k=>au.l2 k (x:Int) (y:Int) ((z+1:Nat):Int) (m:Int) (ints l)) r→Ev (fun k=>au.l2 k (x:Int) (y:Int) (z:Int) (m:Int) (ints l)) r):=by
  intro x y z hx hy hz r;have ha:=hlt x hx;have hb:=hlt y hy;have U:∀ k,au.l2 (k+1) (x:Int) (y:Int) (z:Int) (m:Int) (ints l) = (if (l.getD x 0).testBit z = true then (if (l.getD y 0).testBit z = true then au.l2 k (x:Int) (y:Int) ((z+1:Nat):Int) (m:Int) (ints l) else ((aV.f k (m:Int) (ints l) ((l.getD x 0:Nat):Int) ((l.getD y 0:Nat):Int) (z:Int)).bind fun t=>(if t = true then au.l2 k (x:Int) (y:Int) ((z+1:Nat):Int) (m:Int) (ints l) else some (((l.getD x 0:Nat):Int),((l.getD y 0:Nat):Int),(z:Int),true)))) else au.l2 k (x:Int) (y:Int) ((z+1:Nat):Int) (m:Int) (ints l)):=fun k=>by
   simp only [au.l2];rw [if_pos (by omega),if_pos (by omega),if_pos (by rw [aA];omega),if_pos (by omega),if_pos (by rw [aA];omega),dO,dO,iJ _ z ha (by omega)];simp only [Option.bind_some];rw [iJ _ z hb (by omega)];simp only [Option.bind_some];rw [dg.ej z (by omega)]
  cases h1:(l.getD x 0).testBit z with
  | false =>
   refine ⟨fun h=>by simp at h,fun _ hr=>Ev.step (fun k=>?_) hr⟩;rw [U,h1,if_neg (by decide)]
  | true =>
   cases h2:(l.getD y 0).testBit z with
   | true =>
    refine ⟨fun h=>by simp at h,fun _ hr=>Ev.step (fun k=>?_) hr⟩;rw [U,h1,h2,if_pos rfl,if_pos rfl]
   | false =>
    have hE:=lO m hm l hn (l.getD x 0) (l.getD y 0) z ha (X y hy) (by omega) h1;cases h3:eX l (l.getD x 0) (l.getD y 0) z with
    | true =>
     rw [h3] at hE;refine ⟨fun h=>by simp at h,fun _ hr=>Ev.step (fun k=>?_) (Ev.bind hE (f:=fun k t=>(if t = true then au.l2 k (x:Int) (y:Int) ((z+1:Nat):Int) (m:Int) (ints l) else some (((l.getD x 0:Nat):Int),((l.getD y 0:Nat):Int),(z:Int),true))) (by simp only [if_true];exact hr))⟩;rw [U,h1,h2,if_pos rfl,if_neg (by decide)]
    | false =>
     rw [h3] at hE;refine ⟨fun _ _ e=>?_,fun h=>by simp at h⟩;subst e;refine Ev.step (fun k=>?_) (Ev.bind hE (f:=fun k t=>(if t = true then au.l2 k (x:Int) (y:Int) ((z+1:Nat):Int) (m:Int) (ints l) else some (((l.getD x 0:Nat):Int),((l.getD y 0:Nat):Int),(z:Int),true))) (by simp only [Bool.false_eq_true,if_false];exact Ev.now _));rw [U,h1,h2,if_pos rfl,if_neg (by decide)]
 have inner:∀ x y:Nat,x < l.length→y < l.length→∀ d i:Nat,i+d = m→_:=fun x y hx hy =>
  fG (fun k z=>au.l2 k (x:Int) (y:Int) z (m:Int) (ints l)) m
   (fun z=>(l.getD x 0).testBit z && !(l.getD y 0).testBit z && !eX l (l.getD x 0) (l.getD y 0) z) (fun r=>r.2.2.2 = true)
   (fun z hz hp=>⟨_,rfl,(round x y z hx hy hz (((l.getD x 0:Nat):Int),((l.getD y 0:Nat):Int),(z:Int),true)).1 hp rfl rfl⟩)
   (fun z hz hp r hr=>(round x y z hx hy hz r).2 hp hr)
 have J:∀ x y:Nat,x < l.length→((List.range' 0 m).any fun z=>(l.getD x 0).testBit z && !(l.getD y 0).testBit z && !eX l (l.getD x 0) (l.getD y 0) z) = (List.range' 0 8).any fun e=>(l.getD x 0).testBit e && !(l.getD y 0).testBit e && !eX l (l.getD x 0) (l.getD y 0) e:=fun x y hx=>pK m hm _ (fun j hj=>by rw [gP (X x hx) hj];rfl)
 have middle:∀ x:Nat,x < l.length→∀ d i:Nat,i+d = l.length→_:=fun x hx =>
  fG (fun k y=>au.l1 k (x:Int) y (m:Int) (ints l)) l.length
   (fun y=>(List.range' 0 8).any fun e=>(l.getD x 0).testBit e && !(l.getD y 0).testBit e && !eX l (l.getD x 0) (l.getD y 0) e) (fun r=>r.2.2.2 = true)
   (by
    intro y hy hp;obtain ⟨h1,_⟩:=inner x y hx hy m 0 (by omega);rw [J x y hx] at h1;obtain ⟨r,hr,hE⟩:=h1 hp;refine ⟨r,hr,Ev.step (fun k=>?_) hE⟩;simp only [au.l1];rw [if_pos (by rw [aA];omega)];rfl)
   (by
    intro y hy hp r hr;obtain ⟨_,h2⟩:=inner x y hx hy m 0 (by omega);rw [J x y hx] at h2;refine Ev.step (fun k=>?_) (h2 hp r (Ev.step (fun k=>by
     simp only [au.l2];rw [if_neg (by omega),dg.ej y (by omega)]) hr))
    simp only [au.l1];rw [if_pos (by rw [aA];omega)];rfl)
 have I:∀ x:Nat,((List.range' 0 l.length).any fun y=>(List.range' 0 8).any fun e=>(l.getD x 0).testBit e && !(l.getD y 0).testBit e && !eX l (l.getD x 0) (l.getD y 0) e) = l.any fun b=>(List.range' 0 8).any fun e=>(l.getD x 0).testBit e && !b.testBit e && !eX l (l.getD x 0) b e:=fun x=>gC l 0 (fun b=>(List.range' 0 8).any fun e=>(l.getD x 0).testBit e && !b.testBit e && !eX l (l.getD x 0) b e)
 obtain ⟨o1,o2⟩:=fG (fun k x=>au.l0 k x (m:Int) (ints l)) l.length
   (fun x=>l.any fun b=>(List.range' 0 8).any fun e=>(l.getD x 0).testBit e && !b.testBit e && !eX l (l.getD x 0) b e) (fun r=>r.2.2.2 = true)
   (by
    intro x hx hp;obtain ⟨h1,_⟩:=middle x hx l.length 0 (by omega);rw [I] at h1;obtain ⟨r,hr,hE⟩:=h1 hp;refine ⟨r,hr,Ev.step (fun k=>?_) hE⟩;simp only [au.l0];rw [if_pos (by rw [aA];omega)];rfl)
   (by
    intro x hx hp r hr;obtain ⟨_,h2⟩:=middle x hx l.length 0 (by omega);rw [I] at h2;refine Ev.step (fun k=>?_) (h2 hp r (Ev.step (fun k=>by
     simp only [au.l1];rw [if_neg (by rw [aA];omega),dg.ej x (by omega)]) hr))
    simp only [au.l0];rw [if_pos (by rw [aA];omega)];rfl) l.length 0 (by omega)
 have M:((List.range' 0 l.length).any fun x=>l.any fun b=>(List.range' 0 8).any fun e=>(l.getD x 0).testBit e && !b.testBit e && !eX l (l.getD x 0) b e) = gB l:=by
  unfold gB;exact gC l 0 (fun a=>l.any fun b=>(List.range' 0 8).any fun e=>a.testBit e && !b.testBit e && !eX l a b e)
 rw [M] at o1 o2;have start:∀ r,Ev (fun k=>au.l0 k 0 (m:Int) (ints l)) r→Ev (fun k=>au.f k (m:Int) (ints l)) r:=fun r hr=>by
  unfold au.f;refine Ev.bind (dg.dr (l.length+1) (fun k hk=>k7 (m:Int) (ints l) (by rw [aA];exact hn) k (by rw [aA];omega))) ?_;rw [hf];simp only [if_true];exact hr
 cases hfl:gB l with
 | true =>
  obtain ⟨⟨x,y,z,b⟩,hb,hE⟩:=o1 hfl;simp only at hb;subst hb;exact ⟨x,y,z,start _ hE⟩
 | false =>
  refine ⟨0,0,0,start _ (o2 hfl _ (dg.dr 1 (fun k hk=>?_)))⟩;obtain ⟨q,rfl⟩:∃ q,k = q+1:=⟨k - 1,by omega⟩
  simp only [au.l0];rw [if_neg (by rw [aA];omega)]
def eG (n:Int) (l:List Int):Bool:=nM n l && decide (0 < l.length) && !gB (l.map Int.toNat)
theorem eV (l:List Nat):(ints l).map Int.toNat = l:=by
 unfold ints;rw [List.map_map];conv=>rhs;rw [← List.map_id l]
 exact List.map_congr_left fun x _=>by simp
theorem jK (n:Int) (l:List Int) (hn:l.length≤1048576):Ev (fun k=>cj.f k n l) (eG n l):=by
 unfold cj.f eG;have hF:Ev (fun k=>bJ.f k n l) (nM n l):=dg.dr (l.length+1) (fun k hk=>k6 n l hn k (by omega));cases hf:nM n l with
 | false =>
  rw [hf] at hF;refine Ev.bind (a:=(0,0,0,false)) ?_ (Ev.bind hF (by simp only [Bool.false_eq_true,if_false];exact Ev.now _));unfold ax.f;exact Ev.bind hF (by simp only [Bool.false_eq_true,if_false];exact Ev.now _)
 | true =>
  rw [hf] at hF;obtain ⟨m,j,rfl,hm,rfl,hl⟩:=lK hf;rw [eV];rw [aA] at hn;obtain ⟨x,y,z,hE⟩:=oy m hm j hl hn hf;refine Ev.bind hE (Ev.bind hF ?_);simp only [if_true,aA];by_cases I:0 < j.length
  ·simp only [if_pos (show (j.length:Int) > 0 by omega),decide_eq_true I,Bool.true_and]
   exact Ev.now _
  ·simp only [if_neg (show ¬ (j.length:Int) > 0 by omega),decide_eq_false I,Bool.true_and,Bool.false_and]
   exact Ev.now _
theorem lP (n:Int) (l:List Int) (hn:l.length≤1048576):Ev (fun k=>bT.f k n l) (eG n l):=by
 unfold bT.f eG;have hF:Ev (fun k=>bI.f k n l) (nM n l):=dg.dr (l.length+1) (fun k hk=>k7 n l hn k (by omega));cases hf:nM n l with
 | false =>
  rw [hf] at hF;refine Ev.bind (a:=(0,0,0,false)) ?_ (Ev.bind hF (by simp only [Bool.false_eq_true,if_false];exact Ev.now _));unfold au.f;exact Ev.bind hF (by simp only [Bool.false_eq_true,if_false];exact Ev.now _)
 | true =>
  rw [hf] at hF;obtain ⟨m,j,rfl,hm,rfl,hl⟩:=lK hf;rw [eV];rw [aA] at hn;obtain ⟨x,y,z,hE⟩:=oz m hm j hl hn hf;refine Ev.bind hE (Ev.bind hF ?_);simp only [if_true,aA];by_cases I:0 < j.length
  ·simp only [if_pos (show (j.length:Int) > 0 by omega),decide_eq_true I,Bool.true_and]
   exact Ev.now _
  ·simp only [if_neg (show ¬ (j.length:Int) > 0 by omega),decide_eq_false I,Bool.true_and,Bool.false_and]
   exact Ev.now _
end nZ
end
section
namespace iS
open Go.RowKit Go.Proofs.YtlfkfdmggpipbaaGreat.Pr Go.Proofs.YtlfkfdmggpipbaaGreat.Sets nZ ag.b8 ag.ct ag.cu
set_option linter.unusedVariables false
def cnt (s:Nat):Nat:=(elems s).length
theorem su (s:Nat):cnt s≤8:=eB s
set_option maxRecDepth 100000 in
theorem n3:∀ s:Nat,s < 256→dL.f (s:Int) = some (cnt s:Int):=by decide +kernel
theorem kO (s:Nat) (h:s < 256):dL.f (s:Int) = some (cnt s:Int):=n3 s h
set_option maxRecDepth 100000 in
theorem n4:∀ s:Nat,s < 256→aQ.f 10 (s:Int) = some (cnt s:Int):=by decide +kernel
theorem oA (s:Nat) (h:s < 256) (k:Nat) (hk:10≤k):aQ.f k (s:Int) = some (cnt s:Int):=by
 induction k with
 | zero=>omega
 | succ k ih =>
  by_cases e:10≤k
  ·exact aQ.mono _ _ _ (ih e)
  ·obtain rfl:k = 9:=by omega
   exact n4 s h
theorem gQ (s:Nat) (h:s < 256):Ev (fun k=>aQ.f k (s:Int)) (cnt s:Int):=dg.dr 10 (fun k hk=>oA s h k hk)
def kC (l:List Nat) (s:Nat):Nat:=l.foldl (fun m b=>max m (cnt (s &&& b))) 0
theorem mD {σ:Type} (l:List Nat) (f:σ→Nat→σ) (s:σ):(List.range' 0 l.length).foldl (fun s i=>f s (l.getD i 0)) s = l.foldl f s:=by
 have e:l = (List.range' 0 l.length).map fun i=>l.getD i 0:=by
  rw [← List.range_eq_range',dg.jh]
 conv=>rhs;rw [e]
 rw [List.foldl_map]
theorem mE {a b n:Nat} (ha:a < 2 ^ n) (hb:b < 2 ^ n):a ||| b < 2 ^ n:=Nat.or_lt_two_pow ha hb
theorem k9 {e m:Nat} (h:e < m):2 ^ e < 2 ^ m:=Nat.pow_lt_pow_right (by decide) h
theorem jL (m:Nat) (h:m < 2 ^ 62):IntKind.u64.wrap (m:Int) = m:=by
 rw [IntKind.wrap_u64];omega
end iS
end
section
namespace Flat
open Go.RowKit Go.Proofs.YtlfkfdmggpipbaaGreat.Pr Go.Proofs.YtlfkfdmggpipbaaGreat.Sets nZ iS ag.b8 ag.ct ag.cu
set_option linter.unusedVariables false
theorem gR {n:Int} {l:List Int} (h:eG n l = true):∃ (m:Nat) (j:List Nat),n = m∧m≤8∧l = ints j∧(∀ s∈j,s < 2 ^ m)∧0 < j.length∧gB j = false:=by
 unfold eG at h;rw [Bool.and_eq_true,Bool.and_eq_true,decide_eq_true_eq] at h;obtain ⟨⟨h1,h2⟩,h3⟩:=h;obtain ⟨m,j,rfl,hm,rfl,hl⟩:=lK h1;rw [eV] at h3;rw [aA] at h2;exact ⟨m,j,rfl,hm,rfl,hl,h2,by simpa using h3⟩
theorem fP (m:Nat) (hm:m≤8):dY.f (m:Int) = some ((2 ^ m - 1:Nat):Int):=by
 have:∀ m:Nat,m < 9→dY.f (m:Int) = some ((2 ^ m - 1:Nat):Int):=by decide +kernel
 exact this m (by omega)
theorem kP (m:Nat) (hm:m≤8):dX.f (m:Int) = some ((2 ^ m - 1:Nat):Int):=by
 have:∀ m:Nat,m < 9→dX.f (m:Int) = some ((2 ^ m - 1:Nat):Int):=by decide +kernel
 exact this m (by omega)
theorem foldl_filter (p:Nat→Bool) (q:List Nat):(q.foldl (fun (s:List Int) j=>if p j = true then s ++ [(j:Int)] else s) []) = ints (q.filter p):=by
 rw [dg.foldl_append,List.nil_append];rfl
theorem oB (L:Nat→List Int→Int→Option (List Int)) (n:Nat) (p:Nat→Bool)
  (j:∀ i s,i < n→s.length≤i→∀ r,Ev (fun k=>L k (if p i = true then s ++ [(i:Int)] else s) ((i+1:Nat):Int)) r→Ev (fun k=>L k s (i:Int)) r)
  (hend:∀ k s,L (k+1) s (n:Int) = some s):Ev (fun k=>L k [] 0) (ints ((List.range' 0 n).filter p)):=by
 rw [← foldl_filter];refine dg.fe L n (fun i s=>if p i = true then s ++ [(i:Int)] else s) (fun i s=>s.length≤i) _ (fun i s hi hP=>⟨?_,j i s hi hP _⟩) n 0 [] (by omega) (by simp) (fun _=>dg.dr 1 (fun k hk=>?_))
 ·show (if _ then _ else _:List Int).length≤_
  split
  ·simp;omega
  ·omega
 ·obtain ⟨q,rfl⟩:∃ q,k = q+1:=⟨k - 1,by omega⟩
  exact hend _ _
theorem n5 (m:Nat) (hm:m≤8) (g:Nat→Int→Option Bool) (p:Nat→Bool) (hg:∀ s:Nat,s < 2 ^ m→Ev (fun k=>g k (s:Int)) (p s)) (hmono:∀ k s,fh (g k s) (g (k+1) s)):Ev (fun k=>bQ.f k (m:Int) (g k)) (ints ((List.range' 0 (2 ^ m)).filter p)):=by
 have I:=dU hm;have hpos:0 < 2 ^ m:=Nat.pow_pos (by decide);have hup:∀ s:Int,∀ a d r,g a s = some r→g (a+d) s = some r:=by
  intro s a d r h;induction d with
  | zero=>exact h
  | succ d ih=>exact hmono _ _ _ ih
 have all:∀ n:Nat,n≤2 ^ m→∃ K,∀ k,K≤k→∀ s:Nat,s < n→g k (s:Int) = some (p s):=by
  intro n;induction n with
  | zero=>exact fun _=>⟨0,fun k _ s hs=>by omega⟩
  | succ n ih =>
   intro hn;obtain ⟨K,hK⟩:=ih (by omega);obtain ⟨K',hK'⟩:=hg n (by omega);refine ⟨max K K',fun k hk s hs=>?_⟩;by_cases e:s = n
   ·subst e
    exact hK' k (by omega)
   ·exact hK k (by omega) s (by omega)
 obtain ⟨K,hK⟩:=all (2 ^ m) (Nat.le_refl _);have fixed:∀ j,K≤j→Ev (fun k=>bQ.l0 (g j) k (m:Int) [] 0) (ints ((List.range' 0 (2 ^ m)).filter p)):=fun j y=>by
  refine oB (fun k s i=>bQ.l0 (g j) k (m:Int) s i) (2 ^ m) p (fun i s hi hs r h=>Ev.step (fun k=>?_) h) (fun k s=>?_)
  ·simp only [bQ.l0]
   rw [fP m hm];simp only [Option.bind_some];rw [if_pos (by omega),hK j y i hi];simp only [Option.bind_some];rw [dg.ej i (by omega)];cases p i with
   | false=>rfl
   | true=>rw [if_pos rfl,if_pos (by omega),if_pos rfl]
  ·simp only [bQ.l0]
   rw [fP m hm];simp only [Option.bind_some];rw [if_neg (by omega)]
 have count:∀ j,K≤j→∀ (d i:Nat) (s:List Int) (k:Nat),i+d = 2 ^ m→d < k→s.length≤i→bQ.l0 (g j) k (m:Int) s (i:Int) = bQ.l0 (g K) k (m:Int) s (i:Int)∧∀ e,bQ.l0 (g j) (k+e) (m:Int) s (i:Int) = bQ.l0 (g j) k (m:Int) s (i:Int):=by
  intro j y d;induction d with
  | zero =>
   intro i s k hi hk hs;obtain rfl:i = 2 ^ m:=by omega
   obtain ⟨k,rfl⟩:∃ q,k = q+1:=⟨k - 1,by omega⟩
   refine ⟨?_,fun e=>?_⟩
   ·simp only [bQ.l0]
    rw [fP m hm];simp only [Option.bind_some];rw [if_neg (by omega),if_neg (by omega)]
   ·rw [show k+1+e = (k+e)+1 by omega]
    simp only [bQ.l0];rw [fP m hm];simp only [Option.bind_some];rw [if_neg (by omega),if_neg (by omega)]
  | succ d ih =>
   intro i s k hi hk hs;obtain ⟨k,rfl⟩:∃ q,k = q+1:=⟨k - 1,by omega⟩
   obtain ⟨J,a2⟩:=ih (i+1) (s ++ [(i:Int)]) k (by omega) (by omega) (by simp;omega);obtain ⟨M,U⟩:=ih (i+1) s k (by omega) (by omega) (by omega);refine ⟨?_,fun e=>?_⟩
   ·simp only [bQ.l0]
    rw [fP m hm];simp only [Option.bind_some];simp only [if_pos (show (i:Int)≤((2 ^ m - 1:Nat):Int) by omega),if_pos (show s.length < 17592186044416 by omega),hK j y i (by omega),hK K (Nat.le_refl _) i (by omega),dg.ej i (by omega),Option.bind_some,J,M]
   ·rw [show k+1+e = (k+e)+1 by omega]
    simp only [bQ.l0];rw [fP m hm];simp only [Option.bind_some];simp only [if_pos (show (i:Int)≤((2 ^ m - 1:Nat):Int) by omega),if_pos (show s.length < 17592186044416 by omega),hK j y i (by omega),dg.ej i (by omega),Option.bind_some,a2,U]
 obtain ⟨X,z⟩:=fixed K (Nat.le_refl _);refine ⟨max (max K X) (2 ^ m+1),fun k hk=>?_⟩;show bQ.l0 (g k) k (m:Int) [] ((0:Nat):Int) = _;rw [(count k (by omega) (2 ^ m) 0 [] k (by omega) (by omega) (by simp)).1];exact z k (by omega)
end Flat
end
end Go.Proofs.YtlfkfdmggpipbaaGreat
section
namespace Go.Proofs.YtlfkfdmggpipbaaGreat.Sort
open Go.RowKit Go.Proofs.YtlfkfdmggpipbaaGreat.Pr Go.Proofs.YtlfkfdmggpipbaaGreat.Sets Go.Proofs.ag.b8 Go.Proofs.ag.ct Go.Proofs.ag.cu
set_option linter.unusedVariables false
def ins (x:Int):List Int→List Int
 | []=>[x]
 | a :: l=>if a < x then a :: ins x l else if a = x then a :: l else x :: a :: l
def sset (l:List Int):List Int:=l.foldl (fun out x=>ins x out) []
theorem nO (x y:Int) (l:List Int):y∈ins x l↔y = x∨y∈l:=by
 induction l with
 | nil=>simp [ins]
 | cons a l ih =>
  unfold ins;split
  ·simp only [List.mem_cons,ih]
   constructor
   ·rintro (h | h | h) <;> simp [h]
   ·rintro (h | h | h) <;> simp [h]
  ·split
   ·rename_i h
    subst h;simp
   ·simp
theorem n9 (x:Int) (l:List Int) (h:l.Pairwise (· < ·)):(ins x l).Pairwise (· < ·):=by
 induction l with
 | nil=>simp [ins]
 | cons a l ih =>
  obtain ⟨h1,h2⟩:=List.pairwise_cons.1 h;unfold ins;split
  ·rename_i hlt
   refine List.pairwise_cons.2 ⟨fun y hy=>?_,ih h2⟩;rcases (nO x y l).1 hy with rfl | hy
   ·exact hlt
   ·exact h1 y hy
  ·split
   ·exact h
   ·rename_i ha hb
    refine List.pairwise_cons.2 ⟨fun y hy=>?_,h⟩;rcases List.mem_cons.1 hy with rfl | hy
    ·omega
    ·have:=h1 y hy
     omega
theorem kf (x:Int) (l:List Int):(ins x l).length≤l.length+1:=by
 induction l with
 | nil=>simp [ins]
 | cons a l ih =>
  unfold ins;split
  ·simp only [List.length_cons];omega
  ·split <;> simp
theorem jk (l out:List Int) (ho:out.Pairwise (· < ·)):(l.foldl (fun out x=>ins x out) out).Pairwise (· < ·)∧(∀ y,y∈l.foldl (fun out x=>ins x out) out↔y∈out∨y∈l)∧(l.foldl (fun out x=>ins x out) out).length≤out.length+l.length:=by
 induction l generalizing out with
 | nil=>exact ⟨ho,fun y=>by simp,by simp⟩
 | cons a l ih =>
  rw [List.foldl_cons];obtain ⟨h1,h2,h3⟩:=ih (ins a out) (n9 a out ho);refine ⟨h1,fun y=>?_,?_⟩
  ·rw [h2 y,nO,List.mem_cons]
   constructor
   ·rintro ((h | h) | h) <;> simp [h]
   ·rintro (h | h | h) <;> simp [h]
  ·have:=kf a out
   simp only [List.length_cons];omega
theorem ia (l:List Int):(sset l).Pairwise (· < ·):=(jk l [] List.Pairwise.nil).1
theorem j5 (l:List Int) (y:Int):y∈sset l↔y∈l:=by
 have:=(jk l [] List.Pairwise.nil).2.1 y;simpa [sset] using this
theorem mF (l:List Int):(sset l).length≤l.length:=by
 have:=(jk l [] List.Pairwise.nil).2.2;simpa [sset] using this
theorem nP (a b:List Int) (ha:a.Pairwise (· < ·)) (hb:b.Pairwise (· < ·)) (h:∀ x,x∈a↔x∈b):a = b:=by
 induction a generalizing b with
 | nil =>
  cases b with
  | nil=>rfl
  | cons y b=>exact absurd ((h y).2 (by simp)) (by simp)
 | cons x a ih =>
  cases b with
  | nil=>exact absurd ((h x).1 (by simp)) (by simp)
  | cons y b =>
   obtain ⟨j,a2⟩:=List.pairwise_cons.1 ha;obtain ⟨I,J⟩:=List.pairwise_cons.1 hb;have hxy:x = y:=by
    rcases List.mem_cons.1 ((h x).1 (by simp)) with e | e
    ·exact e
    ·rcases List.mem_cons.1 ((h y).2 (by simp)) with e' | e'
     ·exact e'.symm
     ·have:=I x e
      have:=j y e';omega
   subst hxy;congr 1
   refine ih b a2 J fun z=>⟨fun hz=>?_,fun hz=>?_⟩
   ·rcases List.mem_cons.1 ((h z).1 (by simp [hz])) with rfl | e
    ·exact absurd (j z hz) (by omega)
    ·exact e
   ·rcases List.mem_cons.1 ((h z).2 (by simp [hz])) with rfl | e
    ·exact absurd (I z hz) (by omega)
    ·exact e
theorem lQ (d:Array Int) (hd:∀ i j,i≤j→j < d.size→d[i]! ≤ d[j]!):∀ m,m≤d.size→(Lib.compactUpTo d m).Pairwise (· < ·)∧(∀ y,y∈Lib.compactUpTo d m↔∃ j,j < m∧d[j]! = y):=by
 intro m;induction m with
 | zero=>exact fun _=>⟨by simp [Lib.compactUpTo],fun y=>by simp [Lib.compactUpTo]⟩
 | succ m ih =>
  intro hm;obtain ⟨h1,h2⟩:=ih (by omega);rw [Lib.compactUpTo_succ];by_cases hk:Lib.keeps d m = true
  ·rw [if_pos hk]
   refine ⟨?_,fun y=>?_⟩
   ·rw [List.pairwise_append]
    refine ⟨h1,by simp,fun x hx y hy=>?_⟩;obtain rfl:y = d[m]!:=by simpa using hy
    obtain ⟨j,hj,rfl⟩:=(h2 x).1 hx;have hne:d[m]! ≠ d[m - 1]!:=by
     unfold Lib.keeps at hk;rw [decide_eq_true_eq] at hk;rcases hk with rfl | hk
     ·omega
     ·exact hk
    have I:=hd j (m - 1) (by omega) (by omega);have J:=hd (m - 1) m (by omega) (by omega);omega
   ·rw [List.mem_append,h2 y]
    constructor
    ·rintro (⟨j,hj,rfl⟩ | h)
     ·exact ⟨j,by omega,rfl⟩
     ·have e:y = d[m]!:=by simpa using h
      exact ⟨m,by omega,e.symm⟩
    ·rintro ⟨j,hj,rfl⟩
     by_cases e:j = m
     ·subst e
      exact .inr (by simp)
     ·exact .inl ⟨j,by omega,rfl⟩
  ·rw [if_neg hk,List.append_nil]
   refine ⟨h1,fun y=>?_⟩;rw [h2 y];constructor
   ·rintro ⟨j,hj,rfl⟩
    exact ⟨j,by omega,rfl⟩
   ·rintro ⟨j,hj,rfl⟩
    by_cases e:j = m
    ·subst e
     have hk':¬ (j = 0∨d[j]! ≠ d[j - 1]!):=by
      unfold Lib.keeps at hk;rw [decide_eq_true_eq] at hk;exact hk
     have z:j≠0:=fun h=>hk' (.inl h)
     have he:d[j]! = d[j - 1]!:=Decidable.byContradiction fun h=>hk' (.inr h)
     exact ⟨j - 1,by omega,he.symm⟩
    ·exact ⟨j,by omega,rfl⟩
theorem lR (l:List Int):Lib.compact (j8.sorted l) = sset l:=by
 have hs:(j8.sorted l).Pairwise (fun x y=>decide (x≤y) = true):=List.pairwise_mergeSort (le:=fun x y=>decide (x≤y)) (fun a b c h1 h2=>by simp only [decide_eq_true_eq] at *;omega) (fun a b=>by simp only [Bool.or_eq_true,decide_eq_true_eq];omega) l;have hmem:∀ y,y∈j8.sorted l↔y∈l:=fun y=>(List.mergeSort_perm l _).mem_iff
 generalize j8.sorted l = q at *;have hd:∀ i j,i≤j→j < q.toArray.size→q.toArray[i]! ≤ q.toArray[j]!:=fun i j hij hj=>by
  have hj':j < q.length:=by simpa using hj
  rcases Nat.lt_or_eq_of_le hij with h | rfl
  ·have:=(List.pairwise_iff_getElem.1 hs) i j (by omega) hj' h
   simp only [decide_eq_true_eq] at this;simpa [getElem!_pos,show i < q.length by omega,hj'] using this
  ·exact Int.le_refl _
 obtain ⟨h1,h2⟩:=lQ q.toArray hd q.length (by simp);refine nP _ _ h1 (ia l) fun x=>?_
 rw [j5,← hmem];refine (h2 x).trans ⟨?_,fun h=>?_⟩
 ·rintro ⟨j,hj,rfl⟩
  have:q.toArray[j]! = q[j]:=by simp [getElem!_pos,hj]
  rw [this];exact List.getElem_mem hj
 ·obtain ⟨j,hj,rfl⟩:=List.getElem_of_mem h
  exact ⟨j,hj,by simp [getElem!_pos,hj]⟩
theorem pM (l:List Int) (hn:l.length≤1048576):eE.f l = some (sset l):=by
 unfold eE.f;rw [if_pos (by omega),lR]
theorem drop_cons (l:List Int) (i:Nat) (h:i < l.length):l.drop i = l.getD i 0 :: l.drop (i+1):=by
 rw [List.drop_eq_getElem_cons h];simp [List.getD,h]
theorem pN (x:Int) (out:List Int):∀ i,i≤out.length→(∀ j,j < i→out.getD j 0 < x)→ins x out = out.take i ++ ins x (out.drop i):=by
 intro i;induction i with
 | zero=>intro _ _;simp
 | succ i ih =>
  intro hi h;rw [ih (by omega) fun j hj=>h j (by omega),drop_cons out i (by omega)];have:=h i (by omega);rw [ins,if_pos this,List.take_succ_eq_append_getElem (by omega),List.append_assoc];simp [List.getD,show i < out.length by omega]
theorem pO (l:List Int) (hn:l.length≤1048576):Ev (fun k=>aq.f k l) (sset l):=by
 unfold aq.f sset;have e:l.foldl (fun out x=>ins x out) [] = (List.range' 0 l.length).foldl (fun out i=>ins (l.getD i 0) out) []:=by
  have y:l = (List.range' 0 l.length).map fun i=>l.getD i 0:=by rw [← List.range_eq_range',dg.jh]
  conv=>lhs;rw [y]
  rw [List.foldl_map]
 rw [e];refine dg.fe (fun k (out:List Int) i=>aq.l0 k l out i) l.length (fun i out=>ins (l.getD i 0) out) (fun i out=>out.length≤i) _ (fun i out hi hP=>⟨?_,fun h=>?_⟩) l.length 0 [] (by omega) (by simp) (fun _=>dg.dr 1 (fun k hk=>?_))
 ·have:=kf (l.getD i 0) out
  show (ins _ _).length≤_;omega
 ·refine Ev.step (f:=fun k=>aq.l1 k l out (i:Int) 0) (fun k=>?_) ?_
  ·simp only [aq.l0]
   rw [if_pos (by omega)]
  ·have key:∀ d a:Nat,a+d = out.length→(∀ j,j < a→out.getD j 0 < l.getD i 0)→Ev (fun k=>aq.l1 k l out (i:Int) (a:Int)) ((List.range' 0 l.length).foldl (fun out i=>ins (l.getD i 0) out) []):=by
    intro d;induction d with
    | zero =>
     intro a ha hlt;obtain rfl:a = out.length:=by omega
     have hins:ins (l.getD i 0) out = out.take out.length ++ [l.getD i 0] ++ out.drop out.length:=by
      rw [pN _ _ out.length (Nat.le_refl _) hlt,List.drop_length,ins];simp
     rw [hins] at h;refine Ev.step (fun k=>?_) h;simp only [aq.l1];rw [if_neg (by omega)];simp only [Option.bind_some,Int.toNat_natCast,dg.dS,List.nil_append,List.length_nil,Nat.zero_add];rw [if_pos (by omega),if_pos (by omega),if_pos (by simp),if_pos (by omega),if_pos (by omega),if_pos (by rw [List.length_take];omega),if_pos (by simp;omega),dg.ej i (by omega)]
    | succ d ih =>
     intro a ha hlt;have hlen:a < out.length:=by omega
     by_cases h1:out.getD a 0 < l.getD i 0
     ·refine Ev.step (fun k=>?_) (ih (a+1) (by omega) fun j hj=>?_)
      ·simp only [aq.l1]
       rw [if_pos (by omega),if_pos (by omega),if_pos (by omega),if_pos (by omega),dg.dS,dg.dS,if_pos h1,dg.ej a (by omega)]
      ·by_cases e:j = a
       ·subst e;exact h1
       ·exact hlt j (by omega)
     ·have hat:=pN (l.getD i 0) out a (by omega) hlt
      rw [drop_cons out a hlen,ins,if_neg h1] at hat;by_cases h2:out.getD a 0 = l.getD i 0
      ·have hins:ins (l.getD i 0) out = out:=by
        rw [hat,if_pos h2,← drop_cons out a hlen,List.take_append_drop]
       rw [hins] at h;refine Ev.step (fun k=>?_) h;simp only [aq.l1];rw [if_pos (by omega),if_pos (by omega),if_pos (by omega),if_pos (by omega),dg.dS,dg.dS,if_neg h1,if_pos h2,dg.ej i (by omega)]
      ·have hins:ins (l.getD i 0) out = out.take a ++ [l.getD i 0] ++ out.drop a:=by
        rw [hat,if_neg h2,← drop_cons out a hlen,List.append_assoc];rfl
       rw [hins] at h;refine Ev.step (fun k=>?_) h;simp only [aq.l1];rw [if_pos (by omega),if_pos (by omega),if_pos (by omega),if_pos (by omega),dg.dS,dg.dS,if_neg h1,if_neg h2];simp only [Option.bind_some,Int.toNat_natCast,List.nil_append,List.length_nil,Nat.zero_add];rw [if_pos (by omega),if_pos (by simp;omega),if_pos (by rw [List.length_take];omega),if_pos (by simp;omega),dg.ej i (by omega)]
   exact key out.length 0 (by omega) (fun j hj=>by omega)
 ·obtain ⟨q,rfl⟩:∃ q,k = q+1:=⟨k - 1,by omega⟩
  simp only [aq.l0];rw [if_neg (by omega)]
end Go.Proofs.YtlfkfdmggpipbaaGreat.Sort
end
namespace Go.Proofs.YtlfkfdmggpipbaaGreat
section
namespace Act
open Go.RowKit Go.Proofs.YtlfkfdmggpipbaaGreat.Pr Go.Proofs.YtlfkfdmggpipbaaGreat.Sets nZ iS Go.Proofs.YtlfkfdmggpipbaaGreat.Flat ag.b8 ag.ct ag.cu
set_option linter.unusedVariables false
theorem oC {σ γ:Type} (L:Nat→σ→Int→Option γ) (q:List Nat) (f:σ→Nat→σ) (P:Nat→σ→Prop) (r:γ) (s:σ)
  (j:∀ i s,i < q.length→P i s→P (i+1) (f s (q.getD i 0))∧(Ev (fun k=>L k (f s (q.getD i 0)) ((i+1:Nat):Int)) r→Ev (fun k=>L k s (i:Int)) r))
  (hs:P 0 s) (hend:P q.length (q.foldl f s)→Ev (fun k=>L k (q.foldl f s) (q.length:Int)) r):Ev (fun k=>L k s 0) r:=by
 have:=dg.fe L q.length (fun i s=>f s (q.getD i 0)) P r (fun i s hi hp=>j i s hi hp) q.length 0 s (by omega) hs;rw [mD q f s] at this;exact this hend
theorem nc {s i:Nat} (h:i < (elems s).length):(elems s).getD i 0 < 8∧s.testBit ((elems s).getD i 0) = true:=gZ (dI _ 0 i h)
theorem kg {σ:Type} (p:Nat→Bool) (f:σ→Nat→σ) (q:List Nat) (s:σ):(q.filter p).foldl f s = q.foldl (fun s j=>if p j = true then f s j else s) s:=by
 rw [List.foldl_filter]
end Act
end
section
namespace nu
open Go.RowKit Go.Proofs.YtlfkfdmggpipbaaGreat.Sets iS
set_option linter.unusedVariables false
theorem jl (s:Nat):cnt s = (List.range' 0 8).countP fun j=>s.testBit j:=by
 unfold cnt elems;rw [List.countP_eq_length_filter]
theorem pP:∀ a,a < 256→∀ e,e < 8→∀ f,f < 8→a.testBit e = true→a.testBit f = false→cnt (diff a (2 ^ e) ||| 2 ^ f) = cnt a:=by decide +kernel
theorem lS:∀ a,a < 256→cnt a = 0→a = 0:=by decide +kernel
def top (l:List Nat):Nat:=cnt (l.getD 0 0)
end nu
end
section
namespace nv
open Go.RowKit Go.Proofs.YtlfkfdmggpipbaaGreat.Pr Go.Proofs.YtlfkfdmggpipbaaGreat.Sets nZ iS Go.Proofs.YtlfkfdmggpipbaaGreat.Flat Go.Proofs.YtlfkfdmggpipbaaGreat.Sort ag.b8 ag.ct ag.cu
set_option linter.unusedVariables false
def kept (p:Nat→Nat→Bool) (l:List Nat):List Int:=sset (ints (l.filter fun s=>!l.any fun t=>!decide (t = s) && p t s))
theorem j6 {l:List Nat} {x:Int}:x∈ints l↔∃ y∈l,x = (y:Int):=by
 unfold ints;rw [List.mem_map];constructor
 ·rintro ⟨y,h,rfl⟩;exact ⟨y,h,rfl⟩
 ·rintro ⟨y,h,rfl⟩;exact ⟨y,h,rfl⟩
theorem pQ (l:List Nat):∃ q:List Nat,sset (ints l) = ints q∧(∀ s,s∈q↔s∈l)∧q.length≤l.length:=by
 have h:∀ x∈sset (ints l),∃ y∈l,x = (y:Int):=fun x hx=>j6.1 ((j5 _ _).1 hx)
 refine ⟨(sset (ints l)).map Int.toNat,?_,fun s=>?_,?_⟩
 ·unfold ints
  rw [List.map_map];conv=>lhs;rw [← List.map_id (sset _)]
  refine List.map_congr_left fun x hx=>?_
  obtain ⟨y,_,rfl⟩:=h x hx;rfl
 ·rw [List.mem_map]
  constructor
  ·rintro ⟨x,hx,rfl⟩
   obtain ⟨y,hy,rfl⟩:=h x hx;simpa using hy
  ·intro hs
   exact ⟨(s:Int),(j5 _ _).2 (j6.2 ⟨s,hs,rfl⟩),by simp⟩
 ·rw [List.length_map]
  have:=mF (ints l);rw [aA] at this;exact this
end nv
end
section
namespace sB
open Go.RowKit Go.Proofs.YtlfkfdmggpipbaaGreat.Sets iS nu
set_option linter.unusedVariables false
def Sub (a b:Nat):Prop:=∀ j,a.testBit j = true→b.testBit j = true
theorem lT {a b:Nat}:a &&& b = a↔Sub a b:=by
 constructor
 ·intro h j hj
  rw [← h,Nat.testBit_and,Bool.and_eq_true] at hj;exact hj.2
 ·intro h
  apply Nat.eq_of_testBit_eq
  intro j;rw [Nat.testBit_and];cases ha:a.testBit j with
  | false=>rfl
  | true=>rw [h j ha];rfl
theorem Sub.refl (a:Nat):Sub a a:=fun _ h=>h
theorem Sub.trans {a b c:Nat} (h:Sub a b) (k:Sub b c):Sub a c:=fun j hj=>k j (h j hj)
theorem sub_zero (a:Nat):Sub 0 a:=fun j h=>by rw [Nat.zero_testBit] at h;exact Bool.noConfusion h
theorem j7 {a b:Nat} (h:Sub a b) (k:Sub b a):a = b:=by
 apply Nat.eq_of_testBit_eq
 intro j;cases ha:a.testBit j with
 | true=>exact (h j ha).symm
 | false =>
  cases hb:b.testBit j with
  | false=>rfl
  | true=>rw [k j hb] at ha;exact Bool.noConfusion ha
theorem ic (a b:Nat):Sub a (a ||| b):=fun j h=>by rw [Nat.testBit_or,h];rfl
theorem kD (a b:Nat):Sub (a &&& b) b:=fun j h=>by rw [Nat.testBit_and,Bool.and_eq_true] at h;exact h.2
theorem pR (a b:Nat):Sub (diff a b) a:=fun j h=>by rw [eN,Bool.and_eq_true] at h;exact h.1
theorem nf {a b c:Nat} (h:Sub c a) (k:Sub c b):Sub c (a &&& b):=fun j hj=>by
 rw [Nat.testBit_and,h j hj,k j hj];rfl
theorem lU {a e:Nat} (ha:a < 256) (h:a.testBit e = true):e < 8:=by
 refine Nat.lt_of_not_le fun hle=>?_
 rw [gP (n:=8) ha hle] at h;exact Bool.noConfusion h
theorem jM {a e n:Nat} (ha:a < 2 ^ n) (h:a.testBit e = true):e < n:=by
 refine Nat.lt_of_not_le fun hle=>?_
 rw [gP ha hle] at h;exact Bool.noConfusion h
theorem lV (e j:Nat):(2 ^ e).testBit j = decide (e = j):=Nat.testBit_two_pow
theorem pS (a e j:Nat):(a ||| 2 ^ e).testBit j = (a.testBit j || decide (e = j)):=by rw [Nat.testBit_or,lV]
theorem mG (a e:Nat):(a ||| 2 ^ e).testBit e = true:=by rw [pS,decide_eq_true rfl,Bool.or_true]
theorem ki (a e j:Nat):(diff a (2 ^ e)).testBit j = (a.testBit j && !decide (e = j)):=by rw [eN,lV]
theorem lW {α:Type} (p q:α→Bool) (l:List α):l.countP p = l.countP (fun x=>p x && q x)+l.countP (fun x=>p x && !q x):=by
 induction l with
 | nil=>rfl
 | cons a l ih =>
  rw [List.countP_cons,List.countP_cons,List.countP_cons,ih];cases p a <;> cases q a <;> simp <;> omega
theorem kQ (a b:Nat):cnt a = cnt (a &&& b)+cnt (diff a b):=by
 rw [jl,jl,jl,lW (fun j=>a.testBit j) (fun j=>b.testBit j)];congr 1
 ·refine List.countP_congr fun j _=>?_
  rw [Nat.testBit_and]
 ·refine List.countP_congr fun j _=>?_
  rw [eN]
theorem pT:∀ e,e < 8→cnt (2 ^ e) = 1:=by decide +kernel
theorem pU {a b:Nat} (h:∀ j,a.testBit j = true→b.testBit j = false):cnt (a ||| b) = cnt a+cnt b:=by
 rw [kQ (a ||| b) a];congr 1
 ·congr 1
  exact j7 (fun j hj=>(kD _ _) j hj) (nf (ic _ _) (Sub.refl _))
 ·congr 1
  apply Nat.eq_of_testBit_eq
  intro j;rw [eN,Nat.testBit_or];cases ha:a.testBit j with
  | false=>simp
  | true=>rw [h j ha];rfl
theorem kj {a e:Nat} (he:e < 8) (h:a.testBit e = false):cnt (a ||| 2 ^ e) = cnt a+1:=by
 rw [pU fun j hj=>?_,pT e he];rw [lV,decide_eq_false_iff_not];rintro rfl
 rw [h] at hj;exact Bool.noConfusion hj
theorem lX {a e:Nat} (ha:a < 256) (h:a.testBit e = true):cnt a = cnt (diff a (2 ^ e))+1:=by
 rw [← kj (lU ha h) (a:=diff a (2 ^ e)) (by rw [ki,decide_eq_true rfl];simp)];congr 1
 apply Nat.eq_of_testBit_eq
 intro j;rw [pS,ki];by_cases e':e = j
 ·subst e'
  simp [h]
 ·simp [e']
theorem oD {a b:Nat} (hb:b < 256) (h:Sub a b) (hc:cnt b≤cnt a):a = b:=by
 have hs:=kQ b a;have hba:b &&& a = a:=by
  rw [Nat.and_comm];exact lT.2 h
 rw [hba] at hs;have hz:diff b a = 0:=lS _ (gp (n:=8) hb) (by omega);refine j7 h fun j hj=>?_
 have:=eN b a j;rw [hz,Nat.zero_testBit,hj] at this;simpa using this.symm
structure qp (m:Nat) (P:Nat→Bool):Prop where
 zero:P 0 = true
 down:∀ a b,b < 2 ^ m→Sub a b→P b = true→P a = true
 aug:∀ a b,a < 2 ^ m→b < 2 ^ m→P a = true→P b = true→cnt a < cnt b→∃ e,b.testBit e = true∧a.testBit e = false∧P (a ||| 2 ^ e) = true
def jx (m:Nat) (P:Nat→Bool):List Nat:=(List.range' 0 (2 ^ m)).filter fun s=>P s && (List.range' 0 (2 ^ m)).all fun t=>!(P t && !decide (t = s) && decide (s &&& t = s))
theorem iz {m:Nat} {P:Nat→Bool} {s:Nat}:s∈jx m P↔s < 2 ^ m∧P s = true∧∀ t,t < 2 ^ m→P t = true→Sub s t→t = s:=by
 unfold jx;rw [List.mem_filter,Bool.and_eq_true,List.all_eq_true];constructor
 ·rintro ⟨h1,h2,h3⟩
  refine ⟨by have:=List.mem_range'_1.1 h1;omega,h2,fun t ht hp hs=>?_⟩;have:=h3 t (List.mem_range'_1.2 (by omega));rw [hp,lT.2 hs] at this;simpa using this
 ·rintro ⟨h1,h2,h3⟩
  refine ⟨List.mem_range'_1.2 (by omega),h2,fun t ht=>?_⟩;cases hp:P t with
  | false=>rfl
  | true =>
   by_cases hs:s &&& t = s
   ·have:=h3 t (by have:=List.mem_range'_1.1 ht;omega) hp (lT.1 hs)
    simp [this]
   ·simp [hs]
section
variable {m:Nat} {P:Nat→Bool}
theorem qp.nh (h:qp m P) (hm:m≤8) {s t:Nat} (hs:s∈jx m P) (ht:t < 2 ^ m) (hp:P t = true):cnt t≤cnt s:=by
 obtain ⟨h1,h2,h3⟩:=iz.1 hs;refine Nat.le_of_not_lt fun hlt=>?_
 obtain ⟨e,h4,h5,y⟩:=h.aug s t h1 ht h2 hp hlt;have hlt':s ||| 2 ^ e < 2 ^ m:=mE h1 (k9 (jM ht h4))
 have:=h3 _ hlt' y (ic _ _);have j:=mG s e;rw [this,h5] at j;exact Bool.noConfusion j
theorem qp.ni (h:qp m P) (hm:m≤8) {s:Nat} (hs:s < 2 ^ m) (hp:P s = true) (hmax:∀ t,t < 2 ^ m→P t = true→cnt t≤cnt s):s∈jx m P:=by
 have j:=dU hm;refine iz.2 ⟨hs,hp,fun t ht hpt hst=>(oD (by omega) hst (hmax t ht hpt)).symm⟩
theorem qp.ext (h:qp m P) (hm:m≤8):∀ n s,s < 2 ^ m→P s = true→8≤cnt s+n→∃ t∈jx m P,Sub s t:=by
 have j:=dU hm;intro n;induction n with
 | zero =>
  intro s hs hp hn;exact ⟨s,h.ni hm hs hp (fun t _ _=>Nat.le_trans (su t) (by omega)),Sub.refl s⟩
 | succ n ih =>
  intro s hs hp hn;by_cases hmx:∃ t,t < 2 ^ m∧P t = true∧cnt s < cnt t
  ·obtain ⟨t,ht,hpt,hlt⟩:=hmx
   obtain ⟨e,h4,h5,y⟩:=h.aug s t hs ht hp hpt hlt;have hlt':s ||| 2 ^ e < 2 ^ m:=mE hs (k9 (jM ht h4))
   have:=kj (lU (by omega) h4) h5;obtain ⟨u,hu,hsub⟩:=ih _ hlt' y (by omega);exact ⟨u,hu,(ic _ _).trans hsub⟩
  ·exact ⟨s,h.ni hm hs hp (fun t ht hpt=>Nat.le_of_not_lt fun hlt=>hmx ⟨t,ht,hpt,hlt⟩),Sub.refl s⟩
theorem qp.some (h:qp m P) (hm:m≤8):0 < (jx m P).length:=by
 obtain ⟨t,ht,_⟩:=h.ext hm 8 0 (Nat.pow_pos (by decide)) h.zero (by omega);exact List.length_pos_of_mem ht
theorem qp.eX (h:qp m P) (hm:m≤8):gB (jx m P) = false:=by
 have U:=dU hm;unfold gB;rw [List.any_eq_false];intro a ha;rw [Bool.not_eq_true,List.any_eq_false];intro b hb;rw [Bool.not_eq_true,List.any_eq_false];intro e he;have y:e < 8:=by have:=List.mem_range'_1.1 he;omega
 obtain ⟨J,a2,a3⟩:=iz.1 ha;obtain ⟨M,X,b3⟩:=iz.1 hb;cases hae:a.testBit e with
 | false=>simp
 | true =>
  cases hbe:b.testBit e with
  | true=>simp
  | false =>
   have hx:Sets.eX (jx m P) a b e = true:=by
    have hsame:cnt a≤cnt b:=h.nh hm hb J a2;have I:cnt b≤cnt a:=h.nh hm ha M X;have hless:=lX (a:=a) (e:=e) (by omega) hae;have hd:diff a (2 ^ e) < 2 ^ m:=gp J;obtain ⟨f,h4,h5,Y⟩:=h.aug (diff a (2 ^ e)) b hd M (h.down _ a J (pR _ _) a2) X (by omega);have hef:e≠f:=fun e'=>by
     subst e';rw [hbe] at h4;exact Bool.noConfusion h4
    rw [ki] at h5;have j:a.testBit f = false:=by simpa [hef] using h5
    have z:f < 8:=lU (by omega) h4;have hlt':diff a (2 ^ e) ||| 2 ^ f < 2 ^ m:=mE hd (k9 (jM M h4))
    have hc:cnt (diff a (2 ^ e) ||| 2 ^ f) = cnt a:=pP a (by omega) e y f z hae j;unfold Sets.eX;rw [List.any_eq_true];refine ⟨f,List.mem_range'_1.2 (by omega),?_⟩;rw [h4,j,← swap_eq a (by omega) e y f z hae j,List.contains_iff_mem.2 (h.ni hm hlt' Y (fun t ht hpt=>by rw [hc];exact h.nh hm ha ht hpt))];rfl
   rw [hx];simp
end
end sB
end
section
namespace sC
open Go.RowKit Go.Proofs.YtlfkfdmggpipbaaGreat.Pr Go.Proofs.YtlfkfdmggpipbaaGreat.Sets nZ iS Go.Proofs.YtlfkfdmggpipbaaGreat.Flat nu ag.b8 ag.ct ag.cu
set_option linter.unusedVariables false
theorem qV {m:Nat} {l:List Nat} (hm:m≤8) (hl:∀ s∈l,s < 2 ^ m):∀ b∈l,b < 256:=fun b hb=>Nat.lt_of_lt_of_le (hl b hb) (dU hm)
theorem nj (n:Int) (l:List Int) (hn:l.length≤1048576):Ev (fun k=>cV.f k n l) (if eG n l = true then (top (l.map Int.toNat):Int) else -1):=by
 unfold cV.f;refine Ev.bind (jK n l hn) ?_;cases h:eG n l with
 | false=>simp only [Bool.false_eq_true,if_false];exact Ev.now _
 | true =>
  obtain ⟨m,j,rfl,hm,rfl,hl,y,_⟩:=gR h;simp only [if_true,eV,aA,if_pos (show (0:Int) < (j.length:Int) by omega)];have hr:rd (ints j) 0 = ((j.getD 0 0:Nat):Int):=dO j 0;rw [hr,kO _ (qV hm hl _ (dI j 0 0 y))];exact Ev.now _
end sC
end
section
namespace jq
open Go.RowKit Go.Proofs.YtlfkfdmggpipbaaGreat.Pr Go.Proofs.YtlfkfdmggpipbaaGreat.Sets nZ iS Go.Proofs.YtlfkfdmggpipbaaGreat.Flat nu Go.Proofs.YtlfkfdmggpipbaaGreat.Sort sB nv ag.b8 ag.ct ag.cu
set_option linter.unusedVariables false
theorem oE {l q:List Nat} (hq:q.Pairwise (· < ·)) (h:∀ s,s∈l↔s∈q):sset (ints l) = ints q:=by
 refine nP _ _ (ia _) ?_ fun x=>?_
 ·unfold ints
  rw [List.pairwise_map];exact hq.imp fun h=>by omega
 ·rw [j5,j6,j6]
  constructor
  ·rintro ⟨y,hy,rfl⟩;exact ⟨y,(h y).1 hy,rfl⟩
  ·rintro ⟨y,hy,rfl⟩;exact ⟨y,(h y).2 hy,rfl⟩
theorem kR (n m:Nat):(List.range' n m).Pairwise (· < ·):=List.pairwise_lt_range'
end jq
end
section
namespace j9
open Go.RowKit Go.Proofs.YtlfkfdmggpipbaaGreat.Pr Go.Proofs.YtlfkfdmggpipbaaGreat.Sets nZ iS Go.Proofs.YtlfkfdmggpipbaaGreat.Flat nu Go.Proofs.YtlfkfdmggpipbaaGreat.Sort sB nv jq ag.b8 ag.ct ag.cu
set_option linter.unusedVariables false
theorem iA {m:Nat} {l:List Nat} (h:eG (m:Int) (ints l) = true):l.Pairwise (· < ·):=by
 unfold eG at h;rw [Bool.and_eq_true,Bool.and_eq_true] at h;have hf:=h.1.1;unfold nM at hf;rw [Bool.and_eq_true] at hf;rw [List.pairwise_iff_getElem];have step:∀ i,i+1 < l.length→l.getD i 0 < l.getD (i+1) 0:=fun i hi=>by
  have:=List.all_eq_true.1 hf.1 (i+1) (List.mem_range'_1.2 (by rw [aA];omega));rw [Bool.and_eq_true,jj,jj] at this;have h2:=this.2;rw [decide_eq_false (show ¬ i+1 = 0 by omega),Bool.false_or,decide_eq_true_eq] at h2;rw [show i+1 - 1 = i by omega] at h2;omega
 have key:∀ d i,i+d+1 < l.length→l.getD i 0 < l.getD (i+d+1) 0:=by
  intro d;induction d with
  | zero=>exact fun i hi=>step i hi
  | succ d ih=>exact fun i hi=>Nat.lt_trans (ih i (by omega)) (step (i+d+1) (by omega))
 intro i j hi hj hij;have:=key (j - i - 1) i (by omega);rw [show i+(j - i - 1)+1 = j by omega] at this;have y:l.getD i 0 = l[i]:=by simp [List.getD,hi]
 have z:l.getD j 0 = l[j]:=by simp [List.getD,hj]
 rw [y,z] at this;exact this
end j9
end
section
namespace Canon
set_option linter.unusedVariables false
def jm:Nat→Nat→List Nat→List (List Nat)
 | 0,_,done=>[done]
 | d+1,n,done=>(List.range' 0 n).flatMap fun e=>if done.contains e = true then [] else jm d n (done ++ [e])
def rs (x:List Nat) (s:Nat):Nat:=(List.range' 0 x.length).foldl (fun o k=>if s.testBit k = true then o ||| 2 ^ x.getD k 0 else o) 0
def inv (x:List Nat):List Nat:=(List.range' 0 x.length).map fun j=>x.findIdx fun e=>e == j
def mH (n:Nat) (x:List Nat):Bool:=decide (x.length = n) && (x.all fun e=>decide (e < n)) && (List.range' 0 (2 ^ n)).all fun s=>decide (rs (inv x) (rs x s) = s) && decide (rs x s < 2 ^ n)
set_option maxRecDepth 100000 in
theorem nk:∀ n,n < 6→(jm n n []).all (mH n) = true:=by decide +kernel
set_option maxRecDepth 100000 in
theorem pV:∀ n,n < 6→jm n n [] = List.range' 0 n :: (jm n n []).tail:=by decide +kernel
set_option maxRecDepth 100000 in
theorem sW:∀ n,n < 6→∀ s,s < 32→s < 2 ^ n→rs (List.range' 0 n) s = s:=by decide +kernel
theorem pW {n:Nat} {x:List Nat} (h:mH n x = true):x.length = n:=by
 unfold mH at h;rw [Bool.and_eq_true,Bool.and_eq_true,decide_eq_true_iff] at h;exact h.1.1
theorem rA {n:Nat} {x:List Nat} (h:mH n x = true):∀ e∈x,e < n:=fun e he=>by
 unfold mH at h;rw [Bool.and_eq_true,Bool.and_eq_true] at h;exact of_decide_eq_true (List.all_eq_true.1 h.1.2 e he)
theorem rB {n:Nat} {x:List Nat} (h:mH n x = true) {s:Nat} (hs:s < 2 ^ n):rs (inv x) (rs x s) = s∧rs x s < 2 ^ n:=by
 unfold mH at h;rw [Bool.and_eq_true] at h;have:=List.all_eq_true.1 h.2 s (List.mem_range'_1.2 ⟨Nat.zero_le _,by omega⟩);rw [Bool.and_eq_true,decide_eq_true_iff,decide_eq_true_iff] at this;exact this
theorem sv {n:Nat} {x:List Nat} (h:mH n x = true) {s t:Nat} (hs:s < 2 ^ n) (ht:t < 2 ^ n) (he:rs x s = rs x t):s = t:=by
 rw [← (rB h hs).1,← (rB h ht).1,he]
theorem mI {n:Nat} {x:List Nat} (h:mH n x = true):∀ l:List Nat,(∀ s∈l,s < 2 ^ n)→l.Nodup→(l.map (rs x)).Nodup
 | [],_,_=>List.nodup_nil
 | a :: l,hl,hn=>by
  rw [List.nodup_cons] at hn;rw [List.map_cons,List.nodup_cons];refine ⟨fun hm=>?_,mI h l (fun s hs=>hl s (List.mem_cons_of_mem _ hs)) hn.2⟩;obtain ⟨b,hb,he⟩:=List.mem_map.1 hm;have:=sv h (hl b (List.mem_cons_of_mem _ hb)) (hl a List.mem_cons_self) he;rw [this] at hb;exact hn.1 hb
theorem kS {α:Type} [DecidableEq α]:∀ (a b:List α),a.Nodup→b.Nodup→(∀ x,x∈a↔x∈b)→a.length = b.length
 | [],b,_,_,h=>by
  cases b with
  | nil=>rfl
  | cons y b=>exact absurd ((h y).2 List.mem_cons_self) List.not_mem_nil
 | y :: a,b,ha,hb,h=>by
  rw [List.nodup_cons] at ha;have hy:=(h y).1 List.mem_cons_self;have h1:=List.length_erase_of_mem hy;have h2:=kS a (b.erase y) ha.2 (hb.erase y) fun x=>by
   rw [hb.mem_erase_iff];constructor
   ·intro hx
    exact ⟨fun e=>by rw [e] at hx;exact ha.1 hx,(h x).1 (List.mem_cons_of_mem _ hx)⟩
   ·rintro ⟨hne,hx⟩
    rcases List.mem_cons.1 ((h x).2 hx) with e | e
    ·exact absurd e hne
    ·exact e
  have h3:=List.length_pos_of_mem hy;rw [List.length_cons,h2,h1];omega
theorem kk {α β γ:Type} (u:β→α→β) (v:γ→α→γ) (R:β→γ→Prop):∀ (q:List α) (b:β) (c:γ),R b c→(∀ x∈q,∀ b c,R b c→R (u b x) (v c x))→R (q.foldl u b) (q.foldl v c)
 | [],b,c,h,_=>h
 | x :: q,b,c,h,hs=>by
  rw [List.foldl_cons,List.foldl_cons];exact kk u v R q _ _ (hs x List.mem_cons_self b c h) fun y hy=>hs y (List.mem_cons_of_mem _ hy)
end Canon
end
section
namespace Canon
open Go.RowKit Go.Proofs.YtlfkfdmggpipbaaGreat.Pr Go.Proofs.YtlfkfdmggpipbaaGreat.Sets nZ iS Go.Proofs.YtlfkfdmggpipbaaGreat.Flat Go.Proofs.YtlfkfdmggpipbaaGreat.Sort sB nv jq iK ag.b8 ag.ct ag.cu
set_option linter.unusedVariables false
def jN (x l:List Nat):List Int:=sset (ints (l.map (rs x)))
def jD (n:Nat) (l:List Nat) (b:Int×List Int) (x:List Nat):Int×List Int:=if fu (jN x l) b.2 < 0 then ((n:Int),jN x l) else b
def jn (l:List Nat) (c:List Int) (x:List Nat):List Int:=if c = [] then jN x l else if dZ (jN x l) c < 0 then jN x l else c
def canon (n:Nat) (l:List Nat):List Int:=(jm n n []).foldl (jn l) []
theorem iB {l:List Nat} (h:l.Pairwise (· < ·)):l.Nodup:=h.imp fun h=>Nat.ne_of_lt h
theorem jO {n:Nat} {x l:List Nat} (hx:mH n x = true) (hl:∀ s∈l,s < 2 ^ n) (ha:l.Pairwise (· < ·)):(jN x l).length = l.length:=by
 unfold jN;obtain ⟨q,h1,h2,_⟩:=pQ (l.map (rs x));have h3:=ia (ints (l.map (rs x)));rw [h1] at h3 ⊢;have h4:q.Nodup:=by
  unfold ints at h3;rw [List.pairwise_map] at h3;exact h3.imp fun {a b} h=>by
   intro e;rw [e] at h;exact absurd h (Int.lt_irrefl _)
 rw [aA,kS q (l.map (rs x)) h4 (mI hx l hl (iB ha)) h2,List.length_map]
theorem pX {n:Nat} (hn:n < 6) {l:List Nat} (hl:∀ s∈l,s < 2 ^ n) (ha:l.Pairwise (· < ·)):jN (List.range' 0 n) l = ints l:=by
 have hp:2 ^ n≤2 ^ 5:=Nat.pow_le_pow_right (by decide) (by omega);have e:l.map (rs (List.range' 0 n)) = l:=by
  conv=>rhs;rw [← List.map_id l]
  exact List.map_congr_left fun s hs=>sW n hn s (by have:=hl s hs;omega) (hl s hs)
 unfold jN;rw [e];exact oE ha fun _=>Iff.rfl
theorem gT {n:Nat} (hn:n < 6) {l:List Nat} (hl:∀ s∈l,s < 2 ^ n) (ha:l.Pairwise (· < ·)) (J:0 < l.length):(jm n n []).foldl (jD n l) ((n:Int),ints l) = ((n:Int),canon n l)∧(canon n l).length = l.length:=by
 have hok:=List.all_eq_true.1 (nk n hn);have hd:=pV n hn;have z:jD n l ((n:Int),ints l) (List.range' 0 n) = ((n:Int),ints l):=by
  unfold jD;rw [pX hn hl ha,jg,if_neg (by decide)]
 have I:jn l [] (List.range' 0 n) = ints l:=by
  unfold jn;rw [if_pos rfl,pX hn hl ha]
 have h:=kk (jD n l) (jn l) (fun b c=>b = ((n:Int),c)∧c.length = l.length) (jm n n []).tail ((n:Int),ints l) (ints l) ⟨rfl,aA l⟩ fun x hx b c hbc=>by
  obtain ⟨rfl,hc⟩:=hbc;have y:mH n x = true:=hok x (by rw [hd];exact List.mem_cons_of_mem _ hx);have hr:=jO y hl ha;have hcm:dZ (jN x l) c = fu (jN x l) c:=by rw [dZ,if_pos (by rw [hr,hc])]
  have j:c≠[]:=fun e=>by
   rw [e] at hc;simp at hc;omega
  unfold jD jn;simp only [if_neg j,hcm];by_cases hlt:fu (jN x l) c < 0
  ·rw [if_pos hlt,if_pos hlt]
   exact ⟨rfl,hr⟩
  ·rw [if_neg hlt,if_neg hlt]
   exact ⟨rfl,hc⟩
 unfold canon;rw [hd,List.foldl_cons,List.foldl_cons,z,I];exact h
theorem fH (m:Nat) (h:m < 8):IntKind.u64.wrap (m:Int) = m:=jL m (by omega)
theorem nQ {x:List Nat} {n:Nat} (h:∀ e∈x,e < n) {i:Nat} (hi:i < x.length):x.getD i 0 < n:=h _ (dI x 0 i hi)
theorem sw {n:Nat} (hn:n < 6) {x:List Nat} (hx:mH n x = true) {s:Nat} (hs:s < 2 ^ n):Ev (fun k=>bn.f k (ints x) (s:Int)) (rs x s:Int):=by
 have hp:2 ^ n≤2 ^ 5:=Nat.pow_le_pow_right (by decide) (by omega);have hxl:=pW hx;have hxe:=rA hx;have e:rs x s = (elems s).foldl (fun o e=>o ||| 2 ^ x.getD e 0) 0:=by
  unfold rs elems;rw [Act.kg,hxl,show (8:Nat) = n+(8 - n) by omega,dg.mZ];intro j hj o;rw [gP hs hj,if_neg (by decide)]
 unfold bn.f;refine Ev.bind (fC s (by omega)) ?_;rw [e,aA];refine Act.oC (fun k (o:Nat) i=>bn.l0 k (ints x) (o:Int) (ints (elems s)) ((elems s).length:Int) i) (elems s) (fun o e=>o ||| 2 ^ x.getD e 0) (fun _ o=>o < 2 ^ n) _ 0 (fun i o hi hP=>?_) (Nat.two_pow_pos n) (fun _=>dg.dr 1 fun k hk=>?_)
 ·obtain ⟨h1,h2⟩:=Act.nc hi
  have hel:=eB s;obtain ⟨y,z⟩:∃ y,(elems s).getD i 0 = y:=⟨_,rfl⟩
  rw [z] at h1 h2 ⊢;have hen:y < n:=jM hs h2;have I:=nQ hxe (i:=y) (by omega);have hpe:2 ^ x.getD y 0 < 2 ^ n:=k9 I;refine ⟨mE hP hpe,fun h=>Ev.step (fun k=>?_) h⟩;simp only [bn.l0];rw [if_pos (by omega),if_pos (by omega),if_pos (by rw [aA];omega),dO,z,if_pos (by omega),if_pos (by rw [aA];omega),dO,if_pos (by omega),ff _ (by omega),n2 _ _ (by omega) (by omega),dg.ej i (by omega)]
 ·obtain ⟨m,rfl⟩:∃ m,k = m+1:=⟨k - 1,by omega⟩
  simp only [bn.l0];rw [if_neg (by omega)]
theorem sx {n:Nat} (hn:n < 6) {x:List Nat} (hx:mH n x = true) {s:Nat} (hs:s < 2 ^ n):Ev (fun k=>cv.f k (ints x) (s:Int)) (rs x s:Int):=by
 have hp:2 ^ n≤2 ^ 5:=Nat.pow_le_pow_right (by decide) (by omega);have hxl:=pW hx;have hxe:=rA hx;unfold cv.f rs;refine dg.fe (fun k (o:Nat) i=>cv.l0 k (ints x) (s:Int) (o:Int) i) x.length (fun k o=>if s.testBit k = true then o ||| 2 ^ x.getD k 0 else o) (fun _ o=>o < 2 ^ n) _ (fun i o hi hP=>?_) x.length 0 0 (by omega) (Nat.two_pow_pos n) (fun _=>dg.dr 1 fun k hk=>?_)
 ·have j:=nQ hxe (i:=i) hi
  have hpe:2 ^ x.getD i 0 < 2 ^ n:=k9 j;have y:(if s.testBit i = true then o ||| 2 ^ x.getD i 0 else o) < 2 ^ n:=by
   split
   ·exact mE hP hpe
   ·exact hP
  refine ⟨y,fun h=>Ev.step (fun k=>?_) h⟩;simp only [cv.l0];rw [if_pos (by rw [aA];omega),iJ s i (by omega) (by omega),Option.bind_some,dO,fH _ (by omega),dg.ej i (by omega)];by_cases hb:s.testBit i = true
  ·rw [if_pos hb,if_pos hb,if_pos (by omega),if_pos (by omega),ff _ (by omega),n2 _ _ (by omega) (by omega)]
  ·rw [if_neg hb,if_neg hb]
 ·obtain ⟨m,rfl⟩:∃ m,k = m+1:=⟨k - 1,by omega⟩
  simp only [cv.l0];rw [if_neg (by rw [aA];omega)]
theorem mJ (f:Nat→Nat) (l:List Nat):ints (l.map f) = (List.range' 0 l.length).foldl (fun (s:List Int) i=>s ++ [((f (l.getD i 0):Nat):Int)]) []:=by
 have key:∀ (d i:Nat) (s:List Int),i+d = l.length→(List.range' i d).foldl (fun (s:List Int) i=>s ++ [((f (l.getD i 0):Nat):Int)]) s = s ++ ints ((l.drop i).map f):=by
  intro d;induction d with
  | zero =>
   intro i s hi;rw [List.drop_eq_nil_of_le (by omega)];simp [ints]
  | succ d ih =>
   intro i s hi;rw [List.range'_succ,List.foldl_cons,ih (i+1) _ (by omega)];have hd:l.drop i = l.getD i 0 :: l.drop (i+1):=by
    rw [List.drop_eq_getElem_cons (by omega)];congr 1
    rw [List.getD_eq_getElem?_getD,List.getElem?_eq_getElem (by omega)];rfl
   rw [hd,List.map_cons,ints,ints,List.map_cons,List.append_assoc];rfl
 rw [key l.length 0 [] (by omega)];simp
theorem qW {n:Nat} (hn:n < 6) {x:List Nat} (hx:mH n x = true) {l:List Nat} (hl:∀ s∈l,s < 2 ^ n) (hlen:l.length≤1048576):Ev (fun k=>b7.f k (n:Int) (ints l) (ints x)) ((n:Int),jN x l):=by
 unfold b7.f;have h:=dg.fe (fun k (u:List Int) i=>b7.l0 k (ints x) (ints l) (l.length:Int) i (n:Int) u) l.length (fun i s=>s ++ [((rs x (l.getD i 0):Nat):Int)]) (fun i u=>u.length = i) ((n:Int),jN x l) (fun i u hi hP=>by
  have hs:l.getD i 0 < 2 ^ n:=hl _ (dI l 0 i hi);refine ⟨by simp [hP],fun h=>Ev.step (f:=fun k=>(bn.f k (ints x) ((l.getD i 0:Nat):Int)).bind fun t=>b7.l0 k (ints x) (ints l) (l.length:Int) ((i+1:Nat):Int) (n:Int) (u ++ [t])) (fun k=>?_) (Ev.bind (sw hn hx hs) h)⟩;simp only [b7.l0];rw [if_pos (by omega),if_pos (by omega),if_pos (by rw [aA];omega),dO,dg.ej i (by omega)];simp only [if_pos (show u.length < 17592186044416 by omega)]) l.length 0 [] (by omega) rfl (fun hP=>by
  rw [← mJ (rs x) l] at hP ⊢;refine dg.dr 1 fun k hk=>?_
  obtain ⟨m,rfl⟩:∃ m,k = m+1:=⟨k - 1,by omega⟩
  simp only [b7.l0];rw [if_neg (by omega),pM _ (by rw [aA,List.length_map];exact hlen),Option.bind_some];rfl)
 rw [aA];exact h
theorem qX {n:Nat} (hn:n < 6) {x:List Nat} (hx:mH n x = true) {l:List Nat} (hl:∀ s∈l,s < 2 ^ n) (hlen:l.length≤1048576):Ev (fun k=>bU.f k (ints x) (ints l)) (jN x l):=by
 unfold bU.f;refine dg.fe (fun k (u:List Int) i=>bU.l0 k (ints x) (ints l) u i) l.length (fun i s=>s ++ [((rs x (l.getD i 0):Nat):Int)]) (fun i u=>u.length = i) (jN x l) (fun i u hi hP=>by
  have hs:l.getD i 0 < 2 ^ n:=hl _ (dI l 0 i hi);refine ⟨by simp [hP],fun h=>Ev.step (f:=fun k=>(cv.f k (ints x) ((l.getD i 0:Nat):Int)).bind fun t=>bU.l0 k (ints x) (ints l) (u ++ [t]) ((i+1:Nat):Int)) (fun k=>?_) (Ev.bind (sx hn hx hs) h)⟩;simp only [bU.l0];rw [if_pos (by rw [aA];omega),if_pos (by omega),dO,dg.ej i (by omega)];simp only [if_pos (show u.length < 17592186044416 by omega)]) l.length 0 [] (by omega) rfl (fun hP=>by
  rw [← mJ (rs x) l] at hP ⊢;refine Ev.step (f:=fun k=>(aq.f k (ints (l.map (rs x)))).bind fun t=>some t) (fun k=>?_) (Ev.bind (pO _ (by rw [aA,List.length_map];exact hlen)) (Ev.now _));simp only [bU.l0];rw [if_neg (by rw [aA];omega)])
theorem sy (a b:Int):da.f a b = some (if a < b then -1 else if a > b then 1 else 0):=by
 unfold da.f cmp_isNaN_int.f;simp only [Option.bind_some];by_cases h:a < b
 ·simp [h]
 ·by_cases h2:a > b
  ·simp [h,h2]
  ·simp [h,h2]
theorem pY {a b:Int} (h:a = b):da.f a b = some 0:=by
 rw [sy,if_neg (by omega),if_neg (by omega)]
theorem pZ {a b:Int} (h:a < b):da.f a b = some (-1):=by
 rw [sy,if_pos h]
theorem q4 {a b:Int} (h:b < a):da.f a b = some 1:=by
 rw [sy,if_neg (by omega),if_pos h]
theorem fQ (a:List Int) {i:Nat} (h:i < a.length):a.drop i = a.getD i 0 :: a.drop (i+1):=drop_cons a i h
theorem nR (a b:List Int) (ha:a.length≤1048576) (hb:b.length≤1048576):Ev (fun k=>ay.f k a b) (fu a b):=by
 unfold ay.f;have key:∀ d i:Nat,i+d = a.length→i≤b.length→Ev (fun k=>ay.l0 k a b a (a.length:Int) (i:Int)) (fu (a.drop i) (b.drop i)):=by
  intro d;induction d with
  | zero =>
   intro i hi hib;refine dg.dr 1 fun k hk=>?_
   obtain ⟨m,rfl⟩:∃ m,k = m+1:=⟨k - 1,by omega⟩
   simp only [ay.l0];rw [if_neg (by omega),List.drop_eq_nil_of_le (by omega:a.length≤i)];by_cases h:i < b.length
   ·rw [if_pos (by omega),fQ b h]
    rfl
   ·rw [if_neg (by omega),List.drop_eq_nil_of_le (by omega:b.length≤i)]
    rfl
  | succ d ih =>
   intro i hi hib;by_cases h:i < b.length
   ·rw [fQ a (by omega:i < a.length),fQ b h,fu]
    by_cases he:a.getD i 0 = b.getD i 0
    ·rw [if_pos he]
     refine Ev.step (fun k=>?_) (ih (i+1) (by omega) (by omega));simp only [ay.l0];rw [if_pos (by omega),if_pos (by omega),if_pos (by omega),if_neg (by omega),if_pos (by omega),dg.dS,dg.dS,pY he,Option.bind_some,if_pos rfl,dg.ej i (by omega)]
    ·rw [if_neg he]
     refine dg.dr 1 fun k hk=>?_
     obtain ⟨m,rfl⟩:∃ m,k = m+1:=⟨k - 1,by omega⟩
     simp only [ay.l0];rw [if_pos (by omega),if_pos (by omega),if_pos (by omega),if_neg (by omega),if_pos (by omega),dg.dS,dg.dS];by_cases hlt:a.getD i 0 < b.getD i 0
     ·rw [if_pos hlt,pZ hlt,Option.bind_some,if_neg (by decide)]
     ·rw [if_neg hlt,q4 (by omega),Option.bind_some,if_neg (by decide)]
   ·refine dg.dr 1 fun k hk=>?_
    obtain ⟨m,rfl⟩:∃ m,k = m+1:=⟨k - 1,by omega⟩
    simp only [ay.l0];rw [if_pos (by omega),if_pos (by omega),if_pos (by omega),if_pos (by omega),fQ a (by omega:i < a.length),List.drop_eq_nil_of_le (by omega:b.length≤i)];rfl
 exact key a.length 0 (by omega) (Nat.zero_le _)
theorem kn (a b:List Int) (ha:a.length≤1048576) (hb:b.length≤1048576):Ev (fun k=>bH.f k a b) (decide (dZ a b < 0)):=by
 unfold bH.f dZ;by_cases hl:a.length = b.length
 ·simp only [if_pos hl,if_pos (show (a.length:Int) = (b.length:Int) by omega)]
  have key:∀ d i:Nat,i+d = a.length→Ev (fun k=>bH.l0 k a b (i:Int)) (decide (fu (a.drop i) (b.drop i) < 0)):=by
   intro d;induction d with
   | zero =>
    intro i hi;rw [List.drop_eq_nil_of_le (by omega:a.length≤i),List.drop_eq_nil_of_le (by omega:b.length≤i)];refine dg.dr 1 fun k hk=>?_
    obtain ⟨m,rfl⟩:∃ m,k = m+1:=⟨k - 1,by omega⟩
    simp only [bH.l0];rw [if_neg (by omega)];rfl
   | succ d ih =>
    intro i hi;rw [fQ a (by omega:i < a.length),fQ b (by omega:i < b.length),fu];by_cases he:a.getD i 0 = b.getD i 0
    ·rw [if_pos he]
     refine Ev.step (fun k=>?_) (ih (i+1) (by omega));simp only [bH.l0];rw [if_pos (by omega),if_pos (by omega),if_pos (by omega),dg.dS,dg.dS,if_pos he,dg.ej i (by omega)]
    ·rw [if_neg he]
     refine dg.dr 1 fun k hk=>?_
     obtain ⟨m,rfl⟩:∃ m,k = m+1:=⟨k - 1,by omega⟩
     simp only [bH.l0];rw [if_pos (by omega),if_pos (by omega),if_pos (by omega),dg.dS,dg.dS,if_neg he];by_cases hlt:a.getD i 0 < b.getD i 0
     ·rw [if_pos hlt,decide_eq_true hlt]
      rfl
     ·rw [if_neg hlt,decide_eq_false hlt]
      rfl
  exact key a.length 0 (by omega)
 ·simp only [if_neg hl,if_neg (show ¬ (a.length:Int) = (b.length:Int) by omega)]
  have:decide ((a.length:Int) < (b.length:Int)) = decide ((a.length:Int) - (b.length:Int) < 0):=by
   rw [decide_eq_decide];omega
  rw [this];exact Ev.now _
theorem lY (l:List Nat) (x:Nat) (hn:l.length≤1048576):Ev (fun k=>aY.f k (ints l) (x:Int)) (l.contains x):=by
 have h:=dg.dr (l.length+1) fun k hk=>nN l x hn k (by omega)
 refine Ev.congr (fun k=>?_) h;unfold eP.f;cases aY.f k (ints l) (x:Int) <;> rfl
theorem lZ (l:List Nat) (x:Nat) (hn:l.length≤1048576):Ev (fun k=>bP.f k (ints l) (x:Int)) (l.contains x):=dg.dr (l.length+1) fun k hk=>lM l x hn k (by omega)
theorem nn {α β:Type} (F:α→Nat→Option β) (r:α→β):∀ L:List α,(∀ x∈L,Ev (F x) (r x))→∃ K,∀ x∈L,∀ k,K≤k→F x k = some (r x)
 | [],_=>⟨0,fun x hx=>absurd hx List.not_mem_nil⟩
 | x :: L,h=>by
  obtain ⟨j,h1⟩:=h x List.mem_cons_self;obtain ⟨z,h2⟩:=nn F r L fun y hy=>h y (List.mem_cons_of_mem _ hy)
  refine ⟨j+z,fun y hy k hk=>?_⟩;rcases List.mem_cons.1 hy with rfl | hy
  ·exact h1 k (by omega)
  ·exact h2 y hy k (by omega)
theorem kT (l:List Nat) (e:Nat):ints l ++ [(e:Int)] = ints (l ++ [e]):=by simp [ints]
section
variable {n:Nat} (hn:n < 6) (u:Int×List Int→List Nat→Int×List Int) (B:List (Int×List Int)) (G:List Int→Int×List Int→Option (Int×List Int)) (hG:∀ x∈jm n n [],∀ b∈B,G (ints x) b = some (u b x)∧u b x∈B)
include hn hG
theorem nS:∀ (d:Nat) (done:List Nat),done.length+d = n→(∀ x∈jm d n done,x∈jm n n [])→∀ b∈B,Ev (fun k=>ak.f G k (n:Int) (ints done) b) ((jm d n done).foldl u b)∧(jm d n done).foldl u b∈B
 | 0,done,hd,hs,b,hb=>by
  obtain ⟨h1,h2⟩:=hG done (hs done (by simp [jm])) b hb;refine ⟨dg.dr 1 fun k hk=>?_,h2⟩;obtain ⟨m,rfl⟩:∃ m,k = m+1:=⟨k - 1,by omega⟩
  simp only [ak.f];rw [if_pos (by rw [aA];omega)];exact h1
 | d+1,done,hd,hs,b,hb=>by
  have key:∀ (j e:Nat),e+j = n→∀ b∈B,Ev (fun k=>ak.l0 G k (n:Int) (ints done) (e:Int) b) (((List.range' e j).flatMap fun e=>if done.contains e = true then [] else jm d n (done ++ [e])).foldl u b)∧((List.range' e j).flatMap fun e=>if done.contains e = true then [] else jm d n (done ++ [e])).foldl u b∈B:=by
   intro j;induction j with
   | zero =>
    intro e he b hb;refine ⟨dg.dr 1 fun k hk=>?_,hb⟩;obtain ⟨m,rfl⟩:∃ m,k = m+1:=⟨k - 1,by omega⟩
    simp only [ak.l0];rw [if_neg (by omega)];rfl
   | succ j ih =>
    intro e he b hb;rw [List.range'_succ,List.flatMap_cons,List.foldl_append];have hC:=lY done e (by omega);cases hc:done.contains e with
    | true =>
     rw [hc] at hC;simp only [if_true,List.foldl_nil];obtain ⟨h1,h2⟩:=ih (e+1) (by omega) b hb;refine ⟨Ev.step (f:=fun k=>(aY.f k (ints done) (e:Int)).bind fun t=>(if t = true then (ak.l0 G k (n:Int) (ints done) ((e+1:Nat):Int) b) else (if (ints done).length < 17592186044416 then ((ak.f G k (n:Int) (ints done ++ [(e:Int)]) b).bind fun y=>(ak.l0 G k (n:Int) (ints done) ((e+1:Nat):Int) y)) else none))) (fun k=>?_) (Ev.bind hC (Ev.congr (fun k=>if_pos rfl) h1)),h2⟩;simp only [ak.l0];rw [if_pos (by omega),dg.ej e (by omega)]
    | false =>
     rw [hc] at hC;simp only [Bool.false_eq_true,if_false];obtain ⟨h3,h4⟩:=nS d (done ++ [e]) (by rw [List.length_append];simp;omega) (fun x hx=>hs x (by
      rw [jm,List.mem_flatMap];refine ⟨e,List.mem_range'_1.2 ⟨Nat.zero_le _,by omega⟩,?_⟩;rw [hc,if_neg Bool.false_ne_true];exact hx)) b hb
     obtain ⟨h1,h2⟩:=ih (e+1) (by omega) _ h4;rw [← kT] at h3;refine ⟨Ev.step (f:=fun k=>(aY.f k (ints done) (e:Int)).bind fun t=>(if t = true then (ak.l0 G k (n:Int) (ints done) ((e+1:Nat):Int) b) else (if (ints done).length < 17592186044416 then ((ak.f G k (n:Int) (ints done ++ [(e:Int)]) b).bind fun y=>(ak.l0 G k (n:Int) (ints done) ((e+1:Nat):Int) y)) else none))) (fun k=>?_) (Ev.bind hC (Ev.congr (fun k=>if_neg Bool.false_ne_true) (Ev.congr (fun k=>if_pos (by rw [aA];omega)) (Ev.bind h3 h1)))),h2⟩;simp only [ak.l0];rw [if_pos (by omega),dg.ej e (by omega)]
  obtain ⟨h1,h2⟩:=key n 0 (by omega) b hb;refine ⟨Ev.step (fun k=>?_) h1,h2⟩;simp only [ak.f];rw [if_neg (by rw [aA];omega)];rfl
end
section
variable {n:Nat} (hn:n < 6) {l:List Nat} (hl:∀ s∈l,s < 2 ^ n) (ha:l.Pairwise (· < ·)) (hlen:l.length≤1048576)
include hn hl ha hlen
theorem mK:∀ (d:Nat) (done:List Nat),done.length+d = n→(∀ x∈jm d n done,mH n x = true)→∀ c:List Int,c.length≤1048576→Ev (fun k=>aK.f k (n:Int) (ints l) (ints done) c) ((jm d n done).foldl (jn l) c)∧((jm d n done).foldl (jn l) c).length≤1048576
 | 0,done,hd,hs,c,hc=>by
  have hx:=hs done (by simp [jm]);have hr:=jO hx hl ha;have hB:=kn (jN done l) c (by omega) hc;have e:(jm 0 n done).foldl (jn l) c = jn l c done:=rfl;rw [e];refine ⟨Ev.step (f:=fun k=>(bU.f k (ints done) (ints l)).bind fun t=>(if (c.length:Int) = 0 then (some t) else ((bH.f k t c).bind fun t2=>(if t2 = true then (some t) else (some c))))) (fun k=>?_) (Ev.bind (qX hn hx hl hlen) ?_),?_⟩
  ·simp only [aK.f]
   rw [if_pos (by rw [aA];omega)]
  ·unfold jn
   by_cases z:c = []
   ·rw [if_pos z]
    exact Ev.congr (fun k=>if_pos (by rw [z];rfl)) (Ev.now _)
   ·rw [if_neg z]
    have hp:=List.length_pos_iff.2 z;refine Ev.congr (fun k=>if_neg (by omega)) (Ev.bind hB ?_);by_cases hlt:dZ (jN done l) c < 0
    ·rw [if_pos hlt]
     exact Ev.congr (fun k=>if_pos (decide_eq_true hlt)) (Ev.now _)
    ·rw [if_neg hlt]
     exact Ev.congr (fun k=>if_neg (by rw [decide_eq_false hlt];decide)) (Ev.now _)
  ·unfold jn
   split
   ·omega
   ·split
    ·omega
    ·exact hc
 | d+1,done,hd,hs,c,hc=>by
  have key:∀ (j e:Nat),e+j = n→∀ c:List Int,c.length≤1048576→Ev (fun k=>aK.l0 k (ints done) c (e:Int) (n:Int) (ints l)) (((List.range' e j).flatMap fun e=>if done.contains e = true then [] else jm d n (done ++ [e])).foldl (jn l) c)∧(((List.range' e j).flatMap fun e=>if done.contains e = true then [] else jm d n (done ++ [e])).foldl (jn l) c).length≤1048576:=by
   intro j;induction j with
   | zero =>
    intro e he c hc;refine ⟨dg.dr 1 fun k hk=>?_,hc⟩;obtain ⟨m,rfl⟩:∃ m,k = m+1:=⟨k - 1,by omega⟩
    simp only [aK.l0];rw [if_neg (by omega)];rfl
   | succ j ih =>
    intro e he c hc;rw [List.range'_succ,List.flatMap_cons,List.foldl_append];have hC:=lZ done e (by omega);have step:∀ k,aK.l0 (k+1) (ints done) c (e:Int) (n:Int) (ints l) = (bP.f k (ints done) (e:Int)).bind fun t=>(if t = true then (aK.l0 k (ints done) c ((e+1:Nat):Int) (n:Int) (ints l)) else ((aK.f k (n:Int) (ints l) (ints done ++ [(e:Int)]) c).bind fun t1=>(aK.l0 k (ints done) t1 ((e+1:Nat):Int) (n:Int) (ints l)))):=fun k=>by
     simp only [aK.l0,Option.bind_some,List.nil_append];rw [if_pos (by omega),dg.ej e (by omega)];congr 1
     funext t
     rw [if_pos (show ([]:List Int).length+(ints done).length < 17592186044416 by rw [aA];simp;omega),if_pos (show (ints done).length+[(e:Int)].length < 17592186044416 by rw [aA];simp;omega)]
    cases y:done.contains e with
    | true =>
     rw [y] at hC;simp only [if_true,List.foldl_nil];obtain ⟨h1,h2⟩:=ih (e+1) (by omega) c hc;exact ⟨Ev.step step (Ev.bind hC (Ev.congr (fun k=>if_pos rfl) h1)),h2⟩
    | false =>
     rw [y] at hC;simp only [Bool.false_eq_true,if_false];obtain ⟨h3,h4⟩:=mK d (done ++ [e]) (by rw [List.length_append];simp;omega) (fun x hx=>hs x (by
      rw [jm,List.mem_flatMap];refine ⟨e,List.mem_range'_1.2 ⟨Nat.zero_le _,by omega⟩,?_⟩;rw [y,if_neg Bool.false_ne_true];exact hx)) c hc
     obtain ⟨h1,h2⟩:=ih (e+1) (by omega) _ h4;rw [← kT] at h3;exact ⟨Ev.step step (Ev.bind hC (Ev.congr (fun k=>if_neg Bool.false_ne_true) (Ev.bind h3 h1))),h2⟩
  obtain ⟨h1,h2⟩:=key n 0 (by omega) c hc;refine ⟨Ev.step (fun k=>?_) h1,h2⟩;simp only [aK.f];rw [if_neg (by rw [aA];omega)];rfl
theorem qY {x:List Nat} (hx:mH n x = true) (b:Int×List Int) (hb:b.2.length≤1048576):Ev (fun k=>bM.f k (n:Int) (ints l) (ints x) b) (jD n l b x):=by
 have hr:=jO hx hl ha;unfold bM.f;have e:jD n l b x = if fu (jN x l) b.2 < 0 then ((n:Int),jN x l) else b:=rfl
 rw [e];refine Ev.bind (qW hn hx hl hlen) (Ev.bind (nR (jN x l) b.2 (by omega) hb) ?_);by_cases hlt:fu (jN x l) b.2 < 0
 ·rw [if_pos hlt]
  exact Ev.congr (fun k=>by rw [if_pos hlt]) (Ev.now _)
 ·rw [if_neg hlt]
  exact Ev.congr (fun k=>by rw [if_neg hlt]) (Ev.now _)
theorem q5 (J:0 < l.length):Ev (fun k=>ak.f (fun xs b=>bM.f k (n:Int) (ints l) xs b) k (n:Int) [] ((n:Int),ints l)) ((n:Int),canon n l):=by
 have hok:=List.all_eq_true.1 (nk n hn);obtain ⟨B,hB⟩:∃ B:List (Int×List Int),B = ((n:Int),ints l) :: (jm n n []).map fun x=>((n:Int),jN x l):=⟨_,rfl⟩
 have hBl:∀ b∈B,b.2.length≤1048576:=fun b hb=>by
  rw [hB] at hb;rcases List.mem_cons.1 hb with rfl | hb
  ·rw [aA];exact hlen
  ·obtain ⟨x,hx,rfl⟩:=List.mem_map.1 hb
   show (jN x l).length≤1048576;rw [jO (hok x hx) hl ha];exact hlen
 obtain ⟨y,I⟩:=nn (fun (p:List Nat×(Int×List Int)) k=>bM.f k (n:Int) (ints l) (ints p.1) p.2) (fun p=>jD n l p.2 p.1) ((jm n n []).flatMap fun x=>B.map fun b=>(x,b)) (fun p hp=>by
  obtain ⟨x,hx,hp⟩:=List.mem_flatMap.1 hp;obtain ⟨b,hb,rfl⟩:=List.mem_map.1 hp;exact qY hn hl ha hlen (hok x hx) b (hBl b hb))
 have hG:∀ x∈jm n n [],∀ b∈B,bM.f y (n:Int) (ints l) (ints x) b = some (jD n l b x)∧jD n l b x∈B:=fun x hx b hb=>by
  refine ⟨I (x,b) (List.mem_flatMap.2 ⟨x,hx,List.mem_map.2 ⟨b,hb,rfl⟩⟩) y (Nat.le_refl _),?_⟩;unfold jD;split
  ·rw [hB]
   exact List.mem_cons_of_mem _ (List.mem_map.2 ⟨x,hx,rfl⟩)
  ·exact hb
 obtain ⟨⟨M,z⟩,_⟩:=nS hn (jD n l) B (fun xs b=>bM.f y (n:Int) (ints l) xs b) hG n [] (by simp) (fun x hx=>hx) ((n:Int),ints l) (by rw [hB];exact List.mem_cons_self);rw [(gT hn hl ha J).1] at z;refine ⟨y+M+1,fun k hk=>?_⟩;obtain ⟨j,rfl⟩:∃ j,k = j+1:=⟨k - 1,by omega⟩
 exact ak.mono (g:=fun xs b=>bM.f y (n:Int) (ints l) xs b) (g':=fun xs b=>bM.f (j+1) (n:Int) (ints l) xs b) (fun x b r h=>kE (fun i=>bM.mono _ _ _ _ i) (by omega:y≤j+1) h) j (n:Int) [] ((n:Int),ints l) _ (z j (by omega))
end
def ig (n:Int) (l:List Int):Int×List Int×Bool:=if eG n l = true then (n,canon n.toNat (l.map Int.toNat),true) else (0,[],false)
theorem kU (n:Int) (l:List Int) (hl:l.length≤1048576) (h5:n≤5):Ev (fun k=>bV.f k n l) (ig n l):=by
 unfold bV.f ig;refine Ev.bind (jK n l hl) ?_;cases hM:eG n l with
 | false =>
  refine Ev.congr (fun k=>if_neg Bool.false_ne_true) (dg.dr 1 fun k hk=>?_);obtain ⟨m,rfl⟩:∃ m,k = m+1:=⟨k - 1,by omega⟩
  simp only [bV.j0];rfl
 | true =>
  refine Ev.congr (fun k=>if_pos rfl) ?_;rw [decide_eq_false (show ¬ n > 6 by omega)];obtain ⟨m,j,rfl,hm,rfl,y,z,hf⟩:=gR hM;rw [if_pos rfl,Int.toNat_natCast,eV];rw [aA] at hl;have hB:=q5 (n:=m) (by omega) y (j9.iA hM) hl z;refine Ev.step (f:=fun k=>(ak.f (fun xs b=>bM.f k (m:Int) (ints j) xs b) k (m:Int) [] ((m:Int),ints j)).bind fun t=>some (t.1,t.2,true)) (fun k=>?_) (Ev.bind hB (Ev.now _));simp only [bV.j0];rw [if_neg Bool.false_ne_true];unfold bW.f;simp only [Option.bind_some,List.nil_append];rw [if_pos (show ([]:List Int).length+(ints j).length < 17592186044416 by rw [aA];simp;omega)];rfl
theorem kV (n:Int) (l:List Int) (hl:l.length≤1048576) (h5:n≤5):Ev (fun k=>bR.f k n l) (ig n l):=by
 unfold bR.f ig;refine Ev.bind (lP n l hl) ?_;cases hM:eG n l with
 | false=>exact Ev.congr (fun k=>if_neg Bool.false_ne_true) (Ev.now _)
 | true =>
  refine Ev.congr (fun k=>if_pos rfl) (Ev.congr (fun k=>if_neg (by omega)) ?_);obtain ⟨m,y,rfl,hm,rfl,j,z,hf⟩:=gR hM;rw [if_pos rfl,Int.toNat_natCast,eV];rw [aA] at hl;have ha:=j9.iA hM;have hok:=List.all_eq_true.1 (nk m (by omega));obtain ⟨h1,h2⟩:=mK (n:=m) (by omega) j ha hl m [] (by simp) hok [] (by simp);simp only [Option.bind_some,List.nil_append];refine Ev.bind h1 (Ev.congr (fun k=>if_pos ?_) (Ev.now _));show ([]:List Int).length+(canon m y).length < 17592186044416;have:=(gT (by omega) j ha z).2;simp;omega
end Canon
end
section
namespace Count
open Go.RowKit Go.Proofs.YtlfkfdmggpipbaaGreat.Pr Go.Proofs.YtlfkfdmggpipbaaGreat.Sets nZ iS Go.Proofs.YtlfkfdmggpipbaaGreat.Flat ag.b8 ag.ct ag.cu
set_option linter.unusedVariables false
def cO (m:Nat) (r:Int):List Nat:=(List.range' 0 (2 ^ m)).filter fun s=>decide ((cnt s:Int) = r)
theorem fk (m:Nat) (r:Int):(cO m r).length≤2 ^ m:=by
 refine Nat.le_trans (List.length_filter_le _ _) ?_;rw [List.length_range'];exact Nat.le_refl _
theorem q6 (m:Nat) (hm:m≤8) (r:Int) (y:0≤r) (h1:r≤m):Ev (fun k=>eU.f k r (m:Int)) ((m:Int),ints (cO m r)):=by
 have j:=dU hm;have hs:cB.f (m:Int) = some true:=by
  unfold cB.f;rw [if_pos (by omega),decide_eq_true (by omega)]
 unfold eU.f;simp only [hs,Option.bind_some,if_true,if_neg (show ¬ r < 0 by omega),if_neg (show ¬ r > (m:Int) by omega)];refine Ev.bind (n5 m hm (fun _ s=>di.f r s) (fun s=>decide ((cnt s:Int) = r)) (fun s hs=>?_) (fun _ _=>fh.refl _)) (Ev.now _);unfold di.f;rw [kO s (by omega)];exact Ev.now _
theorem q7 (m:Nat) (hm:m≤8) (r:Int) (z:0≤r) (h1:r≤m):Ev (fun k=>bA.f k r (m:Int)) ((m:Int),ints (cO m r)):=by
 have y:=dU hm;have hpos:0 < 2 ^ m:=Nat.pow_pos (by decide);have i1:bL.f (m:Int) 0 8 = some true:=by
  unfold bL.f;rw [if_pos (by omega),decide_eq_true (by omega)]
 have i2:bL.f r 0 (m:Int) = some true:=by
  unfold bL.f;rw [if_pos (by omega),decide_eq_true (by omega)]
 unfold bA.f;simp only [i1,i2,Option.bind_some,if_true,Bool.not_true];refine Ev.step (f:=fun k=>bA.l0 k r (m:Int) 0 (m:Int) []) (fun k=>?_) ?_
 ·simp only [bA.j0]
  rw [if_neg (by decide)]
 ·have e:ints (cO m r) = (List.range' 0 (2 ^ m)).foldl (fun (s:List Int) j=>if decide ((cnt j:Int) = r) = true then s ++ [(j:Int)] else s) []:=(foldl_filter _ _).symm
  rw [e];refine dg.fe (fun k (s:List Int) i=>bA.l0 k r (m:Int) i (m:Int) s) (2 ^ m) (fun i s=>if decide ((cnt i:Int) = r) = true then s ++ [(i:Int)] else s) (fun i s=>s.length≤i) _ (fun i s hi hP=>⟨?_,fun h=>?_⟩) (2 ^ m) 0 [] (by omega) (by simp) (fun _=>dg.dr 1 (fun k hk=>?_))
  ·split
   ·simp;omega
   ·omega
  ·refine Ev.step (f:=fun k=>(aQ.f k (i:Int)).bind fun t226=>(if t226 = r then (bA.l0 k r (m:Int) ((i+1:Nat):Int) (m:Int) (s ++ [(i:Int)])) else (bA.l0 k r (m:Int) ((i+1:Nat):Int) (m:Int) s))) (fun k=>?_) ?_
   ·simp only [bA.l0]
    rw [kP m hm];simp only [Option.bind_some];rw [if_pos (by omega),dg.ej i (by omega)];simp only [if_pos (show s.length < 17592186044416 by omega)]
   ·refine Ev.bind (gQ i (by omega)) ?_
    by_cases hx:(cnt i:Int) = r
    ·rw [if_pos (decide_eq_true hx)] at h
     simp only [if_pos hx];exact h
    ·rw [if_neg (by rw [decide_eq_true_eq];exact hx)] at h
     simp only [if_neg hx];exact h
  ·obtain ⟨q,rfl⟩:∃ q,k = q+1:=⟨k - 1,by omega⟩
   simp only [bA.l0];rw [kP m hm];simp only [Option.bind_some];rw [if_neg (by omega)]
def de (q:List Nat) (x:Nat):List Int:=(List.range' 0 q.length).foldl (fun (s:List Int) i=>if x.testBit i = true then s ++ [((q.getD i 0:Nat):Int)] else s) []
theorem oF (q:List Nat) (x:Nat) (p:List Nat) (s:List Int):(p.foldl (fun (s:List Int) i=>if x.testBit i = true then s ++ [((q.getD i 0:Nat):Int)] else s) s).length≤s.length+p.length:=by
 induction p generalizing s with
 | nil=>simp
 | cons a p ih =>
  rw [List.foldl_cons];refine Nat.le_trans (ih _) ?_;split <;> simp <;> omega
theorem fg (q:List Nat) (x:Nat):(de q x).length≤q.length:=by
 have:=oF q x (List.range' 0 q.length) [];simpa [de] using this
theorem nT (x i:Nat) (hi:i < 62) (hx:x < 2 ^ 62):(Go.bits .and .i64 (shr .i64 (x:Int) (i:Int)) 1 = 1) = (x.testBit i = true):=by
 rw [← lJ x i hi hx,beq_iff_eq]
theorem qZ (q:List Nat) (x:Nat) (hq:q.length≤32) (hx:x < 2 ^ 62):Ev (fun k=>br.f k (ints q) (x:Int)) (de q x):=by
 unfold br.f de;refine dg.fe (fun k (s:List Int) i=>br.l0 k (ints q) (x:Int) s i) q.length (fun i s=>if x.testBit i = true then s ++ [((q.getD i 0:Nat):Int)] else s) (fun i s=>s.length≤i) _ (fun i s hi hP=>⟨?_,fun h=>Ev.step (fun k=>?_) h⟩) q.length 0 [] (by omega) (by simp) (fun _=>dg.dr 1 (fun k hk=>?_))
 ·split
  ·simp;omega
  ·omega
 ·simp only [br.l0]
  rw [if_pos (by rw [aA];omega),jL i (by omega),if_pos (by omega),dO,dg.ej i (by omega)];simp only [nT x i (by omega) hx,if_pos (show (0:Int)≤(i:Int) by omega),if_pos (show s.length < 17592186044416 by omega)];split <;> rfl
 ·obtain ⟨n,rfl⟩:∃ n,k = n+1:=⟨k - 1,by omega⟩
  simp only [br.l0];rw [if_neg (by rw [aA];omega)]
def total (m:Nat) (q:List Nat):List Nat:=(List.range' 1 (2 ^ q.length - 1)).filter fun x=>eG (m:Int) (de q x)
abbrev SM:=dG
theorem oG (m:Nat) (hm:m≤5) (r:Int) (y:0≤r) (h1:r≤m):Ev (fun k=>aG.f k (m:Int) r) ((total m (cO m r)).map fun x=>(⟨(m:Int),de (cO m r) x⟩:SM)):=by
 unfold aG.f;refine Ev.bind (q6 m (by omega) r y h1) ?_;have hq:(cO m r).length≤32:=Nat.le_trans (fk m r) (Nat.pow_le_pow_right (n:=2) (by decide) hm);generalize cO m r = q at *;have hp:2 ^ q.length≤2 ^ 32:=Nat.pow_le_pow_right (by decide) hq;have z:1≤2 ^ q.length:=Nat.one_le_two_pow;have e:(total m q).map (fun x=>(⟨(m:Int),de q x⟩:SM)) = (List.range' 1 (2 ^ q.length - 1)).foldl (fun (s:List SM) x=>if eG (m:Int) (de q x) = true then s ++ [⟨(m:Int),de q x⟩] else s) []:=by
  unfold total;have:∀ (p:List Nat) (s:List SM),p.foldl (fun (s:List SM) x=>if eG (m:Int) (de q x) = true then s ++ [⟨(m:Int),de q x⟩] else s) s = s ++ (p.filter fun x=>eG (m:Int) (de q x)).map (fun x=>(⟨(m:Int),de q x⟩:SM)):=by
   intro p;induction p with
   | nil=>intro s;simp
   | cons a p ih =>
    intro s;rw [List.foldl_cons,ih];cases h:eG (m:Int) (de q a) <;> simp [h]
  rw [this,List.nil_append]
 rw [e];refine dg.fe (fun k (s:List SM) i=>aG.l0 k (m:Int) (ints q) s i) (2 ^ q.length) (fun x s=>if eG (m:Int) (de q x) = true then s ++ [⟨(m:Int),de q x⟩] else s) (fun i s=>s.length≤i) _ (fun x s hx hP=>⟨?_,fun h=>?_⟩) (2 ^ q.length - 1) 1 [] (by omega) (by simp) (fun _=>dg.dr 1 (fun k hk=>?_))
 ·split
  ·simp;omega
  ·omega
 ·refine Ev.step (f:=fun k=>aG.l1 k (m:Int) (ints q) s (x:Int) (ints q) ((ints q).length:Int) 0 (m:Int) []) (fun k=>?_) ?_
  ·simp only [aG.l0]
   rw [aA,ff _ (by omega),if_pos (by omega)]
  ·refine dg.fe (fun k (u:List Int) i=>aG.l1 k (m:Int) (ints q) s (x:Int) (ints q) ((ints q).length:Int) i (m:Int) u) q.length (fun i u=>if x.testBit i = true then u ++ [((q.getD i 0:Nat):Int)] else u) (fun i u=>u.length≤i) _ (fun i u hi hU=>⟨?_,fun h=>Ev.step (fun k=>?_) h⟩) q.length 0 [] (by omega) (by simp) (fun hU=>?_)
   ·split
    ·simp;omega
    ·omega
   ·simp only [aG.l1]
    rw [if_pos (by rw [aA];omega),if_pos (by omega),if_pos (by rw [aA];omega),dO,dg.ej i (by omega)];simp only [nT x i (by omega) (show x < 2 ^ 62 by omega),if_pos (show u.length < 17592186044416 by omega)];split <;> rfl
   ·refine Ev.step (f:=fun k=>(cj.f k (m:Int) (de q x)).bind fun j=>(if j = true then (aG.l0 k (m:Int) (ints q) (s ++ [(⟨(m:Int),de q x⟩:SM)]) ((x+1:Nat):Int)) else (aG.l0 k (m:Int) (ints q) s ((x+1:Nat):Int)))) (fun k=>?_) ?_
    ·simp only [aG.l1]
     rw [if_neg (by rw [aA];omega),dg.ej x (by omega)];simp only [if_pos (show s.length < 4398046511104 by omega)];rfl
    ·have hl:=fg q x
     refine Ev.bind (jK (m:Int) (de q x) (by omega)) ?_;cases hM:eG (m:Int) (de q x) with
     | true =>
      rw [hM] at h;simp only [if_true] at h ⊢;exact h
     | false =>
      rw [hM] at h;simp only [Bool.false_eq_true,if_false] at h ⊢;exact h
 ·obtain ⟨n,rfl⟩:∃ n,k = n+1:=⟨k - 1,by omega⟩
  simp only [aG.l0];rw [aA,ff _ (by omega),if_neg (by omega)]
def count (n r:Int):Int:=if 0≤n∧n≤5∧0≤r∧r≤n then ((total n.toNat (cO n.toNat r)).length:Int) else -1
end Count
end
section
namespace Find
open Go.RowKit Go.Proofs.YtlfkfdmggpipbaaGreat.Pr Go.Proofs.YtlfkfdmggpipbaaGreat.Sets nZ iS Go.Proofs.YtlfkfdmggpipbaaGreat.Flat nu Go.Proofs.YtlfkfdmggpipbaaGreat.Sort sB nv jq sC Go.Proofs.YtlfkfdmggpipbaaGreat.Count ag.b8 ag.ct ag.cu
set_option linter.unusedVariables false
theorem drop_eq {a b:List Int} {i:Nat} (hl:a.length = b.length) (h:i < a.length):(a.drop i = b.drop i)↔(a.getD i 0 = b.getD i 0∧a.drop (i+1) = b.drop (i+1)):=by
 rw [List.drop_eq_getElem_cons h,List.drop_eq_getElem_cons (show i < b.length by omega),List.cons.injEq];have j:a.getD i 0 = a[i]:=by simp [List.getD,h]
 have y:b.getD i 0 = b[i]:=by simp [List.getD,show i < b.length by omega]
 rw [j,y]
theorem kW (a b:List Int) (hl:a.length = b.length) (hn:a.length≤1048576) (L:Nat→Int→Option Bool)
  (hstep:∀ k i,i < a.length→L (k+1) (i:Int) = if a.getD i 0 = b.getD i 0 then L k ((i+1:Nat):Int) else some false)
  (hend:∀ k,L (k+1) (a.length:Int) = some true):Ev (fun k=>L k 0) (decide (a = b)):=by
 have key:∀ d i:Nat,i+d = a.length→Ev (fun k=>L k (i:Int)) (decide (a.drop i = b.drop i)):=by
  intro d;induction d with
  | zero =>
   intro i hi;obtain rfl:i = a.length:=by omega
   rw [List.drop_length,hl,List.drop_length,decide_eq_true rfl,← hl];exact Ev.step (f:=fun _=>some true) (fun k=>hend k) (Ev.now _)
  | succ d ih =>
   intro i hi;have hlt:i < a.length:=by omega
   have hd:=drop_eq (i:=i) hl hlt;by_cases e:a.getD i 0 = b.getD i 0
   ·rw [show decide (a.drop i = b.drop i) = decide (a.drop (i+1) = b.drop (i+1)) by rw [decide_eq_decide,hd];exact ⟨fun h=>h.2,fun h=>⟨e,h⟩⟩]
    refine Ev.step (fun k=>?_) (ih (i+1) (by omega));rw [hstep k i hlt,if_pos e]
   ·rw [decide_eq_false (fun h=>e (hd.1 h).1)]
    refine Ev.step (f:=fun _=>some false) (fun k=>?_) (Ev.now _);rw [hstep k i hlt,if_neg e]
 have:=key a.length 0 (by omega);simpa using this
theorem q8 (n n':Int) (a b:List Int) (hn:a.length≤1048576):Ev (fun k=>cn.f k n a n' b) (decide (n = n') && decide (a = b)):=by
 unfold cn.f;by_cases e:n = n'
 ·simp only [if_pos e,decide_eq_true e,Bool.true_and]
  refine Ev.bind ?_ (Ev.now _);unfold bK.f;by_cases hl:a.length = b.length
  ·simp only [if_pos (show (a.length:Int) = (b.length:Int) by omega)]
   refine kW a b hl hn (fun k i=>bK.l0 k a b (a.length:Int) i) (fun k i hi=>?_) (fun k=>?_)
   ·simp only [bK.l0]
    rw [if_pos (by omega),if_pos (by omega),if_pos (by omega),if_pos (by omega),dg.dS,dg.dS,dg.ej i (by omega)]
   ·simp only [bK.l0]
    rw [if_neg (by omega)]
  ·simp only [if_neg (show ¬ (a.length:Int) = (b.length:Int) by omega)]
   rw [decide_eq_false (fun h=>hl (by rw [h]))];exact Ev.now _
 ·simp only [if_neg e,decide_eq_false e,Bool.false_and]
  exact Ev.now _
theorem nq (n n':Int) (a b:List Int) (hn:a.length≤1048576):Ev (fun k=>aI.f k n a n' b) (decide (n = n') && decide (a = b)):=by
 unfold aI.f;by_cases e:n = n'
 ·simp only [if_pos e,decide_eq_true e,Bool.true_and]
  by_cases hl:a.length = b.length
  ·refine Ev.step (f:=fun k=>aI.l0 k 0 n a n' b) (fun k=>?_) ?_
   ·simp only [aI.j0]
    rw [if_neg (by simp;omega)]
   ·refine kW a b hl hn (fun k i=>aI.l0 k i n a n' b) (fun k i hi=>?_) (fun k=>?_)
    ·simp only [aI.l0]
     rw [if_pos (by omega),if_pos (by omega),if_pos (by omega),dg.dS,dg.dS,dg.ej i (by omega)]
    ·simp only [aI.l0]
     rw [if_neg (by omega)]
  ·rw [decide_eq_false (fun h=>hl (by rw [h]))]
   refine Ev.step (f:=fun _=>some false) (fun k=>?_) (Ev.now _);simp only [aI.j0];rw [if_pos (by simp;omega)]
 ·simp only [if_neg e,decide_eq_false e,Bool.false_and]
  refine Ev.step (f:=fun _=>some false) (fun k=>?_) (Ev.now _);simp only [aI.j0];rw [if_pos (by trivial)]
theorem kX {γ:Type} (L:Nat→Int→Option γ) (M:Nat) (p:Nat→Bool) (v:Nat→γ) (r:γ)
  (hyes:∀ i,i < M→p i = true→Ev (fun k=>L k (i:Int)) (v i))
  (hno:∀ i,i < M→p i = false→∀ x,Ev (fun k=>L k ((i+1:Nat):Int)) x→Ev (fun k=>L k (i:Int)) x)
  (hend:Ev (fun k=>L k (M:Int)) r):Ev (fun k=>L k 0) (match (List.range' 0 M).find? p with | some s=>v s | none=>r):=by
 have key:∀ d i:Nat,i+d = M→Ev (fun k=>L k (i:Int)) (match (List.range' i d).find? p with | some s=>v s | none=>r):=by
  intro d;induction d with
  | zero =>
   intro i hi;obtain rfl:i = M:=by omega
   simpa using hend
  | succ d ih =>
   intro i hi;rw [List.range'_succ,List.find?_cons];cases hp:p i with
   | true=>exact hyes i (by omega) hp
   | false=>exact hno i (by omega) hp _ (ih (i+1) (by omega))
 exact key M 0 (by omega)
end Find
end
section
namespace Canon
open Go.RowKit Go.Proofs.YtlfkfdmggpipbaaGreat.Pr Go.Proofs.YtlfkfdmggpipbaaGreat.Sets nZ iS Go.Proofs.YtlfkfdmggpipbaaGreat.Flat Go.Proofs.YtlfkfdmggpipbaaGreat.Sort sB nv jq iK ag.b8 ag.ct ag.cu
set_option linter.unusedVariables false
abbrev KM:=dG
theorem nU (f:Nat→Int) (p:Nat→Bool):∀ (q:List Nat) (s:List Int),q.foldl (fun (s:List Int) i=>if p i = true then s ++ [f i] else s) s = s ++ (q.filter p).map f
 | [],s=>by simp
 | a :: q,s=>by
  rw [List.foldl_cons,nU f p q];cases h:p a <;> simp [h]
theorem qa (q:List Nat) (x:Nat):Count.de q x = ((List.range' 0 q.length).filter fun i=>x.testBit i).map fun i=>((q.getD i 0:Nat):Int):=by
 unfold Count.de;rw [nU (fun i=>((q.getD i 0:Nat):Int)) (fun i=>x.testBit i),List.nil_append]
theorem r5 {q:List Nat} {x:Nat} {v:Int} (h:v∈Count.de q x):∃ s∈q,v = (s:Int):=by
 rw [qa] at h;obtain ⟨i,hi,rfl⟩:=List.mem_map.1 h;have:=List.mem_range'_1.1 (List.mem_filter.1 hi).1;exact ⟨_,dI q 0 i (by omega),rfl⟩
theorem nV {q:List Nat} (hq:q.Nodup) {x j:Nat} (hj:j < q.length):((q.getD j 0:Nat):Int)∈Count.de q x↔x.testBit j = true:=by
 rw [qa,List.mem_map];constructor
 ·rintro ⟨i,hi,h⟩
  have h1:=List.mem_filter.1 hi;have h2:=List.mem_range'_1.1 h1.1;have h3:q.getD i 0 = q.getD j 0:=by omega
  rw [List.getD_eq_getElem?_getD,List.getD_eq_getElem?_getD,List.getElem?_eq_getElem (by omega:i < q.length),List.getElem?_eq_getElem hj] at h3;have h4:i = j:=(List.getElem_inj hq).1 h3;rw [← h4];exact h1.2
 ·intro h
  exact ⟨j,List.mem_filter.2 ⟨List.mem_range'_1.2 ⟨Nat.zero_le _,by omega⟩,h⟩,rfl⟩
theorem nW {q:List Nat} (hq:q.Nodup) {x y:Nat} (hx:x < 2 ^ q.length) (hy:y < 2 ^ q.length) (h:Count.de q x = Count.de q y):x = y:=by
 apply Nat.eq_of_testBit_eq
 intro j;by_cases hj:j < q.length
 ·rw [Bool.eq_iff_iff,← nV hq hj,← nV hq hj,h]
 ·rw [gP hx (by omega),gP hy (by omega)]
theorem ko (m:Nat) (r:Int):(Count.cO m r).Pairwise (· < ·):=(kR _ _).filter _
theorem oH {m:Nat} {r:Int} {s:Nat} (h:s∈Count.cO m r):s < 2 ^ m∧(cnt s:Int) = r:=by
 unfold Count.cO at h;have h1:=List.mem_filter.1 h;have h2:=List.mem_range'_1.1 h1.1;exact ⟨by omega,of_decide_eq_true h1.2⟩
theorem oI {α σ:Type} (z:α) (f:σ→α→σ):∀ (L:List α) (s:σ),(List.range' 0 L.length).foldl (fun s i=>f s (L.getD i z)) s = L.foldl f s:=by
 intro L;have key:∀ (d i:Nat) (s:σ),i+d = L.length→(List.range' i d).foldl (fun s i=>f s (L.getD i z)) s = (L.drop i).foldl f s:=by
  intro d;induction d with
  | zero =>
   intro i s hi;rw [List.drop_eq_nil_of_le (by omega)];rfl
  | succ d ih =>
   intro i s hi;rw [List.range'_succ,List.foldl_cons,ih (i+1) _ (by omega),List.drop_eq_getElem_cons (by omega:i < L.length),List.foldl_cons,List.getD_eq_getElem?_getD,List.getElem?_eq_getElem (by omega)];rfl
 intro s;rw [key L.length 0 s (by omega),List.drop_zero]
theorem kr {α:Type} (p:α→Bool):∀ (L s:List α),L.foldl (fun s e=>if p e = true then s ++ [e] else s) s = s ++ L.filter p
 | [],s=>by simp
 | e :: L,s=>by
  rw [List.foldl_cons,kr p L];cases h:p e <;> simp [h]
def iF (a:KM):List KM→List KM
 | []=>[a]
 | e :: S=>if dZ a.f1 e.f1 < 0 then a :: e :: S else e :: iF a S
theorem iC (a:KM):∀ S:List KM,(iF a S).Perm (a :: S)
 | []=>List.Perm.refl _
 | e :: S=>by
  unfold iF;split
  ·exact List.Perm.refl _
  ·exact ((iC a S).cons e).trans (List.Perm.swap a e S)
theorem jy (a:KM):∀ S:List KM,S.Pairwise (fun x y=>dZ x.f1 y.f1 < 0)→(∀ e∈S,e.f1≠a.f1)→(iF a S).Pairwise (fun x y=>dZ x.f1 y.f1 < 0)
 | [],_,_=>List.pairwise_singleton _ _
 | e :: S,h,hne=>by
  obtain ⟨h1,h2⟩:=List.pairwise_cons.1 h;unfold iF;by_cases hlt:dZ a.f1 e.f1 < 0
  ·rw [if_pos hlt]
   refine List.pairwise_cons.2 ⟨fun y hy=>?_,h⟩;rcases List.mem_cons.1 hy with rfl | hy
   ·exact hlt
   ·exact gN _ _ _ hlt (h1 y hy)
  ·rw [if_neg hlt]
   have hea:dZ e.f1 a.f1 < 0:=by
    have h3:=fq e.f1 a.f1;have h4:dZ e.f1 a.f1≠0:=fun h5=>hne e List.mem_cons_self (j3 _ _ h5)
    omega
   refine List.pairwise_cons.2 ⟨fun y hy=>?_,jy a S h2 fun x hx=>hne x (List.mem_cons_of_mem _ hx)⟩;rcases List.mem_cons.1 ((iC a S).mem_iff.1 hy) with rfl | hy
   ·exact hea
   ·exact h1 y hy
theorem mL:∀ (L S:List KM),(L.map fun x=>x.f1).Nodup→(∀ e∈S,∀ x∈L,e.f1≠x.f1)→S.Pairwise (fun x y=>dZ x.f1 y.f1 < 0)→(L.foldl (fun S a=>iF a S) S).Pairwise (fun x y=>dZ x.f1 y.f1 < 0)∧(L.foldl (fun S a=>iF a S) S).Perm (L ++ S)
 | [],S,_,_,hS=>⟨hS,List.Perm.refl _⟩
 | a :: L,S,hn,hd,hS=>by
  rw [List.map_cons,List.nodup_cons] at hn;have hins:=jy a S hS fun e he=>hd e he a List.mem_cons_self
  have hp:=iC a S;rw [List.foldl_cons];obtain ⟨h1,h2⟩:=mL L (iF a S) hn.2 (fun e he x hx=>by
   rcases List.mem_cons.1 (hp.mem_iff.1 he) with rfl | he
   ·exact fun h=>hn.1 (by rw [h];exact List.mem_map_of_mem hx)
   ·exact hd e he x (List.mem_cons_of_mem _ hx)) hins
  refine ⟨h1,h2.trans ?_⟩;exact (hp.append_left L).trans List.perm_middle
theorem oJ {m:Int} {L:List KM} (hn:(L.map fun x=>x.f1).Nodup) (I:∀ e∈L,e.f0 = m):L.foldl (fun S a=>iF a S) [] = gg L:=by
 obtain ⟨h1,h2⟩:=mL L [] hn (fun e he=>absurd he List.not_mem_nil) List.Pairwise.nil;rw [List.append_nil] at h2;have h3:(gg L).Perm L:=List.mergeSort_perm _ _;have h4:(gg L).Pairwise (fun x y=>(!decide (dZ y.f1 x.f1 < 0)) = true):=by
  refine List.pairwise_mergeSort (fun x y z hxy hyz=>?_) (fun x y=>?_) L
  ·simp only [Bool.not_eq_true',decide_eq_false_iff_not] at *
   intro hzx;have j:=fq x.f1 y.f1;by_cases he:dZ x.f1 y.f1 = 0
   ·rw [j3 _ _ he] at hzx
    exact hyz hzx
   ·exact hyz (gN _ _ _ hzx (by omega))
  ·have j:=fq x.f1 y.f1
   simp only [Bool.or_eq_true,Bool.not_eq_true',decide_eq_false_iff_not];omega
 refine List.Perm.eq_of_pairwise (le:=fun x y:KM=>(!decide (dZ y.f1 x.f1 < 0)) = true) ?_ ?_ h4 (h2.trans h3.symm)
 ·intro a b ha hb hab hba
  simp only [Bool.not_eq_true',decide_eq_false_iff_not] at hab hba;have j:=fq a.f1 b.f1;have J:=j3 a.f1 b.f1 (by omega);have M:=I a (h2.mem_iff.1 ha);have U:=I b (h3.mem_iff.1 hb);cases a
  cases b
  simp only at J M U;rw [J,M,U]
 ·refine h1.imp fun {x y} h=>?_
  have j:=fq x.f1 y.f1;simp only [Bool.not_eq_true',decide_eq_false_iff_not];omega
theorem qb (a b:List Int) (ha:a.length≤1048576) (hb:b.length≤1048576):wrap64 ((a.length:Int) - (b.length:Int)) = (a.length:Int) - (b.length:Int):=dg.sj (by omega) (by omega)
theorem oK (a b:KM) (ha:a.f1.length≤1048576) (hb:b.f1.length≤1048576):Ev (fun k=>cC.f k a.f0 a.f1 b.f0 b.f1) (dZ a.f1 b.f1):=by
 unfold cC.f;refine Ev.bind ?_ (Ev.now _);unfold cq.f dZ;by_cases hl:a.f1.length = b.f1.length
 ·simp only [if_pos hl,if_pos (show (a.f1.length:Int) = (b.f1.length:Int) by omega)]
  exact Ev.bind (nR _ _ ha hb) (Ev.now _)
 ·simp only [if_neg hl,if_neg (show ¬ (a.f1.length:Int) = (b.f1.length:Int) by omega)]
  rw [qb _ _ ha hb];exact Ev.now _
theorem tr {L:List KM} (hl:∀ e∈L,e.f1.length≤1048576) (hn:(L.map fun x=>x.f1).Nodup) (hlen:L.length < 4398046511104):Ev (fun k=>pF k L) (gg L):=by
 obtain ⟨K,hK⟩:=nn (fun (p:KM×KM) k=>cC.f k p.1.f0 p.1.f1 p.2.f0 p.2.f1) (fun p=>dZ p.1.f1 p.2.f1) (L.flatMap fun x=>L.map fun y=>(x,y)) (fun p hp=>by
  obtain ⟨x,hx,hp⟩:=List.mem_flatMap.1 hp;obtain ⟨y,hy,rfl⟩:=List.mem_map.1 hp;exact oK x y (hl x hx) (hl y hy))
 refine ⟨K,fun k hk=>?_⟩;have hok:qo k L = true:=by
  unfold qo;rw [Bool.and_eq_true];refine ⟨List.all_eq_true.2 fun x hx=>List.all_eq_true.2 fun y hy=>?_,decide_eq_true hn⟩;exact decide_eq_true (hK (x,y) (List.mem_flatMap.2 ⟨x,hx,List.mem_map.2 ⟨y,hy,rfl⟩⟩) k hk)
 show pF k L = some (gg L);unfold pF;rw [if_pos hlen,if_pos hok]
def kp (m:Nat) (e:KM):Bool:=decide (canon m (e.f1.map Int.toNat) = e.f1)
def nr (m:Nat) (q:List Nat) (x:Nat):KM:=⟨(m:Int),Count.de q x⟩
def gD (m:Nat) (q:List Nat) (x:Nat):Bool:=eG (m:Int) (Count.de q x) && kp m (nr m q x)
def jo (m:Nat) (q:List Nat):List KM:=((List.range' 1 (2 ^ q.length - 1)).filter (gD m q)).map (nr m q)
def nt (m:Nat) (r:Int):List KM:=gg (jo m (Count.cO m r))
theorem kY (m:Nat) (q:List Nat):((Count.total m q).map (nr m q)).filter (kp m) = jo m q:=by
 unfold jo Count.total;rw [List.filter_map,List.filter_filter];congr 1
 refine List.filter_congr fun x _=>?_
 unfold gD;rw [Bool.and_comm];rfl
theorem qc {q:List Nat} (hq:q.length≤32):2 ^ q.length≤4294967296:=Nat.pow_le_pow_right (n:=2) (by decide) hq
theorem nX (m:Nat) {q:List Nat} (hq:q.length≤32):(jo m q).length < 4398046511104:=by
 unfold jo;have h1:=qc hq;have h2:=List.length_filter_le (gD m q) (List.range' 1 (2 ^ q.length - 1));rw [List.length_range'] at h2;rw [List.length_map];omega
theorem qd (m:Nat) {q:List Nat} (hq:q.length≤32):∀ e∈jo m q,e.f1.length≤1048576:=fun e he=>by
 unfold jo at he;obtain ⟨x,_,rfl⟩:=List.mem_map.1 he;have:=Count.fg q x;show (Count.de q x).length≤1048576;omega
theorem sA (m:Nat) (q:List Nat):∀ e∈jo m q,e.f0 = (m:Int):=fun e he=>by
 unfold jo at he;obtain ⟨x,_,rfl⟩:=List.mem_map.1 he;rfl
theorem kZ {α β:Type} {f:α→β}:∀ {L:List α},L.Nodup→(∀ a∈L,∀ b∈L,f a = f b→a = b)→(L.map f).Nodup
 | [],_,_=>List.nodup_nil
 | a :: L,hn,hi=>by
  rw [List.nodup_cons] at hn;rw [List.map_cons,List.nodup_cons];refine ⟨fun hm=>?_,kZ hn.2 fun x hx y hy=>hi x (List.mem_cons_of_mem _ hx) y (List.mem_cons_of_mem _ hy)⟩;obtain ⟨b,hb,he⟩:=List.mem_map.1 hm;have:=hi b (List.mem_cons_of_mem _ hb) a List.mem_cons_self he;rw [this] at hb;exact hn.1 hb
theorem l5 (m:Nat) {q:List Nat} (hq:q.Nodup):((jo m q).map fun x=>x.f1).Nodup:=by
 unfold jo;rw [List.map_map];refine kZ ((iB (kR _ _)).filter _) fun a ha b hb h=>?_
 have h1:=List.mem_range'_1.1 (List.mem_filter.1 ha).1;have h2:=List.mem_range'_1.1 (List.mem_filter.1 hb).1;have hp:=Nat.one_le_two_pow (n:=q.length);exact nW hq (by omega) (by omega) h
theorem rC (n r:Int):dy.f n r = some (decide (0≤n∧n≤5∧0≤r∧r≤n)):=by
 unfold dy.f;by_cases a:n≥0
 ·by_cases b:n≤5
  ·by_cases c:r≥0
   ·rw [if_pos a,if_pos b,if_pos c]
    congr 1
    rw [decide_eq_decide];omega
   ·rw [if_pos a,if_pos b,if_neg c,decide_eq_false (by omega)]
  ·rw [if_pos a,if_neg b,decide_eq_false (by omega)]
 ·rw [if_neg a,decide_eq_false (by omega)]
theorem r6 (m:Nat) (hm:m≤5) (r:Int) (U:0≤r) (h1:r≤m):Ev (fun k=>bq.f k (m:Int) r) (nt m r):=by
 have hq:(Count.cO m r).length≤32:=Nat.le_trans (Count.fk m r) (Nat.pow_le_pow_right (n:=2) (by decide) hm);have z:=iB (ko m r);unfold bq.f;simp only [rC,Option.bind_some,decide_eq_true (show 0≤(m:Int)∧(m:Int)≤5∧0≤r∧r≤(m:Int) by omega),if_true];refine Ev.bind (Count.oG m hm r U h1) ?_;have y:nt m r = gg (((Count.total m (Count.cO m r)).map (nr m (Count.cO m r))).filter (kp m)):=by
  rw [kY];rfl
 have hsel:=kY m (Count.cO m r);have hsl:=nX m hq;have hsf:=qd m hq;have hsn:=l5 m z;rw [← hsel] at hsl hsf hsn;rw [y];show Ev (fun k=>bq.l0 k [] ((Count.total m (Count.cO m r)).map (nr m (Count.cO m r))) (((Count.total m (Count.cO m r)).map (nr m (Count.cO m r))).length:Int) 0) _;have hL:∀ e∈(Count.total m (Count.cO m r)).map (nr m (Count.cO m r)),e.f0 = (m:Int)∧eG (m:Int) e.f1 = true∧e.f1.length≤1048576:=fun e he=>by
  obtain ⟨x,hx,rfl⟩:=List.mem_map.1 he;unfold Count.total at hx;have:=Count.fg (Count.cO m r) x;refine ⟨rfl,(List.mem_filter.1 hx).2,?_⟩;show (Count.de (Count.cO m r) x).length≤1048576;omega
 have X:((Count.total m (Count.cO m r)).map (nr m (Count.cO m r))).length≤4294967296:=by
  rw [List.length_map];unfold Count.total;refine Nat.le_trans (List.length_filter_le _ _) ?_;rw [List.length_range'];have:=qc hq;omega
 generalize (Count.total m (Count.cO m r)).map (nr m (Count.cO m r)) = L at *;have hz:∀ i,av L (i:Nat) = L.getD i z37:=fun i=>rfl
 refine dg.fe (fun k (s:List KM) i=>bq.l0 k s L (L.length:Int) i) L.length (fun i s=>if kp m (L.getD i z37) = true then s ++ [L.getD i z37] else s) (fun i s=>s.length≤i) _ (fun i s hi hP=>⟨?_,fun h=>?_⟩) L.length 0 [] (by omega) (by simp) (fun hP=>?_)
 ·split
  ·simp;omega
  ·omega
 ·obtain ⟨e,he⟩:∃ e,L.getD i z37 = e:=⟨_,rfl⟩
  have hmem:e∈L:=by
   rw [← he];exact dI L _ i hi
  obtain ⟨I,a2,a3⟩:=hL e hmem;rw [he] at h;have hcan:=kU e.f0 e.f1 a3 (by omega);unfold ig at hcan;rw [I,if_pos a2,Int.toNat_natCast] at hcan;have j:(canon m (e.f1.map Int.toNat)).length≤1048576:=by
   obtain ⟨m',lN,e1,hm',J,M,h0',hf⟩:=gR a2;have Y:m' = m:=by omega
   subst Y;rw [J,eV,(gT (by omega) M (j9.iA (by rw [← J];exact a2)) h0').2];rw [J,aA] at a3;exact a3
  have heq:=Find.q8 (m:Int) (m:Int) (canon m (e.f1.map Int.toNat)) e.f1 j;rw [decide_eq_true rfl,Bool.true_and] at heq;refine Ev.step (f:=fun k=>(bV.f k (m:Int) e.f1).bind fun bt=>(cn.f k bt.1 bt.2.1 (m:Int) e.f1).bind fun t=>(if t = true then bq.l0 k (s ++ [e]) L (L.length:Int) ((i+1:Nat):Int) else bq.l0 k s L (L.length:Int) ((i+1:Nat):Int))) (fun k=>?_) (Ev.bind hcan (Ev.bind heq ?_))
  ·simp only [bq.l0]
   rw [if_pos (by omega),if_pos (by omega),if_pos (by omega),hz,he,I,dg.ej i (by omega)];simp only [if_pos (show s.length < 4398046511104 by omega)];have ee:(⟨(m:Int),e.f1⟩:KM) = e:=by rw [← I]
   rw [ee]
  ·by_cases hk:kp m e = true
   ·rw [if_pos hk] at h
    exact Ev.congr (fun k=>if_pos hk) h
   ·rw [if_neg hk] at h
    exact Ev.congr (fun k=>if_neg hk) h
 ·rw [oI z37 (fun s e=>if kp m e = true then s ++ [e] else s) L [],kr,List.nil_append] at hP ⊢
  refine Ev.step (fun k=>?_) (tr hsf hsn hsl);simp only [bq.l0];rw [if_neg (by omega)]
theorem r7 (n n':Int) (a b:List Int) (s t:Nat) (j:0 < a.length) (y:0 < b.length) (ha:a.length≤1048576) (hb:b.length≤1048576) (has:a.getD 0 0 = (s:Int)) (hbt:b.getD 0 0 = (t:Int)) (hs:s < 256) (ht:t < 256) (hc:cnt s = cnt t):Ev (fun k=>cZ.f k n a n' b) (decide (dZ a b < 0)):=by
 have z:rd a 0 = (s:Int):=has;have I:rd b 0 = (t:Int):=hbt;unfold cZ.f;refine Ev.congr (fun k=>if_pos (by omega)) ?_;rw [z,I];refine Ev.bind (gQ s hs) (Ev.congr (fun k=>if_pos (by omega)) (Ev.bind (gQ t ht) (Ev.congr (fun k=>if_pos (by rw [hc])) (Ev.bind (kn a b ha hb) (Ev.now _)))))
theorem qe (n:Int) (l:List Int) (hl:l.length≤1048576):cA.f n l = some (n,l):=by
 unfold cA.f;simp only [Option.bind_some,List.nil_append];rw [if_pos (by simp;omega)]
theorem r8 (a:KM) (S:List KM) (hS:S.length≤4294967296) (ha:a.f1.length≤1048576) (hne:∀ e∈S,e.f1≠a.f1) (hl:∀ e∈S,e.f1.length≤1048576) (hB:∀ e∈S,Ev (fun k=>cZ.f k a.f0 a.f1 e.f0 e.f1) (decide (dZ a.f1 e.f1 < 0))):Ev (fun k=>aH.f k S a.f0 a.f1) (iF a S):=by
 have hz:∀ i,av S (i:Nat) = S.getD i z37:=fun i=>rfl
 have key:∀ d i:Nat,i+d = S.length→(∀ out:List KM,out.length≤i+1→Ev (fun k=>aH.l0 k S out true (i:Int) a.f0 a.f1) (out ++ S.drop i))∧(∀ out:List KM,out.length≤i→Ev (fun k=>aH.l0 k S out false (i:Int) a.f0 a.f1) (out ++ iF a (S.drop i))):=by
  intro d;induction d with
  | zero =>
   intro i hi;rw [List.drop_eq_nil_of_le (by omega)];refine ⟨fun out ho=>dg.dr 1 fun k hk=>?_,fun out ho=>dg.dr 1 fun k hk=>?_⟩
   ·obtain ⟨m,rfl⟩:∃ m,k = m+1:=⟨k - 1,by omega⟩
    simp only [aH.l0];rw [if_neg (by omega),if_pos trivial,List.append_nil]
   ·obtain ⟨m,rfl⟩:∃ m,k = m+1:=⟨k - 1,by omega⟩
    simp only [aH.l0];rw [if_neg (by omega),if_neg Bool.false_ne_true,qe _ _ ha,Option.bind_some,if_pos (by omega)];rfl
  | succ d ih =>
   intro i hi;obtain ⟨h1,h2⟩:=ih (i+1) (by omega);obtain ⟨e,he⟩:∃ e,S.getD i z37 = e:=⟨_,rfl⟩
   have hmem:e∈S:=by
    rw [← he];exact dI S _ i (by omega)
   have hd:S.drop i = e :: S.drop (i+1):=by
    rw [List.drop_eq_getElem_cons (by omega:i < S.length),← he,List.getD_eq_getElem?_getD,List.getElem?_eq_getElem (by omega)];rfl
   have heq:=Find.nq e.f0 a.f0 e.f1 a.f1 (hl e hmem);rw [decide_eq_false (hne e hmem),Bool.and_false] at heq;rw [hd];have st:∀ (out:List KM) (b:Bool) (r:List KM),Ev (fun k=>aH.j1 k S out b (i:Int) a.f0 a.f1) r→Ev (fun k=>aH.l0 k S out b (i:Int) a.f0 a.f1) r:=fun out b r h=>by
    refine Ev.step (f:=fun k=>(aI.f k e.f0 e.f1 a.f0 a.f1).bind fun t=>(if t = true then (aH.j1 k S out true (i:Int) a.f0 a.f1) else (aH.j1 k S out b (i:Int) a.f0 a.f1))) (fun k=>?_) (Ev.bind heq (Ev.congr (fun k=>if_neg Bool.false_ne_true) h));simp only [aH.l0];rw [if_pos (by omega),if_pos (by omega),hz,he]
   refine ⟨fun out ho=>st _ _ _ ?_,fun out ho=>st _ _ _ ?_⟩
   ·have h3:=h1 (out ++ [e]) (by simp;omega)
    rw [List.append_assoc] at h3;refine Ev.step (fun k=>?_) h3;simp only [aH.j1];rw [if_pos trivial,if_pos (by omega),if_pos (by omega),if_pos (by omega),hz,he,dg.ej i (by omega)]
   ·have hb:=hB e hmem
    unfold iF;by_cases hlt:dZ a.f1 e.f1 < 0
    ·rw [if_pos hlt]
     have h3:=h1 ((out ++ [a]) ++ [e]) (by simp;omega);rw [List.append_assoc,List.append_assoc] at h3;refine Ev.step (f:=fun k=>(cZ.f k a.f0 a.f1 e.f0 e.f1).bind fun t=>(if t = true then (aH.l0 k S ((out ++ [a]) ++ [e]) true ((i+1:Nat):Int) a.f0 a.f1) else (aH.l0 k S (out ++ [e]) false ((i+1:Nat):Int) a.f0 a.f1))) (fun k=>?_) (Ev.bind hb (Ev.congr (fun k=>if_pos (decide_eq_true hlt)) (by simpa only [List.append_assoc,List.cons_append,List.nil_append] using h3)));simp only [aH.j1];rw [if_neg Bool.false_ne_true,if_pos (by omega),if_pos (by omega),hz,he,dg.ej i (by omega),qe _ _ ha];simp only [Option.bind_some,if_pos (show out.length < 4398046511104 by omega),if_pos (show (out ++ [a]).length < 4398046511104 by simp;omega)]
    ·rw [if_neg hlt]
     have h3:=h2 (out ++ [e]) (by simp;omega);rw [List.append_assoc] at h3;refine Ev.step (f:=fun k=>(cZ.f k a.f0 a.f1 e.f0 e.f1).bind fun t=>(if t = true then (aH.l0 k S ((out ++ [a]) ++ [e]) true ((i+1:Nat):Int) a.f0 a.f1) else (aH.l0 k S (out ++ [e]) false ((i+1:Nat):Int) a.f0 a.f1))) (fun k=>?_) (Ev.bind hb (Ev.congr (fun k=>if_neg (by rw [decide_eq_false hlt];decide)) h3));simp only [aH.j1];rw [if_neg Bool.false_ne_true,if_pos (by omega),if_pos (by omega),hz,he,dg.ej i (by omega),qe _ _ ha];simp only [Option.bind_some,if_pos (show out.length < 4398046511104 by omega),if_pos (show (out ++ [a]).length < 4398046511104 by simp;omega)]
 have h:=(key S.length 0 (by omega)).2 [] (by simp);rw [List.drop_zero,List.nil_append] at h;unfold aH.f;exact h
end Canon
end
section
namespace Canon
open Go.RowKit Go.Proofs.YtlfkfdmggpipbaaGreat.Pr Go.Proofs.YtlfkfdmggpipbaaGreat.Sets nZ iS Go.Proofs.YtlfkfdmggpipbaaGreat.Flat nu Go.Proofs.YtlfkfdmggpipbaaGreat.Sort sB nv jq iK ag.b8 ag.ct ag.cu
set_option linter.unusedVariables false
theorem oL {m:Nat} (hm:m≤8) {r:Int} {x:Nat} (hM:eG (m:Int) (Count.de (Count.cO m r) x) = true):0 < (Count.de (Count.cO m r) x).length∧∃ s:Nat,(Count.de (Count.cO m r) x).getD 0 0 = (s:Int)∧s < 256∧(cnt s:Int) = r:=by
 have hp:2 ^ m≤2 ^ 8:=Nat.pow_le_pow_right (by decide) hm;have j:0 < (Count.de (Count.cO m r) x).length:=by
  obtain ⟨m',y,_,_,e,_,j,_⟩:=gR hM;rw [e,aA];exact j
 obtain ⟨s,hs,he⟩:=r5 (dI (Count.de (Count.cO m r) x) 0 0 j);obtain ⟨h1,h2⟩:=oH hs;exact ⟨j,s,he,by omega,h2⟩
theorem qf (m:Nat) (q:List Nat):(List.range' 1 (2 ^ q.length - 1)).foldl (fun (S:List KM) x=>if gD m q x = true then iF (nr m q x) S else S) [] = (jo m q).foldl (fun S a=>iF a S) []:=by
 unfold jo;rw [List.foldl_map,Act.kg]
theorem tx (a b c:Int):bL.f a b c = some (decide (b≤a∧a≤c)):=by
 unfold bL.f;by_cases h:a≥b
 ·rw [if_pos h]
  congr 1
  rw [decide_eq_decide];omega
 ·rw [if_neg h,decide_eq_false (by omega)]
theorem r9 (m:Nat) (hm:m≤5) (r:Int) (h0:0≤r) (h1:r≤m):Ev (fun k=>aD.f k (m:Int) r) (nt m r):=by
 have hq:(Count.cO m r).length≤32:=Nat.le_trans (Count.fk m r) (Nat.pow_le_pow_right (n:=2) (by decide) hm);have Y:=iB (ko m r);have a0:nt m r = (List.range' 1 (2 ^ (Count.cO m r).length - 1)).foldl (fun (S:List KM) x=>if gD m (Count.cO m r) x = true then iF (nr m (Count.cO m r) x) S else S) []:=by
  rw [qf,oJ (l5 m Y) (sA m _)];rfl
 unfold aD.f;simp only [Option.bind_some,tx,decide_eq_true (show (0:Int)≤m∧(m:Int)≤5 by omega),decide_eq_true (show 0≤r∧r≤(m:Int) by omega),if_true,Bool.not_true];refine Ev.step (f:=fun k=>(eA.f k (m:Int) r).bind fun t=>aD.l0 k (m:Int) [] t 1) (fun k=>?_) (Ev.bind (a:=ints (Count.cO m r)) ?_ ?_)
 ·simp only [aD.j0]
  rw [if_neg Bool.false_ne_true]
 ·unfold eA.f
  exact Ev.bind (Count.q7 m (by omega) r h0 h1) (Ev.now _)
 ·rw [a0]
  have hfirst:=fun (x:Nat)=>oL (m:=m) (r:=r) (by omega) (x:=x)
  generalize Count.cO m r = q at *;have hp:=qc hq;have a9:=Nat.one_le_two_pow (n:=q.length);have hsh:shl .i64 1 (IntKind.u64.wrap ((ints q).length:Int)) = ((2 ^ q.length:Nat):Int):=by
   rw [aA,jL _ (by omega),ff _ (by omega)]
  have hu:(0:Int)≤IntKind.u64.wrap ((ints q).length:Int):=by
   rw [aA,jL _ (by omega)];omega
  refine dg.fe (fun k (S:List KM) i=>aD.l0 k (m:Int) S (ints q) i) (2 ^ q.length) (fun x S=>if gD m q x = true then iF (nr m q x) S else S) (fun i S=>S.length≤i∧∀ e∈S,∃ y,y < i∧gD m q y = true∧e = nr m q y) _ (fun x S hx hP=>⟨?_,fun h=>?_⟩) (2 ^ q.length - 1) 1 [] (by omega) ⟨by simp,fun e he=>absurd he List.not_mem_nil⟩ (fun hP=>?_)
  ·split
   ·next hk =>
    have hpm:=iC (nr m q x) S;refine ⟨by rw [hpm.length_eq,List.length_cons];have:=hP.1;omega,fun e he=>?_⟩;rcases List.mem_cons.1 (hpm.mem_iff.1 he) with rfl | he
    ·exact ⟨x,by omega,hk,rfl⟩
    ·obtain ⟨y,hy,h2⟩:=hP.2 e he
     exact ⟨y,by omega,h2⟩
   ·refine ⟨by have:=hP.1;omega,fun e he=>?_⟩
    obtain ⟨y,hy,h2⟩:=hP.2 e he;exact ⟨y,by omega,h2⟩
  ·have hfl:=Count.fg q x
   have aa:=hP.1;refine Ev.step (f:=fun k=>(br.f k (ints q) (x:Int)).bind fun z=>((bT.f k (m:Int) z).bind fun J=>(if J = true then ((bR.f k (m:Int) z).bind fun I=>((aI.f k I.1 I.2.1 (m:Int) z).bind fun M=>(if M = true then ((aH.f k S (m:Int) z).bind fun U=>(aD.l0 k (m:Int) U (ints q) ((x+1:Nat):Int))) else (aD.l0 k (m:Int) S (ints q) ((x+1:Nat):Int))))) else (aD.l0 k (m:Int) S (ints q) ((x+1:Nat):Int))))) (fun k=>?_) (Ev.bind (Count.qZ q x hq (by omega)) (Ev.bind (lP (m:Int) (Count.de q x) (by omega)) ?_))
   ·simp only [aD.l0]
    rw [if_pos hu,hsh,if_pos (by omega),dg.ej x (by omega)]
   ·cases hM:eG (m:Int) (Count.de q x) with
    | false =>
     have hk:gD m q x = false:=by
      unfold gD;rw [hM,Bool.false_and]
     rw [hk,if_neg Bool.false_ne_true] at h;exact Ev.congr (fun k=>if_neg Bool.false_ne_true) h
    | true =>
     have hcan:=kV (m:Int) (Count.de q x) (by omega) (by omega);unfold ig at hcan;rw [if_pos hM,Int.toNat_natCast] at hcan;have X:(canon m ((Count.de q x).map Int.toNat)).length≤1048576:=by
      obtain ⟨m',lN,e1,hm',e2,a1,h0',hf⟩:=gR hM;have e3:m' = m:=by omega
      subst e3;rw [e2,eV,(gT (by omega) a1 (j9.iA (by rw [← e2];exact hM)) h0').2];rw [e2,aA] at hfl;omega
     have heq:=Find.nq (m:Int) (m:Int) (canon m ((Count.de q x).map Int.toNat)) (Count.de q x) X;rw [decide_eq_true rfl,Bool.true_and] at heq;have hkk:gD m q x = decide (canon m ((Count.de q x).map Int.toNat) = Count.de q x):=by
      unfold gD;rw [hM,Bool.true_and];rfl
     refine Ev.congr (fun k=>if_pos rfl) (Ev.bind hcan (Ev.bind heq ?_));rw [← hkk];by_cases hk:gD m q x = true
     ·rw [if_pos hk] at h
      obtain ⟨a2,s,a3,a4,ab⟩:=hfirst x hM;have hput:=r8 (nr m q x) S (by omega) (show (Count.de q x).length≤1048576 by omega) (fun e he=>by
       obtain ⟨y,hy,_,rfl⟩:=hP.2 e he;intro hee;have:=nW Y (by omega) hx hee;omega) (fun e he=>by
       obtain ⟨y,hy,_,rfl⟩:=hP.2 e he;have:=Count.fg q y;show (Count.de q y).length≤1048576;omega) (fun e he=>by
       obtain ⟨y,hy,hky,rfl⟩:=hP.2 e he;have a5:eG (m:Int) (Count.de q y) = true:=by
        unfold gD at hky;rw [Bool.and_eq_true] at hky;exact hky.1
       obtain ⟨a6,t,a7,a8,al⟩:=hfirst y a5;have:=Count.fg q y;exact r7 (m:Int) (m:Int) (Count.de q x) (Count.de q y) s t a2 a6 (by omega) (by omega) a3 a7 a4 a8 (by omega))
      exact Ev.congr (fun k=>if_pos hk) (Ev.bind hput h)
     ·rw [if_neg hk] at h
      exact Ev.congr (fun k=>if_neg hk) h
  ·refine dg.dr 1 fun k hk=>?_
   obtain ⟨j,rfl⟩:∃ j,k = j+1:=⟨k - 1,by omega⟩
   simp only [aD.l0];rw [if_pos hu,hsh,if_neg (by omega)]
def mb (n r:Int):List KM:=if 0≤n∧n≤5∧0≤r∧r≤n then nt n.toNat r else []
theorem qg (n r:Int):Ev (fun k=>bq.f k n r) (mb n r):=by
 unfold mb;by_cases h:0≤n∧n≤5∧0≤r∧r≤n
 ·obtain ⟨m,rfl⟩:∃ m:Nat,n = m:=⟨n.toNat,by omega⟩
  rw [if_pos h,Int.toNat_natCast];exact r6 m (by omega) r (by omega) (by omega)
 ·rw [if_neg h]
  unfold bq.f;simp only [rC,Option.bind_some,decide_eq_false h,Bool.false_eq_true,if_false];exact Ev.now _
theorem qh (n r:Int):Ev (fun k=>aD.f k n r) (mb n r):=by
 have hend:Ev (fun k=>aD.j0 k n r [] true) []:=dg.dr 1 fun k hk=>by
  obtain ⟨q,rfl⟩:∃ q,k = q+1:=⟨k - 1,by omega⟩
  simp only [aD.j0];rw [if_pos trivial]
 unfold mb;by_cases h:0≤n∧n≤5∧0≤r∧r≤n
 ·obtain ⟨m,rfl⟩:∃ m:Nat,n = m:=⟨n.toNat,by omega⟩
  rw [if_pos h,Int.toNat_natCast];exact r9 m (by omega) r (by omega) (by omega)
 ·rw [if_neg h]
  unfold aD.f;simp only [tx,Option.bind_some];by_cases h1:(0:Int)≤n∧n≤5
  ·simp only [decide_eq_true h1,if_true,decide_eq_false (show ¬ (0≤r∧r≤n) by omega),Bool.not_false]
   exact hend
  ·simp only [decide_eq_false h1,Bool.false_eq_true,if_false]
   exact hend
theorem nY (n r:Int):(mb n r).length≤4398046511104:=by
 unfold mb;split
 ·next h =>
  unfold nt gg;rw [List.length_mergeSort];have hq:(Count.cO n.toNat r).length≤32:=Nat.le_trans (Count.fk n.toNat r) (Nat.pow_le_pow_right (n:=2) (by decide) (by omega:n.toNat≤5));have:=nX n.toNat hq;omega
 ·simp
def qi (L:List KM) (n:Int) (c:List Int) (i:Nat):Bool:=decide ((L.getD i z37).f0 = n) && decide ((L.getD i z37).f1 = c)
def mM (L:List KM) (n:Int) (c:List Int):Int×Bool:=match (List.range' 0 L.length).find? (qi L n c) with
  | some i=>((i:Int),true)
  | none=>(0,false)
def l6 (n:Int) (l:List Int):Int×Bool:=if (eG n l && decide (n≤5)) = true then mM (mb n (top (l.map Int.toNat):Int)) n (canon n.toNat (l.map Int.toNat)) else (0,false)
theorem qj (n r:Int):∀ e∈mb n r,e.f1.length≤1048576:=fun e he=>by
 unfold mb at he;by_cases h:0≤n∧n≤5∧0≤r∧r≤n
 ·rw [if_pos h] at he
  have hq:(Count.cO n.toNat r).length≤32:=Nat.le_trans (Count.fk n.toNat r) (Nat.pow_le_pow_right (n:=2) (by decide) (by omega:n.toNat≤5));unfold nt gg at he;exact qd n.toNat hq e ((List.mergeSort_perm _ _).mem_iff.1 he)
 ·rw [if_neg h] at he
  exact absurd he List.not_mem_nil
theorem qk (L:List KM) (n:Int) (c:List Int) (hL:∀ e∈L,e.f1.length≤1048576) (hlen:L.length≤4398046511104):Ev (fun k=>bg.l0 k L (L.length:Int) 0 n c) (mM L n c):=by
 unfold mM;have hz:∀ i,av L (i:Nat) = L.getD i z37:=fun i=>rfl
 have st:∀ i,i < L.length→∀ r,Ev (fun k=>if qi L n c i = true then some (((i:Nat):Int),true) else bg.l0 k L (L.length:Int) ((i+1:Nat):Int) n c) r→Ev (fun k=>bg.l0 k L (L.length:Int) (i:Int) n c) r:=fun i hi r h=>by
  have hmem:=hL _ (dI L z37 i hi);refine Ev.step (f:=fun k=>(cn.f k (L.getD i z37).f0 (L.getD i z37).f1 n c).bind fun t=>(if t = true then (some (((i:Nat):Int),true)) else (bg.l0 k L (L.length:Int) ((i+1:Nat):Int) n c))) (fun k=>?_) (Ev.bind (Find.q8 _ n _ c hmem) h);simp only [bg.l0];rw [if_pos (by omega),if_pos (by omega),if_pos (by omega),hz,dg.ej i (by omega)]
 exact Find.kX (fun k i=>bg.l0 k L (L.length:Int) i n c) L.length (qi L n c) (fun i=>((i:Int),true)) (0,false) (fun i hi hp=>st i hi _ (Ev.congr (fun k=>if_pos hp) (Ev.now _))) (fun i hi hp x h=>st i hi _ (Ev.congr (fun k=>if_neg (by rw [hp];decide)) h)) (dg.dr 1 fun k hk=>by
  obtain ⟨j,rfl⟩:∃ j,k = j+1:=⟨k - 1,by omega⟩
  simp only [bg.l0];rw [if_neg (by omega)])
theorem ql (L:List KM) (n:Int) (c:List Int) (hL:∀ e∈L,e.f1.length≤1048576) (hlen:L.length≤4398046511104):Ev (fun k=>aU.l0 k L 0 n c) (mM L n c):=by
 unfold mM;have hz:∀ i,av L (i:Nat) = L.getD i z37:=fun i=>rfl
 have st:∀ i,i < L.length→∀ r,Ev (fun k=>if qi L n c i = true then some (((i:Nat):Int),true) else aU.l0 k L ((i+1:Nat):Int) n c) r→Ev (fun k=>aU.l0 k L (i:Int) n c) r:=fun i hi r h=>by
  have hmem:=hL _ (dI L z37 i hi);refine Ev.step (f:=fun k=>(aI.f k (L.getD i z37).f0 (L.getD i z37).f1 n c).bind fun t=>(if t = true then (some (((i:Nat):Int),true)) else (aU.l0 k L ((i+1:Nat):Int) n c))) (fun k=>?_) (Ev.bind (Find.nq _ n _ c hmem) h);simp only [aU.l0];rw [if_pos (by omega),if_pos (by omega),hz,dg.ej i (by omega)]
 exact Find.kX (fun k i=>aU.l0 k L i n c) L.length (qi L n c) (fun i=>((i:Int),true)) (0,false) (fun i hi hp=>st i hi _ (Ev.congr (fun k=>if_pos hp) (Ev.now _))) (fun i hi hp x h=>st i hi _ (Ev.congr (fun k=>if_neg (by rw [hp];decide)) h)) (dg.dr 1 fun k hk=>by
  obtain ⟨j,rfl⟩:∃ j,k = j+1:=⟨k - 1,by omega⟩
  simp only [aU.l0];rw [if_neg (by omega)])
theorem qm (n:Int) (l:List Int) (hl:l.length≤1048576):Ev (fun k=>bg.f k n l) (l6 n l):=by
 have hend:Ev (fun k=>bg.j0 k true n l) (0,false):=dg.dr 1 fun k hk=>by
  obtain ⟨q,rfl⟩:∃ q,k = q+1:=⟨k - 1,by omega⟩
  simp only [bg.j0];rw [if_pos trivial]
 unfold bg.f l6;refine Ev.bind (jK n l hl) ?_;cases hM:eG n l with
 | false =>
  rw [Bool.false_and,if_neg Bool.false_ne_true];exact Ev.congr (fun k=>if_neg Bool.false_ne_true) hend
 | true =>
  rw [Bool.true_and];refine Ev.congr (fun k=>if_pos rfl) ?_;by_cases h5:n > 5
  ·rw [decide_eq_true h5,decide_eq_false (by omega),if_neg Bool.false_ne_true]
   exact hend
  ·rw [decide_eq_false h5,decide_eq_true (by omega),if_pos rfl]
   have hc:=kU n l hl (by omega);have hr:=sC.nj n l hl;unfold ig at hc;rw [if_pos hM] at hc hr;refine Ev.step (f:=fun k=>(bV.f k n l).bind fun j=>((cV.f k n l).bind fun z=>((bq.f k n z).bind fun y=>(bg.l0 k y (y.length:Int) 0 j.1 j.2.1)))) (fun k=>by
    simp only [bg.j0];rw [if_neg Bool.false_ne_true]) (Ev.bind hc (Ev.bind hr (Ev.bind (qg n _) ?_)))
   exact qk _ n _ (qj n _) (nY n _)
theorem qn (n:Int) (l:List Int) (hl:l.length≤1048576):Ev (fun k=>aU.f k n l) (l6 n l):=by
 have hend:Ev (fun k=>aU.j0 k true n l) (0,false):=dg.dr 1 fun k hk=>by
  obtain ⟨q,rfl⟩:∃ q,k = q+1:=⟨k - 1,by omega⟩
  simp only [aU.j0];rw [if_pos trivial]
 unfold aU.f l6;refine Ev.bind (lP n l hl) ?_;cases hM:eG n l with
 | false =>
  rw [Bool.false_and,if_neg Bool.false_ne_true];exact Ev.congr (fun k=>if_neg Bool.false_ne_true) hend
 | true =>
  rw [Bool.true_and];refine Ev.congr (fun k=>if_pos rfl) ?_;by_cases h5:n > 5
  ·rw [decide_eq_true h5,decide_eq_false (by omega),if_neg Bool.false_ne_true]
   exact hend
  ·rw [decide_eq_false h5,decide_eq_true (by omega),if_pos rfl]
   have hc:=kV n l hl (by omega);unfold ig at hc;rw [if_pos hM] at hc;obtain ⟨m,y,rfl,hm,rfl,J,M,hf⟩:=gR hM;have hp:2 ^ m≤2 ^ 8:=Nat.pow_le_pow_right (by decide) hm;have hs:=J _ (dI y 0 0 M);have hrd:rd (ints y) 0 = ((y.getD 0 0:Nat):Int):=dO y 0;refine Ev.step (f:=fun k=>(bR.f k (m:Int) (ints y)).bind fun j=>((aQ.f k ((y.getD 0 0:Nat):Int)).bind fun z=>((aD.f k (m:Int) z).bind fun I=>(aU.l0 k I 0 j.1 j.2.1)))) (fun k=>by
    simp only [aU.j0];rw [if_neg Bool.false_ne_true,hrd];simp only [if_pos (show (0:Int) < ((ints y).length:Int) by rw [aA];omega)]) (Ev.bind hc (Ev.bind (gQ _ (by omega)) (Ev.bind (qh (m:Int) _) ?_)))
   have ht:((cnt (y.getD 0 0):Nat):Int) = ((top ((ints y).map Int.toNat):Nat):Int):=by rw [eV];rfl
   rw [ht];exact ql _ (m:Int) _ (qj _ _) (nY _ _)
end Canon
end
section
namespace Pure
open Go.RowKit Go.Proofs.YtlfkfdmggpipbaaGreat.Pr sX Go.Proofs.YtlfkfdmggpipbaaGreat.Sets nZ iS Go.Proofs.YtlfkfdmggpipbaaGreat.Flat Go.Proofs.YtlfkfdmggpipbaaGreat.Canon ag.b8 ag.ct ag.cu
set_option linter.unusedVariables false
theorem jE (n:Int) (xs:List Int) (_:(Lit.int .i64 n).wf = true) (hm:xs.length≤maxLen∧∀ x∈xs,(Lit.int .i64 x).wf = true):∃ k,bS.f k n xs = some true:=by
 obtain ⟨z,hz,h⟩:=ot n xs 1048576 hm.1 (by decide) (by decide);refine Ev.rounds ?_;unfold bS.f;rw [hz];simp only [Option.bind_some];by_cases hneg:z < 0
 ·simp only [if_pos hneg]
  exact Ev.now _
 ·simp only [if_neg hneg]
  have hl:xs.length≤1048576:=by rcases h with h | h <;> omega
  refine Ev.bind (ji n xs hl) (Ev.bind (qn n xs hl) (Ev.bind (ji n xs hl) (Ev.bind (qm n xs hl) (Ev.congr (fun k=>if_pos rfl) ?_))));have hb:((l6 n xs).2 != (l6 n xs).2) = false:=by simp
  rw [hb];refine Ev.step (f:=fun k=>(cS.f k n xs).bind fun j=>((dA.f k n xs j.1 j.2).bind fun y=>(if y = true then (some true) else (some false)))) (fun k=>?_) ?_
  ·simp only [bS.j0]
   rw [if_neg Bool.false_ne_true]
  ·refine Ev.bind (ji n xs hl) (Ev.bind (ou n xs hl) ?_)
   simp only [if_true];exact Ev.now _
end Pure
end
section
namespace Open
open Go.ChangeShapes Go.WideShapes Go.RowKit ag.b8 Go.Deep
set_option linter.unusedVariables false
structure fl {α:Type} (P:Program) (d:Kd α) (t:TypeId) (Wf:α→Prop):Prop where
 go:∀ (H:Type) (enc:TypeId×Value→H) (w:World) (base:Nat) (spare:Nat→Bool) (held:Bool) (fuel:Nat) (cs:List Value) (x:DataW H×List MemPlace),
  DataW.trod enc P w base spare held fuel t cs = some x→∃ a,d.K w a cs∧Wf a
theorem fl.int {P:Program} {t:TypeId} {k:IntKind} (ht:P.underlying t = some (.int k)):fl P (Kd.int k) t (fun n=>(Lit.int k n).wf = true):=by
 refine ⟨fun H enc w base spare held fuel cs x h=>?_⟩;obtain ⟨n,rfl,_,hw⟩:=DataW.trod_int ht h;exact ⟨n,rfl,hw⟩
theorem fl.bool {P:Program} {t:TypeId} (ht:P.underlying t = some .bool):fl P Kd.bool t (fun _=>True):=by
 refine ⟨fun H enc w base spare held fuel cs x h=>?_⟩;obtain ⟨n,rfl,_⟩:=DataW.trod_bool ht h;exact ⟨n,rfl,trivial⟩
theorem rf {α:Type} {p:Nat→α→Prop}:∀ {len:Nat},(∀ i,i < len→∃ y,p i y)→∃ xs:List α,xs.length = len∧∀ i y,xs[i]? = some y→p i y:=by
 intro len;induction len with
 | zero=>exact fun _=>⟨[],rfl,fun i y h=>by simp at h⟩
 | succ len ih =>
  intro key;obtain ⟨xs,hxl,hxs⟩:=ih (fun i hi=>key i (by omega));obtain ⟨y,hy⟩:=key len (by omega);refine ⟨xs ++ [y],by simp [hxl],fun i z hz=>?_⟩;by_cases hi:i < xs.length
  ·rw [List.getElem?_append_left hi] at hz
   exact hxs i z hz
  ·have hlt:i < (xs ++ [y]).length:=(List.getElem?_eq_some_iff.1 hz).1
   have e:i = len:=by simp [hxl] at hlt hi;omega
   subst e;rw [List.getElem?_append_right (by omega),hxl] at hz;simp at hz;subst hz;exact hy
theorem fl.slice {α:Type} {P:Program} {t e:TypeId} {d:Kd α} {Wf:α→Prop} (ht:P.underlying t = some (.slice e)) (hs:P.cellsOf e = d.sz) (h:fl P d e Wf) :
  fl P (Kd.slice e d) t (fun xs=>xs.length≤maxLen∧∀ x∈xs,Wf x):=by
 refine ⟨fun H enc w base spare held fuel cs x hx=>?_⟩;rcases open_slice ht hx with ⟨rfl,_⟩ | ⟨a,len,cap,m,n,D,Pl,rfl,hb,hl,hm,hmm,_,hel⟩
 ·exact ⟨[],⟨none,0,rfl,Nat.le_refl _,rfl,by simp,fun h=>absurd h (by simp)⟩,by simp,by simp⟩
 ·have hlm:len≤m:=by rw [hmm];split <;> omega
  have key:∀ i,i < len→∃ y:α,(∃ cs',w.cells? base (a.add (i * P.cellsOf e)) (P.cellsOf e) = some cs'∧d.K w y cs')∧Wf y:=fun i hi=>by
   obtain ⟨cs',h1,h2⟩:=hel i (by omega);obtain ⟨y,h3,h4⟩:=h.go _ enc w base spare held n cs' _ h2;exact ⟨y,⟨cs',h1,h3⟩,h4⟩
  obtain ⟨xs,hxl,hxs⟩:=rf key;refine ⟨xs,⟨some a,cap,by rw [hxl],by omega,rfl,by have:=hm;unfold maxLen at this;omega,fun _=>⟨a,rfl,fun j p hj=>?_⟩⟩,by omega,fun y hy=>?_⟩
  ·obtain ⟨⟨cs',h1,h2⟩,_⟩:=hxs j p hj
   obtain ⟨_,h3,h4⟩:=World.cells?_some h1;refine ⟨cs',by rw [h3,hs],h2,fun i u hu=>?_⟩;have hlt:i < cs'.length:=(List.getElem?_eq_some_iff.1 hu).1;have:=h4 i (by omega);rw [hs,Go.Deep.add_add] at this;rw [this,hu]
  ·obtain ⟨i,hi⟩:=List.getElem?_of_mem hy
   exact (hxs i y hi).2
structure gq {α:Type} (P:Program) (fs:List Field) (off:Nat) (d:Kd α) (Wf:α→Prop):Prop where
 go:∀ (H:Type) (enc:TypeId×Value→H) (w:World) (base:Nat) (spare:Nat→Bool) (held:Bool) (n:Nat) (cs:List Value),
  cs.length = off+d.sz→(∀ f∈fs,∃ x,DataW.trod enc P w base spare held n f.type ((cs.drop f.offset).take (P.cellsOf f.type)) = some x)→∃ a,d.K w a (cs.drop off)∧Wf a
theorem gq.one {α:Type} {P:Program} {f:Field} {off:Nat} {d:Kd α} {Wf:α→Prop} (ho:f.offset = off) (hs:P.cellsOf f.type = d.sz) (h:fl P d f.type Wf):gq P [f] off d Wf:=by
 refine ⟨fun H enc w base spare held n cs hl hf=>?_⟩;obtain ⟨x,hx⟩:=hf f (by simp);rw [ho,hs,List.take_of_length_le (by rw [List.length_drop];omega)] at hx;exact h.go _ enc w base spare held n _ x hx
theorem gq.cons {α β:Type} {P:Program} {f:Field} {fs:List Field} {off:Nat} {d:Kd α} {d':Kd β} {Wf:α→Prop} {j:β→Prop} (ho:f.offset = off) (hs:P.cellsOf f.type = d.sz) (h:fl P d f.type Wf)
  (h':gq P fs (off+d.sz) d' j):gq P (f :: fs) off (Kd.pair d d') (fun x=>Wf x.1∧j x.2):=by
 refine ⟨fun H enc w base spare held n cs hl hf=>?_⟩;have hl':cs.length = off+(d.sz+d'.sz):=hl;obtain ⟨x,hx⟩:=hf f (by simp);rw [ho,hs] at hx;obtain ⟨a,ha,wa⟩:=h.go _ enc w base spare held n _ x hx;obtain ⟨b,hb,wb⟩:=h'.go _ enc w base spare held n cs (by omega) (fun g hg=>hf g (by simp [hg]));refine ⟨(a,b),⟨(cs.drop off).take d.sz,cs.drop (off+d.sz),?_,ha,hb⟩,wa,wb⟩;rw [← List.drop_drop,List.take_append_drop]
theorem fl.struct {α:Type} {P:Program} {t:TypeId} {fs:Array Field} {d:Kd α} {Wf:α→Prop} (ht:P.underlying t = some (.struct fs)) (hs:P.cellsOf t = d.sz) (h:gq P fs.toList 0 d Wf):fl P d t Wf:=by
 refine ⟨fun H enc w base spare held fuel cs x hx=>?_⟩;obtain ⟨xs,n,_,_,hl,hlen,hg⟩:=DataW.trod_struct ht hx;obtain ⟨a,ha,wa⟩:=h.go _ enc w base spare held n cs (by omega) (fun f hf=>by
  obtain ⟨i,hi⟩:=List.getElem?_of_mem hf;have h1:=hg i f (by simpa using hi);have hlt:i < fs.size:=by have:=(List.getElem?_eq_some_iff.1 hi).1;simpa using this
  exact ⟨_,h1.trans (List.getElem?_eq_getElem (by omega))⟩)
 exact ⟨a,by simpa using ha,wa⟩
theorem fl.tc {α β:Type} {P:Program} {t:TypeId} {d:Kd α} {Wf:α→Prop} (h:fl P d t Wf) (f:β→α) (g:α→β) (hfg:∀ a,f (g a) = a):fl P (Kd.tc d f) t (fun b=>Wf (f b)):=by
 refine ⟨fun H enc w base spare held fuel cs x hx=>?_⟩;obtain ⟨a,ha,wa⟩:=h.go _ enc w base spare held fuel cs x hx;exact ⟨g a,by show d.K w (f (g a)) cs;rw [hfg];exact ha,by show Wf (f (g a));rw [hfg];exact wa⟩
theorem fl.oM {α:Type} {P:Program} {t:TypeId} {d:Kd α} {Wf:α→Prop} (h:fl P d t Wf) {H:Type} {enc:TypeId×Value→H} {w:World} {base:Nat} {spare:Nat→Bool} {held:Bool} {v:Value} {x:DataW H} {ps:List MemPlace}
  (hv:∃ cs,v = .agg cs∧cs.size = P.cellsOf t) (ht:DataW.Trod enc P w base spare held t v x ps):∃ cs a,v = .agg cs.toArray∧d.K w a cs∧Wf a:=by
 obtain ⟨cs,rfl,_⟩:=hv;obtain ⟨fuel,hf⟩:=ht;obtain ⟨a,ha,wf⟩:=h.go _ enc w base spare held fuel _ _ hf;exact ⟨cs.toList,a,by simp,ha,wf⟩
end Open
end
section
namespace gU
open Go.ChangeShapes Go.WideShapes Go.ChangeAt Go.RowKit Go.Proofs.YtlfkfdmggpipbaaGreat.Open ag.b8
open Go.ChangeMaps (open_string shut_string)
set_option linter.unusedVariables false
theorem own:ownKnob Tryz.prog.godebug = none:=by kernel_rfl
theorem laidOut:laidOutB Tryz.prog = true:=by kernel_rfl
set_option maxRecDepth 100000 in
theorem lifted (os:Os) (started:os.Started) (H:Type) (enc:TypeId×Value→H) :
  ReturnsInHanded {} Tryz.checked os 5 .any (Rows.fnExactFindKindSpec.pre6 enc Tryz.prog Tryz.f5 Rows.fnExactFindKindRow.domain false) (Rows.fnExactFindKindSpec.post enc Tryz.prog Tryz.f5 false true false false):=by
 refine returnsInHanded_of_change_sized (C:=Tryz.checked) own started (by kernel_rfl) Tryz.func5
  (ChangeSpec.witness6 (enc:=enc) (C:=Tryz.checked) false ⟨#[],#[.agg #[.int .i64 0,.slice none 0 0]],[]⟩ 8 (by kernel_rfl) (by kernel_rfl) (by kernel_rfl) (by kernel_rfl)) ?_
 intro W base args ds gs before y hW hcnd J _;have hval:∀ (j:Nat) t v,Tryz.f5.params[j]? = some t→args[j]? = some v→Value.okWide Tryz.prog W .any base t v:=y;have hW':=hW;obtain ⟨p,q,M,hV,rfl,hfz,hnd⟩:=hW;have hA:DataW.TrodAll enc Tryz.prog W 0 (fun _=>true) true Tryz.f5.params.toList args.toList ds p:=M;rw [Tryz.params5] at hA hval;obtain ⟨v0,a3,d0,a4,p0,q0,hargs,rfl,rfl,h0,r0⟩:=trodAll_cons hA;obtain ⟨rfl,rfl,rfl⟩:=trodAll_nil r0;obtain rfl:args = #[v0]:=by cases args;simp_all
 obtain ⟨rfl,rfl⟩:=trodVars_none hV;have k0:=h0;have a0:∀ x∈p0,x.block < W.heap.size:=by obtain ⟨m,hm⟩:=k0;exact DataW.trod_lt m _ _ _ hm
 obtain ⟨a5,Y,rfl,K0,w0⟩:=fl.oM (fl.struct Tryz.underlying33 (by kernel_rfl) (gq.cons rfl (by kernel_rfl) (fl.int Tryz.underlying3) (gq.one rfl (by kernel_rfl) (fl.slice Tryz.underlying22 (by kernel_rfl) (fl.int Tryz.underlying3))))) (okWide_struct Tryz.underlying33 (hval 0 33 v0 rfl rfl)) h0;obtain ⟨_,_,rfl,rfl,⟨a1,a2,rfl,z,I⟩⟩:=K0;obtain ⟨U,X⟩:=w0;clear M y J;obtain ⟨k,hk⟩:=Pure.jE Y.1 Y.2 U X;refine (Pr.bS.calls k Y.1 _ _ Y.2 true W I z ⟨rfl⟩ hk).mono fun e W' ⟨he,bel⟩=>?_
 subst he;exact ⟨_,rfl,_,_,_,[],_,[],hW',trodAll_mk1 (shut_bool Tryz.underlying4 _),(trodAll_cons_mk (Below.trod laidOut (by kernel_rfl) (of_decide_eq_true (by kernel_rfl)) k0 bel a0) trodAll_mk0),rfl,bel.frame _,fun h=>by cases h⟩
theorem tu:Rows.fnExactFindKindRow.holds Tryz.pinned (OpenSpec.ofChange Rows.fnExactFindKindSpec) :=
 OpenClaim.holds_of_wide 5 Tryz.f5 rfl rfl rfl rfl rfl rfl rfl ⟨rfl,rfl,rfl,rfl,rfl⟩ rfl rfl rfl rfl rfl (by kernel_rfl) Tryz.func5 (by kernel_rfl)
  (of_decide_eq_true (by kernel_rfl)) (by unfold Func.isWrapper;first | (rw [if_pos (by decide +kernel)];kernel_rfl) | (rw [if_neg (by decide +kernel)];exact ⟨rfl,rfl⟩))
  (fun os started H enc _=>lifted os started H enc)
theorem proved:Rows.FnExactFindKindSaid:=tu
#print axioms proved
end gU
theorem fnExactFindKind_holds:Rows.FnExactFindKindSaid:=gU.proved
end
end Go.Proofs.YtlfkfdmggpipbaaGreat
