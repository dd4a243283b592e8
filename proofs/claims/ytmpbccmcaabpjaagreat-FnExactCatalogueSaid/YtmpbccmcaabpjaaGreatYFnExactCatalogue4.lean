/- The claim FnExactCatalogue: every text that its row comes to, laid together by slim.py (the words of the kit's print, the printed walks, the pure law, the row). -/
import Derived.Below
import Derived.ChangeArms
import Derived.ChangeOld
import Derived.DataReads
import Derived.Deep.Slices
import Derived.OpenShut
import Derived.ProofKit
import Derived.RowKit
import Derived.ShutString
import Derived.SizedLaws
import Derived.Test.YtmpbccmcaabpjaaGreatRows
import Derived.WalkKit
import Derived.Test.YtmpbccmcaabpjaaGreatYFnExactCatalogue3
namespace Go.Proofs.YtmpbccmcaabpjaaGreat
section
namespace Pr
open Go.RowKit ag.aX ag.bQ ag.bR
set_option linter.unusedVariables false
set_option linter.unusedSimpArgs false
def bF.l0:Nat→List cV→Int→Int→Option (Int×List cV)
 | 0,_,_,_=>none
 | k+1,y,z,j=>if j < (y.length:Int) then (if 0≤j then ((bZ.f k (av y j).f1 (wrap64 (z+1))).bind fun bt=>(bF.l0 k (y.set j.toNat (⟨z,bt.2⟩:cV)) bt.1 (wrap64 (j+1)))) else none) else (some (z,y))
def bF.f (k:Nat) (l0:List cV) (j:Int):Option (Int×List cV):=bF.l0 k l0 j 0
theorem bF.row {k:Nat} {w0 W:World} {ok:Nat→Prop} {u:Value} {xs:List cV} {i a m M:Int} {J:List Int} (hB:Below w0.heap.size w0 W) (hS:Kd.S fq 26 W w0.heap.size ok u xs) (h0:0≤i) (h1:i < (xs.length:Int)) (h:bZ.f k (av xs i).f1 a = some (M,J)) :
  ∃ g cap v,u = .slice (some ⟨g,0,none⟩) xs.length cap∧W.cell? ⟨g,i.toNat * 2,none⟩ = some (.int .i64 (av xs i).f0)∧W.frozen? ⟨g,i.toNat * 2,none⟩ = false∧(W.setCell ⟨g,i.toNat * 2,none⟩ (.int .i64 m)).cell? ⟨g,i.toNat * 2+1,none⟩ = some v ∧
   Calls Tryz.prog 113 #[v,.int .i64 a] (W.setCell ⟨g,i.toNat * 2,none⟩ (.int .i64 m)) fun e w'=>e = .returned (.int .i64 M)∧Kd.S fq 26 w' w0.heap.size (fun k_=>ok k_∨W.heap.size≤k_) u (xs.set i.toNat (⟨m,J⟩:cV))∧Below w0.heap.size w0 w'∧Kept W w' ok:=by
 obtain ⟨g,cap,rfl,hbase,_,_⟩:=Kd.pP (Kd.oO hS) (show 0 < xs.length by omega);have z:ok g:=(Kd.oO hS).1 g rfl;obtain ⟨oki,c,hcl,hM,hcc,hfr,y,hH⟩:=Kd.sI hS z26 i h0 h1;obtain ⟨v,rfl,hR⟩:=oT hM;obtain ⟨I,hg⟩:=Kd.tD (j:=0) (seg:=[.int .i64 m]) hH h0 h1 (show 0+1≤2 by omega) (by intro q hq;simp at hq;subst hq;rfl);have hsz:fq.sz = 2:=rfl;have eW:W.setCells g (i.toNat * fq.sz+0) [.int .i64 m] = W.setCell ⟨g,i.toNat * 2,none⟩ (.int .i64 m):=rfl;rw [eW] at I hg;have U:=hcc 0 _ rfl;have X:=hcc 1 _ rfl;refine ⟨g,cap,v,rfl,U,hfr 0,?_,?_⟩
 ·exact (World.cell?_setCells_out g [.int .i64 m] (i.toNat * 2) W ⟨g,i.toNat * 2+1,none⟩ (fun _ _=>.inr (Nat.le_refl _))).trans X
 have Y:Below w0.heap.size w0 (W.setCell ⟨g,i.toNat * 2,none⟩ (.int .i64 m)):=dV hB hbase;have a0:=Kd.qX hR hg (fun k_ hk he=>(y k_ hk).2 (by injection he));refine (bZ.calls k oki v _ a M J w0 _ Y a0 h).mono ?_;rintro e w' ⟨rfl,hR',hB',hK⟩
 have a1:=Kd.r6 (Kd.sH (ok':=fun k_=>ok k_∨W.heap.size≤k_) I (fun k_ hk=>.inl hk));have a2:=Kd.sJ a1 hK (fun k_ _ hn hk=>hn (.inl hk));have hsize:(W.setCell ⟨g,i.toNat * 2,none⟩ (.int .i64 m)).heap.size = W.heap.size:=by simp [World.setCell]
 refine ⟨rfl,?_,hB',?_⟩
 ·refine Kd.sF a2 (okp:=fun k_=>oki k_∨(W.setCell ⟨g,i.toNat * 2,none⟩ (.int .i64 m)).heap.size≤k_) (od _ _ _ (⟨m,J⟩:cV) hR') (fun k_ hk=>hk.elim .inl (fun hk=>.inr ⟨.inr (by rw [← hsize];exact hk),hk⟩))
 ·exact (Kept.j5 (S:=ok) hg (Kept.refl W ok) (fun k_ he=>.inl (by injection he with he;rw [← he];exact z))).o6 hK (fun k_ hk=>.inl (y k_ hk).1)
set_option maxHeartbeats 8000000 in
set_option maxRecDepth 100000 in
theorem bF.calls (k:Nat) (M:Nat→Prop) (z:Value) (l0:List cV) (a1:Int) (r1:Int) (r2:List cV) (w0 w:World) (hB:Below w0.heap.size w0 w) (a0:Kd.S fq 26 w w0.heap.size M z l0) (h:bF.f k l0 a1 = some (r1,r2)) :
  Calls Tryz.prog 44 #[z,.int .i64 a1] w fun e w'=>e = .returned (.int .i64 r1)∧Kd.S fq 26 w' w0.heap.size (fun k_=>(M k_∨w.heap.size≤k_)) z r2∧Below w0.heap.size w0 w'∧Kept w w' (fun k_=>M k_):=by
 have a8:=ae.mk (show Kd.S fq 26 w w0.heap.size (fun k_=>(M k_∨w.heap.size≤k_)) z l0 from Kd.dH a0 (fun k_ hk=>(.inl hk)));have HK:=ae.mk (Kept.refl w (fun k_=>M k_));have HB:=ae.mk hB;have ao:=Tryz.underlying26;clear hB a0;have H':=ae.mk (show bF.l0 k l0 a1 0 = some (r1,r2) from h);clear h;go_enter Tryz.func44,Tryz.ntmps44;go_wp2;go_loopg [1,5] k (fun kq v1 v5 w'=>∃ (I:List cV) (J:Int) (y:Int),v1 = .int .i64 J∧v5 = .int .i64 y∧ae (bF.l0 kq I J y = some (r1,r2))∧ae (kq≤k)∧ae (Kd.S fq 26 w' w0.heap.size (fun k_=>(M k_∨w.heap.size≤k_)) z I)∧ae (Kept w w' (fun k_=>M k_))∧ae (Below w0.heap.size w0 w'))
 case atStart=>exact ⟨l0,a1,0,rfl,rfl,H',⟨Nat.le_refl _⟩,a8,HK,HB⟩
 case round =>
  clear H';(try clear p2);obtain ⟨I,J,y,rfl,rfl,HA,a2,X,HK,HB⟩:=hrel;cases gk with
  | zero=>exact absurd HA.out (by simp [bF.l0])
  | succ k1 =>
   have H:=HA.out;clear HA;simp only [bF.l0] at H;obtain ⟨ap,ar,a9⟩:=Kd.bC (Kd.oO X.out);subst a9;by_cases c3:y < (I.length:Int)
   ·rw [if_pos c3] at H
    have a3:decide (y < (I.length:Int)) = true:=decide_eq_true c3;by_cases c4:0≤y
    ·rw [if_pos c4] at H
     obtain ⟨⟨t1,t2⟩,a4,H⟩:=Option.bind_eq_some_iff.mp H;have p5:0≤(y:Int):=c4;have q5:y < (I.length:Int):=c3;obtain ⟨g,cap,v,eu,hcell,hfro,U,hcall⟩:=bF.row (m:=J) HB.out X.out c4 c3 a4;injection eu with e1 _ e3
     subst e1;subst e3;have HC:=ae.mk hcall;have a5:=ae.mk U;have H':=ae.mk (show bF.l0 k1 (I.set y.toNat (⟨J,t2⟩:cV)) t1 (wrap64 (y+1)) = some (r1,r2) from H);clear H hcall U a4 c3 c4;replace p5:=eq_true p5;replace q5:=eq_true q5;go_wp2_with (first | ((with_reducible refine gv (t:=3) (p:=16) rfl ?_);refine fZ (t:=3) (p:=16) (v:=?vo_w8) (w1:=(wr.setCell ⟨g,(y:Int).toNat * 2,none⟩ (.int .i64 J))) ?hg ?ho ?hn ?hr ?_;(case ho=>rfl);(case hg=>rfl);(case hn=>rfl);(case hr=>first | (go_simp;done) | (go_simp;rfl));intro w8 hw;have aa:=a5.out;rw [← hw] at aa;replace HC:=ae.mk (by have:=HC.out;rw [← hw] at this;exact this);clear hw a5) | ((with_reducible refine aT (f:=113) rfl ?_);refine pV (some 25) rfl rfl Tryz.func113 (by kernel_rfl) rfl #[v,.int .i64 (wrap64 (J+1))] rfl (by (try simp only [List.map_toArray,List.map_cons,List.map_nil]);first | done | rfl) ?_;(with_reducible refine HC.out.mono ?_);rintro e w4 ⟨rfl,a6,a7,Y⟩;refine ⟨_,rfl,?_⟩;have ab:=ae.mk (Kd.dH (ok':=fun k_=>(M k_∨w.heap.size≤k_)) a6 (fun k_ hk=>hk.elim id (fun hk=>.inr (Nat.le_trans HK.out.1 hk))));have al:=ae.mk a7;have am:=ae.mk (show Kept w w4 (fun k_=>M k_) from ⟨Nat.le_trans HK.out.1 Y.1,fun j hj hn=>(Y.2 j (Nat.lt_of_lt_of_le hj HK.out.1) (fun hk=>hk.elim hn (fun hk=>absurd hk (Nat.not_le.2 hj)))).trans (HK.out.2 j hj hn)⟩);clear a6 a7 Y));go_roundg k1;case measure=>have:=a2.out;omega
     case rel=>exact ⟨I.set y.toNat (⟨J,t2⟩:cV),t1,wrap64 (y+1),(by first | rfl | (simp;done) | (simp [*];done)),(by first | rfl | (simp;done) | (simp [*];done)),H',⟨by have:=a2.out;omega⟩,ab,am,al⟩
    ·rw [if_neg c4] at H
     exact absurd H (by simp)
   ·rw [if_neg c3] at H
    have a3:decide (y < (I.length:Int)) = false:=decide_eq_false c3;simp only [Option.some.injEq,Prod.mk.injEq] at H;obtain ⟨rfl,rfl⟩:=H;go_wp2;go_ret;exact ⟨rfl,X.out,HB.out,HK.out⟩
end Pr
end
section
namespace Pr
open Go.RowKit ag.aX ag.bQ ag.bR
attribute [local go_sem] fK fL gh gi fb fc fM fN
set_option linter.unusedVariables false
set_option linter.unusedSimpArgs false
def dj.f (k:Nat) (a0:Int) (j:Int):Option (Bool):=(aG.f k a0 j).bind fun t1=>((b9.f k a0 j).bind fun t2=>((b6.f k t2 t1).bind fun t3=>(if t3 = true then ((bF.f k t2 1).bind fun t4=>((bM.f k t4.2 1).bind fun t5=>(if t5 < 0 then (some false) else (if t5 = t4.1 then ((b9.f k a0 j).bind fun t6=>((b6.f k t6 t1).bind fun t7=>(if t7 = true then ((bM.f k t4.2 1).bind fun t8=>(if t8 < 0 then (some false) else (if t8 = t4.1 then (some true) else (some false)))) else (some false)))) else (some false))))) else (some false))))
theorem lY {c:Prop} [Decidable c] {a:Option Bool} (h:(if c then a else some false) = some true):c∧a = some true:=by
 by_cases hc:c
 ·rw [if_pos hc] at h
  exact ⟨hc,h⟩
 ·rw [if_neg hc] at h
  cases h
theorem s6 {c:Prop} [Decidable c] {a:Option Bool} (h:(if c then some false else a) = some true):¬ c∧a = some true:=by
 by_cases hc:c
 ·rw [if_pos hc] at h
  cases h
 ·rw [if_neg hc] at h
  exact ⟨hc,h⟩
set_option maxHeartbeats 8000000 in
set_option maxRecDepth 100000 in
theorem dj.calls (k:Nat) (a0:Int) (J:Int) (r:Bool) (w:World) (hT:ae (r = true)) (h:dj.f k a0 J = some r) :
  Calls Tryz.prog 5 #[.int .i64 a0,.int .i64 J] w fun e w'=>e = .returned (.bool r)∧Below w.heap.size w w':=by
 have hu:=Tryz.underlying26;have hr:=hT.out;subst hr;unfold dj.f at h;have H:=h;clear h hT;obtain ⟨t1,A1,H⟩:=ob H;obtain ⟨t2,A2,H⟩:=ob H;obtain ⟨t3,A3,H⟩:=ob H;obtain ⟨c3,H⟩:=lY H;subst c3;obtain ⟨⟨mm,g⟩,A4,H⟩:=ob H;obtain ⟨t5,A5,H⟩:=ob H;obtain ⟨c5,H⟩:=s6 H;obtain ⟨c6,H⟩:=lY H;dsimp only at A5 c6;obtain ⟨t6,A6,H⟩:=ob H;obtain ⟨t7,A7,H⟩:=ob H;obtain ⟨c7,H⟩:=lY H;subst c7;obtain ⟨t8,A8,H⟩:=ob H;obtain ⟨c8,H⟩:=s6 H;obtain ⟨c9,H⟩:=lY H;dsimp only at A8 c9;subst c6;subst c9;clear H c8;have ap:decide (t8 < 0) = false:=decide_eq_false c5;clear c5;go_enter Tryz.func5,Tryz.ntmps5;go_wp2_with (first
  | (refine n7 (some 12) Tryz.func38 #[.int .i64 a0,.int .i64 J] ?_;(with_reducible refine (aG.calls k a0 J t1 _ A1.out).mono ?_);rintro e w1 ⟨v1,rfl,a2,a3⟩;refine ⟨_,rfl,?_⟩;have HN:=ae.mk (Kd.lP a2);have a8:=ae.mk a3;clear a2 a3;obtain ⟨a4,a5,a9⟩:=Kd.jY HN.out;subst a9)
  | (refine n7 (some 15) Tryz.func28 #[.int .i64 a0,.int .i64 J] ?_;(with_reducible refine (b9.qm k a0 J t2 _ A2.out).mono ?_);rintro e w2 ⟨v2,rfl,a6,M⟩;refine ⟨_,rfl,?_⟩;have HS:=ae.mk a6;replace HN:=ae.mk (Kd.di HN.out M);have j:=ae.mk M;clear a6 M;obtain ⟨y,z,aa⟩:=Kd.o5 HS.out;subst aa)
  | (refine n7 (some 18) Tryz.func43 #[.slice y t2.length z,.slice a4 t1.length a5] ?_;(with_reducible refine (b6.calls k _ _ t2 _ _ t1 true _ ?s1 ?s2 ?s3 ?s4 A3.out).mono ?_);(case s1=>exact (Kd.eV HS.out).2.2);(case s2=>exact (Kd.eV HS.out).2.1);(case s3=>exact (Kd.fo HN.out).2.2);(case s4=>exact (Kd.fo HN.out).2.1);rintro e w3 ⟨rfl,hb⟩;refine ⟨_,rfl,?_⟩;replace HS:=ae.mk (Kd.ew HS.out hb);replace HN:=ae.mk (Kd.di HN.out hb);replace j:=ae.mk (aA j.out hb);clear hb)
  | (refine n7 (some 22) Tryz.func44 #[.slice y t2.length z,.int .i64 1] ?_;(with_reducible refine (bF.calls k _ _ t2 1 t8 g w1 _ j.out HS.out A4.out).mono ?_);rintro e w4 ⟨rfl,ho,hb,hk⟩;refine ⟨_,rfl,?_⟩;replace HS:=ae.mk ho;replace HN:=ae.mk (Kd.sL HN.out hk (fun k_ U X=>absurd X (Nat.not_le_of_lt U.2)));replace j:=ae.mk hb;have HL:=ae.mk (Kd.eV ho).1;clear ho hb hk)
  | (refine n7 (some 25) Tryz.func45 #[.slice y t2.length z,.int .i64 1] ?_;(refine (iR (args':=#[.slice y g.length z,.int .i64 1]) (by rw [HL.out]) (bM.calls k _ _ g 1 t8 _ (Kd.eV HS.out).2.2 (by have U:=(Kd.eV HS.out).1;have X:=(Kd.eV HS.out).2.1;omega) A5.out)).mono ?_);rintro e w5 ⟨rfl,⟨nd,rfl⟩⟩;refine ⟨_,rfl,?_⟩;replace HS:=ae.mk (Kd.ey HS.out nd);replace HN:=ae.mk (Kd.br HN.out nd);replace j:=ae.mk (cK j.out nd))
  | (refine n7 (some 33) Tryz.func28 #[.int .i64 a0,.int .i64 J] ?_;(with_reducible refine (b9.qm k a0 J t6 _ A6.out).mono ?_);rintro e w6 ⟨v6,rfl,a7,I⟩;refine ⟨_,rfl,?_⟩;have Y:=ae.mk a7;replace HS:=ae.mk (Kd.ew HS.out I);replace HN:=ae.mk (Kd.di HN.out I);replace j:=ae.mk (aA j.out I);clear a7 I;obtain ⟨ab,al,am⟩:=Kd.o5 Y.out;subst am)
  | (refine n7 (some 36) Tryz.func43 #[.slice ab t6.length al,.slice a4 t1.length a5] ?_;(with_reducible refine (b6.calls k _ _ t6 _ _ t1 true _ ?s1 ?s2 ?s3 ?s4 A7.out).mono ?_);(case s1=>exact (Kd.eV Y.out).2.2);(case s2=>exact (Kd.eV Y.out).2.1);(case s3=>exact (Kd.fo HN.out).2.2);(case s4=>exact (Kd.fo HN.out).2.1);rintro e w7 ⟨rfl,hb⟩;refine ⟨_,rfl,?_⟩;replace HS:=ae.mk (Kd.ew HS.out hb);replace j:=ae.mk (aA j.out hb);clear hb)
  | (refine n7 (some 40) Tryz.func45 #[.slice y t2.length z,.int .i64 1] ?_;(refine (iR (args':=#[.slice y g.length z,.int .i64 1]) (by rw [HL.out]) (bM.calls k _ _ g 1 t8 _ (Kd.eV HS.out).2.2 (by have U:=(Kd.eV HS.out).1;have X:=(Kd.eV HS.out).2.1;omega) A8.out)).mono ?_);rintro e w8 ⟨rfl,⟨ao,rfl⟩⟩;refine ⟨_,rfl,?_⟩;replace j:=ae.mk (cK j.out ao)))
 go_ret;exact ⟨rfl,aA a8.out j.out⟩
end Pr
end
section
namespace tS
open Go.RowKit Go.Proofs.YtmpbccmcaabpjaaGreat.Pr ag.aX ag.bQ ag.bR
theorem sW (xs:List Int) (hn:xs.length≤1048576) (k:Nat) (hk:xs.length < k):cJ.f k xs xs = some true:=by
 unfold cJ.f;rw [if_pos rfl];have:=cU.kC (fun k i=>cJ.l0 k xs xs i) xs.length (fun _=>true) 0 true (fun k i _ hi=>by
  simp only [cJ.l0];rw [if_pos (by omega),if_pos (by omega),if_pos (by omega),if_pos (by trivial),cU.dQ i (by omega),if_pos (by trivial)]) (fun k _=>by
  simp only [cJ.l0];rw [if_neg (by omega)]) xs.length 0 k (by omega) (by omega)
 simpa [cU.rB] using this
theorem rD (xs:List Int) (hn:xs.length≤1048576):Ev (fun k=>cJ.f k xs xs) true:=cU.dr (xs.length+1) (fun k hk=>sW xs hn k (by omega))
theorem oW (n:Int) (xs:List Int) (hn:xs.length≤1048576):Ev (fun k=>dA.f k n xs n xs) true:=by
 unfold dA.f;simp only [if_true];exact Ev.bind (rD xs hn) (Ev.now _)
def marks (a:Int) (n:Nat):List Int:=(List.range n).map fun i:Nat=>a+(i:Int)
theorem gX (a:Int) (n:Nat):(marks a n).length = n:=by simp [marks]
theorem qn (xs:List Int) (a:Int) (hn:xs.length≤1048576) (J:0≤a) (h1:a≤2 ^ 50):Ev (fun k=>bZ.f k xs a) (a+(xs.length:Int),marks a xs.length):=by
 unfold bZ.f;refine cU.eN (fun k (s:List Int×Int) i=>bZ.l0 k s.1 s.2 i) xs.length (fun i s=>(s.1.set i s.2,s.2+1)) (fun i s=>s.2 = a+(i:Int)∧s.1.length = xs.length∧∀ j,j < i→s.1[j]? = some (a+(j:Int))) _ (fun i s hi hP=>⟨?_,fun h=>Ev.step (fun k=>?_) h⟩) xs.length 0 (xs,a) (by omega) ⟨by simp,rfl,fun j hj=>by omega⟩ (fun hP=>cU.dr 1 (fun k hk=>?_))
 ·obtain ⟨y,I,z⟩:=hP
  refine ⟨by show s.2+1 = _;rw [y];push_cast;omega,by simpa using I,fun j hj=>?_⟩;show (s.1.set i s.2)[j]? = _;rw [List.getElem?_set];by_cases e:i = j
  ·subst e
   rw [if_pos rfl,if_pos (by omega),y]
  ·rw [if_neg e]
   exact z j (by omega)
 ·obtain ⟨y,I,z⟩:=hP
  simp only [bZ.l0];rw [if_pos (by omega),if_pos (by omega),cU.dQ i (by omega),cU.qT (i:=s.2+1) (by omega) (by omega)];rfl
 ·obtain ⟨q,rfl⟩:∃ q,k = q+1:=⟨k - 1,by omega⟩
  generalize (List.range' 0 xs.length).foldl (fun (s:List Int×Int) j=>(s.1.set j s.2,s.2+1)) (xs,a) = s at hP ⊢;obtain ⟨y,I,z⟩:=hP;simp only [bZ.l0];rw [if_neg (by omega),y];congr 2
  apply List.ext_getElem?
  intro j;by_cases hj:j < xs.length
  ·rw [z j hj]
   simp [marks,hj]
  ·rw [List.getElem?_eq_none (by omega),List.getElem?_eq_none (by rw [gX];omega)]
theorem qo (a:Int) (n:Nat) (hn:n≤1048576) (j:0≤a) (h1:a≤2 ^ 50):Ev (fun k=>cq.f k (marks a n) a) (a+(n:Int)):=by
 unfold cq.f;refine cU.eN (fun k (s:Int) i=>cq.l0 k (marks a n) s i) n (fun i s=>s+1) (fun i s=>s = a+(i:Int)) _ (fun i s hi hP=>⟨?_,fun h=>Ev.step (fun k=>?_) h⟩) n 0 a (by omega) (by simp) (fun hP=>cU.dr 1 (fun k hk=>?_))
 ·show s+1 = _
  rw [hP];push_cast;omega
 ·have hr:rd (marks a n) (i:Int) = s:=by
   rw [cU.dN,hP];simp [marks,List.getD,hi]
  simp only [cq.l0];rw [if_pos (by rw [gX];omega),if_pos (by omega),if_pos hr,cU.dQ i (by omega),cU.qT (i:=s+1) (by omega) (by omega)]
 ·obtain ⟨q,rfl⟩:∃ q,k = q+1:=⟨k - 1,by omega⟩
  simp only [cq.l0];rw [if_neg (by rw [gX];omega),hP]
end tS
end
section
namespace Sets
open Go.RowKit ag.aX ag.bR
theorem fS {γ:Type} (L:Nat→Int→Option γ) (n:Nat) (p:Nat→Bool) (S:γ→Prop)
  (hyes:∀ i,i < n→p i = true→∃ r,S r∧Ev (fun k=>L k (i:Int)) r)
  (hno:∀ i,i < n→p i = false→∀ r,Ev (fun k=>L k ((i+1:Nat):Int)) r→Ev (fun k=>L k (i:Int)) r) :
  ∀ d i:Nat,i+d = n→((List.range' i d).any p = true→∃ r,S r∧Ev (fun k=>L k (i:Int)) r)∧((List.range' i d).any p = false→∀ r,Ev (fun k=>L k (n:Int)) r→Ev (fun k=>L k (i:Int)) r):=by
 intro d;induction d with
 | zero =>
  intro i hi;obtain rfl:i = n:=by omega
  exact ⟨fun h=>by simp at h,fun _ r h=>h⟩
 | succ d ih =>
  intro i hi;obtain ⟨h1,h2⟩:=ih (i+1) (by omega);rw [List.range'_succ,List.any_cons];cases hp:p i with
  | true=>exact ⟨fun _=>hyes i (by omega) hp,fun h=>by simp at h⟩
  | false =>
   refine ⟨fun h=>?_,fun h r hr=>hno i (by omega) hp r (h2 (by simpa using h) r hr)⟩;obtain ⟨r,hr,hE⟩:=h1 (by simpa using h);exact ⟨r,hr,hno i (by omega) hp r hE⟩
theorem iF (n:Int) (j:0≤n) (h1:n < 2 ^ 62):IntKind.i64.wrap n = n:=by
 rw [IntKind.wrap_i64];omega
theorem rE (a b:Nat) (ha:a < 2 ^ 62) (hb:b < 2 ^ 62):Go.bits .and .i64 (a:Int) (b:Int) = ((a &&& b:Nat):Int):=(bits_nat .i64 62 (by decide) iF a b ha hb).1
theorem nE (a b:Nat) (ha:a < 2 ^ 62) (hb:b < 2 ^ 62):Go.bits .or .i64 (a:Int) (b:Int) = ((a ||| b:Nat):Int):=(bits_nat .i64 62 (by decide) iF a b ha hb).2
def diff (a b:Nat):Nat:=a ^^^ (a &&& b)
theorem eG (a b i:Nat):(diff a b).testBit i = (a.testBit i && !b.testBit i):=by
 unfold diff;rw [Nat.testBit_xor,Nat.testBit_and];cases a.testBit i <;> cases b.testBit i <;> rfl
theorem gE {a b:Nat} {n:Nat} (ha:a < 2 ^ n):diff a b < 2 ^ n:=by
 apply Nat.lt_pow_two_of_testBit
 intro i hi;rw [eG,Nat.testBit_lt_two_pow (Nat.lt_of_lt_of_le ha (Nat.pow_le_pow_right (by decide) hi))];rfl
theorem gA (a b:Nat) (ha:a < 2 ^ 62):Go.bits .andNot .i64 (a:Int) (b:Int) = ((diff a b:Nat):Int):=by
 have j:(2:Nat) ^ 62≤2 ^ 64:=by decide
 have key:(BitVec.ofNat 64 a &&& ~~~(BitVec.ofNat 64 b)).toNat = diff a b:=by
  apply Nat.eq_of_testBit_eq
  intro i;rw [eG,BitVec.testBit_toNat,BitVec.getLsbD_and,BitVec.getLsbD_not,BitVec.getLsbD_ofNat,BitVec.getLsbD_ofNat];by_cases hi:i < 64
  ·simp [hi]
  ·have:a.testBit i = false:=Nat.testBit_lt_two_pow (Nat.lt_of_lt_of_le ha (Nat.pow_le_pow_right (by decide) (by omega)))
   simp [hi,this]
 show IntKind.i64.wrap ((BitVec.ofInt 64 (a:Int) &&& ~~~(BitVec.ofInt 64 (b:Int))).toNat:Int) = _;have y:BitVec.ofInt 64 (a:Int) = BitVec.ofNat 64 a:=by simp
 have z:BitVec.ofInt 64 (b:Int) = BitVec.ofNat 64 b:=by simp
 rw [y,z,key];have:=gE (b:=b) ha;exact iF _ (by omega) (by exact_mod_cast this)
theorem fh (e:Nat) (he:e < 62):shl .i64 1 (e:Int) = ((2 ^ e:Nat):Int):=by
 unfold shl;have h1:min ((e:Int)).toNat IntKind.i64.bits = e:=by
  show min e 64 = e;omega
 rw [h1,Int.one_mul];have h2:(2:Nat) ^ e < 2 ^ 62:=Nat.pow_lt_pow_right (by decide) he;rw [iF _ (by exact_mod_cast Nat.zero_le _) (by exact_mod_cast h2)];push_cast
 rfl
theorem lZ (a e:Nat) (he:e < 62) (ha:a < 2 ^ 62):((Go.bits .and .i64 (shr .i64 (a:Int) (e:Int)) 1) == 1) = a.testBit e:=by
 unfold shr;have h1:min ((e:Int)).toNat IntKind.i64.bits = e:=by
  show min e 64 = e;omega
 rw [h1];have h2:((a:Int) / 2 ^ e) = ((a / 2 ^ e:Nat):Int):=by push_cast;rfl
 have h3:a / 2 ^ e < 2 ^ 62:=Nat.lt_of_le_of_lt (Nat.div_le_self _ _) ha;rw [h2,show (1:Int) = ((1:Nat):Int) from rfl,rE _ 1 h3 (by decide),Nat.testBit_eq_decide_div_mod_eq,Nat.and_one_is_mod];by_cases h:a / 2 ^ e % 2 = 1
 ·simp [h]
 ·have h4:a / 2 ^ e % 2 = 0:=by omega
  simp [h4]
theorem gY {a n e:Nat} (ha:a < 2 ^ n) (he:n≤e):a.testBit e = false:=Nat.testBit_lt_two_pow (Nat.lt_of_lt_of_le ha (Nat.pow_le_pow_right (by decide) he))
theorem swap_eq:∀ a,a < 256→∀ e,e < 8→∀ f,f < 8→a.testBit e = true→a.testBit f = false→diff a (2 ^ e) ||| 2 ^ f = a - 2 ^ e+2 ^ f:=by decide +kernel
theorem sX:∀ a,a < 256→∀ e,e < 8→a.testBit e = true→2 ^ e≤a:=by decide +kernel
def elems (s:Nat):List Nat:=(List.range' 0 8).filter fun j=>s.testBit j
def eR (l:List Nat) (a b e:Nat):Bool:=(List.range' 0 8).any fun f=>b.testBit f && !a.testBit f && l.contains (a - 2 ^ e+2 ^ f)
def gO (l:List Nat):Bool:=l.any fun a=>l.any fun b=>(List.range' 0 8).any fun e=>a.testBit e && !b.testBit e && !eR l a b e
def ints (l:List Nat):List Int:=l.map fun j:Nat=>(j:Int)
theorem az (l:List Nat):(ints l).length = l.length:=by simp [ints]
theorem jy (l:List Nat) (i:Nat):(ints l).getD i 0 = ((l.getD i 0:Nat):Int):=by
 by_cases h:i < l.length
 ·simp [ints,List.getD,h]
 ·simp [ints,List.getD,h]
theorem e9 (l:List Nat) (i:Nat):rd (ints l) (i:Int) = ((l.getD i 0:Nat):Int):=by rw [cU.dN,jy]
theorem gP {α:Type} (l:List α) (d:α) (p:α→Bool):((List.range' 0 l.length).any fun i=>p (l.getD i d)) = l.any p:=by
 rw [Bool.eq_iff_iff];simp only [List.any_eq_true];constructor
 ·rintro ⟨i,hi,hp⟩
  have hlt:i < l.length:=by have:=List.mem_range'_1.1 hi;omega
  refine ⟨l[i],List.getElem_mem hlt,?_⟩;simpa [List.getD,hlt] using hp
 ·rintro ⟨x,hx,hp⟩
  obtain ⟨i,hi,rfl⟩:=List.getElem_of_mem hx;exact ⟨i,List.mem_range'_1.2 (by omega),by simpa [List.getD,hi] using hp⟩
theorem qp (p:Nat→Bool) (m d:Nat) (h:∀ j,m≤j→p j = false):(List.range' 0 (m+d)).any p = (List.range' 0 m).any p:=by
 rw [← List.range'_append_1,List.any_append];have:(List.range' (0+m) d).any p = false:=by
  rw [List.any_eq_false];intro j hj;have:=List.mem_range'_1.1 hj;rw [h j (by omega)];decide
 rw [this,Bool.or_false]
theorem qq (m:Nat) (hm:m≤8) (p:Nat→Bool) (h:∀ j,m≤j→p j = false):(List.range' 0 m).any p = (List.range' 0 8).any p:=by
 have:=qp p m (8 - m) h;rw [show m+(8 - m) = 8 by omega] at this;exact this.symm
theorem lg (s:Nat) (q:Nat→Bool):(elems s).any q = (List.range' 0 8).any fun j=>s.testBit j && q j:=by
 unfold elems;rw [List.any_filter]
theorem iq {s j:Nat} (h:j∈elems s):j < 8∧s.testBit j = true:=by
 unfold elems at h;obtain ⟨h1,h2⟩:=List.mem_filter.1 h;have:=List.mem_range'_1.1 h1;exact ⟨by omega,h2⟩
theorem ej (s:Nat):(elems s).length≤8:=by
 unfold elems;exact Nat.le_trans (List.length_filter_le _ _) (by simp)
theorem dZ {m:Nat} (hm:m≤8):(2:Nat) ^ m≤256:=Nat.pow_le_pow_right (n:=2) (by decide) hm
theorem rF:∀ a,a < 256→∀ e,e < 8→∀ f,f < 8→a.testBit e = true→a.testBit f = false→a - 2 ^ e+2 ^ f < 256:=by decide +kernel
theorem e5 {α:Type} (l:List α) (d:α) (i:Nat) (h:i < l.length):l.getD i d∈l:=by
 have:l.getD i d = l[i]:=by simp [List.getD,h]
 rw [this];exact List.getElem_mem h
end Sets
end
section
namespace pH
open Go.RowKit Go.Proofs.YtmpbccmcaabpjaaGreat.Pr Go.Proofs.YtmpbccmcaabpjaaGreat.Sets ag.aX ag.bQ ag.bR
set_option linter.unusedVariables false
def isSet (n s:Int):Bool:=decide (0≤n∧n≤8∧0≤s∧s < 2 ^ n.toNat)
theorem oZ (n s:Int):en.f n s = some (isSet n s):=by
 unfold en.f cz.f isSet;by_cases j:n≥0
 ·rw [if_pos j]
  simp only [Option.bind_some];by_cases h1:n≤8
  ·rw [if_pos (decide_eq_true h1)]
   obtain ⟨m,rfl⟩:∃ m:Nat,n = m:=⟨n.toNat,by omega⟩
   by_cases h2:s≥0
   ·rw [if_pos h2,if_pos j,fh m (by omega)]
    congr 1
    rw [decide_eq_decide];simp only [Int.toNat_natCast];push_cast
    omega
   ·rw [if_neg h2,decide_eq_false (by omega)]
  ·rw [if_neg (by rw [decide_eq_true_eq];exact h1),decide_eq_false (by omega)]
 ·rw [if_neg j]
  simp only [Option.bind_some];rw [if_neg (by decide),decide_eq_false (by omega)]
theorem p4 (n s:Int):cG.f n s = some (isSet n s):=by
 unfold cG.f bE.f isSet;by_cases j:n≥0
 ·rw [if_pos j]
  simp only [Option.bind_some];by_cases h1:n≤8
  ·rw [if_pos (decide_eq_true h1)]
   obtain ⟨m,rfl⟩:∃ m:Nat,n = m:=⟨n.toNat,by omega⟩
   have hu:IntKind.u64.wrap (m:Int) = m:=by
    have:m = 0∨m = 1∨m = 2∨m = 3∨m = 4∨m = 5∨m = 6∨m = 7∨m = 8:=by omega
    rcases this with rfl | rfl | rfl | rfl | rfl | rfl | rfl | rfl | rfl <;> decide +kernel
   have hp:=dZ (m:=m) (by omega);have y:1≤2 ^ m:=Nat.one_le_two_pow;rw [hu,if_pos j,fh m (by omega),cU.qT (by omega) (by omega)];by_cases h2:s≥0
   ·rw [if_pos h2]
    simp only [Option.bind_some];congr 1
    rw [decide_eq_decide];simp only [Int.toNat_natCast];have:((2:Int) ^ m) = ((2 ^ m:Nat):Int):=by push_cast;rfl
    rw [this];omega
   ·rw [if_neg h2]
    simp only [Option.bind_some];rw [decide_eq_false (by omega)]
  ·rw [if_neg (by rw [decide_eq_true_eq];exact h1),decide_eq_false (by omega)]
 ·rw [if_neg j]
  simp only [Option.bind_some];rw [if_neg (by decide),decide_eq_false (by omega)]
def oo (n:Int) (l:List Int):Bool:=((List.range' 0 l.length).all fun i=>isSet n (l.getD i 0) && (decide (i = 0) || decide (l.getD (i - 1) 0 < l.getD i 0))) && decide (0≤n∧n≤8)
theorem kD (n:Int) (l:List Int) (hn:l.length≤1048576) (k:Nat) (hk:l.length < k):bw.f k n l = some (oo n l):=by
 unfold bw.f oo;refine cU.kC (fun k i=>bw.l0 k n l l (l.length:Int) i) l.length (fun i=>isSet n (l.getD i 0) && (decide (i = 0) || decide (l.getD (i - 1) 0 < l.getD i 0))) 0 (decide (0≤n∧n≤8)) (fun k i _ hi=>?_) (fun k _=>?_) l.length 0 k (by omega) (by omega)
 ·simp only [bw.l0]
  rw [if_pos (by omega),if_pos (by omega),if_pos (by omega),oZ,cU.dN];simp only [Option.bind_some];cases isSet n (l.getD i 0) with
  | false=>rfl
  | true =>
   rw [if_pos rfl,cU.dQ i (by omega)];by_cases j:i = 0
   ·subst j
    rw [if_neg (by decide),if_pos (by rfl)]
   ·rw [if_pos (by omega),cU.qT (by omega) (by omega),show (i:Int) - 1 = ((i - 1:Nat):Int) by omega,if_pos (by omega),if_pos (by omega),cU.dN]
    by_cases h1:l.getD i 0≤l.getD (i - 1) 0
    ·rw [if_pos h1,decide_eq_false j,decide_eq_false (by omega)]
     rfl
    ·rw [if_neg h1,decide_eq_false j,decide_eq_true (by omega)]
     rfl
 ·simp only [bw.l0]
  rw [if_neg (by omega)];unfold cz.f;by_cases j:n≥0
  ·rw [if_pos j]
   simp only [Option.bind_some];congr 1
   rw [decide_eq_decide];omega
  ·rw [if_neg j,decide_eq_false (by omega)]
   rfl
theorem kE (n:Int) (l:List Int) (hn:l.length≤1048576) (k:Nat) (hk:l.length < k):bz.f k n l = some (oo n l):=by
 unfold bz.f oo;refine cU.kC (fun k i=>bz.l0 k n l i) l.length (fun i=>isSet n (l.getD i 0) && (decide (i = 0) || decide (l.getD (i - 1) 0 < l.getD i 0))) 0 (decide (0≤n∧n≤8)) (fun k i _ hi=>?_) (fun k _=>?_) l.length 0 k (by omega) (by omega)
 ·simp only [bz.l0]
  rw [if_pos (by omega),if_pos (by omega),p4,cU.dN];simp only [Option.bind_some];cases isSet n (l.getD i 0) with
  | false=>rfl
  | true =>
   rw [if_pos rfl,cU.dQ i (by omega)];by_cases j:i = 0
   ·subst j
    rw [if_neg (by decide),if_pos (by rfl)]
   ·rw [if_pos (by omega),cU.qT (by omega) (by omega),show (i:Int) - 1 = ((i - 1:Nat):Int) by omega,if_pos (by omega),if_pos (by omega),cU.dN]
    by_cases h1:l.getD (i - 1) 0≥l.getD i 0
    ·rw [if_pos h1,decide_eq_false j,decide_eq_false (by omega)]
     rfl
    ·rw [if_neg h1,decide_eq_false j,decide_eq_true (by omega)]
     rfl
 ·simp only [bz.l0]
  rw [if_neg (by omega)];unfold bE.f;by_cases j:n≥0
  ·rw [if_pos j]
   simp only [Option.bind_some];congr 1
   rw [decide_eq_decide];omega
  ·rw [if_neg j,decide_eq_false (by omega)]
   rfl
theorem mb {n:Int} {l:List Int} (h:oo n l = true):∃ (m:Nat) (j:List Nat),n = m∧m≤8∧l = ints j∧∀ s∈j,s < 2 ^ m:=by
 unfold oo at h;rw [Bool.and_eq_true,decide_eq_true_eq] at h;obtain ⟨hl,y,z⟩:=h;have key:∀ s∈l,0≤s∧s < 2 ^ n.toNat:=fun s hs=>by
  obtain ⟨i,hi,rfl⟩:=List.getElem_of_mem hs;have:=List.all_eq_true.1 hl i (List.mem_range'_1.2 (by omega));rw [Bool.and_eq_true] at this;have h1:=this.1;unfold isSet at h1;rw [decide_eq_true_eq] at h1;have e:l.getD i 0 = l[i]:=by simp [List.getD,hi]
  rw [e] at h1;exact ⟨h1.2.2.1,h1.2.2.2⟩
 refine ⟨n.toNat,l.map Int.toNat,by omega,by omega,?_,fun s hs=>?_⟩
 ·unfold ints
  rw [List.map_map];conv=>lhs;rw [← List.map_id l]
  refine List.map_congr_left fun s hs=>?_
  have:=(key s hs).1;show s = ((s.toNat:Nat):Int)
  omega
 ·obtain ⟨x,hx,rfl⟩:=List.mem_map.1 hs
  obtain ⟨h1,h2⟩:=key x hx;have e:((2:Int) ^ n.toNat) = ((2 ^ n.toNat:Nat):Int):=by push_cast;rfl
  rw [e] at h2;omega
theorem index (l:List Nat) (x:Nat) (hn:l.length≤1048576):∀ (d i k:Nat),i+d = l.length→d < k→∃ r,aM.l0 k (ints l) (x:Int) ((ints l).length:Int) (i:Int) = some r∧decide (r≥0) = (l.drop i).contains x:=by
 intro d;induction d with
 | zero =>
  intro i k hi hk;obtain ⟨k,rfl⟩:∃ m,k = m+1:=⟨k - 1,by omega⟩
  refine ⟨-1,?_,?_⟩
  ·simp only [aM.l0]
   rw [if_neg (by rw [az];omega)]
  ·rw [List.drop_of_length_le (by omega)]
   rfl
 | succ d ih =>
  intro i k hi hk;obtain ⟨k,rfl⟩:∃ m,k = m+1:=⟨k - 1,by omega⟩
  have hlt:i < l.length:=by omega
  simp only [aM.l0];rw [if_pos (by rw [az];omega),if_pos (by omega),if_pos (by rw [az];omega),e9,cU.dQ i (by omega)];have hd:l.drop i = l.getD i 0 :: l.drop (i+1):=by
   rw [List.drop_eq_getElem_cons hlt];simp [List.getD,hlt]
  rw [hd];by_cases h:x = l.getD i 0
  ·refine ⟨i,by rw [if_pos (by omega)],?_⟩
   rw [← h,List.contains_cons,beq_self_eq_true,Bool.true_or,decide_eq_true (by omega)]
  ·obtain ⟨r,h1,h2⟩:=ih (i+1) k (by omega) (by omega)
   refine ⟨r,by rw [if_neg (by omega)];exact h1,?_⟩;rw [h2,List.contains_cons,beq_eq_false_iff_ne.2 h,Bool.false_or]
theorem oq (l:List Nat) (x:Nat) (hn:l.length≤1048576) (k:Nat) (hk:l.length < k):eH.f k (ints l) (x:Int) = some (l.contains x):=by
 unfold eH.f aW.f aM.f;obtain ⟨r,h1,h2⟩:=index l x hn l.length 0 k (by omega) hk;rw [show (0:Int) = ((0:Nat):Int) from rfl,h1];simp only [Option.bind_some];rw [show ((0:Nat):Int) = (0:Int) from rfl,h2,List.drop_zero]
theorem mc (l:List Nat) (x:Nat) (hn:l.length≤1048576) (k:Nat) (hk:l.length < k):bL.f k (ints l) (x:Int) = some (l.contains x):=by
 unfold bL.f;have key:∀ (d i k:Nat),i+d = l.length→d < k→bL.l0 k (ints l) (x:Int) (i:Int) = some ((l.drop i).contains x):=by
  intro d;induction d with
  | zero =>
   intro i k hi hk;obtain ⟨k,rfl⟩:∃ m,k = m+1:=⟨k - 1,by omega⟩
   simp only [bL.l0];rw [if_neg (by rw [az];omega),List.drop_of_length_le (by omega)];rfl
  | succ d ih =>
   intro i k hi hk;obtain ⟨k,rfl⟩:∃ m,k = m+1:=⟨k - 1,by omega⟩
   have hlt:i < l.length:=by omega
   simp only [bL.l0];rw [if_pos (by rw [az];omega),if_pos (by omega),e9,cU.dQ i (by omega)];have hd:l.drop i = l.getD i 0 :: l.drop (i+1):=by
    rw [List.drop_eq_getElem_cons hlt];simp [List.getD,hlt]
   rw [hd,List.contains_cons];by_cases h:l.getD i 0 = x
   ·rw [if_pos (by omega),← h,beq_self_eq_true,Bool.true_or]
   ·rw [if_neg (by omega),ih (i+1) k (by omega) (by omega),beq_eq_false_iff_ne.2 (Ne.symm h),Bool.false_or]
 have:=key l.length 0 k (by omega) hk;rw [List.drop_zero] at this;exact this
theorem qt (s:Nat) (j:Nat) (hs:s < 256) (hj:j < 8):dD.f (s:Int) (j:Int) = some (s.testBit j):=by
 unfold dD.f dM.f;rw [if_pos (by omega)];simp only [Option.bind_some];rw [if_pos (decide_eq_true (by omega)),if_pos (by omega),if_pos (by omega),if_pos (by omega),lZ s j (by omega) (by omega)]
theorem mS (s:Nat):((List.range' 0 8).foldl (fun (acc:List Int) (j:Nat)=>if s.testBit j = true then acc ++ [(j:Int)] else acc) []) = ints (elems s):=by
 rw [cU.foldl_append (fun j=>s.testBit j)];rfl
theorem fP (s:Nat) (hs:s < 256):Ev (fun k=>aJ.f k (s:Int)) (ints (elems s)):=by
 unfold aJ.f;refine cU.eN (fun k s3 i=>aJ.l0 k (s:Int) s3 i) 8 (fun j s3=>if s.testBit j = true then s3 ++ [(j:Int)] else s3) (fun i s3=>s3.length≤i) _ (fun i s3 hi hP=>⟨?_,fun h=>Ev.step (fun k=>?_) h⟩) 8 0 [] rfl (by simp) (fun _=>cU.dr 1 (fun k hk=>?_))
 ·by_cases hh:s.testBit i = true
  ·rw [if_pos hh];simp;omega
  ·rw [if_neg hh];omega
 ·simp only [aJ.l0]
  rw [if_pos (by omega),qt s i hs hi];simp only [Option.bind_some];rw [cU.dQ i (by omega)];by_cases hh:s.testBit i = true
  ·rw [if_pos hh,if_pos (by omega),if_pos hh]
  ·rw [if_neg hh,if_neg hh]
 ·obtain ⟨m,rfl⟩:∃ m,k = m+1:=⟨k - 1,by omega⟩
  simp only [aJ.l0];rw [if_neg (by omega),mS]
theorem p6 (g:Int→Option Bool) (fs:List Nat) (v:Nat→Bool) (hn:fs.length≤1048576) (hg:∀ f∈fs,g (f:Int) = some (v f)) :
  ∀ (d i k:Nat),i+d = fs.length→d < k→∃ r,b7.l0 g k (ints fs) (i:Int) = some r∧decide (r≥0) = (fs.drop i).any v:=by
 intro d;induction d with
 | zero =>
  intro i k hi hk;obtain ⟨k,rfl⟩:∃ m,k = m+1:=⟨k - 1,by omega⟩
  refine ⟨-1,?_,?_⟩
  ·simp only [b7.l0]
   rw [if_neg (by rw [az];omega)]
  ·rw [List.drop_of_length_le (by omega)]
   rfl
 | succ d ih =>
  intro i k hi hk;obtain ⟨k,rfl⟩:∃ m,k = m+1:=⟨k - 1,by omega⟩
  have hlt:i < fs.length:=by omega
  simp only [b7.l0];rw [if_pos (by rw [az];omega),if_pos (by omega),e9,hg _ (e5 fs 0 i hlt),cU.dQ i (by omega)];simp only [Option.bind_some];have hd:fs.drop i = fs.getD i 0 :: fs.drop (i+1):=by
   rw [List.drop_eq_getElem_cons hlt];simp [List.getD,hlt]
  rw [hd,List.any_cons];cases hv:v (fs.getD i 0) with
  | true=>exact ⟨i,by rw [if_pos rfl],by rw [decide_eq_true (by omega),Bool.true_or]⟩
  | false =>
   obtain ⟨r,h1,h2⟩:=ih (i+1) k (by omega) (by omega);exact ⟨r,by rw [if_neg (by decide)];exact h1,by rw [h2,Bool.false_or]⟩
theorem ji (g:Int→Option Bool) (fs:List Nat) (v:Nat→Bool) (hn:fs.length≤1048576) (hg:∀ f∈fs,g (f:Int) = some (v f)) (k:Nat) (hk:fs.length < k) :
  bH.f k (ints fs) g = some (fs.any v):=by
 unfold bH.f b7.f;obtain ⟨r,h1,h2⟩:=p6 g fs v hn hg fs.length 0 k (by omega) hk;rw [show (0:Int) = ((0:Nat):Int) from rfl,h1];simp only [Option.bind_some];rw [show ((0:Nat):Int) = (0:Int) from rfl,h2,List.drop_zero]
theorem mT (l:List Nat) (a e f:Nat) (hn:l.length≤1048576) (ha:a < 256) (he:e < 8) (hf:f < 8) (hae:a.testBit e = true) (j:a.testBit f = false) (k:Nat) (hk:l.length < k) :
  bI.f k (ints l) (a:Int) (e:Int) (f:Int) = some (l.contains (a - 2 ^ e+2 ^ f)):=by
 unfold bI.f;have h1:(2:Nat) ^ e < 2 ^ 62:=Nat.pow_lt_pow_right (by decide) (by omega);have h2:(2:Nat) ^ f < 2 ^ 62:=Nat.pow_lt_pow_right (by decide) (by omega);have h3:diff a (2 ^ e) < 2 ^ 8:=gE (n:=8) (by omega);rw [if_pos (by omega),if_pos (by omega),fh e (by omega),fh f (by omega),gA a _ (by omega),nE _ _ (by omega) h2,swap_eq a ha e he f hf hae j];exact oq l _ hn k hk
theorem kF (l:List Nat) (a b e:Nat):eR l a b e = (elems (diff b a)).any fun f=>l.contains (a - 2 ^ e+2 ^ f):=by
 rw [lg];unfold eR;congr 1
 funext f
 rw [eG]
theorem mU (l:List Nat):gO l = l.any fun a=>l.any fun b=>(elems (diff a b)).any fun e=>!eR l a b e:=by
 unfold gO;congr 1
 funext a
 congr 1
 funext b
 rw [lg];congr 1
 funext e
 rw [eG]
theorem p7 (m:Nat) (hm:m≤8) (l:List Nat) (hl:∀ s∈l,s < 2 ^ m) (hn:l.length≤1048576) (hf:oo (m:Int) (ints l) = true) :
  ∃ x y z,Ev (fun k=>ax.f k (m:Int) (ints l)) (x,y,z,gO l):=by
 have U:=dZ hm;have hlt:∀ i,i < l.length→l.getD i 0 < 256:=fun i hi=>Nat.lt_of_lt_of_le (hl _ (e5 l 0 i hi)) U
 have inner:∀ x y:Nat,x < l.length→y < l.length→∀ d i:Nat,i+d = (elems (diff (l.getD x 0) (l.getD y 0))).length→_:=fun x y hx hy =>
  fS (fun k z=>ax.l2 k (m:Int) (ints l) (x:Int) ((l.getD x 0:Nat):Int) (y:Int) ((l.getD y 0:Nat):Int) (ints (elems (diff (l.getD x 0) (l.getD y 0)))) z) (elems (diff (l.getD x 0) (l.getD y 0))).length
   (fun z=>!eR l (l.getD x 0) (l.getD y 0) ((elems (diff (l.getD x 0) (l.getD y 0))).getD z 0)) (fun r=>r.2.2.2 = true)
   (by
    intro z hz hp;have ha:=hlt x hx;have hb:=hlt y hy;obtain ⟨he,hbit⟩:=iq (e5 _ 0 z hz);rw [eG,Bool.and_eq_true] at hbit;have X:=ej (diff (l.getD x 0) (l.getD y 0));have hd:diff (l.getD y 0) (l.getD x 0) < 2 ^ 8:=gE (n:=8) (by omega);refine ⟨(((l.getD x 0:Nat):Int),((l.getD y 0:Nat):Int),(((elems (diff (l.getD x 0) (l.getD y 0))).getD z 0:Nat):Int),true),rfl,?_⟩;refine Ev.step (f:=fun k=>(aJ.f k (Go.bits .andNot .i64 ((l.getD y 0:Nat):Int) ((l.getD x 0:Nat):Int))).bind fun fs=>((bH.f k fs (fun f=>bI.f k (ints l) ((l.getD x 0:Nat):Int) (((elems (diff (l.getD x 0) (l.getD y 0))).getD z 0:Nat):Int) f)).bind fun t=>(if t = true then (ax.l2 k (m:Int) (ints l) (x:Int) ((l.getD x 0:Nat):Int) (y:Int) ((l.getD y 0:Nat):Int) (ints (elems (diff (l.getD x 0) (l.getD y 0)))) ((z+1:Nat):Int)) else (some (((l.getD x 0:Nat):Int),((l.getD y 0:Nat):Int),(((elems (diff (l.getD x 0) (l.getD y 0))).getD z 0:Nat):Int),true))))) (fun k=>?_) ?_
    ·simp only [ax.l2]
     rw [if_pos (by rw [az];omega),if_pos (by omega),e9,cU.dQ z (by omega)]
    ·rw [gA _ _ (by omega)]
     refine Ev.bind (fP _ (by omega)) ?_;refine Ev.bind (a:=eR l (l.getD x 0) (l.getD y 0) ((elems (diff (l.getD x 0) (l.getD y 0))).getD z 0)) (cU.dr (1048577+8) (fun k hk=>?_)) ?_
     ·rw [kF]
      refine ji _ _ _ (by have:=ej (diff (l.getD y 0) (l.getD x 0));omega) (fun f hf=>?_) k (by have:=ej (diff (l.getD y 0) (l.getD x 0));omega);obtain ⟨M,hfb⟩:=iq hf;rw [eG,Bool.and_eq_true] at hfb;exact mT l _ _ _ hn ha he M hbit.1 (by simpa using hfb.2) k (by omega)
     ·have hp':eR l (l.getD x 0) (l.getD y 0) ((elems (diff (l.getD x 0) (l.getD y 0))).getD z 0) = false:=by simpa using hp
      rw [hp'];exact Ev.now _)
   (by
    intro z hz hp r hr;have ha:=hlt x hx;have hb:=hlt y hy;obtain ⟨he,hbit⟩:=iq (e5 _ 0 z hz);rw [eG,Bool.and_eq_true] at hbit;have X:=ej (diff (l.getD x 0) (l.getD y 0));have hd:diff (l.getD y 0) (l.getD x 0) < 2 ^ 8:=gE (n:=8) (by omega);refine Ev.step (f:=fun k=>(aJ.f k (Go.bits .andNot .i64 ((l.getD y 0:Nat):Int) ((l.getD x 0:Nat):Int))).bind fun fs=>((bH.f k fs (fun f=>bI.f k (ints l) ((l.getD x 0:Nat):Int) (((elems (diff (l.getD x 0) (l.getD y 0))).getD z 0:Nat):Int) f)).bind fun t=>(if t = true then (ax.l2 k (m:Int) (ints l) (x:Int) ((l.getD x 0:Nat):Int) (y:Int) ((l.getD y 0:Nat):Int) (ints (elems (diff (l.getD x 0) (l.getD y 0)))) ((z+1:Nat):Int)) else (some (((l.getD x 0:Nat):Int),((l.getD y 0:Nat):Int),(((elems (diff (l.getD x 0) (l.getD y 0))).getD z 0:Nat):Int),true))))) (fun k=>?_) ?_
    ·simp only [ax.l2]
     rw [if_pos (by rw [az];omega),if_pos (by omega),e9,cU.dQ z (by omega)]
    ·rw [gA _ _ (by omega)]
     refine Ev.bind (fP _ (by omega)) ?_;refine Ev.bind (a:=eR l (l.getD x 0) (l.getD y 0) ((elems (diff (l.getD x 0) (l.getD y 0))).getD z 0)) (cU.dr (1048577+8) (fun k hk=>?_)) ?_
     ·rw [kF]
      refine ji _ _ _ (by have:=ej (diff (l.getD y 0) (l.getD x 0));omega) (fun f hf=>?_) k (by have:=ej (diff (l.getD y 0) (l.getD x 0));omega);obtain ⟨M,hfb⟩:=iq hf;rw [eG,Bool.and_eq_true] at hfb;exact mT l _ _ _ hn ha he M hbit.1 (by simpa using hfb.2) k (by omega)
     ·have hp':eR l (l.getD x 0) (l.getD y 0) ((elems (diff (l.getD x 0) (l.getD y 0))).getD z 0) = true:=by simpa using hp
      rw [hp'];simp only [if_true];exact hr)
 have I:∀ x y:Nat,((List.range' 0 (elems (diff (l.getD x 0) (l.getD y 0))).length).any fun z=>!eR l (l.getD x 0) (l.getD y 0) ((elems (diff (l.getD x 0) (l.getD y 0))).getD z 0)) = (elems (diff (l.getD x 0) (l.getD y 0))).any fun e=>!eR l (l.getD x 0) (l.getD y 0) e:=fun x y=>gP (elems (diff (l.getD x 0) (l.getD y 0))) 0 (fun e=>!eR l (l.getD x 0) (l.getD y 0) e)
 have middle:∀ x:Nat,x < l.length→∀ d i:Nat,i+d = l.length→_:=fun x hx =>
  fS (fun k y=>ax.l1 k (m:Int) (ints l) (x:Int) ((l.getD x 0:Nat):Int) y) l.length
   (fun y=>(elems (diff (l.getD x 0) (l.getD y 0))).any fun e=>!eR l (l.getD x 0) (l.getD y 0) e) (fun r=>r.2.2.2 = true)
   (by
    intro y hy hp;have ha:=hlt x hx;obtain ⟨h1,_⟩:=inner x y hx hy (elems (diff (l.getD x 0) (l.getD y 0))).length 0 (by omega);rw [I] at h1;obtain ⟨r,hr,hE⟩:=h1 hp;refine ⟨r,hr,Ev.step (f:=fun k=>(aJ.f k (Go.bits .andNot .i64 ((l.getD x 0:Nat):Int) ((l.getD y 0:Nat):Int))).bind fun es=>(ax.l2 k (m:Int) (ints l) (x:Int) ((l.getD x 0:Nat):Int) (y:Int) ((l.getD y 0:Nat):Int) es 0)) (fun k=>?_) ?_⟩
    ·simp only [ax.l1]
     rw [if_pos (by rw [az];omega),if_pos (by omega),e9]
    ·rw [gA _ _ (by omega)]
     have hd:diff (l.getD x 0) (l.getD y 0) < 2 ^ 8:=gE (n:=8) (by omega);exact Ev.bind (fP _ (by omega)) hE)
   (by
    intro y hy hp r hr;have ha:=hlt x hx;obtain ⟨_,h2⟩:=inner x y hx hy (elems (diff (l.getD x 0) (l.getD y 0))).length 0 (by omega);rw [I] at h2;refine Ev.step (f:=fun k=>(aJ.f k (Go.bits .andNot .i64 ((l.getD x 0:Nat):Int) ((l.getD y 0:Nat):Int))).bind fun es=>(ax.l2 k (m:Int) (ints l) (x:Int) ((l.getD x 0:Nat):Int) (y:Int) ((l.getD y 0:Nat):Int) es 0)) (fun k=>?_) ?_
    ·simp only [ax.l1]
     rw [if_pos (by rw [az];omega),if_pos (by omega),e9]
    ·rw [gA _ _ (by omega)]
     have hd:diff (l.getD x 0) (l.getD y 0) < 2 ^ 8:=gE (n:=8) (by omega);refine Ev.bind (fP _ (by omega)) (h2 hp r (Ev.step (fun k=>?_) hr));simp only [ax.l2];rw [if_neg (by rw [az];omega),cU.dQ y (by omega)])
 have j:∀ x:Nat,((List.range' 0 l.length).any fun y=>(elems (diff (l.getD x 0) (l.getD y 0))).any fun e=>!eR l (l.getD x 0) (l.getD y 0) e) = l.any fun b=>(elems (diff (l.getD x 0) b)).any fun e=>!eR l (l.getD x 0) b e:=fun x=>gP l 0 (fun b=>(elems (diff (l.getD x 0) b)).any fun e=>!eR l (l.getD x 0) b e)
 obtain ⟨Y,o2⟩:=fS (fun k x=>ax.l0 k (m:Int) (ints l) x) l.length
   (fun x=>l.any fun b=>(elems (diff (l.getD x 0) b)).any fun e=>!eR l (l.getD x 0) b e) (fun r=>r.2.2.2 = true)
   (by
    intro x hx hp;obtain ⟨h1,_⟩:=middle x hx l.length 0 (by omega);rw [j] at h1;obtain ⟨r,hr,hE⟩:=h1 hp;refine ⟨r,hr,Ev.step (fun k=>?_) hE⟩;simp only [ax.l0];rw [if_pos (by rw [az];omega),if_pos (by omega),e9];rfl)
   (by
    intro x hx hp r hr;obtain ⟨_,h2⟩:=middle x hx l.length 0 (by omega);rw [j] at h2;have h3:=h2 hp r (Ev.step (fun k=>by
     simp only [ax.l1];rw [if_neg (by rw [az];omega),cU.dQ x (by omega)]) hr)
    refine Ev.step (fun k=>?_) h3;simp only [ax.l0];rw [if_pos (by rw [az];omega),if_pos (by omega),e9];rfl) l.length 0 (by omega)
 have J:((List.range' 0 l.length).any fun x=>l.any fun b=>(elems (diff (l.getD x 0) b)).any fun e=>!eR l (l.getD x 0) b e) = gO l:=by
  rw [mU];exact gP l 0 (fun a=>l.any fun b=>(elems (diff a b)).any fun e=>!eR l a b e)
 rw [J] at Y o2;have start:∀ r,Ev (fun k=>ax.l0 k (m:Int) (ints l) 0) r→Ev (fun k=>ax.f k (m:Int) (ints l)) r:=fun r hr=>by
  unfold ax.f;refine Ev.bind (cU.dr (l.length+1) (fun k hk=>kD (m:Int) (ints l) (by rw [az];exact hn) k (by rw [az];omega))) ?_;rw [hf];simp only [if_true];exact hr
 cases hfl:gO l with
 | true =>
  obtain ⟨⟨x,y,z,b⟩,hb,hE⟩:=Y hfl;simp only at hb;subst hb;exact ⟨x,y,z,start _ hE⟩
 | false =>
  refine ⟨0,0,0,start _ (o2 hfl _ (cU.dr 1 (fun k hk=>?_)))⟩;obtain ⟨q,rfl⟩:∃ q,k = q+1:=⟨k - 1,by omega⟩
  simp only [ax.l0];rw [if_neg (by rw [az];omega)]
theorem fT (e:Nat) (he:e < 62):IntKind.u64.wrap (e:Int) = e:=by
 unfold IntKind.wrap;simp only [IntKind.bits,IntKind.signed,Bool.false_and,Bool.false_eq_true,if_false];omega
theorem iT (s e:Nat) (hs:s < 256) (he:e < 8):bW.f (s:Int) (e:Int) = some (s.testBit e):=by
 unfold bW.f;rw [fT e (by omega),if_pos (by omega),lZ s e (by omega) (by omega)]
theorem me (m:Nat) (hm:m≤8) (l:List Nat) (hn:l.length≤1048576) (a b e:Nat) (ha:a < 256) (hb:b < 2 ^ m) (he:e < 8) (hae:a.testBit e = true):Ev (fun k=>aU.f k (m:Int) (ints l) (a:Int) (b:Int) (e:Int)) (eR l a b e):=by
 have z:=dZ hm;unfold aU.f;have hle:=sX a ha e he hae;have key:∀ f:Nat,f < m→a.testBit f = false→wrap64 ((wrap64 ((a:Int) - ((2 ^ e:Nat):Int)))+((2 ^ f:Nat):Int)) = ((a - 2 ^ e+2 ^ f:Nat):Int):=fun f hf y=>by
  have h1:=rF a ha e he f (by omega) hae y;have h2:2 ^ f≤256:=dZ (by omega);clear hae;generalize (2:Nat) ^ e = P at *;generalize (2:Nat) ^ f = Q at *;rw [cU.qT (i:=(a:Int) - (P:Int)) (by omega) (by omega),cU.qT (by omega) (by omega)];omega
 obtain ⟨I,J⟩:=fS (fun k f=>aU.l0 k (a:Int) (b:Int) (e:Int) f (m:Int) (ints l)) m (fun f=>b.testBit f && !a.testBit f && l.contains (a - 2 ^ e+2 ^ f)) (fun r=>r = true)
  (by
   intro f hf hp;rw [Bool.and_eq_true,Bool.and_eq_true] at hp;obtain ⟨⟨h1,h2⟩,h3⟩:=hp;have h2':a.testBit f = false:=by simpa using h2
   refine ⟨true,rfl,cU.dr (l.length+2) (fun k hk=>?_)⟩;obtain ⟨q,rfl⟩:∃ q,k = q+1:=⟨k - 1,by omega⟩
   simp only [aU.l0];rw [if_pos (by omega),iT b f (by omega) (by omega),h1];simp only [Option.bind_some,if_true];rw [iT a f ha (by omega),h2'];simp only [Option.bind_some,Bool.false_eq_true,if_false];rw [fT e (by omega),fT f (by omega),if_pos (by omega),if_pos (by omega),fh e (by omega),fh f (by omega),key f hf h2',mc l _ hn q (by omega),h3];rfl)
  (by
   intro f hf hp r hr;by_cases h1:b.testBit f = true
   ·by_cases h2:a.testBit f = true
    ·refine Ev.step (fun k=>?_) hr
     simp only [aU.l0];rw [if_pos (by omega),iT b f (by omega) (by omega),h1];simp only [Option.bind_some,if_true];rw [iT a f ha (by omega),h2];simp only [Option.bind_some,if_true];rw [cU.dQ f (by omega)]
    ·have h2':a.testBit f = false:=by simpa using h2
     have h3:l.contains (a - 2 ^ e+2 ^ f) = false:=by
      rw [h1,h2'] at hp;simpa using hp
     refine Ev.step (f:=fun k=>(bL.f k (ints l) ((a - 2 ^ e+2 ^ f:Nat):Int)).bind fun t=>(if t = true then (some true) else (aU.l0 k (a:Int) (b:Int) (e:Int) ((f+1:Nat):Int) (m:Int) (ints l)))) (fun k=>?_) ?_
     ·simp only [aU.l0]
      rw [if_pos (by omega),iT b f (by omega) (by omega),h1];simp only [Option.bind_some,if_true];rw [iT a f ha (by omega),h2'];simp only [Option.bind_some,Bool.false_eq_true,if_false];rw [fT e (by omega),fT f (by omega),if_pos (by omega),if_pos (by omega),fh e (by omega),fh f (by omega),key f hf h2',cU.dQ f (by omega)]
     ·refine Ev.bind (cU.dr (l.length+1) (fun k hk=>mc l _ hn k (by omega))) ?_
      rw [h3];exact hr
   ·have h1':b.testBit f = false:=by simpa using h1
    refine Ev.step (fun k=>?_) hr;simp only [aU.l0];rw [if_pos (by omega),iT b f (by omega) (by omega),h1'];simp only [Option.bind_some,Bool.false_eq_true,if_false];rw [cU.dQ f (by omega)]) m 0 (by omega)
 have M:((List.range' 0 m).any fun f=>b.testBit f && !a.testBit f && l.contains (a - 2 ^ e+2 ^ f)) = eR l a b e:=qq m hm _ (fun j hj=>by rw [gY hb hj];rfl);rw [M] at I J;cases hx:eR l a b e with
 | true =>
  obtain ⟨r,rfl,hE⟩:=I hx;exact hE
 | false =>
  refine J hx _ (cU.dr 1 (fun k hk=>?_));obtain ⟨q,rfl⟩:∃ q,k = q+1:=⟨k - 1,by omega⟩
  simp only [aU.l0];rw [if_neg (by omega)]
theorem p8 (m:Nat) (hm:m≤8) (l:List Nat) (hl:∀ s∈l,s < 2 ^ m) (hn:l.length≤1048576) (hf:oo (m:Int) (ints l) = true) :
  ∃ x y z,Ev (fun k=>au.f k (m:Int) (ints l)) (x,y,z,gO l):=by
 have Y:=dZ hm;have hlt:∀ i,i < l.length→l.getD i 0 < 256:=fun i hi=>Nat.lt_of_lt_of_le (hl _ (e5 l 0 i hi)) Y
 have X:∀ i,i < l.length→l.getD i 0 < 2 ^ m:=fun i hi=>hl _ (e5 l 0 i hi)
 have round:∀ x y z:Nat,x < l.length→y < l.length→z < m→∀ r,(((l.getD x 0).testBit z && !(l.getD y 0).testBit z && !eR l (l.getD x 0) (l.getD y 0) z) = true→r.2.2.2 = true→r = (((l.getD x 0:Nat):Int),((l.getD y 0:Nat):Int),(z:Int),true)→Ev (fun k=>au.l2 k (x:Int) (y:Int) (z:Int) (m:Int) (ints l)) r) ∧
   (((l.getD x 0).testBit z && !(l.getD y 0).testBit z && !eR l (l.getD x 0) (l.getD y 0) z) = false→Ev (fun k=>au.l2 k (x:Int) (y:Int) ((z+1:Nat):Int) (m:Int) (ints l)) r→Ev (fun k=>au.l2 k (x:Int) (y:Int) (z:Int) (m:Int) (ints l)) r):=by
  intro x y z hx hy hz r;have ha:=hlt x hx;have hb:=hlt y hy;have U:∀ k,au.l2 (k+1) (x:Int) (y:Int) (z:Int) (m:Int) (ints l) = (if (l.getD x 0).testBit z = true then (if (l.getD y 0).testBit z = true then au.l2 k (x:Int) (y:Int) ((z+1:Nat):Int) (m:Int) (ints l) else ((aU.f k (m:Int) (ints l) ((l.getD x 0:Nat):Int) ((l.getD y 0:Nat):Int) (z:Int)).bind fun t=>(if t = true then au.l2 k (x:Int) (y:Int) ((z+1:Nat):Int) (m:Int) (ints l) else some (((l.getD x 0:Nat):Int),((l.getD y 0:Nat):Int),(z:Int),true)))) else au.l2 k (x:Int) (y:Int) ((z+1:Nat):Int) (m:Int) (ints l)):=fun k=>by
   simp only [au.l2];rw [if_pos (by omega),if_pos (by omega),if_pos (by rw [az];omega),if_pos (by omega),if_pos (by rw [az];omega),e9,e9,iT _ z ha (by omega)];simp only [Option.bind_some];rw [iT _ z hb (by omega)];simp only [Option.bind_some];rw [cU.dQ z (by omega)]
  cases h1:(l.getD x 0).testBit z with
  | false =>
   refine ⟨fun h=>by simp at h,fun _ hr=>Ev.step (fun k=>?_) hr⟩;rw [U,h1,if_neg (by decide)]
  | true =>
   cases h2:(l.getD y 0).testBit z with
   | true =>
    refine ⟨fun h=>by simp at h,fun _ hr=>Ev.step (fun k=>?_) hr⟩;rw [U,h1,h2,if_pos rfl,if_pos rfl]
   | false =>
    have hE:=me m hm l hn (l.getD x 0) (l.getD y 0) z ha (X y hy) (by omega) h1;cases h3:eR l (l.getD x 0) (l.getD y 0) z with
    | true =>
     rw [h3] at hE;refine ⟨fun h=>by simp at h,fun _ hr=>Ev.step (fun k=>?_) (Ev.bind hE (f:=fun k t=>(if t = true then au.l2 k (x:Int) (y:Int) ((z+1:Nat):Int) (m:Int) (ints l) else some (((l.getD x 0:Nat):Int),((l.getD y 0:Nat):Int),(z:Int),true))) (by simp only [if_true];exact hr))⟩;rw [U,h1,h2,if_pos rfl,if_neg (by decide)]
    | false =>
     rw [h3] at hE;refine ⟨fun _ _ e=>?_,fun h=>by simp at h⟩;subst e;refine Ev.step (fun k=>?_) (Ev.bind hE (f:=fun k t=>(if t = true then au.l2 k (x:Int) (y:Int) ((z+1:Nat):Int) (m:Int) (ints l) else some (((l.getD x 0:Nat):Int),((l.getD y 0:Nat):Int),(z:Int),true))) (by simp only [Bool.false_eq_true,if_false];exact Ev.now _));rw [U,h1,h2,if_pos rfl,if_neg (by decide)]
 have inner:∀ x y:Nat,x < l.length→y < l.length→∀ d i:Nat,i+d = m→_:=fun x y hx hy =>
  fS (fun k z=>au.l2 k (x:Int) (y:Int) z (m:Int) (ints l)) m
   (fun z=>(l.getD x 0).testBit z && !(l.getD y 0).testBit z && !eR l (l.getD x 0) (l.getD y 0) z) (fun r=>r.2.2.2 = true)
   (fun z hz hp=>⟨_,rfl,(round x y z hx hy hz (((l.getD x 0:Nat):Int),((l.getD y 0:Nat):Int),(z:Int),true)).1 hp rfl rfl⟩)
   (fun z hz hp r hr=>(round x y z hx hy hz r).2 hp hr)
 have J:∀ x y:Nat,x < l.length→((List.range' 0 m).any fun z=>(l.getD x 0).testBit z && !(l.getD y 0).testBit z && !eR l (l.getD x 0) (l.getD y 0) z) = (List.range' 0 8).any fun e=>(l.getD x 0).testBit e && !(l.getD y 0).testBit e && !eR l (l.getD x 0) (l.getD y 0) e:=fun x y hx=>qq m hm _ (fun j hj=>by rw [gY (X x hx) hj];rfl)
 have middle:∀ x:Nat,x < l.length→∀ d i:Nat,i+d = l.length→_:=fun x hx =>
  fS (fun k y=>au.l1 k (x:Int) y (m:Int) (ints l)) l.length
   (fun y=>(List.range' 0 8).any fun e=>(l.getD x 0).testBit e && !(l.getD y 0).testBit e && !eR l (l.getD x 0) (l.getD y 0) e) (fun r=>r.2.2.2 = true)
   (by
    intro y hy hp;obtain ⟨h1,_⟩:=inner x y hx hy m 0 (by omega);rw [J x y hx] at h1;obtain ⟨r,hr,hE⟩:=h1 hp;refine ⟨r,hr,Ev.step (fun k=>?_) hE⟩;simp only [au.l1];rw [if_pos (by rw [az];omega)];rfl)
   (by
    intro y hy hp r hr;obtain ⟨_,h2⟩:=inner x y hx hy m 0 (by omega);rw [J x y hx] at h2;refine Ev.step (fun k=>?_) (h2 hp r (Ev.step (fun k=>by
     simp only [au.l2];rw [if_neg (by omega),cU.dQ y (by omega)]) hr))
    simp only [au.l1];rw [if_pos (by rw [az];omega)];rfl)
 have I:∀ x:Nat,((List.range' 0 l.length).any fun y=>(List.range' 0 8).any fun e=>(l.getD x 0).testBit e && !(l.getD y 0).testBit e && !eR l (l.getD x 0) (l.getD y 0) e) = l.any fun b=>(List.range' 0 8).any fun e=>(l.getD x 0).testBit e && !b.testBit e && !eR l (l.getD x 0) b e:=fun x=>gP l 0 (fun b=>(List.range' 0 8).any fun e=>(l.getD x 0).testBit e && !b.testBit e && !eR l (l.getD x 0) b e)
 obtain ⟨o1,o2⟩:=fS (fun k x=>au.l0 k x (m:Int) (ints l)) l.length
   (fun x=>l.any fun b=>(List.range' 0 8).any fun e=>(l.getD x 0).testBit e && !b.testBit e && !eR l (l.getD x 0) b e) (fun r=>r.2.2.2 = true)
   (by
    intro x hx hp;obtain ⟨h1,_⟩:=middle x hx l.length 0 (by omega);rw [I] at h1;obtain ⟨r,hr,hE⟩:=h1 hp;refine ⟨r,hr,Ev.step (fun k=>?_) hE⟩;simp only [au.l0];rw [if_pos (by rw [az];omega)];rfl)
   (by
    intro x hx hp r hr;obtain ⟨_,h2⟩:=middle x hx l.length 0 (by omega);rw [I] at h2;refine Ev.step (fun k=>?_) (h2 hp r (Ev.step (fun k=>by
     simp only [au.l1];rw [if_neg (by rw [az];omega),cU.dQ x (by omega)]) hr))
    simp only [au.l0];rw [if_pos (by rw [az];omega)];rfl) l.length 0 (by omega)
 have M:((List.range' 0 l.length).any fun x=>l.any fun b=>(List.range' 0 8).any fun e=>(l.getD x 0).testBit e && !b.testBit e && !eR l (l.getD x 0) b e) = gO l:=by
  unfold gO;exact gP l 0 (fun a=>l.any fun b=>(List.range' 0 8).any fun e=>a.testBit e && !b.testBit e && !eR l a b e)
 rw [M] at o1 o2;have start:∀ r,Ev (fun k=>au.l0 k 0 (m:Int) (ints l)) r→Ev (fun k=>au.f k (m:Int) (ints l)) r:=fun r hr=>by
  unfold au.f;refine Ev.bind (cU.dr (l.length+1) (fun k hk=>kE (m:Int) (ints l) (by rw [az];exact hn) k (by rw [az];omega))) ?_;rw [hf];simp only [if_true];exact hr
 cases hfl:gO l with
 | true =>
  obtain ⟨⟨x,y,z,b⟩,hb,hE⟩:=o1 hfl;simp only at hb;subst hb;exact ⟨x,y,z,start _ hE⟩
 | false =>
  refine ⟨0,0,0,start _ (o2 hfl _ (cU.dr 1 (fun k hk=>?_)))⟩;obtain ⟨q,rfl⟩:∃ q,k = q+1:=⟨k - 1,by omega⟩
  simp only [au.l0];rw [if_neg (by rw [az];omega)]
def eY (n:Int) (l:List Int):Bool:=oo n l && decide (0 < l.length) && !gO (l.map Int.toNat)
theorem fC (l:List Nat):(ints l).map Int.toNat = l:=by
 unfold ints;rw [List.map_map];conv=>rhs;rw [← List.map_id l]
 exact List.map_congr_left fun x _=>by simp
theorem ot (n:Int) (l:List Int) (hn:l.length≤1048576):Ev (fun k=>cO.f k n l) (eY n l):=by
 unfold cO.f eY;have hF:Ev (fun k=>bw.f k n l) (oo n l):=cU.dr (l.length+1) (fun k hk=>kD n l hn k (by omega));cases hf:oo n l with
 | false =>
  rw [hf] at hF;refine Ev.bind (a:=(0,0,0,false)) ?_ (Ev.bind hF (by simp only [Bool.false_eq_true,if_false];exact Ev.now _));unfold ax.f;exact Ev.bind hF (by simp only [Bool.false_eq_true,if_false];exact Ev.now _)
 | true =>
  rw [hf] at hF;obtain ⟨m,j,rfl,hm,rfl,hl⟩:=mb hf;rw [fC];rw [az] at hn;obtain ⟨x,y,z,hE⟩:=p7 m hm j hl hn hf;refine Ev.bind hE (Ev.bind hF ?_);simp only [if_true,az];by_cases I:0 < j.length
  ·simp only [if_pos (show (j.length:Int) > 0 by omega),decide_eq_true I,Bool.true_and]
   exact Ev.now _
  ·simp only [if_neg (show ¬ (j.length:Int) > 0 by omega),decide_eq_false I,Bool.true_and,Bool.false_and]
   exact Ev.now _
theorem ou (n:Int) (l:List Int) (hn:l.length≤1048576):Ev (fun k=>cv.f k n l) (eY n l):=by
 unfold cv.f eY;have hF:Ev (fun k=>bz.f k n l) (oo n l):=cU.dr (l.length+1) (fun k hk=>kE n l hn k (by omega));cases hf:oo n l with
 | false =>
  rw [hf] at hF;refine Ev.bind (a:=(0,0,0,false)) ?_ (Ev.bind hF (by simp only [Bool.false_eq_true,if_false];exact Ev.now _));unfold au.f;exact Ev.bind hF (by simp only [Bool.false_eq_true,if_false];exact Ev.now _)
 | true =>
  rw [hf] at hF;obtain ⟨m,j,rfl,hm,rfl,hl⟩:=mb hf;rw [fC];rw [az] at hn;obtain ⟨x,y,z,hE⟩:=p8 m hm j hl hn hf;refine Ev.bind hE (Ev.bind hF ?_);simp only [if_true,az];by_cases I:0 < j.length
  ·simp only [if_pos (show (j.length:Int) > 0 by omega),decide_eq_true I,Bool.true_and]
   exact Ev.now _
  ·simp only [if_neg (show ¬ (j.length:Int) > 0 by omega),decide_eq_false I,Bool.true_and,Bool.false_and]
   exact Ev.now _
end pH
end
section
namespace jo
open Go.RowKit Go.Proofs.YtmpbccmcaabpjaaGreat.Pr Go.Proofs.YtmpbccmcaabpjaaGreat.Sets pH ag.aX ag.bQ ag.bR
set_option linter.unusedVariables false
def cnt (s:Nat):Nat:=(elems s).length
theorem sY (s:Nat):cnt s≤8:=ej s
set_option maxRecDepth 100000 in
theorem nF:∀ s:Nat,s < 256→eL.f (s:Int) = some (cnt s:Int):=by decide +kernel
theorem p9 (s:Nat) (h:s < 256):eL.f (s:Int) = some (cnt s:Int):=nF s h
set_option maxRecDepth 100000 in
theorem nG:∀ s:Nat,s < 256→aN.f 10 (s:Int) = some (cnt s:Int):=by decide +kernel
theorem pb (s:Nat) (h:s < 256) (k:Nat) (hk:10≤k):aN.f k (s:Int) = some (cnt s:Int):=by
 induction k with
 | zero=>omega
 | succ k ih =>
  by_cases e:10≤k
  ·exact aN.mono _ _ _ (ih e)
  ·obtain rfl:k = 9:=by omega
   exact nG s h
theorem j3 (s:Nat) (h:s < 256):Ev (fun k=>aN.f k (s:Int)) (cnt s:Int):=cU.dr 10 (fun k hk=>pb s h k hk)
def kV (l:List Nat) (s:Nat):Nat:=l.foldl (fun m b=>max m (cnt (s &&& b))) 0
theorem mV {σ:Type} (l:List Nat) (f:σ→Nat→σ) (s:σ):(List.range' 0 l.length).foldl (fun s i=>f s (l.getD i 0)) s = l.foldl f s:=by
 have e:l = (List.range' 0 l.length).map fun i=>l.getD i 0:=by
  rw [← List.range_eq_range',cU.l9]
 conv=>rhs;rw [e]
 rw [List.foldl_map]
theorem mW {a b n:Nat} (ha:a < 2 ^ n) (hb:b < 2 ^ n):a ||| b < 2 ^ n:=Nat.or_lt_two_pow ha hb
theorem kG {e m:Nat} (h:e < m):2 ^ e < 2 ^ m:=Nat.pow_lt_pow_right (by decide) h
theorem k4 (m:Nat) (h:m < 2 ^ 62):IntKind.u64.wrap (m:Int) = m:=by
 rw [IntKind.wrap_u64];omega
end jo
end
section
namespace Flat
open Go.RowKit Go.Proofs.YtmpbccmcaabpjaaGreat.Pr Go.Proofs.YtmpbccmcaabpjaaGreat.Sets pH jo ag.aX ag.bQ ag.bR
set_option linter.unusedVariables false
theorem jj {n:Int} {l:List Int} (h:eY n l = true):∃ (m:Nat) (j:List Nat),n = m∧m≤8∧l = ints j∧(∀ s∈j,s < 2 ^ m)∧0 < j.length∧gO j = false:=by
 unfold eY at h;rw [Bool.and_eq_true,Bool.and_eq_true,decide_eq_true_eq] at h;obtain ⟨⟨h1,h2⟩,h3⟩:=h;obtain ⟨m,j,rfl,hm,rfl,hl⟩:=mb h1;rw [fC] at h3;rw [az] at h2;exact ⟨m,j,rfl,hm,rfl,hl,h2,by simpa using h3⟩
theorem gn (m:Nat) (hm:m≤8):dS.f (m:Int) = some ((2 ^ m - 1:Nat):Int):=by
 have:∀ m:Nat,m < 9→dS.f (m:Int) = some ((2 ^ m - 1:Nat):Int):=by decide +kernel
 exact this m (by omega)
theorem lp (m:Nat) (hm:m≤8):dU.f (m:Int) = some ((2 ^ m - 1:Nat):Int):=by
 have:∀ m:Nat,m < 9→dU.f (m:Int) = some ((2 ^ m - 1:Nat):Int):=by decide +kernel
 exact this m (by omega)
theorem foldl_filter (p:Nat→Bool) (q:List Nat):(q.foldl (fun (s:List Int) j=>if p j = true then s ++ [(j:Int)] else s) []) = ints (q.filter p):=by
 rw [cU.foldl_append,List.nil_append];rfl
theorem pc (L:Nat→List Int→Int→Option (List Int)) (n:Nat) (p:Nat→Bool)
  (j:∀ i s,i < n→s.length≤i→∀ r,Ev (fun k=>L k (if p i = true then s ++ [(i:Int)] else s) ((i+1:Nat):Int)) r→Ev (fun k=>L k s (i:Int)) r)
  (hend:∀ k s,L (k+1) s (n:Int) = some s):Ev (fun k=>L k [] 0) (ints ((List.range' 0 n).filter p)):=by
 rw [← foldl_filter];refine cU.eN L n (fun i s=>if p i = true then s ++ [(i:Int)] else s) (fun i s=>s.length≤i) _ (fun i s hi hP=>⟨?_,j i s hi hP _⟩) n 0 [] (by omega) (by simp) (fun _=>cU.dr 1 (fun k hk=>?_))
 ·show (if _ then _ else _:List Int).length≤_
  split
  ·simp;omega
  ·omega
 ·obtain ⟨q,rfl⟩:∃ q,k = q+1:=⟨k - 1,by omega⟩
  exact hend _ _
theorem nH (m:Nat) (hm:m≤8) (g:Nat→Int→Option Bool) (p:Nat→Bool) (hg:∀ s:Nat,s < 2 ^ m→Ev (fun k=>g k (s:Int)) (p s)) (hmono:∀ k s,fl (g k s) (g (k+1) s)):Ev (fun k=>bK.f k (m:Int) (g k)) (ints ((List.range' 0 (2 ^ m)).filter p)):=by
 have I:=dZ hm;have hpos:0 < 2 ^ m:=Nat.pow_pos (by decide);have hup:∀ s:Int,∀ a d r,g a s = some r→g (a+d) s = some r:=by
  intro s a d r h;induction d with
  | zero=>exact h
  | succ d ih=>exact hmono _ _ _ ih
 have all:∀ n:Nat,n≤2 ^ m→∃ K,∀ k,K≤k→∀ s:Nat,s < n→g k (s:Int) = some (p s):=by
  intro n;induction n with
  | zero=>exact fun _=>⟨0,fun k _ s hs=>by omega⟩
  | succ n ih =>
   intro hn;obtain ⟨K,hK⟩:=ih (by omega);obtain ⟨K',hK'⟩:=hg n (by omega);refine ⟨max K K',fun k hk s hs=>?_⟩;by_cases e:s = n
   ·subst e
    exact hK' k (by omega)
   ·exact hK k (by omega) s (by omega)
 obtain ⟨K,hK⟩:=all (2 ^ m) (Nat.le_refl _);have fixed:∀ j,K≤j→Ev (fun k=>bK.l0 (g j) k (m:Int) [] 0) (ints ((List.range' 0 (2 ^ m)).filter p)):=fun j y=>by
  refine pc (fun k s i=>bK.l0 (g j) k (m:Int) s i) (2 ^ m) p (fun i s hi hs r h=>Ev.step (fun k=>?_) h) (fun k s=>?_)
  ·simp only [bK.l0]
   rw [gn m hm];simp only [Option.bind_some];rw [if_pos (by omega),hK j y i hi];simp only [Option.bind_some];rw [cU.dQ i (by omega)];cases p i with
   | false=>rfl
   | true=>rw [if_pos rfl,if_pos (by omega),if_pos rfl]
  ·simp only [bK.l0]
   rw [gn m hm];simp only [Option.bind_some];rw [if_neg (by omega)]
 have count:∀ j,K≤j→∀ (d i:Nat) (s:List Int) (k:Nat),i+d = 2 ^ m→d < k→s.length≤i→bK.l0 (g j) k (m:Int) s (i:Int) = bK.l0 (g K) k (m:Int) s (i:Int)∧∀ e,bK.l0 (g j) (k+e) (m:Int) s (i:Int) = bK.l0 (g j) k (m:Int) s (i:Int):=by
  intro j y d;induction d with
  | zero =>
   intro i s k hi hk hs;obtain rfl:i = 2 ^ m:=by omega
   obtain ⟨k,rfl⟩:∃ q,k = q+1:=⟨k - 1,by omega⟩
   refine ⟨?_,fun e=>?_⟩
   ·simp only [bK.l0]
    rw [gn m hm];simp only [Option.bind_some];rw [if_neg (by omega),if_neg (by omega)]
   ·rw [show k+1+e = (k+e)+1 by omega]
    simp only [bK.l0];rw [gn m hm];simp only [Option.bind_some];rw [if_neg (by omega),if_neg (by omega)]
  | succ d ih =>
   intro i s k hi hk hs;obtain ⟨k,rfl⟩:∃ q,k = q+1:=⟨k - 1,by omega⟩
   obtain ⟨J,a2⟩:=ih (i+1) (s ++ [(i:Int)]) k (by omega) (by omega) (by simp;omega);obtain ⟨M,U⟩:=ih (i+1) s k (by omega) (by omega) (by omega);refine ⟨?_,fun e=>?_⟩
   ·simp only [bK.l0]
    rw [gn m hm];simp only [Option.bind_some];simp only [if_pos (show (i:Int)≤((2 ^ m - 1:Nat):Int) by omega),if_pos (show s.length < 17592186044416 by omega),hK j y i (by omega),hK K (Nat.le_refl _) i (by omega),cU.dQ i (by omega),Option.bind_some,J,M]
   ·rw [show k+1+e = (k+e)+1 by omega]
    simp only [bK.l0];rw [gn m hm];simp only [Option.bind_some];simp only [if_pos (show (i:Int)≤((2 ^ m - 1:Nat):Int) by omega),if_pos (show s.length < 17592186044416 by omega),hK j y i (by omega),cU.dQ i (by omega),Option.bind_some,a2,U]
 obtain ⟨X,z⟩:=fixed K (Nat.le_refl _);refine ⟨max (max K X) (2 ^ m+1),fun k hk=>?_⟩;show bK.l0 (g k) k (m:Int) [] ((0:Nat):Int) = _;rw [(count k (by omega) (2 ^ m) 0 [] k (by omega) (by omega) (by simp)).1];exact z k (by omega)
end Flat
end
end Go.Proofs.YtmpbccmcaabpjaaGreat
section
namespace Go.Proofs.YtmpbccmcaabpjaaGreat.Sort
open Go.RowKit Go.Proofs.YtmpbccmcaabpjaaGreat.Pr Go.Proofs.YtmpbccmcaabpjaaGreat.Sets Go.Proofs.ag.aX Go.Proofs.ag.bQ Go.Proofs.ag.bR
set_option linter.unusedVariables false
def ins (x:Int):List Int→List Int
 | []=>[x]
 | a :: l=>if a < x then a :: ins x l else if a = x then a :: l else x :: a :: l
def sset (l:List Int):List Int:=l.foldl (fun out x=>ins x out) []
theorem ov (x y:Int) (l:List Int):y∈ins x l↔y = x∨y∈l:=by
 induction l with
 | nil=>simp [ins]
 | cons a l ih =>
  unfold ins;split
  ·simp only [List.mem_cons,ih]
   constructor
   ·rintro (h | h | h) <;> simp [h]
   ·rintro (h | h | h) <;> simp [h]
  ·split
   ·rename_i h
    subst h;simp
   ·simp
theorem nI (x:Int) (l:List Int) (h:l.Pairwise (· < ·)):(ins x l).Pairwise (· < ·):=by
 induction l with
 | nil=>simp [ins]
 | cons a l ih =>
  obtain ⟨h1,h2⟩:=List.pairwise_cons.1 h;unfold ins;split
  ·rename_i hlt
   refine List.pairwise_cons.2 ⟨fun y hy=>?_,ih h2⟩;rcases (ov x y l).1 hy with rfl | hy
   ·exact hlt
   ·exact h1 y hy
  ·split
   ·exact h
   ·rename_i ha hb
    refine List.pairwise_cons.2 ⟨fun y hy=>?_,h⟩;rcases List.mem_cons.1 hy with rfl | hy
    ·omega
    ·have:=h1 y hy
     omega
theorem kH (x:Int) (l:List Int):(ins x l).length≤l.length+1:=by
 induction l with
 | nil=>simp [ins]
 | cons a l ih =>
  unfold ins;split
  ·simp only [List.length_cons];omega
  ·split <;> simp
theorem jz (l out:List Int) (ho:out.Pairwise (· < ·)):(l.foldl (fun out x=>ins x out) out).Pairwise (· < ·)∧(∀ y,y∈l.foldl (fun out x=>ins x out) out↔y∈out∨y∈l)∧(l.foldl (fun out x=>ins x out) out).length≤out.length+l.length:=by
 induction l generalizing out with
 | nil=>exact ⟨ho,fun y=>by simp,by simp⟩
 | cons a l ih =>
  rw [List.foldl_cons];obtain ⟨h1,h2,h3⟩:=ih (ins a out) (nI a out ho);refine ⟨h1,fun y=>?_,?_⟩
  ·rw [h2 y,ov,List.mem_cons]
   constructor
   ·rintro ((h | h) | h) <;> simp [h]
   ·rintro (h | h | h) <;> simp [h]
  ·have:=kH a out
   simp only [List.length_cons];omega
theorem ir (l:List Int):(sset l).Pairwise (· < ·):=(jz l [] List.Pairwise.nil).1
theorem jk (l:List Int) (y:Int):y∈sset l↔y∈l:=by
 have:=(jz l [] List.Pairwise.nil).2.1 y;simpa [sset] using this
theorem mX (l:List Int):(sset l).length≤l.length:=by
 have:=(jz l [] List.Pairwise.nil).2.2;simpa [sset] using this
theorem ow (a b:List Int) (ha:a.Pairwise (· < ·)) (hb:b.Pairwise (· < ·)) (h:∀ x,x∈a↔x∈b):a = b:=by
 induction a generalizing b with
 | nil =>
  cases b with
  | nil=>rfl
  | cons y b=>exact absurd ((h y).2 (by simp)) (by simp)
 | cons x a ih =>
  cases b with
  | nil=>exact absurd ((h x).1 (by simp)) (by simp)
  | cons y b =>
   obtain ⟨j,a2⟩:=List.pairwise_cons.1 ha;obtain ⟨I,J⟩:=List.pairwise_cons.1 hb;have hxy:x = y:=by
    rcases List.mem_cons.1 ((h x).1 (by simp)) with e | e
    ·exact e
    ·rcases List.mem_cons.1 ((h y).2 (by simp)) with e' | e'
     ·exact e'.symm
     ·have:=I x e
      have:=j y e';omega
   subst hxy;congr 1
   refine ih b a2 J fun z=>⟨fun hz=>?_,fun hz=>?_⟩
   ·rcases List.mem_cons.1 ((h z).1 (by simp [hz])) with rfl | e
    ·exact absurd (j z hz) (by omega)
    ·exact e
   ·rcases List.mem_cons.1 ((h z).2 (by simp [hz])) with rfl | e
    ·exact absurd (I z hz) (by omega)
    ·exact e
theorem mg (d:Array Int) (hd:∀ i j,i≤j→j < d.size→d[i]! ≤ d[j]!):∀ m,m≤d.size→(Lib.compactUpTo d m).Pairwise (· < ·)∧(∀ y,y∈Lib.compactUpTo d m↔∃ j,j < m∧d[j]! = y):=by
 intro m;induction m with
 | zero=>exact fun _=>⟨by simp [Lib.compactUpTo],fun y=>by simp [Lib.compactUpTo]⟩
 | succ m ih =>
  intro hm;obtain ⟨h1,h2⟩:=ih (by omega);rw [Lib.compactUpTo_succ];by_cases hk:Lib.keeps d m = true
  ·rw [if_pos hk]
   refine ⟨?_,fun y=>?_⟩
   ·rw [List.pairwise_append]
    refine ⟨h1,by simp,fun x hx y hy=>?_⟩;obtain rfl:y = d[m]!:=by simpa using hy
    obtain ⟨j,hj,rfl⟩:=(h2 x).1 hx;have hne:d[m]! ≠ d[m - 1]!:=by
     unfold Lib.keeps at hk;rw [decide_eq_true_eq] at hk;rcases hk with rfl | hk
     ·omega
     ·exact hk
    have I:=hd j (m - 1) (by omega) (by omega);have J:=hd (m - 1) m (by omega) (by omega);omega
   ·rw [List.mem_append,h2 y]
    constructor
    ·rintro (⟨j,hj,rfl⟩ | h)
     ·exact ⟨j,by omega,rfl⟩
     ·have e:y = d[m]!:=by simpa using h
      exact ⟨m,by omega,e.symm⟩
    ·rintro ⟨j,hj,rfl⟩
     by_cases e:j = m
     ·subst e
      exact .inr (by simp)
     ·exact .inl ⟨j,by omega,rfl⟩
  ·rw [if_neg hk,List.append_nil]
   refine ⟨h1,fun y=>?_⟩;rw [h2 y];constructor
   ·rintro ⟨j,hj,rfl⟩
    exact ⟨j,by omega,rfl⟩
   ·rintro ⟨j,hj,rfl⟩
    by_cases e:j = m
    ·subst e
     have hk':¬ (j = 0∨d[j]! ≠ d[j - 1]!):=by
      unfold Lib.keeps at hk;rw [decide_eq_true_eq] at hk;exact hk
     have z:j≠0:=fun h=>hk' (.inl h)
     have he:d[j]! = d[j - 1]!:=Decidable.byContradiction fun h=>hk' (.inr h)
     exact ⟨j - 1,by omega,he.symm⟩
    ·exact ⟨j,by omega,rfl⟩
theorem mh (l:List Int):Lib.compact (jn.sorted l) = sset l:=by
 have hs:(jn.sorted l).Pairwise (fun x y=>decide (x≤y) = true):=List.pairwise_mergeSort (le:=fun x y=>decide (x≤y)) (fun a b c h1 h2=>by simp only [decide_eq_true_eq] at *;omega) (fun a b=>by simp only [Bool.or_eq_true,decide_eq_true_eq];omega) l;have hmem:∀ y,y∈jn.sorted l↔y∈l:=fun y=>(List.mergeSort_perm l _).mem_iff
 generalize jn.sorted l = q at *;have hd:∀ i j,i≤j→j < q.toArray.size→q.toArray[i]! ≤ q.toArray[j]!:=fun i j hij hj=>by
  have hj':j < q.length:=by simpa using hj
  rcases Nat.lt_or_eq_of_le hij with h | rfl
  ·have:=(List.pairwise_iff_getElem.1 hs) i j (by omega) hj' h
   simp only [decide_eq_true_eq] at this;simpa [getElem!_pos,show i < q.length by omega,hj'] using this
  ·exact Int.le_refl _
 obtain ⟨h1,h2⟩:=mg q.toArray hd q.length (by simp);refine ow _ _ h1 (ir l) fun x=>?_
 rw [jk,← hmem];refine (h2 x).trans ⟨?_,fun h=>?_⟩
 ·rintro ⟨j,hj,rfl⟩
  have:q.toArray[j]! = q[j]:=by simp [getElem!_pos,hj]
  rw [this];exact List.getElem_mem hj
 ·obtain ⟨j,hj,rfl⟩:=List.getElem_of_mem h
  exact ⟨j,hj,by simp [getElem!_pos,hj]⟩
theorem qu (l:List Int) (hn:l.length≤1048576):ep.f l = some (sset l):=by
 unfold ep.f;rw [if_pos (by omega),mh]
theorem drop_cons (l:List Int) (i:Nat) (h:i < l.length):l.drop i = l.getD i 0 :: l.drop (i+1):=by
 rw [List.drop_eq_getElem_cons h];simp [List.getD,h]
theorem qv (x:Int) (out:List Int):∀ i,i≤out.length→(∀ j,j < i→out.getD j 0 < x)→ins x out = out.take i ++ ins x (out.drop i):=by
 intro i;induction i with
 | zero=>intro _ _;simp
 | succ i ih =>
  intro hi h;rw [ih (by omega) fun j hj=>h j (by omega),drop_cons out i (by omega)];have:=h i (by omega);rw [ins,if_pos this,List.take_succ_eq_append_getElem (by omega),List.append_assoc];simp [List.getD,show i < out.length by omega]
theorem qw (l:List Int) (hn:l.length≤1048576):Ev (fun k=>aq.f k l) (sset l):=by
 unfold aq.f sset;have e:l.foldl (fun out x=>ins x out) [] = (List.range' 0 l.length).foldl (fun out i=>ins (l.getD i 0) out) []:=by
  have y:l = (List.range' 0 l.length).map fun i=>l.getD i 0:=by rw [← List.range_eq_range',cU.l9]
  conv=>lhs;rw [y]
  rw [List.foldl_map]
 rw [e];refine cU.eN (fun k (out:List Int) i=>aq.l0 k l out i) l.length (fun i out=>ins (l.getD i 0) out) (fun i out=>out.length≤i) _ (fun i out hi hP=>⟨?_,fun h=>?_⟩) l.length 0 [] (by omega) (by simp) (fun _=>cU.dr 1 (fun k hk=>?_))
 ·have:=kH (l.getD i 0) out
  show (ins _ _).length≤_;omega
 ·refine Ev.step (f:=fun k=>aq.l1 k l out (i:Int) 0) (fun k=>?_) ?_
  ·simp only [aq.l0]
   rw [if_pos (by omega)]
  ·have key:∀ d a:Nat,a+d = out.length→(∀ j,j < a→out.getD j 0 < l.getD i 0)→Ev (fun k=>aq.l1 k l out (i:Int) (a:Int)) ((List.range' 0 l.length).foldl (fun out i=>ins (l.getD i 0) out) []):=by
    intro d;induction d with
    | zero =>
     intro a ha hlt;obtain rfl:a = out.length:=by omega
     have hins:ins (l.getD i 0) out = out.take out.length ++ [l.getD i 0] ++ out.drop out.length:=by
      rw [qv _ _ out.length (Nat.le_refl _) hlt,List.drop_length,ins];simp
     rw [hins] at h;refine Ev.step (fun k=>?_) h;simp only [aq.l1];rw [if_neg (by omega)];simp only [Option.bind_some,Int.toNat_natCast,cU.dN,List.nil_append,List.length_nil,Nat.zero_add];rw [if_pos (by omega),if_pos (by omega),if_pos (by simp),if_pos (by omega),if_pos (by omega),if_pos (by rw [List.length_take];omega),if_pos (by simp;omega),cU.dQ i (by omega)]
    | succ d ih =>
     intro a ha hlt;have hlen:a < out.length:=by omega
     by_cases h1:out.getD a 0 < l.getD i 0
     ·refine Ev.step (fun k=>?_) (ih (a+1) (by omega) fun j hj=>?_)
      ·simp only [aq.l1]
       rw [if_pos (by omega),if_pos (by omega),if_pos (by omega),if_pos (by omega),cU.dN,cU.dN,if_pos h1,cU.dQ a (by omega)]
      ·by_cases e:j = a
       ·subst e;exact h1
       ·exact hlt j (by omega)
     ·have hat:=qv (l.getD i 0) out a (by omega) hlt
      rw [drop_cons out a hlen,ins,if_neg h1] at hat;by_cases h2:out.getD a 0 = l.getD i 0
      ·have hins:ins (l.getD i 0) out = out:=by
        rw [hat,if_pos h2,← drop_cons out a hlen,List.take_append_drop]
       rw [hins] at h;refine Ev.step (fun k=>?_) h;simp only [aq.l1];rw [if_pos (by omega),if_pos (by omega),if_pos (by omega),if_pos (by omega),cU.dN,cU.dN,if_neg h1,if_pos h2,cU.dQ i (by omega)]
      ·have hins:ins (l.getD i 0) out = out.take a ++ [l.getD i 0] ++ out.drop a:=by
        rw [hat,if_neg h2,← drop_cons out a hlen,List.append_assoc];rfl
       rw [hins] at h;refine Ev.step (fun k=>?_) h;simp only [aq.l1];rw [if_pos (by omega),if_pos (by omega),if_pos (by omega),if_pos (by omega),cU.dN,cU.dN,if_neg h1,if_neg h2];simp only [Option.bind_some,Int.toNat_natCast,List.nil_append,List.length_nil,Nat.zero_add];rw [if_pos (by omega),if_pos (by simp;omega),if_pos (by rw [List.length_take];omega),if_pos (by simp;omega),cU.dQ i (by omega)]
   exact key out.length 0 (by omega) (fun j hj=>by omega)
 ·obtain ⟨q,rfl⟩:∃ q,k = q+1:=⟨k - 1,by omega⟩
  simp only [aq.l0];rw [if_neg (by omega)]
end Go.Proofs.YtmpbccmcaabpjaaGreat.Sort
end
namespace Go.Proofs.YtmpbccmcaabpjaaGreat
section
namespace Act
open Go.RowKit Go.Proofs.YtmpbccmcaabpjaaGreat.Pr Go.Proofs.YtmpbccmcaabpjaaGreat.Sets pH jo Go.Proofs.YtmpbccmcaabpjaaGreat.Flat ag.aX ag.bQ ag.bR
set_option linter.unusedVariables false
theorem pe {σ γ:Type} (L:Nat→σ→Int→Option γ) (q:List Nat) (f:σ→Nat→σ) (P:Nat→σ→Prop) (r:γ) (s:σ)
  (j:∀ i s,i < q.length→P i s→P (i+1) (f s (q.getD i 0))∧(Ev (fun k=>L k (f s (q.getD i 0)) ((i+1:Nat):Int)) r→Ev (fun k=>L k s (i:Int)) r))
  (hs:P 0 s) (hend:P q.length (q.foldl f s)→Ev (fun k=>L k (q.foldl f s) (q.length:Int)) r):Ev (fun k=>L k s 0) r:=by
 have:=cU.eN L q.length (fun i s=>f s (q.getD i 0)) P r (fun i s hi hp=>j i s hi hp) q.length 0 s (by omega) hs;rw [mV q f s] at this;exact this hend
theorem nJ {s i:Nat} (h:i < (elems s).length):(elems s).getD i 0 < 8∧s.testBit ((elems s).getD i 0) = true:=iq (e5 _ 0 i h)
theorem kI {σ:Type} (p:Nat→Bool) (f:σ→Nat→σ) (q:List Nat) (s:σ):(q.filter p).foldl f s = q.foldl (fun s j=>if p j = true then f s j else s) s:=by
 rw [List.foldl_filter]
end Act
end
section
namespace pI
open Go.RowKit Go.Proofs.YtmpbccmcaabpjaaGreat.Sets jo
set_option linter.unusedVariables false
theorem jA (s:Nat):cnt s = (List.range' 0 8).countP fun j=>s.testBit j:=by
 unfold cnt elems;rw [List.countP_eq_length_filter]
theorem qx:∀ a,a < 256→∀ e,e < 8→∀ f,f < 8→a.testBit e = true→a.testBit f = false→cnt (diff a (2 ^ e) ||| 2 ^ f) = cnt a:=by decide +kernel
theorem mj:∀ a,a < 256→cnt a = 0→a = 0:=by decide +kernel
end pI
end
section
namespace nQ
open Go.RowKit Go.Proofs.YtmpbccmcaabpjaaGreat.Pr Go.Proofs.YtmpbccmcaabpjaaGreat.Sets pH jo Go.Proofs.YtmpbccmcaabpjaaGreat.Flat Go.Proofs.YtmpbccmcaabpjaaGreat.Sort ag.aX ag.bQ ag.bR
set_option linter.unusedVariables false
def kept (p:Nat→Nat→Bool) (l:List Nat):List Int:=sset (ints (l.filter fun s=>!l.any fun t=>!decide (t = s) && p t s))
theorem jl {l:List Nat} {x:Int}:x∈ints l↔∃ y∈l,x = (y:Int):=by
 unfold ints;rw [List.mem_map];constructor
 ·rintro ⟨y,h,rfl⟩;exact ⟨y,h,rfl⟩
 ·rintro ⟨y,h,rfl⟩;exact ⟨y,h,rfl⟩
theorem qy (l:List Nat):∃ q:List Nat,sset (ints l) = ints q∧(∀ s,s∈q↔s∈l)∧q.length≤l.length:=by
 have h:∀ x∈sset (ints l),∃ y∈l,x = (y:Int):=fun x hx=>jl.1 ((jk _ _).1 hx)
 refine ⟨(sset (ints l)).map Int.toNat,?_,fun s=>?_,?_⟩
 ·unfold ints
  rw [List.map_map];conv=>lhs;rw [← List.map_id (sset _)]
  refine List.map_congr_left fun x hx=>?_
  obtain ⟨y,_,rfl⟩:=h x hx;rfl
 ·rw [List.mem_map]
  constructor
  ·rintro ⟨x,hx,rfl⟩
   obtain ⟨y,hy,rfl⟩:=h x hx;simpa using hy
  ·intro hs
   exact ⟨(s:Int),(jk _ _).2 (jl.2 ⟨s,hs,rfl⟩),by simp⟩
 ·rw [List.length_map]
  have:=mX (ints l);rw [az] at this;exact this
end nQ
end
section
namespace tj
open Go.RowKit Go.Proofs.YtmpbccmcaabpjaaGreat.Sets jo pI
set_option linter.unusedVariables false
def Sub (a b:Nat):Prop:=∀ j,a.testBit j = true→b.testBit j = true
theorem mo {a b:Nat}:a &&& b = a↔Sub a b:=by
 constructor
 ·intro h j hj
  rw [← h,Nat.testBit_and,Bool.and_eq_true] at hj;exact hj.2
 ·intro h
  apply Nat.eq_of_testBit_eq
  intro j;rw [Nat.testBit_and];cases ha:a.testBit j with
  | false=>rfl
  | true=>rw [h j ha];rfl
theorem Sub.refl (a:Nat):Sub a a:=fun _ h=>h
theorem Sub.trans {a b c:Nat} (h:Sub a b) (k:Sub b c):Sub a c:=fun j hj=>k j (h j hj)
theorem sub_zero (a:Nat):Sub 0 a:=fun j h=>by rw [Nat.zero_testBit] at h;exact Bool.noConfusion h
theorem jm {a b:Nat} (h:Sub a b) (k:Sub b a):a = b:=by
 apply Nat.eq_of_testBit_eq
 intro j;cases ha:a.testBit j with
 | true=>exact (h j ha).symm
 | false =>
  cases hb:b.testBit j with
  | false=>rfl
  | true=>rw [k j hb] at ha;exact Bool.noConfusion ha
theorem iu (a b:Nat):Sub a (a ||| b):=fun j h=>by rw [Nat.testBit_or,h];rfl
theorem kW (a b:Nat):Sub (a &&& b) b:=fun j h=>by rw [Nat.testBit_and,Bool.and_eq_true] at h;exact h.2
theorem qz (a b:Nat):Sub (diff a b) a:=fun j h=>by rw [eG,Bool.and_eq_true] at h;exact h.1
theorem nK {a b c:Nat} (h:Sub c a) (k:Sub c b):Sub c (a &&& b):=fun j hj=>by
 rw [Nat.testBit_and,h j hj,k j hj];rfl
theorem mq {a e:Nat} (ha:a < 256) (h:a.testBit e = true):e < 8:=by
 refine Nat.lt_of_not_le fun hle=>?_
 rw [gY (n:=8) ha hle] at h;exact Bool.noConfusion h
theorem k5 {a e n:Nat} (ha:a < 2 ^ n) (h:a.testBit e = true):e < n:=by
 refine Nat.lt_of_not_le fun hle=>?_
 rw [gY ha hle] at h;exact Bool.noConfusion h
theorem mu (e j:Nat):(2 ^ e).testBit j = decide (e = j):=Nat.testBit_two_pow
theorem qA (a e j:Nat):(a ||| 2 ^ e).testBit j = (a.testBit j || decide (e = j)):=by rw [Nat.testBit_or,mu]
theorem mY (a e:Nat):(a ||| 2 ^ e).testBit e = true:=by rw [qA,decide_eq_true rfl,Bool.or_true]
theorem kJ (a e j:Nat):(diff a (2 ^ e)).testBit j = (a.testBit j && !decide (e = j)):=by rw [eG,mu]
theorem mw {α:Type} (p q:α→Bool) (l:List α):l.countP p = l.countP (fun x=>p x && q x)+l.countP (fun x=>p x && !q x):=by
 induction l with
 | nil=>rfl
 | cons a l ih =>
  rw [List.countP_cons,List.countP_cons,List.countP_cons,ih];cases p a <;> cases q a <;> simp <;> omega
theorem lq (a b:Nat):cnt a = cnt (a &&& b)+cnt (diff a b):=by
 rw [jA,jA,jA,mw (fun j=>a.testBit j) (fun j=>b.testBit j)];congr 1
 ·refine List.countP_congr fun j _=>?_
  rw [Nat.testBit_and]
 ·refine List.countP_congr fun j _=>?_
  rw [eG]
theorem qB:∀ e,e < 8→cnt (2 ^ e) = 1:=by decide +kernel
theorem qC {a b:Nat} (h:∀ j,a.testBit j = true→b.testBit j = false):cnt (a ||| b) = cnt a+cnt b:=by
 rw [lq (a ||| b) a];congr 1
 ·congr 1
  exact jm (fun j hj=>(kW _ _) j hj) (nK (iu _ _) (Sub.refl _))
 ·congr 1
  apply Nat.eq_of_testBit_eq
  intro j;rw [eG,Nat.testBit_or];cases ha:a.testBit j with
  | false=>simp
  | true=>rw [h j ha];rfl
theorem kK {a e:Nat} (he:e < 8) (h:a.testBit e = false):cnt (a ||| 2 ^ e) = cnt a+1:=by
 rw [qC fun j hj=>?_,qB e he];rw [mu,decide_eq_false_iff_not];rintro rfl
 rw [h] at hj;exact Bool.noConfusion hj
theorem my {a e:Nat} (ha:a < 256) (h:a.testBit e = true):cnt a = cnt (diff a (2 ^ e))+1:=by
 rw [← kK (mq ha h) (a:=diff a (2 ^ e)) (by rw [kJ,decide_eq_true rfl];simp)];congr 1
 apply Nat.eq_of_testBit_eq
 intro j;rw [qA,kJ];by_cases e':e = j
 ·subst e'
  simp [h]
 ·simp [e']
theorem pg {a b:Nat} (hb:b < 256) (h:Sub a b) (hc:cnt b≤cnt a):a = b:=by
 have hs:=lq b a;have hba:b &&& a = a:=by
  rw [Nat.and_comm];exact mo.2 h
 rw [hba] at hs;have hz:diff b a = 0:=mj _ (gE (n:=8) hb) (by omega);refine jm h fun j hj=>?_
 have:=eG b a j;rw [hz,Nat.zero_testBit,hj] at this;simpa using this.symm
structure qU (m:Nat) (P:Nat→Bool):Prop where
 zero:P 0 = true
 down:∀ a b,b < 2 ^ m→Sub a b→P b = true→P a = true
 aug:∀ a b,a < 2 ^ m→b < 2 ^ m→P a = true→P b = true→cnt a < cnt b→∃ e,b.testBit e = true∧a.testBit e = false∧P (a ||| 2 ^ e) = true
def jN (m:Nat) (P:Nat→Bool):List Nat:=(List.range' 0 (2 ^ m)).filter fun s=>P s && (List.range' 0 (2 ^ m)).all fun t=>!(P t && !decide (t = s) && decide (s &&& t = s))
theorem iG {m:Nat} {P:Nat→Bool} {s:Nat}:s∈jN m P↔s < 2 ^ m∧P s = true∧∀ t,t < 2 ^ m→P t = true→Sub s t→t = s:=by
 unfold jN;rw [List.mem_filter,Bool.and_eq_true,List.all_eq_true];constructor
 ·rintro ⟨h1,h2,h3⟩
  refine ⟨by have:=List.mem_range'_1.1 h1;omega,h2,fun t ht hp hs=>?_⟩;have:=h3 t (List.mem_range'_1.2 (by omega));rw [hp,mo.2 hs] at this;simpa using this
 ·rintro ⟨h1,h2,h3⟩
  refine ⟨List.mem_range'_1.2 (by omega),h2,fun t ht=>?_⟩;cases hp:P t with
  | false=>rfl
  | true =>
   by_cases hs:s &&& t = s
   ·have:=h3 t (by have:=List.mem_range'_1.1 ht;omega) hp (mo.1 hs)
    simp [this]
   ·simp [hs]
section
variable {m:Nat} {P:Nat→Bool}
theorem qU.nL (h:qU m P) (hm:m≤8) {s t:Nat} (hs:s∈jN m P) (ht:t < 2 ^ m) (hp:P t = true):cnt t≤cnt s:=by
 obtain ⟨h1,h2,h3⟩:=iG.1 hs;refine Nat.le_of_not_lt fun hlt=>?_
 obtain ⟨e,h4,h5,y⟩:=h.aug s t h1 ht h2 hp hlt;have hlt':s ||| 2 ^ e < 2 ^ m:=mW h1 (kG (k5 ht h4))
 have:=h3 _ hlt' y (iu _ _);have j:=mY s e;rw [this,h5] at j;exact Bool.noConfusion j
theorem qU.nM (h:qU m P) (hm:m≤8) {s:Nat} (hs:s < 2 ^ m) (hp:P s = true) (hmax:∀ t,t < 2 ^ m→P t = true→cnt t≤cnt s):s∈jN m P:=by
 have j:=dZ hm;refine iG.2 ⟨hs,hp,fun t ht hpt hst=>(pg (by omega) hst (hmax t ht hpt)).symm⟩
theorem qU.ext (h:qU m P) (hm:m≤8):∀ n s,s < 2 ^ m→P s = true→8≤cnt s+n→∃ t∈jN m P,Sub s t:=by
 have j:=dZ hm;intro n;induction n with
 | zero =>
  intro s hs hp hn;exact ⟨s,h.nM hm hs hp (fun t _ _=>Nat.le_trans (sY t) (by omega)),Sub.refl s⟩
 | succ n ih =>
  intro s hs hp hn;by_cases hmx:∃ t,t < 2 ^ m∧P t = true∧cnt s < cnt t
  ·obtain ⟨t,ht,hpt,hlt⟩:=hmx
   obtain ⟨e,h4,h5,y⟩:=h.aug s t hs ht hp hpt hlt;have hlt':s ||| 2 ^ e < 2 ^ m:=mW hs (kG (k5 ht h4))
   have:=kK (mq (by omega) h4) h5;obtain ⟨u,hu,hsub⟩:=ih _ hlt' y (by omega);exact ⟨u,hu,(iu _ _).trans hsub⟩
  ·exact ⟨s,h.nM hm hs hp (fun t ht hpt=>Nat.le_of_not_lt fun hlt=>hmx ⟨t,ht,hpt,hlt⟩),Sub.refl s⟩
theorem qU.some (h:qU m P) (hm:m≤8):0 < (jN m P).length:=by
 obtain ⟨t,ht,_⟩:=h.ext hm 8 0 (Nat.pow_pos (by decide)) h.zero (by omega);exact List.length_pos_of_mem ht
theorem qU.eR (h:qU m P) (hm:m≤8):gO (jN m P) = false:=by
 have U:=dZ hm;unfold gO;rw [List.any_eq_false];intro a ha;rw [Bool.not_eq_true,List.any_eq_false];intro b hb;rw [Bool.not_eq_true,List.any_eq_false];intro e he;have y:e < 8:=by have:=List.mem_range'_1.1 he;omega
 obtain ⟨J,a2,a3⟩:=iG.1 ha;obtain ⟨M,X,b3⟩:=iG.1 hb;cases hae:a.testBit e with
 | false=>simp
 | true =>
  cases hbe:b.testBit e with
  | true=>simp
  | false =>
   have hx:Sets.eR (jN m P) a b e = true:=by
    have hsame:cnt a≤cnt b:=h.nL hm hb J a2;have I:cnt b≤cnt a:=h.nL hm ha M X;have hless:=my (a:=a) (e:=e) (by omega) hae;have hd:diff a (2 ^ e) < 2 ^ m:=gE J;obtain ⟨f,h4,h5,Y⟩:=h.aug (diff a (2 ^ e)) b hd M (h.down _ a J (qz _ _) a2) X (by omega);have hef:e≠f:=fun e'=>by
     subst e';rw [hbe] at h4;exact Bool.noConfusion h4
    rw [kJ] at h5;have j:a.testBit f = false:=by simpa [hef] using h5
    have z:f < 8:=mq (by omega) h4;have hlt':diff a (2 ^ e) ||| 2 ^ f < 2 ^ m:=mW hd (kG (k5 M h4))
    have hc:cnt (diff a (2 ^ e) ||| 2 ^ f) = cnt a:=qx a (by omega) e y f z hae j;unfold Sets.eR;rw [List.any_eq_true];refine ⟨f,List.mem_range'_1.2 (by omega),?_⟩;rw [h4,j,← swap_eq a (by omega) e y f z hae j,List.contains_iff_mem.2 (h.nM hm hlt' Y (fun t ht hpt=>by rw [hc];exact h.nL hm ha ht hpt))];rfl
   rw [hx];simp
end
end tj
end
section
namespace jG
open Go.RowKit Go.Proofs.YtmpbccmcaabpjaaGreat.Pr Go.Proofs.YtmpbccmcaabpjaaGreat.Sets pH jo Go.Proofs.YtmpbccmcaabpjaaGreat.Flat pI Go.Proofs.YtmpbccmcaabpjaaGreat.Sort tj nQ ag.aX ag.bQ ag.bR
set_option linter.unusedVariables false
theorem pn {l q:List Nat} (hq:q.Pairwise (· < ·)) (h:∀ s,s∈l↔s∈q):sset (ints l) = ints q:=by
 refine ow _ _ (ir _) ?_ fun x=>?_
 ·unfold ints
  rw [List.pairwise_map];exact hq.imp fun h=>by omega
 ·rw [jk,jl,jl]
  constructor
  ·rintro ⟨y,hy,rfl⟩;exact ⟨y,(h y).1 hy,rfl⟩
  ·rintro ⟨y,hy,rfl⟩;exact ⟨y,(h y).2 hy,rfl⟩
theorem lu (n m:Nat):(List.range' n m).Pairwise (· < ·):=List.pairwise_lt_range'
end jG
end
section
namespace jq
open Go.RowKit Go.Proofs.YtmpbccmcaabpjaaGreat.Pr Go.Proofs.YtmpbccmcaabpjaaGreat.Sets pH jo Go.Proofs.YtmpbccmcaabpjaaGreat.Flat pI Go.Proofs.YtmpbccmcaabpjaaGreat.Sort tj nQ jG ag.aX ag.bQ ag.bR
set_option linter.unusedVariables false
theorem iH {m:Nat} {l:List Nat} (h:eY (m:Int) (ints l) = true):l.Pairwise (· < ·):=by
 unfold eY at h;rw [Bool.and_eq_true,Bool.and_eq_true] at h;have hf:=h.1.1;unfold oo at hf;rw [Bool.and_eq_true] at hf;rw [List.pairwise_iff_getElem];have step:∀ i,i+1 < l.length→l.getD i 0 < l.getD (i+1) 0:=fun i hi=>by
  have:=List.all_eq_true.1 hf.1 (i+1) (List.mem_range'_1.2 (by rw [az];omega));rw [Bool.and_eq_true,jy,jy] at this;have h2:=this.2;rw [decide_eq_false (show ¬ i+1 = 0 by omega),Bool.false_or,decide_eq_true_eq] at h2;rw [show i+1 - 1 = i by omega] at h2;omega
 have key:∀ d i,i+d+1 < l.length→l.getD i 0 < l.getD (i+d+1) 0:=by
  intro d;induction d with
  | zero=>exact fun i hi=>step i hi
  | succ d ih=>exact fun i hi=>Nat.lt_trans (ih i (by omega)) (step (i+d+1) (by omega))
 intro i j hi hj hij;have:=key (j - i - 1) i (by omega);rw [show i+(j - i - 1)+1 = j by omega] at this;have y:l.getD i 0 = l[i]:=by simp [List.getD,hi]
 have z:l.getD j 0 = l[j]:=by simp [List.getD,hj]
 rw [y,z] at this;exact this
end jq
end
section
namespace Canon
set_option linter.unusedVariables false
def jB:Nat→Nat→List Nat→List (List Nat)
 | 0,_,done=>[done]
 | d+1,n,done=>(List.range' 0 n).flatMap fun e=>if done.contains e = true then [] else jB d n (done ++ [e])
def rs (x:List Nat) (s:Nat):Nat:=(List.range' 0 x.length).foldl (fun o k=>if s.testBit k = true then o ||| 2 ^ x.getD k 0 else o) 0
def inv (x:List Nat):List Nat:=(List.range' 0 x.length).map fun j=>x.findIdx fun e=>e == j
def mZ (n:Nat) (x:List Nat):Bool:=decide (x.length = n) && (x.all fun e=>decide (e < n)) && (List.range' 0 (2 ^ n)).all fun s=>decide (rs (inv x) (rs x s) = s) && decide (rs x s < 2 ^ n)
set_option maxRecDepth 100000 in
theorem nN:∀ n,n < 6→(jB n n []).all (mZ n) = true:=by decide +kernel
set_option maxRecDepth 100000 in
theorem qD:∀ n,n < 6→jB n n [] = List.range' 0 n :: (jB n n []).tail:=by decide +kernel
set_option maxRecDepth 100000 in
theorem tR:∀ n,n < 6→∀ s,s < 32→s < 2 ^ n→rs (List.range' 0 n) s = s:=by decide +kernel
theorem qE {n:Nat} {x:List Nat} (h:mZ n x = true):x.length = n:=by
 unfold mZ at h;rw [Bool.and_eq_true,Bool.and_eq_true,decide_eq_true_iff] at h;exact h.1.1
theorem s7 {n:Nat} {x:List Nat} (h:mZ n x = true):∀ e∈x,e < n:=fun e he=>by
 unfold mZ at h;rw [Bool.and_eq_true,Bool.and_eq_true] at h;exact of_decide_eq_true (List.all_eq_true.1 h.1.2 e he)
theorem s8 {n:Nat} {x:List Nat} (h:mZ n x = true) {s:Nat} (hs:s < 2 ^ n):rs (inv x) (rs x s) = s∧rs x s < 2 ^ n:=by
 unfold mZ at h;rw [Bool.and_eq_true] at h;have:=List.all_eq_true.1 h.2 s (List.mem_range'_1.2 ⟨Nat.zero_le _,by omega⟩);rw [Bool.and_eq_true,decide_eq_true_iff,decide_eq_true_iff] at this;exact this
theorem sZ {n:Nat} {x:List Nat} (h:mZ n x = true) {s t:Nat} (hs:s < 2 ^ n) (ht:t < 2 ^ n) (he:rs x s = rs x t):s = t:=by
 rw [← (s8 h hs).1,← (s8 h ht).1,he]
theorem n2 {n:Nat} {x:List Nat} (h:mZ n x = true):∀ l:List Nat,(∀ s∈l,s < 2 ^ n)→l.Nodup→(l.map (rs x)).Nodup
 | [],_,_=>List.nodup_nil
 | a :: l,hl,hn=>by
  rw [List.nodup_cons] at hn;rw [List.map_cons,List.nodup_cons];refine ⟨fun hm=>?_,n2 h l (fun s hs=>hl s (List.mem_cons_of_mem _ hs)) hn.2⟩;obtain ⟨b,hb,he⟩:=List.mem_map.1 hm;have:=sZ h (hl b (List.mem_cons_of_mem _ hb)) (hl a List.mem_cons_self) he;rw [this] at hb;exact hn.1 hb
theorem lz {α:Type} [DecidableEq α]:∀ (a b:List α),a.Nodup→b.Nodup→(∀ x,x∈a↔x∈b)→a.length = b.length
 | [],b,_,_,h=>by
  cases b with
  | nil=>rfl
  | cons y b=>exact absurd ((h y).2 List.mem_cons_self) List.not_mem_nil
 | y :: a,b,ha,hb,h=>by
  rw [List.nodup_cons] at ha;have hy:=(h y).1 List.mem_cons_self;have h1:=List.length_erase_of_mem hy;have h2:=lz a (b.erase y) ha.2 (hb.erase y) fun x=>by
   rw [hb.mem_erase_iff];constructor
   ·intro hx
    exact ⟨fun e=>by rw [e] at hx;exact ha.1 hx,(h x).1 (List.mem_cons_of_mem _ hx)⟩
   ·rintro ⟨hne,hx⟩
    rcases List.mem_cons.1 ((h x).2 hx) with e | e
    ·exact absurd e hne
    ·exact e
  have h3:=List.length_pos_of_mem hy;rw [List.length_cons,h2,h1];omega
theorem kL {α β γ:Type} (u:β→α→β) (v:γ→α→γ) (R:β→γ→Prop):∀ (q:List α) (b:β) (c:γ),R b c→(∀ x∈q,∀ b c,R b c→R (u b x) (v c x))→R (q.foldl u b) (q.foldl v c)
 | [],b,c,h,_=>h
 | x :: q,b,c,h,hs=>by
  rw [List.foldl_cons,List.foldl_cons];exact kL u v R q _ _ (hs x List.mem_cons_self b c h) fun y hy=>hs y (List.mem_cons_of_mem _ hy)
end Canon
end
section
namespace Canon
open Go.RowKit Go.Proofs.YtmpbccmcaabpjaaGreat.Pr Go.Proofs.YtmpbccmcaabpjaaGreat.Sets pH jo Go.Proofs.YtmpbccmcaabpjaaGreat.Flat Go.Proofs.YtmpbccmcaabpjaaGreat.Sort tj nQ jG ga ag.aX ag.bQ ag.bR
set_option linter.unusedVariables false
def k6 (x l:List Nat):List Int:=sset (ints (l.map (rs x)))
def jS (n:Nat) (l:List Nat) (b:Int×List Int) (x:List Nat):Int×List Int:=if fG (k6 x l) b.2 < 0 then ((n:Int),k6 x l) else b
def jC (l:List Nat) (c:List Int) (x:List Nat):List Int:=if c = [] then k6 x l else if dw (k6 x l) c < 0 then k6 x l else c
def canon (n:Nat) (l:List Nat):List Int:=(jB n n []).foldl (jC l) []
theorem iI {l:List Nat} (h:l.Pairwise (· < ·)):l.Nodup:=h.imp fun h=>Nat.ne_of_lt h
theorem k7 {n:Nat} {x l:List Nat} (hx:mZ n x = true) (hl:∀ s∈l,s < 2 ^ n) (ha:l.Pairwise (· < ·)):(k6 x l).length = l.length:=by
 unfold k6;obtain ⟨q,h1,h2,_⟩:=qy (l.map (rs x));have h3:=ir (ints (l.map (rs x)));rw [h1] at h3 ⊢;have h4:q.Nodup:=by
  unfold ints at h3;rw [List.pairwise_map] at h3;exact h3.imp fun {a b} h=>by
   intro e;rw [e] at h;exact absurd h (Int.lt_irrefl _)
 rw [az,lz q (l.map (rs x)) h4 (n2 hx l hl (iI ha)) h2,List.length_map]
theorem qF {n:Nat} (hn:n < 6) {l:List Nat} (hl:∀ s∈l,s < 2 ^ n) (ha:l.Pairwise (· < ·)):k6 (List.range' 0 n) l = ints l:=by
 have hp:2 ^ n≤2 ^ 5:=Nat.pow_le_pow_right (by decide) (by omega);have e:l.map (rs (List.range' 0 n)) = l:=by
  conv=>rhs;rw [← List.map_id l]
  exact List.map_congr_left fun s hs=>tR n hn s (by have:=hl s hs;omega) (hl s hs)
 unfold k6;rw [e];exact pn ha fun _=>Iff.rfl
theorem gZ {n:Nat} (hn:n < 6) {l:List Nat} (hl:∀ s∈l,s < 2 ^ n) (ha:l.Pairwise (· < ·)) (J:0 < l.length):(jB n n []).foldl (jS n l) ((n:Int),ints l) = ((n:Int),canon n l)∧(canon n l).length = l.length:=by
 have hok:=List.all_eq_true.1 (nN n hn);have hd:=qD n hn;have z:jS n l ((n:Int),ints l) (List.range' 0 n) = ((n:Int),ints l):=by
  unfold jS;rw [qF hn hl ha,jx,if_neg (by decide)]
 have I:jC l [] (List.range' 0 n) = ints l:=by
  unfold jC;rw [if_pos rfl,qF hn hl ha]
 have h:=kL (jS n l) (jC l) (fun b c=>b = ((n:Int),c)∧c.length = l.length) (jB n n []).tail ((n:Int),ints l) (ints l) ⟨rfl,az l⟩ fun x hx b c hbc=>by
  obtain ⟨rfl,hc⟩:=hbc;have y:mZ n x = true:=hok x (by rw [hd];exact List.mem_cons_of_mem _ hx);have hr:=k7 y hl ha;have hcm:dw (k6 x l) c = fG (k6 x l) c:=by rw [dw,if_pos (by rw [hr,hc])]
  have j:c≠[]:=fun e=>by
   rw [e] at hc;simp at hc;omega
  unfold jS jC;simp only [if_neg j,hcm];by_cases hlt:fG (k6 x l) c < 0
  ·rw [if_pos hlt,if_pos hlt]
   exact ⟨rfl,hr⟩
  ·rw [if_neg hlt,if_neg hlt]
   exact ⟨rfl,hc⟩
 unfold canon;rw [hd,List.foldl_cons,List.foldl_cons,z,I];exact h
theorem fT (m:Nat) (h:m < 8):IntKind.u64.wrap (m:Int) = m:=k4 m (by omega)
theorem ox {x:List Nat} {n:Nat} (h:∀ e∈x,e < n) {i:Nat} (hi:i < x.length):x.getD i 0 < n:=h _ (e5 x 0 i hi)
theorem ta {n:Nat} (hn:n < 6) {x:List Nat} (hx:mZ n x = true) {s:Nat} (hs:s < 2 ^ n):Ev (fun k=>b8.f k (ints x) (s:Int)) (rs x s:Int):=by
 have hp:2 ^ n≤2 ^ 5:=Nat.pow_le_pow_right (by decide) (by omega);have hxl:=qE hx;have hxe:=s7 hx;have e:rs x s = (elems s).foldl (fun o e=>o ||| 2 ^ x.getD e 0) 0:=by
  unfold rs elems;rw [Act.kI,hxl,show (8:Nat) = n+(8 - n) by omega,cU.nB];intro j hj o;rw [gY hs hj,if_neg (by decide)]
 unfold b8.f;refine Ev.bind (fP s (by omega)) ?_;rw [e,az];refine Act.pe (fun k (o:Nat) i=>b8.l0 k (ints x) (o:Int) (ints (elems s)) ((elems s).length:Int) i) (elems s) (fun o e=>o ||| 2 ^ x.getD e 0) (fun _ o=>o < 2 ^ n) _ 0 (fun i o hi hP=>?_) (Nat.two_pow_pos n) (fun _=>cU.dr 1 fun k hk=>?_)
 ·obtain ⟨h1,h2⟩:=Act.nJ hi
  have hel:=ej s;obtain ⟨y,z⟩:∃ y,(elems s).getD i 0 = y:=⟨_,rfl⟩
  rw [z] at h1 h2 ⊢;have hen:y < n:=k5 hs h2;have I:=ox hxe (i:=y) (by omega);have hpe:2 ^ x.getD y 0 < 2 ^ n:=kG I;refine ⟨mW hP hpe,fun h=>Ev.step (fun k=>?_) h⟩;simp only [b8.l0];rw [if_pos (by omega),if_pos (by omega),if_pos (by rw [az];omega),e9,z,if_pos (by omega),if_pos (by rw [az];omega),e9,if_pos (by omega),fh _ (by omega),nE _ _ (by omega) (by omega),cU.dQ i (by omega)]
 ·obtain ⟨m,rfl⟩:∃ m,k = m+1:=⟨k - 1,by omega⟩
  simp only [b8.l0];rw [if_neg (by omega)]
theorem tc {n:Nat} (hn:n < 6) {x:List Nat} (hx:mZ n x = true) {s:Nat} (hs:s < 2 ^ n):Ev (fun k=>cu.f k (ints x) (s:Int)) (rs x s:Int):=by
 have hp:2 ^ n≤2 ^ 5:=Nat.pow_le_pow_right (by decide) (by omega);have hxl:=qE hx;have hxe:=s7 hx;unfold cu.f rs;refine cU.eN (fun k (o:Nat) i=>cu.l0 k (ints x) (s:Int) (o:Int) i) x.length (fun k o=>if s.testBit k = true then o ||| 2 ^ x.getD k 0 else o) (fun _ o=>o < 2 ^ n) _ (fun i o hi hP=>?_) x.length 0 0 (by omega) (Nat.two_pow_pos n) (fun _=>cU.dr 1 fun k hk=>?_)
 ·have j:=ox hxe (i:=i) hi
  have hpe:2 ^ x.getD i 0 < 2 ^ n:=kG j;have y:(if s.testBit i = true then o ||| 2 ^ x.getD i 0 else o) < 2 ^ n:=by
   split
   ·exact mW hP hpe
   ·exact hP
  refine ⟨y,fun h=>Ev.step (fun k=>?_) h⟩;simp only [cu.l0];rw [if_pos (by rw [az];omega),iT s i (by omega) (by omega),Option.bind_some,e9,fT _ (by omega),cU.dQ i (by omega)];by_cases hb:s.testBit i = true
  ·rw [if_pos hb,if_pos hb,if_pos (by omega),if_pos (by omega),fh _ (by omega),nE _ _ (by omega) (by omega)]
  ·rw [if_neg hb,if_neg hb]
 ·obtain ⟨m,rfl⟩:∃ m,k = m+1:=⟨k - 1,by omega⟩
  simp only [cu.l0];rw [if_neg (by rw [az];omega)]
theorem n3 (f:Nat→Nat) (l:List Nat):ints (l.map f) = (List.range' 0 l.length).foldl (fun (s:List Int) i=>s ++ [((f (l.getD i 0):Nat):Int)]) []:=by
 have key:∀ (d i:Nat) (s:List Int),i+d = l.length→(List.range' i d).foldl (fun (s:List Int) i=>s ++ [((f (l.getD i 0):Nat):Int)]) s = s ++ ints ((l.drop i).map f):=by
  intro d;induction d with
  | zero =>
   intro i s hi;rw [List.drop_eq_nil_of_le (by omega)];simp [ints]
  | succ d ih =>
   intro i s hi;rw [List.range'_succ,List.foldl_cons,ih (i+1) _ (by omega)];have hd:l.drop i = l.getD i 0 :: l.drop (i+1):=by
    rw [List.drop_eq_getElem_cons (by omega)];congr 1
    rw [List.getD_eq_getElem?_getD,List.getElem?_eq_getElem (by omega)];rfl
   rw [hd,List.map_cons,ints,ints,List.map_cons,List.append_assoc];rfl
 rw [key l.length 0 [] (by omega)];simp
theorem rG {n:Nat} (hn:n < 6) {x:List Nat} (hx:mZ n x = true) {l:List Nat} (hl:∀ s∈l,s < 2 ^ n) (hlen:l.length≤1048576):Ev (fun k=>b5.f k (n:Int) (ints l) (ints x)) ((n:Int),k6 x l):=by
 unfold b5.f;have h:=cU.eN (fun k (u:List Int) i=>b5.l0 k (ints x) (ints l) (l.length:Int) i (n:Int) u) l.length (fun i s=>s ++ [((rs x (l.getD i 0):Nat):Int)]) (fun i u=>u.length = i) ((n:Int),k6 x l) (fun i u hi hP=>by
  have hs:l.getD i 0 < 2 ^ n:=hl _ (e5 l 0 i hi);refine ⟨by simp [hP],fun h=>Ev.step (f:=fun k=>(b8.f k (ints x) ((l.getD i 0:Nat):Int)).bind fun t=>b5.l0 k (ints x) (ints l) (l.length:Int) ((i+1:Nat):Int) (n:Int) (u ++ [t])) (fun k=>?_) (Ev.bind (ta hn hx hs) h)⟩;simp only [b5.l0];rw [if_pos (by omega),if_pos (by omega),if_pos (by rw [az];omega),e9,cU.dQ i (by omega)];simp only [if_pos (show u.length < 17592186044416 by omega)]) l.length 0 [] (by omega) rfl (fun hP=>by
  rw [← n3 (rs x) l] at hP ⊢;refine cU.dr 1 fun k hk=>?_
  obtain ⟨m,rfl⟩:∃ m,k = m+1:=⟨k - 1,by omega⟩
  simp only [b5.l0];rw [if_neg (by omega),qu _ (by rw [az,List.length_map];exact hlen),Option.bind_some];rfl)
 rw [az];exact h
theorem rH {n:Nat} (hn:n < 6) {x:List Nat} (hx:mZ n x = true) {l:List Nat} (hl:∀ s∈l,s < 2 ^ n) (hlen:l.length≤1048576):Ev (fun k=>bT.f k (ints x) (ints l)) (k6 x l):=by
 unfold bT.f;refine cU.eN (fun k (u:List Int) i=>bT.l0 k (ints x) (ints l) u i) l.length (fun i s=>s ++ [((rs x (l.getD i 0):Nat):Int)]) (fun i u=>u.length = i) (k6 x l) (fun i u hi hP=>by
  have hs:l.getD i 0 < 2 ^ n:=hl _ (e5 l 0 i hi);refine ⟨by simp [hP],fun h=>Ev.step (f:=fun k=>(cu.f k (ints x) ((l.getD i 0:Nat):Int)).bind fun t=>bT.l0 k (ints x) (ints l) (u ++ [t]) ((i+1:Nat):Int)) (fun k=>?_) (Ev.bind (tc hn hx hs) h)⟩;simp only [bT.l0];rw [if_pos (by rw [az];omega),if_pos (by omega),e9,cU.dQ i (by omega)];simp only [if_pos (show u.length < 17592186044416 by omega)]) l.length 0 [] (by omega) rfl (fun hP=>by
  rw [← n3 (rs x) l] at hP ⊢;refine Ev.step (f:=fun k=>(aq.f k (ints (l.map (rs x)))).bind fun t=>some t) (fun k=>?_) (Ev.bind (qw _ (by rw [az,List.length_map];exact hlen)) (Ev.now _));simp only [bT.l0];rw [if_neg (by rw [az];omega)])
theorem td (a b:Int):cP.f a b = some (if a < b then -1 else if a > b then 1 else 0):=by
 unfold cP.f cmp_isNaN_int.f;simp only [Option.bind_some];by_cases h:a < b
 ·simp [h]
 ·by_cases h2:a > b
  ·simp [h,h2]
  ·simp [h,h2]
theorem qG {a b:Int} (h:a = b):cP.f a b = some 0:=by
 rw [td,if_neg (by omega),if_neg (by omega)]
theorem qH {a b:Int} (h:a < b):cP.f a b = some (-1):=by
 rw [td,if_pos h]
theorem qI {a b:Int} (h:b < a):cP.f a b = some 1:=by
 rw [td,if_neg (by omega),if_pos h]
theorem gp (a:List Int) {i:Nat} (h:i < a.length):a.drop i = a.getD i 0 :: a.drop (i+1):=drop_cons a i h
theorem oy (a b:List Int) (ha:a.length≤1048576) (hb:b.length≤1048576):Ev (fun k=>ay.f k a b) (fG a b):=by
 unfold ay.f;have key:∀ d i:Nat,i+d = a.length→i≤b.length→Ev (fun k=>ay.l0 k a b a (a.length:Int) (i:Int)) (fG (a.drop i) (b.drop i)):=by
  intro d;induction d with
  | zero =>
   intro i hi hib;refine cU.dr 1 fun k hk=>?_
   obtain ⟨m,rfl⟩:∃ m,k = m+1:=⟨k - 1,by omega⟩
   simp only [ay.l0];rw [if_neg (by omega),List.drop_eq_nil_of_le (by omega:a.length≤i)];by_cases h:i < b.length
   ·rw [if_pos (by omega),gp b h]
    rfl
   ·rw [if_neg (by omega),List.drop_eq_nil_of_le (by omega:b.length≤i)]
    rfl
  | succ d ih =>
   intro i hi hib;by_cases h:i < b.length
   ·rw [gp a (by omega:i < a.length),gp b h,fG]
    by_cases he:a.getD i 0 = b.getD i 0
    ·rw [if_pos he]
     refine Ev.step (fun k=>?_) (ih (i+1) (by omega) (by omega));simp only [ay.l0];rw [if_pos (by omega),if_pos (by omega),if_pos (by omega),if_neg (by omega),if_pos (by omega),cU.dN,cU.dN,qG he,Option.bind_some,if_pos rfl,cU.dQ i (by omega)]
    ·rw [if_neg he]
     refine cU.dr 1 fun k hk=>?_
     obtain ⟨m,rfl⟩:∃ m,k = m+1:=⟨k - 1,by omega⟩
     simp only [ay.l0];rw [if_pos (by omega),if_pos (by omega),if_pos (by omega),if_neg (by omega),if_pos (by omega),cU.dN,cU.dN];by_cases hlt:a.getD i 0 < b.getD i 0
     ·rw [if_pos hlt,qH hlt,Option.bind_some,if_neg (by decide)]
     ·rw [if_neg hlt,qI (by omega),Option.bind_some,if_neg (by decide)]
   ·refine cU.dr 1 fun k hk=>?_
    obtain ⟨m,rfl⟩:∃ m,k = m+1:=⟨k - 1,by omega⟩
    simp only [ay.l0];rw [if_pos (by omega),if_pos (by omega),if_pos (by omega),if_pos (by omega),gp a (by omega:i < a.length),List.drop_eq_nil_of_le (by omega:b.length≤i)];rfl
 exact key a.length 0 (by omega) (Nat.zero_le _)
theorem kM (a b:List Int) (ha:a.length≤1048576) (hb:b.length≤1048576):Ev (fun k=>bu.f k a b) (decide (dw a b < 0)):=by
 unfold bu.f dw;by_cases hl:a.length = b.length
 ·simp only [if_pos hl,if_pos (show (a.length:Int) = (b.length:Int) by omega)]
  have key:∀ d i:Nat,i+d = a.length→Ev (fun k=>bu.l0 k a b (i:Int)) (decide (fG (a.drop i) (b.drop i) < 0)):=by
   intro d;induction d with
   | zero =>
    intro i hi;rw [List.drop_eq_nil_of_le (by omega:a.length≤i),List.drop_eq_nil_of_le (by omega:b.length≤i)];refine cU.dr 1 fun k hk=>?_
    obtain ⟨m,rfl⟩:∃ m,k = m+1:=⟨k - 1,by omega⟩
    simp only [bu.l0];rw [if_neg (by omega)];rfl
   | succ d ih =>
    intro i hi;rw [gp a (by omega:i < a.length),gp b (by omega:i < b.length),fG];by_cases he:a.getD i 0 = b.getD i 0
    ·rw [if_pos he]
     refine Ev.step (fun k=>?_) (ih (i+1) (by omega));simp only [bu.l0];rw [if_pos (by omega),if_pos (by omega),if_pos (by omega),cU.dN,cU.dN,if_pos he,cU.dQ i (by omega)]
    ·rw [if_neg he]
     refine cU.dr 1 fun k hk=>?_
     obtain ⟨m,rfl⟩:∃ m,k = m+1:=⟨k - 1,by omega⟩
     simp only [bu.l0];rw [if_pos (by omega),if_pos (by omega),if_pos (by omega),cU.dN,cU.dN,if_neg he];by_cases hlt:a.getD i 0 < b.getD i 0
     ·rw [if_pos hlt,decide_eq_true hlt]
      rfl
     ·rw [if_neg hlt,decide_eq_false hlt]
      rfl
  exact key a.length 0 (by omega)
 ·simp only [if_neg hl,if_neg (show ¬ (a.length:Int) = (b.length:Int) by omega)]
  have:decide ((a.length:Int) < (b.length:Int)) = decide ((a.length:Int) - (b.length:Int) < 0):=by
   rw [decide_eq_decide];omega
  rw [this];exact Ev.now _
theorem mA (l:List Nat) (x:Nat) (hn:l.length≤1048576):Ev (fun k=>aW.f k (ints l) (x:Int)) (l.contains x):=by
 have h:=cU.dr (l.length+1) fun k hk=>oq l x hn k (by omega)
 refine Ev.congr (fun k=>?_) h;unfold eH.f;cases aW.f k (ints l) (x:Int) <;> rfl
theorem mB (l:List Nat) (x:Nat) (hn:l.length≤1048576):Ev (fun k=>bL.f k (ints l) (x:Int)) (l.contains x):=cU.dr (l.length+1) fun k hk=>mc l x hn k (by omega)
theorem nO {α β:Type} (F:α→Nat→Option β) (r:α→β):∀ L:List α,(∀ x∈L,Ev (F x) (r x))→∃ K,∀ x∈L,∀ k,K≤k→F x k = some (r x)
 | [],_=>⟨0,fun x hx=>absurd hx List.not_mem_nil⟩
 | x :: L,h=>by
  obtain ⟨j,h1⟩:=h x List.mem_cons_self;obtain ⟨z,h2⟩:=nO F r L fun y hy=>h y (List.mem_cons_of_mem _ hy)
  refine ⟨j+z,fun y hy k hk=>?_⟩;rcases List.mem_cons.1 hy with rfl | hy
  ·exact h1 k (by omega)
  ·exact h2 y hy k (by omega)
theorem lA (l:List Nat) (e:Nat):ints l ++ [(e:Int)] = ints (l ++ [e]):=by simp [ints]
section
variable {n:Nat} (hn:n < 6) (u:Int×List Int→List Nat→Int×List Int) (B:List (Int×List Int)) (G:List Int→Int×List Int→Option (Int×List Int)) (hG:∀ x∈jB n n [],∀ b∈B,G (ints x) b = some (u b x)∧u b x∈B)
include hn hG
theorem oz:∀ (d:Nat) (done:List Nat),done.length+d = n→(∀ x∈jB d n done,x∈jB n n [])→∀ b∈B,Ev (fun k=>ak.f G k (n:Int) (ints done) b) ((jB d n done).foldl u b)∧(jB d n done).foldl u b∈B
 | 0,done,hd,hs,b,hb=>by
  obtain ⟨h1,h2⟩:=hG done (hs done (by simp [jB])) b hb;refine ⟨cU.dr 1 fun k hk=>?_,h2⟩;obtain ⟨m,rfl⟩:∃ m,k = m+1:=⟨k - 1,by omega⟩
  simp only [ak.f];rw [if_pos (by rw [az];omega)];exact h1
 | d+1,done,hd,hs,b,hb=>by
  have key:∀ (j e:Nat),e+j = n→∀ b∈B,Ev (fun k=>ak.l0 G k (n:Int) (ints done) (e:Int) b) (((List.range' e j).flatMap fun e=>if done.contains e = true then [] else jB d n (done ++ [e])).foldl u b)∧((List.range' e j).flatMap fun e=>if done.contains e = true then [] else jB d n (done ++ [e])).foldl u b∈B:=by
   intro j;induction j with
   | zero =>
    intro e he b hb;refine ⟨cU.dr 1 fun k hk=>?_,hb⟩;obtain ⟨m,rfl⟩:∃ m,k = m+1:=⟨k - 1,by omega⟩
    simp only [ak.l0];rw [if_neg (by omega)];rfl
   | succ j ih =>
    intro e he b hb;rw [List.range'_succ,List.flatMap_cons,List.foldl_append];have hC:=mA done e (by omega);cases hc:done.contains e with
    | true =>
     rw [hc] at hC;simp only [if_true,List.foldl_nil];obtain ⟨h1,h2⟩:=ih (e+1) (by omega) b hb;refine ⟨Ev.step (f:=fun k=>(aW.f k (ints done) (e:Int)).bind fun t=>(if t = true then (ak.l0 G k (n:Int) (ints done) ((e+1:Nat):Int) b) else (if (ints done).length < 17592186044416 then ((ak.f G k (n:Int) (ints done ++ [(e:Int)]) b).bind fun y=>(ak.l0 G k (n:Int) (ints done) ((e+1:Nat):Int) y)) else none))) (fun k=>?_) (Ev.bind hC (Ev.congr (fun k=>if_pos rfl) h1)),h2⟩;simp only [ak.l0];rw [if_pos (by omega),cU.dQ e (by omega)]
    | false =>
     rw [hc] at hC;simp only [Bool.false_eq_true,if_false];obtain ⟨h3,h4⟩:=oz d (done ++ [e]) (by rw [List.length_append];simp;omega) (fun x hx=>hs x (by
      rw [jB,List.mem_flatMap];refine ⟨e,List.mem_range'_1.2 ⟨Nat.zero_le _,by omega⟩,?_⟩;rw [hc,if_neg Bool.false_ne_true];exact hx)) b hb
     obtain ⟨h1,h2⟩:=ih (e+1) (by omega) _ h4;rw [← lA] at h3;refine ⟨Ev.step (f:=fun k=>(aW.f k (ints done) (e:Int)).bind fun t=>(if t = true then (ak.l0 G k (n:Int) (ints done) ((e+1:Nat):Int) b) else (if (ints done).length < 17592186044416 then ((ak.f G k (n:Int) (ints done ++ [(e:Int)]) b).bind fun y=>(ak.l0 G k (n:Int) (ints done) ((e+1:Nat):Int) y)) else none))) (fun k=>?_) (Ev.bind hC (Ev.congr (fun k=>if_neg Bool.false_ne_true) (Ev.congr (fun k=>if_pos (by rw [az];omega)) (Ev.bind h3 h1)))),h2⟩;simp only [ak.l0];rw [if_pos (by omega),cU.dQ e (by omega)]
  obtain ⟨h1,h2⟩:=key n 0 (by omega) b hb;refine ⟨Ev.step (fun k=>?_) h1,h2⟩;simp only [ak.f];rw [if_neg (by rw [az];omega)];rfl
end
section
variable {n:Nat} (hn:n < 6) {l:List Nat} (hl:∀ s∈l,s < 2 ^ n) (ha:l.Pairwise (· < ·)) (hlen:l.length≤1048576)
include hn hl ha hlen
theorem n4:∀ (d:Nat) (done:List Nat),done.length+d = n→(∀ x∈jB d n done,mZ n x = true)→∀ c:List Int,c.length≤1048576→Ev (fun k=>aI.f k (n:Int) (ints l) (ints done) c) ((jB d n done).foldl (jC l) c)∧((jB d n done).foldl (jC l) c).length≤1048576
 | 0,done,hd,hs,c,hc=>by
  have hx:=hs done (by simp [jB]);have hr:=k7 hx hl ha;have hB:=kM (k6 done l) c (by omega) hc;have e:(jB 0 n done).foldl (jC l) c = jC l c done:=rfl;rw [e];refine ⟨Ev.step (f:=fun k=>(bT.f k (ints done) (ints l)).bind fun t=>(if (c.length:Int) = 0 then (some t) else ((bu.f k t c).bind fun t2=>(if t2 = true then (some t) else (some c))))) (fun k=>?_) (Ev.bind (rH hn hx hl hlen) ?_),?_⟩
  ·simp only [aI.f]
   rw [if_pos (by rw [az];omega)]
  ·unfold jC
   by_cases z:c = []
   ·rw [if_pos z]
    exact Ev.congr (fun k=>if_pos (by rw [z];rfl)) (Ev.now _)
   ·rw [if_neg z]
    have hp:=List.length_pos_iff.2 z;refine Ev.congr (fun k=>if_neg (by omega)) (Ev.bind hB ?_);by_cases hlt:dw (k6 done l) c < 0
    ·rw [if_pos hlt]
     exact Ev.congr (fun k=>if_pos (decide_eq_true hlt)) (Ev.now _)
    ·rw [if_neg hlt]
     exact Ev.congr (fun k=>if_neg (by rw [decide_eq_false hlt];decide)) (Ev.now _)
  ·unfold jC
   split
   ·omega
   ·split
    ·omega
    ·exact hc
 | d+1,done,hd,hs,c,hc=>by
  have key:∀ (j e:Nat),e+j = n→∀ c:List Int,c.length≤1048576→Ev (fun k=>aI.l0 k (ints done) c (e:Int) (n:Int) (ints l)) (((List.range' e j).flatMap fun e=>if done.contains e = true then [] else jB d n (done ++ [e])).foldl (jC l) c)∧(((List.range' e j).flatMap fun e=>if done.contains e = true then [] else jB d n (done ++ [e])).foldl (jC l) c).length≤1048576:=by
   intro j;induction j with
   | zero =>
    intro e he c hc;refine ⟨cU.dr 1 fun k hk=>?_,hc⟩;obtain ⟨m,rfl⟩:∃ m,k = m+1:=⟨k - 1,by omega⟩
    simp only [aI.l0];rw [if_neg (by omega)];rfl
   | succ j ih =>
    intro e he c hc;rw [List.range'_succ,List.flatMap_cons,List.foldl_append];have hC:=mB done e (by omega);have step:∀ k,aI.l0 (k+1) (ints done) c (e:Int) (n:Int) (ints l) = (bL.f k (ints done) (e:Int)).bind fun t=>(if t = true then (aI.l0 k (ints done) c ((e+1:Nat):Int) (n:Int) (ints l)) else ((aI.f k (n:Int) (ints l) (ints done ++ [(e:Int)]) c).bind fun t1=>(aI.l0 k (ints done) t1 ((e+1:Nat):Int) (n:Int) (ints l)))):=fun k=>by
     simp only [aI.l0,Option.bind_some,List.nil_append];rw [if_pos (by omega),cU.dQ e (by omega)];congr 1
     funext t
     rw [if_pos (show ([]:List Int).length+(ints done).length < 17592186044416 by rw [az];simp;omega),if_pos (show (ints done).length+[(e:Int)].length < 17592186044416 by rw [az];simp;omega)]
    cases y:done.contains e with
    | true =>
     rw [y] at hC;simp only [if_true,List.foldl_nil];obtain ⟨h1,h2⟩:=ih (e+1) (by omega) c hc;exact ⟨Ev.step step (Ev.bind hC (Ev.congr (fun k=>if_pos rfl) h1)),h2⟩
    | false =>
     rw [y] at hC;simp only [Bool.false_eq_true,if_false];obtain ⟨h3,h4⟩:=n4 d (done ++ [e]) (by rw [List.length_append];simp;omega) (fun x hx=>hs x (by
      rw [jB,List.mem_flatMap];refine ⟨e,List.mem_range'_1.2 ⟨Nat.zero_le _,by omega⟩,?_⟩;rw [y,if_neg Bool.false_ne_true];exact hx)) c hc
     obtain ⟨h1,h2⟩:=ih (e+1) (by omega) _ h4;rw [← lA] at h3;exact ⟨Ev.step step (Ev.bind hC (Ev.congr (fun k=>if_neg Bool.false_ne_true) (Ev.bind h3 h1))),h2⟩
  obtain ⟨h1,h2⟩:=key n 0 (by omega) c hc;refine ⟨Ev.step (fun k=>?_) h1,h2⟩;simp only [aI.f];rw [if_neg (by rw [az];omega)];rfl
theorem rI {x:List Nat} (hx:mZ n x = true) (b:Int×List Int) (hb:b.2.length≤1048576):Ev (fun k=>bG.f k (n:Int) (ints l) (ints x) b) (jS n l b x):=by
 have hr:=k7 hx hl ha;unfold bG.f;have e:jS n l b x = if fG (k6 x l) b.2 < 0 then ((n:Int),k6 x l) else b:=rfl
 rw [e];refine Ev.bind (rG hn hx hl hlen) (Ev.bind (oy (k6 x l) b.2 (by omega) hb) ?_);by_cases hlt:fG (k6 x l) b.2 < 0
 ·rw [if_pos hlt]
  exact Ev.congr (fun k=>by rw [if_pos hlt]) (Ev.now _)
 ·rw [if_neg hlt]
  exact Ev.congr (fun k=>by rw [if_neg hlt]) (Ev.now _)
theorem qJ (J:0 < l.length):Ev (fun k=>ak.f (fun xs b=>bG.f k (n:Int) (ints l) xs b) k (n:Int) [] ((n:Int),ints l)) ((n:Int),canon n l):=by
 have hok:=List.all_eq_true.1 (nN n hn);obtain ⟨B,hB⟩:∃ B:List (Int×List Int),B = ((n:Int),ints l) :: (jB n n []).map fun x=>((n:Int),k6 x l):=⟨_,rfl⟩
 have hBl:∀ b∈B,b.2.length≤1048576:=fun b hb=>by
  rw [hB] at hb;rcases List.mem_cons.1 hb with rfl | hb
  ·rw [az];exact hlen
  ·obtain ⟨x,hx,rfl⟩:=List.mem_map.1 hb
   show (k6 x l).length≤1048576;rw [k7 (hok x hx) hl ha];exact hlen
 obtain ⟨y,I⟩:=nO (fun (p:List Nat×(Int×List Int)) k=>bG.f k (n:Int) (ints l) (ints p.1) p.2) (fun p=>jS n l p.2 p.1) ((jB n n []).flatMap fun x=>B.map fun b=>(x,b)) (fun p hp=>by
  obtain ⟨x,hx,hp⟩:=List.mem_flatMap.1 hp;obtain ⟨b,hb,rfl⟩:=List.mem_map.1 hp;exact rI hn hl ha hlen (hok x hx) b (hBl b hb))
 have hG:∀ x∈jB n n [],∀ b∈B,bG.f y (n:Int) (ints l) (ints x) b = some (jS n l b x)∧jS n l b x∈B:=fun x hx b hb=>by
  refine ⟨I (x,b) (List.mem_flatMap.2 ⟨x,hx,List.mem_map.2 ⟨b,hb,rfl⟩⟩) y (Nat.le_refl _),?_⟩;unfold jS;split
  ·rw [hB]
   exact List.mem_cons_of_mem _ (List.mem_map.2 ⟨x,hx,rfl⟩)
  ·exact hb
 obtain ⟨⟨M,z⟩,_⟩:=oz hn (jS n l) B (fun xs b=>bG.f y (n:Int) (ints l) xs b) hG n [] (by simp) (fun x hx=>hx) ((n:Int),ints l) (by rw [hB];exact List.mem_cons_self);rw [(gZ hn hl ha J).1] at z;refine ⟨y+M+1,fun k hk=>?_⟩;obtain ⟨j,rfl⟩:∃ j,k = j+1:=⟨k - 1,by omega⟩
 exact ak.mono (g:=fun xs b=>bG.f y (n:Int) (ints l) xs b) (g':=fun xs b=>bG.f (j+1) (n:Int) (ints l) xs b) (fun x b r h=>kX (fun i=>bG.mono _ _ _ _ i) (by omega:y≤j+1) h) j (n:Int) [] ((n:Int),ints l) _ (z j (by omega))
end
def jD (n:Int) (l:List Int):Int×List Int×Bool:=if eY n l = true then (n,canon n.toNat (l.map Int.toNat),true) else (0,[],false)
theorem po (n:Int) (l:List Int) (hl:l.length≤1048576) (h5:n≤5):Ev (fun k=>cw.f k n l) (jD n l):=by
 unfold cw.f jD;refine Ev.bind (ot n l hl) ?_;cases hM:eY n l with
 | false =>
  refine Ev.congr (fun k=>if_neg Bool.false_ne_true) (cU.dr 1 fun k hk=>?_);obtain ⟨m,rfl⟩:∃ m,k = m+1:=⟨k - 1,by omega⟩
  simp only [cw.j0];rfl
 | true =>
  refine Ev.congr (fun k=>if_pos rfl) ?_;rw [decide_eq_false (show ¬ n > 6 by omega)];obtain ⟨m,j,rfl,hm,rfl,y,z,hf⟩:=jj hM;rw [if_pos rfl,Int.toNat_natCast,fC];rw [az] at hl;have hB:=qJ (n:=m) (by omega) y (jq.iH hM) hl z;refine Ev.step (f:=fun k=>(ak.f (fun xs b=>bG.f k (m:Int) (ints j) xs b) k (m:Int) [] ((m:Int),ints j)).bind fun t=>some (t.1,t.2,true)) (fun k=>?_) (Ev.bind hB (Ev.now _));simp only [cw.j0];rw [if_neg Bool.false_ne_true];unfold bU.f;simp only [Option.bind_some,List.nil_append];rw [if_pos (show ([]:List Int).length+(ints j).length < 17592186044416 by rw [az];simp;omega)];rfl
theorem pq (n:Int) (l:List Int) (hl:l.length≤1048576) (h5:n≤5):Ev (fun k=>bY.f k n l) (jD n l):=by
 unfold bY.f jD;refine Ev.bind (ou n l hl) ?_;cases hM:eY n l with
 | false=>exact Ev.congr (fun k=>if_neg Bool.false_ne_true) (Ev.now _)
 | true =>
  refine Ev.congr (fun k=>if_pos rfl) (Ev.congr (fun k=>if_neg (by omega)) ?_);obtain ⟨m,y,rfl,hm,rfl,j,z,hf⟩:=jj hM;rw [if_pos rfl,Int.toNat_natCast,fC];rw [az] at hl;have ha:=jq.iH hM;have hok:=List.all_eq_true.1 (nN m (by omega));obtain ⟨h1,h2⟩:=n4 (n:=m) (by omega) j ha hl m [] (by simp) hok [] (by simp);simp only [Option.bind_some,List.nil_append];refine Ev.bind h1 (Ev.congr (fun k=>if_pos ?_) (Ev.now _));show ([]:List Int).length+(canon m y).length < 17592186044416;have:=(gZ (by omega) j ha z).2;simp;omega
end Canon
end
section
namespace Count
open Go.RowKit Go.Proofs.YtmpbccmcaabpjaaGreat.Pr Go.Proofs.YtmpbccmcaabpjaaGreat.Sets pH jo Go.Proofs.YtmpbccmcaabpjaaGreat.Flat ag.aX ag.bQ ag.bR
set_option linter.unusedVariables false
def cD (m:Nat) (r:Int):List Nat:=(List.range' 0 (2 ^ m)).filter fun s=>decide ((cnt s:Int) = r)
theorem fW (m:Nat) (r:Int):(cD m r).length≤2 ^ m:=by
 refine Nat.le_trans (List.length_filter_le _ _) ?_;rw [List.length_range'];exact Nat.le_refl _
theorem qK (m:Nat) (hm:m≤8) (r:Int) (y:0≤r) (h1:r≤m):Ev (fun k=>eM.f k r (m:Int)) ((m:Int),ints (cD m r)):=by
 have j:=dZ hm;have hs:cz.f (m:Int) = some true:=by
  unfold cz.f;rw [if_pos (by omega),decide_eq_true (by omega)]
 unfold eM.f;simp only [hs,Option.bind_some,if_true,if_neg (show ¬ r < 0 by omega),if_neg (show ¬ r > (m:Int) by omega)];refine Ev.bind (nH m hm (fun _ s=>de.f r s) (fun s=>decide ((cnt s:Int) = r)) (fun s hs=>?_) (fun _ _=>fl.refl _)) (Ev.now _);unfold de.f;rw [p9 s (by omega)];exact Ev.now _
theorem qL (m:Nat) (hm:m≤8) (r:Int) (z:0≤r) (h1:r≤m):Ev (fun k=>bp.f k r (m:Int)) ((m:Int),ints (cD m r)):=by
 have y:=dZ hm;have hpos:0 < 2 ^ m:=Nat.pow_pos (by decide);have i1:bE.f (m:Int) 0 8 = some true:=by
  unfold bE.f;rw [if_pos (by omega),decide_eq_true (by omega)]
 have i2:bE.f r 0 (m:Int) = some true:=by
  unfold bE.f;rw [if_pos (by omega),decide_eq_true (by omega)]
 unfold bp.f;simp only [i1,i2,Option.bind_some,if_true,Bool.not_true];refine Ev.step (f:=fun k=>bp.l0 k r (m:Int) 0 (m:Int) []) (fun k=>?_) ?_
 ·simp only [bp.j0]
  rw [if_neg (by decide)]
 ·have e:ints (cD m r) = (List.range' 0 (2 ^ m)).foldl (fun (s:List Int) j=>if decide ((cnt j:Int) = r) = true then s ++ [(j:Int)] else s) []:=(foldl_filter _ _).symm
  rw [e];refine cU.eN (fun k (s:List Int) i=>bp.l0 k r (m:Int) i (m:Int) s) (2 ^ m) (fun i s=>if decide ((cnt i:Int) = r) = true then s ++ [(i:Int)] else s) (fun i s=>s.length≤i) _ (fun i s hi hP=>⟨?_,fun h=>?_⟩) (2 ^ m) 0 [] (by omega) (by simp) (fun _=>cU.dr 1 (fun k hk=>?_))
  ·split
   ·simp;omega
   ·omega
  ·refine Ev.step (f:=fun k=>(aN.f k (i:Int)).bind fun t226=>(if t226 = r then (bp.l0 k r (m:Int) ((i+1:Nat):Int) (m:Int) (s ++ [(i:Int)])) else (bp.l0 k r (m:Int) ((i+1:Nat):Int) (m:Int) s))) (fun k=>?_) ?_
   ·simp only [bp.l0]
    rw [lp m hm];simp only [Option.bind_some];rw [if_pos (by omega),cU.dQ i (by omega)];simp only [if_pos (show s.length < 17592186044416 by omega)]
   ·refine Ev.bind (j3 i (by omega)) ?_
    by_cases hx:(cnt i:Int) = r
    ·rw [if_pos (decide_eq_true hx)] at h
     simp only [if_pos hx];exact h
    ·rw [if_neg (by rw [decide_eq_true_eq];exact hx)] at h
     simp only [if_neg hx];exact h
  ·obtain ⟨q,rfl⟩:∃ q,k = q+1:=⟨k - 1,by omega⟩
   simp only [bp.l0];rw [lp m hm];simp only [Option.bind_some];rw [if_neg (by omega)]
def cZ (q:List Nat) (x:Nat):List Int:=(List.range' 0 q.length).foldl (fun (s:List Int) i=>if x.testBit i = true then s ++ [((q.getD i 0:Nat):Int)] else s) []
theorem pz (q:List Nat) (x:Nat) (p:List Nat) (s:List Int):(p.foldl (fun (s:List Int) i=>if x.testBit i = true then s ++ [((q.getD i 0:Nat):Int)] else s) s).length≤s.length+p.length:=by
 induction p generalizing s with
 | nil=>simp
 | cons a p ih =>
  rw [List.foldl_cons];refine Nat.le_trans (ih _) ?_;split <;> simp <;> omega
theorem eO (q:List Nat) (x:Nat):(cZ q x).length≤q.length:=by
 have:=pz q x (List.range' 0 q.length) [];simpa [cZ] using this
theorem oA (x i:Nat) (hi:i < 62) (hx:x < 2 ^ 62):(Go.bits .and .i64 (shr .i64 (x:Int) (i:Int)) 1 = 1) = (x.testBit i = true):=by
 rw [← lZ x i hi hx,beq_iff_eq]
theorem rJ (q:List Nat) (x:Nat) (hq:q.length≤32) (hx:x < 2 ^ 62):Ev (fun k=>bf.f k (ints q) (x:Int)) (cZ q x):=by
 unfold bf.f cZ;refine cU.eN (fun k (s:List Int) i=>bf.l0 k (ints q) (x:Int) s i) q.length (fun i s=>if x.testBit i = true then s ++ [((q.getD i 0:Nat):Int)] else s) (fun i s=>s.length≤i) _ (fun i s hi hP=>⟨?_,fun h=>Ev.step (fun k=>?_) h⟩) q.length 0 [] (by omega) (by simp) (fun _=>cU.dr 1 (fun k hk=>?_))
 ·split
  ·simp;omega
  ·omega
 ·simp only [bf.l0]
  rw [if_pos (by rw [az];omega),k4 i (by omega),if_pos (by omega),e9,cU.dQ i (by omega)];simp only [oA x i (by omega) hx,if_pos (show (0:Int)≤(i:Int) by omega),if_pos (show s.length < 17592186044416 by omega)];split <;> rfl
 ·obtain ⟨n,rfl⟩:∃ n,k = n+1:=⟨k - 1,by omega⟩
  simp only [bf.l0];rw [if_neg (by rw [az];omega)]
def total (m:Nat) (q:List Nat):List Nat:=(List.range' 1 (2 ^ q.length - 1)).filter fun x=>eY (m:Int) (cZ q x)
abbrev SM:=cV
theorem pA (m:Nat) (hm:m≤5) (r:Int) (y:0≤r) (h1:r≤m):Ev (fun k=>aC.f k (m:Int) r) ((total m (cD m r)).map fun x=>(⟨(m:Int),cZ (cD m r) x⟩:SM)):=by
 unfold aC.f;refine Ev.bind (qK m (by omega) r y h1) ?_;have hq:(cD m r).length≤32:=Nat.le_trans (fW m r) (Nat.pow_le_pow_right (n:=2) (by decide) hm);generalize cD m r = q at *;have hp:2 ^ q.length≤2 ^ 32:=Nat.pow_le_pow_right (by decide) hq;have z:1≤2 ^ q.length:=Nat.one_le_two_pow;have e:(total m q).map (fun x=>(⟨(m:Int),cZ q x⟩:SM)) = (List.range' 1 (2 ^ q.length - 1)).foldl (fun (s:List SM) x=>if eY (m:Int) (cZ q x) = true then s ++ [⟨(m:Int),cZ q x⟩] else s) []:=by
  unfold total;have:∀ (p:List Nat) (s:List SM),p.foldl (fun (s:List SM) x=>if eY (m:Int) (cZ q x) = true then s ++ [⟨(m:Int),cZ q x⟩] else s) s = s ++ (p.filter fun x=>eY (m:Int) (cZ q x)).map (fun x=>(⟨(m:Int),cZ q x⟩:SM)):=by
   intro p;induction p with
   | nil=>intro s;simp
   | cons a p ih =>
    intro s;rw [List.foldl_cons,ih];cases h:eY (m:Int) (cZ q a) <;> simp [h]
  rw [this,List.nil_append]
 rw [e];refine cU.eN (fun k (s:List SM) i=>aC.l0 k (m:Int) (ints q) s i) (2 ^ q.length) (fun x s=>if eY (m:Int) (cZ q x) = true then s ++ [⟨(m:Int),cZ q x⟩] else s) (fun i s=>s.length≤i) _ (fun x s hx hP=>⟨?_,fun h=>?_⟩) (2 ^ q.length - 1) 1 [] (by omega) (by simp) (fun _=>cU.dr 1 (fun k hk=>?_))
 ·split
  ·simp;omega
  ·omega
 ·refine Ev.step (f:=fun k=>aC.l1 k (m:Int) (ints q) s (x:Int) (ints q) ((ints q).length:Int) 0 (m:Int) []) (fun k=>?_) ?_
  ·simp only [aC.l0]
   rw [az,fh _ (by omega),if_pos (by omega)]
  ·refine cU.eN (fun k (u:List Int) i=>aC.l1 k (m:Int) (ints q) s (x:Int) (ints q) ((ints q).length:Int) i (m:Int) u) q.length (fun i u=>if x.testBit i = true then u ++ [((q.getD i 0:Nat):Int)] else u) (fun i u=>u.length≤i) _ (fun i u hi hU=>⟨?_,fun h=>Ev.step (fun k=>?_) h⟩) q.length 0 [] (by omega) (by simp) (fun hU=>?_)
   ·split
    ·simp;omega
    ·omega
   ·simp only [aC.l1]
    rw [if_pos (by rw [az];omega),if_pos (by omega),if_pos (by rw [az];omega),e9,cU.dQ i (by omega)];simp only [oA x i (by omega) (show x < 2 ^ 62 by omega),if_pos (show u.length < 17592186044416 by omega)];split <;> rfl
   ·refine Ev.step (f:=fun k=>(cO.f k (m:Int) (cZ q x)).bind fun j=>(if j = true then (aC.l0 k (m:Int) (ints q) (s ++ [(⟨(m:Int),cZ q x⟩:SM)]) ((x+1:Nat):Int)) else (aC.l0 k (m:Int) (ints q) s ((x+1:Nat):Int)))) (fun k=>?_) ?_
    ·simp only [aC.l1]
     rw [if_neg (by rw [az];omega),cU.dQ x (by omega)];simp only [if_pos (show s.length < 4398046511104 by omega)];rfl
    ·have hl:=eO q x
     refine Ev.bind (ot (m:Int) (cZ q x) (by omega)) ?_;cases hM:eY (m:Int) (cZ q x) with
     | true =>
      rw [hM] at h;simp only [if_true] at h ⊢;exact h
     | false =>
      rw [hM] at h;simp only [Bool.false_eq_true,if_false] at h ⊢;exact h
 ·obtain ⟨n,rfl⟩:∃ n,k = n+1:=⟨k - 1,by omega⟩
  simp only [aC.l0];rw [az,fh _ (by omega),if_neg (by omega)]
def count (n r:Int):Int:=if 0≤n∧n≤5∧0≤r∧r≤n then ((total n.toNat (cD n.toNat r)).length:Int) else -1
end Count
end
section
namespace Find
open Go.RowKit Go.Proofs.YtmpbccmcaabpjaaGreat.Pr Go.Proofs.YtmpbccmcaabpjaaGreat.Sets pH jo Go.Proofs.YtmpbccmcaabpjaaGreat.Flat pI Go.Proofs.YtmpbccmcaabpjaaGreat.Sort tj nQ jG Go.Proofs.YtmpbccmcaabpjaaGreat.Count ag.aX ag.bQ ag.bR
set_option linter.unusedVariables false
theorem drop_eq {a b:List Int} {i:Nat} (hl:a.length = b.length) (h:i < a.length):(a.drop i = b.drop i)↔(a.getD i 0 = b.getD i 0∧a.drop (i+1) = b.drop (i+1)):=by
 rw [List.drop_eq_getElem_cons h,List.drop_eq_getElem_cons (show i < b.length by omega),List.cons.injEq];have j:a.getD i 0 = a[i]:=by simp [List.getD,h]
 have y:b.getD i 0 = b[i]:=by simp [List.getD,show i < b.length by omega]
 rw [j,y]
theorem lB (a b:List Int) (hl:a.length = b.length) (hn:a.length≤1048576) (L:Nat→Int→Option Bool)
  (hstep:∀ k i,i < a.length→L (k+1) (i:Int) = if a.getD i 0 = b.getD i 0 then L k ((i+1:Nat):Int) else some false)
  (hend:∀ k,L (k+1) (a.length:Int) = some true):Ev (fun k=>L k 0) (decide (a = b)):=by
 have key:∀ d i:Nat,i+d = a.length→Ev (fun k=>L k (i:Int)) (decide (a.drop i = b.drop i)):=by
  intro d;induction d with
  | zero =>
   intro i hi;obtain rfl:i = a.length:=by omega
   rw [List.drop_length,hl,List.drop_length,decide_eq_true rfl,← hl];exact Ev.step (f:=fun _=>some true) (fun k=>hend k) (Ev.now _)
  | succ d ih =>
   intro i hi;have hlt:i < a.length:=by omega
   have hd:=drop_eq (i:=i) hl hlt;by_cases e:a.getD i 0 = b.getD i 0
   ·rw [show decide (a.drop i = b.drop i) = decide (a.drop (i+1) = b.drop (i+1)) by rw [decide_eq_decide,hd];exact ⟨fun h=>h.2,fun h=>⟨e,h⟩⟩]
    refine Ev.step (fun k=>?_) (ih (i+1) (by omega));rw [hstep k i hlt,if_pos e]
   ·rw [decide_eq_false (fun h=>e (hd.1 h).1)]
    refine Ev.step (f:=fun _=>some false) (fun k=>?_) (Ev.now _);rw [hstep k i hlt,if_neg e]
 have:=key a.length 0 (by omega);simpa using this
theorem tf (n n':Int) (a b:List Int) (hn:a.length≤1048576):Ev (fun k=>cW.f k n a n' b) (decide (n = n') && decide (a = b)):=by
 unfold cW.f;by_cases e:n = n'
 ·simp only [if_pos e,decide_eq_true e,Bool.true_and]
  refine Ev.bind ?_ (Ev.now _);unfold bD.f;by_cases hl:a.length = b.length
  ·simp only [if_pos (show (a.length:Int) = (b.length:Int) by omega)]
   refine lB a b hl hn (fun k i=>bD.l0 k a b (a.length:Int) i) (fun k i hi=>?_) (fun k=>?_)
   ·simp only [bD.l0]
    rw [if_pos (by omega),if_pos (by omega),if_pos (by omega),if_pos (by omega),cU.dN,cU.dN,cU.dQ i (by omega)]
   ·simp only [bD.l0]
    rw [if_neg (by omega)]
  ·simp only [if_neg (show ¬ (a.length:Int) = (b.length:Int) by omega)]
   rw [decide_eq_false (fun h=>hl (by rw [h]))];exact Ev.now _
 ·simp only [if_neg e,decide_eq_false e,Bool.false_and]
  exact Ev.now _
theorem qM (n n':Int) (a b:List Int) (hn:a.length≤1048576):Ev (fun k=>aK.f k n a n' b) (decide (n = n') && decide (a = b)):=by
 unfold aK.f;by_cases e:n = n'
 ·simp only [if_pos e,decide_eq_true e,Bool.true_and]
  by_cases hl:a.length = b.length
  ·refine Ev.step (f:=fun k=>aK.l0 k 0 n a n' b) (fun k=>?_) ?_
   ·simp only [aK.j0]
    rw [if_neg (by simp;omega)]
   ·refine lB a b hl hn (fun k i=>aK.l0 k i n a n' b) (fun k i hi=>?_) (fun k=>?_)
    ·simp only [aK.l0]
     rw [if_pos (by omega),if_pos (by omega),if_pos (by omega),cU.dN,cU.dN,cU.dQ i (by omega)]
    ·simp only [aK.l0]
     rw [if_neg (by omega)]
  ·rw [decide_eq_false (fun h=>hl (by rw [h]))]
   refine Ev.step (f:=fun _=>some false) (fun k=>?_) (Ev.now _);simp only [aK.j0];rw [if_pos (by simp;omega)]
 ·simp only [if_neg e,decide_eq_false e,Bool.false_and]
  refine Ev.step (f:=fun _=>some false) (fun k=>?_) (Ev.now _);simp only [aK.j0];rw [if_pos (by trivial)]
end Find
end
section
namespace Canon
open Go.RowKit Go.Proofs.YtmpbccmcaabpjaaGreat.Pr Go.Proofs.YtmpbccmcaabpjaaGreat.Sets pH jo Go.Proofs.YtmpbccmcaabpjaaGreat.Flat Go.Proofs.YtmpbccmcaabpjaaGreat.Sort tj nQ jG ga ag.aX ag.bQ ag.bR
set_option linter.unusedVariables false
abbrev KM:=cV
theorem oB (f:Nat→Int) (p:Nat→Bool):∀ (q:List Nat) (s:List Int),q.foldl (fun (s:List Int) i=>if p i = true then s ++ [f i] else s) s = s ++ (q.filter p).map f
 | [],s=>by simp
 | a :: q,s=>by
  rw [List.foldl_cons,oB f p q];cases h:p a <;> simp [h]
theorem qN (q:List Nat) (x:Nat):Count.cZ q x = ((List.range' 0 q.length).filter fun i=>x.testBit i).map fun i=>((q.getD i 0:Nat):Int):=by
 unfold Count.cZ;rw [oB (fun i=>((q.getD i 0:Nat):Int)) (fun i=>x.testBit i),List.nil_append]
theorem rK {q:List Nat} {x:Nat} {v:Int} (h:v∈Count.cZ q x):∃ s∈q,v = (s:Int):=by
 rw [qN] at h;obtain ⟨i,hi,rfl⟩:=List.mem_map.1 h;have:=List.mem_range'_1.1 (List.mem_filter.1 hi).1;exact ⟨_,e5 q 0 i (by omega),rfl⟩
theorem oC {q:List Nat} (hq:q.Nodup) {x j:Nat} (hj:j < q.length):((q.getD j 0:Nat):Int)∈Count.cZ q x↔x.testBit j = true:=by
 rw [qN,List.mem_map];constructor
 ·rintro ⟨i,hi,h⟩
  have h1:=List.mem_filter.1 hi;have h2:=List.mem_range'_1.1 h1.1;have h3:q.getD i 0 = q.getD j 0:=by omega
  rw [List.getD_eq_getElem?_getD,List.getD_eq_getElem?_getD,List.getElem?_eq_getElem (by omega:i < q.length),List.getElem?_eq_getElem hj] at h3;have h4:i = j:=(List.getElem_inj hq).1 h3;rw [← h4];exact h1.2
 ·intro h
  exact ⟨j,List.mem_filter.2 ⟨List.mem_range'_1.2 ⟨Nat.zero_le _,by omega⟩,h⟩,rfl⟩
theorem oD {q:List Nat} (hq:q.Nodup) {x y:Nat} (hx:x < 2 ^ q.length) (hy:y < 2 ^ q.length) (h:Count.cZ q x = Count.cZ q y):x = y:=by
 apply Nat.eq_of_testBit_eq
 intro j;by_cases hj:j < q.length
 ·rw [Bool.eq_iff_iff,← oC hq hj,← oC hq hj,h]
 ·rw [gY hx (by omega),gY hy (by omega)]
theorem kN (m:Nat) (r:Int):(Count.cD m r).Pairwise (· < ·):=(lu _ _).filter _
theorem pB {m:Nat} {r:Int} {s:Nat} (h:s∈Count.cD m r):s < 2 ^ m∧(cnt s:Int) = r:=by
 unfold Count.cD at h;have h1:=List.mem_filter.1 h;have h2:=List.mem_range'_1.1 h1.1;exact ⟨by omega,of_decide_eq_true h1.2⟩
theorem pC {α σ:Type} (z:α) (f:σ→α→σ):∀ (L:List α) (s:σ),(List.range' 0 L.length).foldl (fun s i=>f s (L.getD i z)) s = L.foldl f s:=by
 intro L;have key:∀ (d i:Nat) (s:σ),i+d = L.length→(List.range' i d).foldl (fun s i=>f s (L.getD i z)) s = (L.drop i).foldl f s:=by
  intro d;induction d with
  | zero =>
   intro i s hi;rw [List.drop_eq_nil_of_le (by omega)];rfl
  | succ d ih =>
   intro i s hi;rw [List.range'_succ,List.foldl_cons,ih (i+1) _ (by omega),List.drop_eq_getElem_cons (by omega:i < L.length),List.foldl_cons,List.getD_eq_getElem?_getD,List.getElem?_eq_getElem (by omega)];rfl
 intro s;rw [key L.length 0 s (by omega),List.drop_zero]
theorem kO {α:Type} (p:α→Bool):∀ (L s:List α),L.foldl (fun s e=>if p e = true then s ++ [e] else s) s = s ++ L.filter p
 | [],s=>by simp
 | e :: L,s=>by
  rw [List.foldl_cons,kO p L];cases h:p e <;> simp [h]
def iN (a:KM):List KM→List KM
 | []=>[a]
 | e :: S=>if dw a.f1 e.f1 < 0 then a :: e :: S else e :: iN a S
theorem iJ (a:KM):∀ S:List KM,(iN a S).Perm (a :: S)
 | []=>List.Perm.refl _
 | e :: S=>by
  unfold iN;split
  ·exact List.Perm.refl _
  ·exact ((iJ a S).cons e).trans (List.Perm.swap a e S)
theorem jO (a:KM):∀ S:List KM,S.Pairwise (fun x y=>dw x.f1 y.f1 < 0)→(∀ e∈S,e.f1≠a.f1)→(iN a S).Pairwise (fun x y=>dw x.f1 y.f1 < 0)
 | [],_,_=>List.pairwise_singleton _ _
 | e :: S,h,hne=>by
  obtain ⟨h1,h2⟩:=List.pairwise_cons.1 h;unfold iN;by_cases hlt:dw a.f1 e.f1 < 0
  ·rw [if_pos hlt]
   refine List.pairwise_cons.2 ⟨fun y hy=>?_,h⟩;rcases List.mem_cons.1 hy with rfl | hy
   ·exact hlt
   ·exact gW _ _ _ hlt (h1 y hy)
  ·rw [if_neg hlt]
   have hea:dw e.f1 a.f1 < 0:=by
    have h3:=ff e.f1 a.f1;have h4:dw e.f1 a.f1≠0:=fun h5=>hne e List.mem_cons_self (iE _ _ h5)
    omega
   refine List.pairwise_cons.2 ⟨fun y hy=>?_,jO a S h2 fun x hx=>hne x (List.mem_cons_of_mem _ hx)⟩;rcases List.mem_cons.1 ((iJ a S).mem_iff.1 hy) with rfl | hy
   ·exact hea
   ·exact h1 y hy
theorem n5:∀ (L S:List KM),(L.map fun x=>x.f1).Nodup→(∀ e∈S,∀ x∈L,e.f1≠x.f1)→S.Pairwise (fun x y=>dw x.f1 y.f1 < 0)→(L.foldl (fun S a=>iN a S) S).Pairwise (fun x y=>dw x.f1 y.f1 < 0)∧(L.foldl (fun S a=>iN a S) S).Perm (L ++ S)
 | [],S,_,_,hS=>⟨hS,List.Perm.refl _⟩
 | a :: L,S,hn,hd,hS=>by
  rw [List.map_cons,List.nodup_cons] at hn;have hins:=jO a S hS fun e he=>hd e he a List.mem_cons_self
  have hp:=iJ a S;rw [List.foldl_cons];obtain ⟨h1,h2⟩:=n5 L (iN a S) hn.2 (fun e he x hx=>by
   rcases List.mem_cons.1 (hp.mem_iff.1 he) with rfl | he
   ·exact fun h=>hn.1 (by rw [h];exact List.mem_map_of_mem hx)
   ·exact hd e he x (List.mem_cons_of_mem _ hx)) hins
  refine ⟨h1,h2.trans ?_⟩;exact (hp.append_left L).trans List.perm_middle
theorem pD {m:Int} {L:List KM} (hn:(L.map fun x=>x.f1).Nodup) (I:∀ e∈L,e.f0 = m):L.foldl (fun S a=>iN a S) [] = fF L:=by
 obtain ⟨h1,h2⟩:=n5 L [] hn (fun e he=>absurd he List.not_mem_nil) List.Pairwise.nil;rw [List.append_nil] at h2;have h3:(fF L).Perm L:=List.mergeSort_perm _ _;have h4:(fF L).Pairwise (fun x y=>(!decide (dw y.f1 x.f1 < 0)) = true):=by
  refine List.pairwise_mergeSort (fun x y z hxy hyz=>?_) (fun x y=>?_) L
  ·simp only [Bool.not_eq_true',decide_eq_false_iff_not] at *
   intro hzx;have j:=ff x.f1 y.f1;by_cases he:dw x.f1 y.f1 = 0
   ·rw [iE _ _ he] at hzx
    exact hyz hzx
   ·exact hyz (gW _ _ _ hzx (by omega))
  ·have j:=ff x.f1 y.f1
   simp only [Bool.or_eq_true,Bool.not_eq_true',decide_eq_false_iff_not];omega
 refine List.Perm.eq_of_pairwise (le:=fun x y:KM=>(!decide (dw y.f1 x.f1 < 0)) = true) ?_ ?_ h4 (h2.trans h3.symm)
 ·intro a b ha hb hab hba
  simp only [Bool.not_eq_true',decide_eq_false_iff_not] at hab hba;have j:=ff a.f1 b.f1;have J:=iE a.f1 b.f1 (by omega);have M:=I a (h2.mem_iff.1 ha);have U:=I b (h3.mem_iff.1 hb);cases a
  cases b
  simp only at J M U;rw [J,M,U]
 ·refine h1.imp fun {x y} h=>?_
  have j:=ff x.f1 y.f1;simp only [Bool.not_eq_true',decide_eq_false_iff_not];omega
theorem qO (a b:List Int) (ha:a.length≤1048576) (hb:b.length≤1048576):wrap64 ((a.length:Int) - (b.length:Int)) = (a.length:Int) - (b.length:Int):=cU.qT (by omega) (by omega)
theorem pE (a b:KM) (ha:a.f1.length≤1048576) (hb:b.f1.length≤1048576):Ev (fun k=>cn.f k a.f0 a.f1 b.f0 b.f1) (dw a.f1 b.f1):=by
 unfold cn.f;refine Ev.bind ?_ (Ev.now _);unfold cm.f dw;by_cases hl:a.f1.length = b.f1.length
 ·simp only [if_pos hl,if_pos (show (a.f1.length:Int) = (b.f1.length:Int) by omega)]
  exact Ev.bind (oy _ _ ha hb) (Ev.now _)
 ·simp only [if_neg hl,if_neg (show ¬ (a.f1.length:Int) = (b.f1.length:Int) by omega)]
  rw [qO _ _ ha hb];exact Ev.now _
theorem ua {L:List KM} (hl:∀ e∈L,e.f1.length≤1048576) (hn:(L.map fun x=>x.f1).Nodup) (hlen:L.length < 4398046511104):Ev (fun k=>qg k L) (fF L):=by
 obtain ⟨K,hK⟩:=nO (fun (p:KM×KM) k=>cn.f k p.1.f0 p.1.f1 p.2.f0 p.2.f1) (fun p=>dw p.1.f1 p.2.f1) (L.flatMap fun x=>L.map fun y=>(x,y)) (fun p hp=>by
  obtain ⟨x,hx,hp⟩:=List.mem_flatMap.1 hp;obtain ⟨y,hy,rfl⟩:=List.mem_map.1 hp;exact pE x y (hl x hx) (hl y hy))
 refine ⟨K,fun k hk=>?_⟩;have hok:oV k L = true:=by
  unfold oV;rw [Bool.and_eq_true];refine ⟨List.all_eq_true.2 fun x hx=>List.all_eq_true.2 fun y hy=>?_,decide_eq_true hn⟩;exact decide_eq_true (hK (x,y) (List.mem_flatMap.2 ⟨x,hx,List.mem_map.2 ⟨y,hy,rfl⟩⟩) k hk)
 show qg k L = some (fF L);unfold qg;rw [if_pos hlen,if_pos hok]
def kp (m:Nat) (e:KM):Bool:=decide (canon m (e.f1.map Int.toNat) = e.f1)
def nP (m:Nat) (q:List Nat) (x:Nat):KM:=⟨(m:Int),Count.cZ q x⟩
def gF (m:Nat) (q:List Nat) (x:Nat):Bool:=eY (m:Int) (Count.cZ q x) && kp m (nP m q x)
def j4 (m:Nat) (q:List Nat):List KM:=((List.range' 1 (2 ^ q.length - 1)).filter (gF m q)).map (nP m q)
def pF (m:Nat) (r:Int):List KM:=fF (j4 m (Count.cD m r))
theorem lC (m:Nat) (q:List Nat):((Count.total m q).map (nP m q)).filter (kp m) = j4 m q:=by
 unfold j4 Count.total;rw [List.filter_map,List.filter_filter];congr 1
 refine List.filter_congr fun x _=>?_
 unfold gF;rw [Bool.and_comm];rfl
theorem oE {q:List Nat} (hq:q.length≤32):2 ^ q.length≤4294967296:=Nat.pow_le_pow_right (n:=2) (by decide) hq
theorem rL (m:Nat) {q:List Nat} (hq:q.length≤32):(j4 m q).length < 4398046511104:=by
 unfold j4;have h1:=oE hq;have h2:=List.length_filter_le (gF m q) (List.range' 1 (2 ^ q.length - 1));rw [List.length_range'] at h2;rw [List.length_map];omega
theorem tg (m:Nat) {q:List Nat} (hq:q.length≤32):∀ e∈j4 m q,e.f1.length≤1048576:=fun e he=>by
 unfold j4 at he;obtain ⟨x,_,rfl⟩:=List.mem_map.1 he;have:=Count.eO q x;show (Count.cZ q x).length≤1048576;omega
theorem th (m:Nat) (q:List Nat):∀ e∈j4 m q,e.f0 = (m:Int):=fun e he=>by
 unfold j4 at he;obtain ⟨x,_,rfl⟩:=List.mem_map.1 he;rfl
theorem lD {α β:Type} {f:α→β}:∀ {L:List α},L.Nodup→(∀ a∈L,∀ b∈L,f a = f b→a = b)→(L.map f).Nodup
 | [],_,_=>List.nodup_nil
 | a :: L,hn,hi=>by
  rw [List.nodup_cons] at hn;rw [List.map_cons,List.nodup_cons];refine ⟨fun hm=>?_,lD hn.2 fun x hx y hy=>hi x (List.mem_cons_of_mem _ hx) y (List.mem_cons_of_mem _ hy)⟩;obtain ⟨b,hb,he⟩:=List.mem_map.1 hm;have:=hi b (List.mem_cons_of_mem _ hb) a List.mem_cons_self he;rw [this] at hb;exact hn.1 hb
theorem lE (m:Nat) {q:List Nat} (hq:q.Nodup):((j4 m q).map fun x=>x.f1).Nodup:=by
 unfold j4;rw [List.map_map];refine lD ((iI (lu _ _)).filter _) fun a ha b hb h=>?_
 have h1:=List.mem_range'_1.1 (List.mem_filter.1 ha).1;have h2:=List.mem_range'_1.1 (List.mem_filter.1 hb).1;have hp:=Nat.one_le_two_pow (n:=q.length);exact oD hq (by omega) (by omega) h
theorem s9 (n r:Int):dx.f n r = some (decide (0≤n∧n≤5∧0≤r∧r≤n)):=by
 unfold dx.f;by_cases a:n≥0
 ·by_cases b:n≤5
  ·by_cases c:r≥0
   ·rw [if_pos a,if_pos b,if_pos c]
    congr 1
    rw [decide_eq_decide];omega
   ·rw [if_pos a,if_pos b,if_neg c,decide_eq_false (by omega)]
  ·rw [if_pos a,if_neg b,decide_eq_false (by omega)]
 ·rw [if_neg a,decide_eq_false (by omega)]
theorem rM (m:Nat) (hm:m≤5) (r:Int) (U:0≤r) (h1:r≤m):Ev (fun k=>b9.f k (m:Int) r) (pF m r):=by
 have hq:(Count.cD m r).length≤32:=Nat.le_trans (Count.fW m r) (Nat.pow_le_pow_right (n:=2) (by decide) hm);have z:=iI (kN m r);unfold b9.f;simp only [s9,Option.bind_some,decide_eq_true (show 0≤(m:Int)∧(m:Int)≤5∧0≤r∧r≤(m:Int) by omega),if_true];refine Ev.bind (Count.pA m hm r U h1) ?_;have y:pF m r = fF (((Count.total m (Count.cD m r)).map (nP m (Count.cD m r))).filter (kp m)):=by
  rw [lC];rfl
 have hsel:=lC m (Count.cD m r);have hsl:=rL m hq;have hsf:=tg m hq;have hsn:=lE m z;rw [← hsel] at hsl hsf hsn;rw [y];show Ev (fun k=>b9.l0 k [] ((Count.total m (Count.cD m r)).map (nP m (Count.cD m r))) (((Count.total m (Count.cD m r)).map (nP m (Count.cD m r))).length:Int) 0) _;have hL:∀ e∈(Count.total m (Count.cD m r)).map (nP m (Count.cD m r)),e.f0 = (m:Int)∧eY (m:Int) e.f1 = true∧e.f1.length≤1048576:=fun e he=>by
  obtain ⟨x,hx,rfl⟩:=List.mem_map.1 he;unfold Count.total at hx;have:=Count.eO (Count.cD m r) x;refine ⟨rfl,(List.mem_filter.1 hx).2,?_⟩;show (Count.cZ (Count.cD m r) x).length≤1048576;omega
 have X:((Count.total m (Count.cD m r)).map (nP m (Count.cD m r))).length≤4294967296:=by
  rw [List.length_map];unfold Count.total;refine Nat.le_trans (List.length_filter_le _ _) ?_;rw [List.length_range'];have:=oE hq;omega
 generalize (Count.total m (Count.cD m r)).map (nP m (Count.cD m r)) = L at *;have hz:∀ i,av L (i:Nat) = L.getD i z26:=fun i=>rfl
 refine cU.eN (fun k (s:List KM) i=>b9.l0 k s L (L.length:Int) i) L.length (fun i s=>if kp m (L.getD i z26) = true then s ++ [L.getD i z26] else s) (fun i s=>s.length≤i) _ (fun i s hi hP=>⟨?_,fun h=>?_⟩) L.length 0 [] (by omega) (by simp) (fun hP=>?_)
 ·split
  ·simp;omega
  ·omega
 ·obtain ⟨e,he⟩:∃ e,L.getD i z26 = e:=⟨_,rfl⟩
  have hmem:e∈L:=by
   rw [← he];exact e5 L _ i hi
  obtain ⟨I,a2,a3⟩:=hL e hmem;rw [he] at h;have hcan:=po e.f0 e.f1 a3 (by omega);unfold jD at hcan;rw [I,if_pos a2,Int.toNat_natCast] at hcan;have j:(canon m (e.f1.map Int.toNat)).length≤1048576:=by
   obtain ⟨m',lN,e1,hm',J,M,h0',hf⟩:=jj a2;have Y:m' = m:=by omega
   subst Y;rw [J,fC,(gZ (by omega) M (jq.iH (by rw [← J];exact a2)) h0').2];rw [J,az] at a3;exact a3
  have heq:=Find.tf (m:Int) (m:Int) (canon m (e.f1.map Int.toNat)) e.f1 j;rw [decide_eq_true rfl,Bool.true_and] at heq;refine Ev.step (f:=fun k=>(cw.f k (m:Int) e.f1).bind fun bt=>(cW.f k bt.1 bt.2.1 (m:Int) e.f1).bind fun t=>(if t = true then b9.l0 k (s ++ [e]) L (L.length:Int) ((i+1:Nat):Int) else b9.l0 k s L (L.length:Int) ((i+1:Nat):Int))) (fun k=>?_) (Ev.bind hcan (Ev.bind heq ?_))
  ·simp only [b9.l0]
   rw [if_pos (by omega),if_pos (by omega),if_pos (by omega),hz,he,I,cU.dQ i (by omega)];simp only [if_pos (show s.length < 4398046511104 by omega)];have ee:(⟨(m:Int),e.f1⟩:KM) = e:=by rw [← I]
   rw [ee]
  ·by_cases hk:kp m e = true
   ·rw [if_pos hk] at h
    exact Ev.congr (fun k=>if_pos hk) h
   ·rw [if_neg hk] at h
    exact Ev.congr (fun k=>if_neg hk) h
 ·rw [pC z26 (fun s e=>if kp m e = true then s ++ [e] else s) L [],kO,List.nil_append] at hP ⊢
  refine Ev.step (fun k=>?_) (ua hsf hsn hsl);simp only [b9.l0];rw [if_neg (by omega)]
theorem rN (n n':Int) (a b:List Int) (s t:Nat) (j:0 < a.length) (y:0 < b.length) (ha:a.length≤1048576) (hb:b.length≤1048576) (has:a.getD 0 0 = (s:Int)) (hbt:b.getD 0 0 = (t:Int)) (hs:s < 256) (ht:t < 256) (hc:cnt s = cnt t):Ev (fun k=>cQ.f k n a n' b) (decide (dw a b < 0)):=by
 have z:rd a 0 = (s:Int):=has;have I:rd b 0 = (t:Int):=hbt;unfold cQ.f;refine Ev.congr (fun k=>if_pos (by omega)) ?_;rw [z,I];refine Ev.bind (j3 s hs) (Ev.congr (fun k=>if_pos (by omega)) (Ev.bind (j3 t ht) (Ev.congr (fun k=>if_pos (by rw [hc])) (Ev.bind (kM a b ha hb) (Ev.now _)))))
theorem qP (n:Int) (l:List Int) (hl:l.length≤1048576):cA.f n l = some (n,l):=by
 unfold cA.f;simp only [Option.bind_some,List.nil_append];rw [if_pos (by simp;omega)]
theorem rO (a:KM) (S:List KM) (hS:S.length≤4294967296) (ha:a.f1.length≤1048576) (hne:∀ e∈S,e.f1≠a.f1) (hl:∀ e∈S,e.f1.length≤1048576) (hB:∀ e∈S,Ev (fun k=>cQ.f k a.f0 a.f1 e.f0 e.f1) (decide (dw a.f1 e.f1 < 0))):Ev (fun k=>aD.f k S a.f0 a.f1) (iN a S):=by
 have hz:∀ i,av S (i:Nat) = S.getD i z26:=fun i=>rfl
 have key:∀ d i:Nat,i+d = S.length→(∀ out:List KM,out.length≤i+1→Ev (fun k=>aD.l0 k S out true (i:Int) a.f0 a.f1) (out ++ S.drop i))∧(∀ out:List KM,out.length≤i→Ev (fun k=>aD.l0 k S out false (i:Int) a.f0 a.f1) (out ++ iN a (S.drop i))):=by
  intro d;induction d with
  | zero =>
   intro i hi;rw [List.drop_eq_nil_of_le (by omega)];refine ⟨fun out ho=>cU.dr 1 fun k hk=>?_,fun out ho=>cU.dr 1 fun k hk=>?_⟩
   ·obtain ⟨m,rfl⟩:∃ m,k = m+1:=⟨k - 1,by omega⟩
    simp only [aD.l0];rw [if_neg (by omega),if_pos trivial,List.append_nil]
   ·obtain ⟨m,rfl⟩:∃ m,k = m+1:=⟨k - 1,by omega⟩
    simp only [aD.l0];rw [if_neg (by omega),if_neg Bool.false_ne_true,qP _ _ ha,Option.bind_some,if_pos (by omega)];rfl
  | succ d ih =>
   intro i hi;obtain ⟨h1,h2⟩:=ih (i+1) (by omega);obtain ⟨e,he⟩:∃ e,S.getD i z26 = e:=⟨_,rfl⟩
   have hmem:e∈S:=by
    rw [← he];exact e5 S _ i (by omega)
   have hd:S.drop i = e :: S.drop (i+1):=by
    rw [List.drop_eq_getElem_cons (by omega:i < S.length),← he,List.getD_eq_getElem?_getD,List.getElem?_eq_getElem (by omega)];rfl
   have heq:=Find.qM e.f0 a.f0 e.f1 a.f1 (hl e hmem);rw [decide_eq_false (hne e hmem),Bool.and_false] at heq;rw [hd];have st:∀ (out:List KM) (b:Bool) (r:List KM),Ev (fun k=>aD.j1 k S out b (i:Int) a.f0 a.f1) r→Ev (fun k=>aD.l0 k S out b (i:Int) a.f0 a.f1) r:=fun out b r h=>by
    refine Ev.step (f:=fun k=>(aK.f k e.f0 e.f1 a.f0 a.f1).bind fun t=>(if t = true then (aD.j1 k S out true (i:Int) a.f0 a.f1) else (aD.j1 k S out b (i:Int) a.f0 a.f1))) (fun k=>?_) (Ev.bind heq (Ev.congr (fun k=>if_neg Bool.false_ne_true) h));simp only [aD.l0];rw [if_pos (by omega),if_pos (by omega),hz,he]
   refine ⟨fun out ho=>st _ _ _ ?_,fun out ho=>st _ _ _ ?_⟩
   ·have h3:=h1 (out ++ [e]) (by simp;omega)
    rw [List.append_assoc] at h3;refine Ev.step (fun k=>?_) h3;simp only [aD.j1];rw [if_pos trivial,if_pos (by omega),if_pos (by omega),if_pos (by omega),hz,he,cU.dQ i (by omega)]
   ·have hb:=hB e hmem
    unfold iN;by_cases hlt:dw a.f1 e.f1 < 0
    ·rw [if_pos hlt]
     have h3:=h1 ((out ++ [a]) ++ [e]) (by simp;omega);rw [List.append_assoc,List.append_assoc] at h3;refine Ev.step (f:=fun k=>(cQ.f k a.f0 a.f1 e.f0 e.f1).bind fun t=>(if t = true then (aD.l0 k S ((out ++ [a]) ++ [e]) true ((i+1:Nat):Int) a.f0 a.f1) else (aD.l0 k S (out ++ [e]) false ((i+1:Nat):Int) a.f0 a.f1))) (fun k=>?_) (Ev.bind hb (Ev.congr (fun k=>if_pos (decide_eq_true hlt)) (by simpa only [List.append_assoc,List.cons_append,List.nil_append] using h3)));simp only [aD.j1];rw [if_neg Bool.false_ne_true,if_pos (by omega),if_pos (by omega),hz,he,cU.dQ i (by omega),qP _ _ ha];simp only [Option.bind_some,if_pos (show out.length < 4398046511104 by omega),if_pos (show (out ++ [a]).length < 4398046511104 by simp;omega)]
    ·rw [if_neg hlt]
     have h3:=h2 (out ++ [e]) (by simp;omega);rw [List.append_assoc] at h3;refine Ev.step (f:=fun k=>(cQ.f k a.f0 a.f1 e.f0 e.f1).bind fun t=>(if t = true then (aD.l0 k S ((out ++ [a]) ++ [e]) true ((i+1:Nat):Int) a.f0 a.f1) else (aD.l0 k S (out ++ [e]) false ((i+1:Nat):Int) a.f0 a.f1))) (fun k=>?_) (Ev.bind hb (Ev.congr (fun k=>if_neg (by rw [decide_eq_false hlt];decide)) h3));simp only [aD.j1];rw [if_neg Bool.false_ne_true,if_pos (by omega),if_pos (by omega),hz,he,cU.dQ i (by omega),qP _ _ ha];simp only [Option.bind_some,if_pos (show out.length < 4398046511104 by omega),if_pos (show (out ++ [a]).length < 4398046511104 by simp;omega)]
 have h:=(key S.length 0 (by omega)).2 [] (by simp);rw [List.drop_zero,List.nil_append] at h;unfold aD.f;exact h
end Canon
end
section
namespace Canon
open Go.RowKit Go.Proofs.YtmpbccmcaabpjaaGreat.Pr Go.Proofs.YtmpbccmcaabpjaaGreat.Sets pH jo Go.Proofs.YtmpbccmcaabpjaaGreat.Flat pI Go.Proofs.YtmpbccmcaabpjaaGreat.Sort tj nQ jG ga ag.aX ag.bQ ag.bR
set_option linter.unusedVariables false
theorem pG {m:Nat} (hm:m≤8) {r:Int} {x:Nat} (hM:eY (m:Int) (Count.cZ (Count.cD m r) x) = true):0 < (Count.cZ (Count.cD m r) x).length∧∃ s:Nat,(Count.cZ (Count.cD m r) x).getD 0 0 = (s:Int)∧s < 256∧(cnt s:Int) = r:=by
 have hp:2 ^ m≤2 ^ 8:=Nat.pow_le_pow_right (by decide) hm;have j:0 < (Count.cZ (Count.cD m r) x).length:=by
  obtain ⟨m',y,_,_,e,_,j,_⟩:=jj hM;rw [e,az];exact j
 obtain ⟨s,hs,he⟩:=rK (e5 (Count.cZ (Count.cD m r) x) 0 0 j);obtain ⟨h1,h2⟩:=pB hs;exact ⟨j,s,he,by omega,h2⟩
theorem qQ (m:Nat) (q:List Nat):(List.range' 1 (2 ^ q.length - 1)).foldl (fun (S:List KM) x=>if gF m q x = true then iN (nP m q x) S else S) [] = (j4 m q).foldl (fun S a=>iN a S) []:=by
 unfold j4;rw [List.foldl_map,Act.kI]
theorem ug (a b c:Int):bE.f a b c = some (decide (b≤a∧a≤c)):=by
 unfold bE.f;by_cases h:a≥b
 ·rw [if_pos h]
  congr 1
  rw [decide_eq_decide];omega
 ·rw [if_neg h,decide_eq_false (by omega)]
theorem rP (m:Nat) (hm:m≤5) (r:Int) (h0:0≤r) (h1:r≤m):Ev (fun k=>aG.f k (m:Int) r) (pF m r):=by
 have hq:(Count.cD m r).length≤32:=Nat.le_trans (Count.fW m r) (Nat.pow_le_pow_right (n:=2) (by decide) hm);have Y:=iI (kN m r);have a0:pF m r = (List.range' 1 (2 ^ (Count.cD m r).length - 1)).foldl (fun (S:List KM) x=>if gF m (Count.cD m r) x = true then iN (nP m (Count.cD m r) x) S else S) []:=by
  rw [qQ,pD (lE m Y) (th m _)];rfl
 unfold aG.f;simp only [Option.bind_some,ug,decide_eq_true (show (0:Int)≤m∧(m:Int)≤5 by omega),decide_eq_true (show 0≤r∧r≤(m:Int) by omega),if_true,Bool.not_true];refine Ev.step (f:=fun k=>(ei.f k (m:Int) r).bind fun t=>aG.l0 k (m:Int) [] t 1) (fun k=>?_) (Ev.bind (a:=ints (Count.cD m r)) ?_ ?_)
 ·simp only [aG.j0]
  rw [if_neg Bool.false_ne_true]
 ·unfold ei.f
  exact Ev.bind (Count.qL m (by omega) r h0 h1) (Ev.now _)
 ·rw [a0]
  have hfirst:=fun (x:Nat)=>pG (m:=m) (r:=r) (by omega) (x:=x)
  generalize Count.cD m r = q at *;have hp:=oE hq;have a9:=Nat.one_le_two_pow (n:=q.length);have hsh:shl .i64 1 (IntKind.u64.wrap ((ints q).length:Int)) = ((2 ^ q.length:Nat):Int):=by
   rw [az,k4 _ (by omega),fh _ (by omega)]
  have hu:(0:Int)≤IntKind.u64.wrap ((ints q).length:Int):=by
   rw [az,k4 _ (by omega)];omega
  refine cU.eN (fun k (S:List KM) i=>aG.l0 k (m:Int) S (ints q) i) (2 ^ q.length) (fun x S=>if gF m q x = true then iN (nP m q x) S else S) (fun i S=>S.length≤i∧∀ e∈S,∃ y,y < i∧gF m q y = true∧e = nP m q y) _ (fun x S hx hP=>⟨?_,fun h=>?_⟩) (2 ^ q.length - 1) 1 [] (by omega) ⟨by simp,fun e he=>absurd he List.not_mem_nil⟩ (fun hP=>?_)
  ·split
   ·next hk =>
    have hpm:=iJ (nP m q x) S;refine ⟨by rw [hpm.length_eq,List.length_cons];have:=hP.1;omega,fun e he=>?_⟩;rcases List.mem_cons.1 (hpm.mem_iff.1 he) with rfl | he
    ·exact ⟨x,by omega,hk,rfl⟩
    ·obtain ⟨y,hy,h2⟩:=hP.2 e he
     exact ⟨y,by omega,h2⟩
   ·refine ⟨by have:=hP.1;omega,fun e he=>?_⟩
    obtain ⟨y,hy,h2⟩:=hP.2 e he;exact ⟨y,by omega,h2⟩
  ·have hfl:=Count.eO q x
   have aa:=hP.1;refine Ev.step (f:=fun k=>(bf.f k (ints q) (x:Int)).bind fun z=>((cv.f k (m:Int) z).bind fun J=>(if J = true then ((bY.f k (m:Int) z).bind fun I=>((aK.f k I.1 I.2.1 (m:Int) z).bind fun M=>(if M = true then ((aD.f k S (m:Int) z).bind fun U=>(aG.l0 k (m:Int) U (ints q) ((x+1:Nat):Int))) else (aG.l0 k (m:Int) S (ints q) ((x+1:Nat):Int))))) else (aG.l0 k (m:Int) S (ints q) ((x+1:Nat):Int))))) (fun k=>?_) (Ev.bind (Count.rJ q x hq (by omega)) (Ev.bind (ou (m:Int) (Count.cZ q x) (by omega)) ?_))
   ·simp only [aG.l0]
    rw [if_pos hu,hsh,if_pos (by omega),cU.dQ x (by omega)]
   ·cases hM:eY (m:Int) (Count.cZ q x) with
    | false =>
     have hk:gF m q x = false:=by
      unfold gF;rw [hM,Bool.false_and]
     rw [hk,if_neg Bool.false_ne_true] at h;exact Ev.congr (fun k=>if_neg Bool.false_ne_true) h
    | true =>
     have hcan:=pq (m:Int) (Count.cZ q x) (by omega) (by omega);unfold jD at hcan;rw [if_pos hM,Int.toNat_natCast] at hcan;have X:(canon m ((Count.cZ q x).map Int.toNat)).length≤1048576:=by
      obtain ⟨m',lN,e1,hm',e2,a1,h0',hf⟩:=jj hM;have e3:m' = m:=by omega
      subst e3;rw [e2,fC,(gZ (by omega) a1 (jq.iH (by rw [← e2];exact hM)) h0').2];rw [e2,az] at hfl;omega
     have heq:=Find.qM (m:Int) (m:Int) (canon m ((Count.cZ q x).map Int.toNat)) (Count.cZ q x) X;rw [decide_eq_true rfl,Bool.true_and] at heq;have hkk:gF m q x = decide (canon m ((Count.cZ q x).map Int.toNat) = Count.cZ q x):=by
      unfold gF;rw [hM,Bool.true_and];rfl
     refine Ev.congr (fun k=>if_pos rfl) (Ev.bind hcan (Ev.bind heq ?_));rw [← hkk];by_cases hk:gF m q x = true
     ·rw [if_pos hk] at h
      obtain ⟨a2,s,a3,a4,ab⟩:=hfirst x hM;have hput:=rO (nP m q x) S (by omega) (show (Count.cZ q x).length≤1048576 by omega) (fun e he=>by
       obtain ⟨y,hy,_,rfl⟩:=hP.2 e he;intro hee;have:=oD Y (by omega) hx hee;omega) (fun e he=>by
       obtain ⟨y,hy,_,rfl⟩:=hP.2 e he;have:=Count.eO q y;show (Count.cZ q y).length≤1048576;omega) (fun e he=>by
       obtain ⟨y,hy,hky,rfl⟩:=hP.2 e he;have a5:eY (m:Int) (Count.cZ q y) = true:=by
        unfold gF at hky;rw [Bool.and_eq_true] at hky;exact hky.1
       obtain ⟨a6,t,a7,a8,al⟩:=hfirst y a5;have:=Count.eO q y;exact rN (m:Int) (m:Int) (Count.cZ q x) (Count.cZ q y) s t a2 a6 (by omega) (by omega) a3 a7 a4 a8 (by omega))
      exact Ev.congr (fun k=>if_pos hk) (Ev.bind hput h)
     ·rw [if_neg hk] at h
      exact Ev.congr (fun k=>if_neg hk) h
  ·refine cU.dr 1 fun k hk=>?_
   obtain ⟨j,rfl⟩:∃ j,k = j+1:=⟨k - 1,by omega⟩
   simp only [aG.l0];rw [if_pos hu,hsh,if_neg (by omega)]
def jE (n r:Int):List KM:=if 0≤n∧n≤5∧0≤r∧r≤n then pF n.toNat r else []
theorem n9 (n r:Int):Ev (fun k=>b9.f k n r) (jE n r):=by
 unfold jE;by_cases h:0≤n∧n≤5∧0≤r∧r≤n
 ·obtain ⟨m,rfl⟩:∃ m:Nat,n = m:=⟨n.toNat,by omega⟩
  rw [if_pos h,Int.toNat_natCast];exact rM m (by omega) r (by omega) (by omega)
 ·rw [if_neg h]
  unfold b9.f;simp only [s9,Option.bind_some,decide_eq_false h,Bool.false_eq_true,if_false];exact Ev.now _
theorem qR (n r:Int):Ev (fun k=>aG.f k n r) (jE n r):=by
 have hend:Ev (fun k=>aG.j0 k n r [] true) []:=cU.dr 1 fun k hk=>by
  obtain ⟨q,rfl⟩:∃ q,k = q+1:=⟨k - 1,by omega⟩
  simp only [aG.j0];rw [if_pos trivial]
 unfold jE;by_cases h:0≤n∧n≤5∧0≤r∧r≤n
 ·obtain ⟨m,rfl⟩:∃ m:Nat,n = m:=⟨n.toNat,by omega⟩
  rw [if_pos h,Int.toNat_natCast];exact rP m (by omega) r (by omega) (by omega)
 ·rw [if_neg h]
  unfold aG.f;simp only [ug,Option.bind_some];by_cases h1:(0:Int)≤n∧n≤5
  ·simp only [decide_eq_true h1,if_true,decide_eq_false (show ¬ (0≤r∧r≤n) by omega),Bool.not_false]
   exact hend
  ·simp only [decide_eq_false h1,Bool.false_eq_true,if_false]
   exact hend
end Canon
end
section
namespace Pure
open Go.RowKit Go.Proofs.YtmpbccmcaabpjaaGreat.Pr tS Go.Proofs.YtmpbccmcaabpjaaGreat.Sets pH jo Go.Proofs.YtmpbccmcaabpjaaGreat.Flat Go.Proofs.YtmpbccmcaabpjaaGreat.Canon ag.aX ag.bQ ag.bR
set_option linter.unusedVariables false
namespace uh
abbrev CM:=cV
def kP:List CM→Int→Int
 | [],a=>a
 | e :: L,a=>kP L (a+1+(e.f1.length:Int))
def gB:List CM→Int→List CM
 | [],_=>[]
 | e :: L,a=>⟨a,marks (a+1) e.f1.length⟩ :: gB L (a+1+(e.f1.length:Int))
theorem k8:∀ (L:List CM) (a:Int),a≤kP L a
 | [],a=>Int.le_refl a
 | e :: L,a=>by
  have:=k8 L (a+1+(e.f1.length:Int));show a≤kP L (a+1+(e.f1.length:Int));omega
theorem oF:∀ (L:List CM) (a:Int),(∀ e∈L,e.f1.length≤32)→kP L a≤a+33 * (L.length:Int)
 | [],a,_=>by show a≤_;simp
 | e :: L,a,h=>by
  have h1:=oF L (a+1+(e.f1.length:Int)) fun x hx=>h x (List.mem_cons_of_mem _ hx)
  have h2:=h e List.mem_cons_self;show kP L (a+1+(e.f1.length:Int))≤_;rw [List.length_cons];push_cast
  omega
theorem iU:∀ (L:List CM) (a:Int),(gB L a).length = L.length
 | [],_=>rfl
 | e :: L,a=>by
  show (gB L _).length+1 = _;rw [iU L,List.length_cons]
theorem qS (d r:List CM) (e:CM):av (d ++ e :: r) ((d.length:Nat):Int) = e:=by
 show (d ++ e :: r).getD d.length _ = e;rw [List.getD_eq_getElem?_getD,List.getElem?_append_right (Nat.le_refl _),Nat.sub_self];rfl
theorem sg:∀ (r d:List CM) (a:Int),(∀ e∈r,e.f1.length≤1048576)→(d ++ r).length≤4398046511104→0≤a→kP r a≤2 ^ 50→Ev (fun k=>bF.l0 k (d ++ r) a ((d.length:Nat):Int)) (kP r a,d ++ gB r a)
 | [],d,a,_,_,_,_=>by
  refine cU.dr 1 fun k hk=>?_
  obtain ⟨q,rfl⟩:∃ q,k = q+1:=⟨k - 1,by omega⟩
  rw [bF.l0,if_neg (by rw [List.append_nil];omega)];rfl
 | e :: r,d,a,hl,hlen,I,h1=>by
  have h2:=k8 r (a+1+(e.f1.length:Int));have h1':kP r (a+1+(e.f1.length:Int))≤2 ^ 50:=h1;have he:=hl e List.mem_cons_self;rw [List.length_append,List.length_cons] at hlen;have ih:=sg r (d ++ [⟨a,marks (a+1) e.f1.length⟩]) (a+1+(e.f1.length:Int)) (fun x hx=>hl x (List.mem_cons_of_mem _ hx)) (by simp only [List.length_append,List.length_cons,List.length_nil];omega) (by omega) h1';refine Ev.step (f:=fun k=>(bZ.f k e.f1 (a+1)).bind fun bt=>bF.l0 k ((d ++ e :: r).set d.length ⟨a,bt.2⟩) bt.1 ((d.length+1:Nat):Int)) (fun k=>?_) (Ev.bind (qn e.f1 (a+1) he (by omega) (by omega)) ?_)
  ·rw [bF.l0,if_pos (by rw [List.length_append,List.length_cons];omega),if_pos (by omega),qS,cU.qT (i:=a+1) (by omega) (by omega),cU.dQ d.length (by omega),Int.toNat_natCast]
  ·have j:(d ++ e :: r).set d.length ⟨a,marks (a+1) e.f1.length⟩ = (d ++ [⟨a,marks (a+1) e.f1.length⟩]) ++ r:=by
    rw [List.set_append_right _ _ (Nat.le_refl _),Nat.sub_self];simp
   have y:(d ++ [(⟨a,marks (a+1) e.f1.length⟩:CM)]).length = d.length+1:=by simp
   rw [y] at ih;dsimp only;rw [j];have z:(d ++ [(⟨a,marks (a+1) e.f1.length⟩:CM)]) ++ gB r (a+1+(e.f1.length:Int)) = d ++ gB (e :: r) a:=by
    rw [List.append_assoc];rfl
   rw [z] at ih;exact ih
theorem si:∀ (r d:List CM) (a:Int),(∀ e∈r,e.f1.length≤1048576)→(d ++ r).length≤4398046511104→0≤a→kP r a≤2 ^ 50→Ev (fun k=>bM.l0 k (d ++ gB r a) a ((d.length:Nat):Int)) (kP r a)
 | [],d,a,_,_,_,_=>by
  refine cU.dr 1 fun k hk=>?_
  obtain ⟨q,rfl⟩:∃ q,k = q+1:=⟨k - 1,by omega⟩
  rw [bM.l0,if_neg (by show ¬ _ < (((d ++ []).length:Nat):Int);rw [List.append_nil];omega)];rfl
 | e :: r,d,a,hl,hlen,z,h1=>by
  have h2:=k8 r (a+1+(e.f1.length:Int));have h1':kP r (a+1+(e.f1.length:Int))≤2 ^ 50:=h1;have he:=hl e List.mem_cons_self;rw [List.length_append,List.length_cons] at hlen;have ih:=si r (d ++ [⟨a,marks (a+1) e.f1.length⟩]) (a+1+(e.f1.length:Int)) (fun x hx=>hl x (List.mem_cons_of_mem _ hx)) (by simp only [List.length_append,List.length_cons,List.length_nil];omega) (by omega) h1';have j:(d ++ [(⟨a,marks (a+1) e.f1.length⟩:CM)]).length = d.length+1:=by simp
  have y:(d ++ [(⟨a,marks (a+1) e.f1.length⟩:CM)]) ++ gB r (a+1+(e.f1.length:Int)) = d ++ gB (e :: r) a:=by
   rw [List.append_assoc];rfl
  rw [j,y] at ih;refine Ev.step (f:=fun k=>(cq.f k (marks (a+1) e.f1.length) (a+1)).bind fun t=>(if t < 0 then (some (-1)) else (bM.l0 k (d ++ gB (e :: r) a) t ((d.length+1:Nat):Int)))) (fun k=>?_) (Ev.bind (qo (a+1) e.f1.length he (by omega) (by omega)) ?_)
  ·have hrd:av (d ++ gB (e :: r) a) ((d.length:Nat):Int) = ⟨a,marks (a+1) e.f1.length⟩:=qS d _ _
   rw [bM.l0,if_pos (by rw [List.length_append,iU,List.length_cons];omega),if_pos (by omega),hrd,if_pos rfl,cU.qT (i:=a+1) (by omega) (by omega),cU.dQ d.length (by omega)]
  ·exact Ev.congr (fun k=>if_neg (by omega)) ih
theorem um (L:List CM) (hl:∀ e∈L,e.f1.length≤1048576) (hlen:L.length≤4398046511104):Ev (fun k=>b6.f k L L) true:=by
 unfold b6.f;simp only [if_true];have key:∀ d i:Nat,i+d = L.length→Ev (fun k=>b6.l0 k L L (i:Int)) true:=by
  intro d;induction d with
  | zero =>
   intro i hi;refine cU.dr 1 fun k hk=>?_
   obtain ⟨q,rfl⟩:∃ q,k = q+1:=⟨k - 1,by omega⟩
   rw [b6.l0,if_neg (by omega)]
  | succ d ih =>
   intro i hi;have hm:=hl _ (e5 L z26 i (by omega));refine Ev.step (f:=fun k=>(dA.f k (L.getD i z26).f0 (L.getD i z26).f1 (L.getD i z26).f0 (L.getD i z26).f1).bind fun t=>(if t = true then (b6.l0 k L L ((i+1:Nat):Int)) else (some false))) (fun k=>?_) (Ev.bind (oW _ _ hm) (Ev.congr (fun k=>if_pos rfl) (ih (i+1) (by omega))));rw [b6.l0,if_pos (by omega),if_pos (by omega),if_pos (by omega),cU.dQ i (by omega)];rfl
 exact key L.length 0 (by omega)
theorem small (n r:Int):(∀ e∈jE n r,e.f1.length≤32)∧(jE n r).length≤4294967296:=by
 unfold jE;by_cases h:0≤n∧n≤5∧0≤r∧r≤n
 ·rw [if_pos h]
  have hq:(Count.cD n.toNat r).length≤32:=Nat.le_trans (Count.fW n.toNat r) (Nat.pow_le_pow_right (n:=2) (by decide) (by omega:n.toNat≤5));unfold pF ga.fF;refine ⟨fun e he=>?_,?_⟩
  ·have he:=(List.mergeSort_perm _ _).mem_iff.1 he
   unfold j4 at he;obtain ⟨x,_,rfl⟩:=List.mem_map.1 he;have:=Count.eO (Count.cD n.toNat r) x;show (Count.cZ (Count.cD n.toNat r) x).length≤32;omega
  ·rw [List.length_mergeSort]
   unfold j4;have h1:=oE hq;have h2:=List.length_filter_le (gF n.toNat (Count.cD n.toNat r)) (List.range' 1 (2 ^ (Count.cD n.toNat r).length - 1));rw [List.length_range'] at h2;rw [List.length_map];omega
 ·rw [if_neg h]
  exact ⟨fun e he=>absurd he List.not_mem_nil,by simp⟩
end uh
open uh in
theorem jF (n r:Int) (_:(Lit.int .i64 n).wf = true) (_:(Lit.int .i64 r).wf = true):∃ k,dj.f k n r = some true:=by
 obtain ⟨s1,s2⟩:=small n r;have hl:∀ e∈jE n r,e.f1.length≤1048576:=fun e he=>Nat.le_trans (s1 e he) (by decide)
 have hb:=oF (jE n r) 1 s1;have j:=k8 (jE n r) 1;have hm:=sg (jE n r) [] 1 hl (by rw [List.nil_append];omega) (by decide) (by omega);have hh:=si (jE n r) [] 1 hl (by rw [List.nil_append];omega) (by decide) (by omega);have he:=um (jE n r) hl (by omega);refine Ev.rounds ?_;unfold dj.f;exact Ev.bind (qR n r) (Ev.bind (n9 n r) (Ev.bind he (Ev.congr (fun k=>if_pos rfl) (Ev.bind hm (Ev.bind hh (Ev.congr (fun k=>if_neg (by omega)) (Ev.congr (fun k=>if_pos rfl) (Ev.bind (n9 n r) (Ev.bind he (Ev.congr (fun k=>if_pos rfl) (Ev.bind hh (Ev.congr (fun k=>if_neg (by omega)) (Ev.congr (fun k=>if_pos rfl) (Ev.now _))))))))))))))
end Pure
end
section
namespace Open
open Go.ChangeShapes Go.WideShapes Go.RowKit ag.aX Go.Deep
set_option linter.unusedVariables false
structure gG {α:Type} (P:Program) (d:Kd α) (t:TypeId) (Wf:α→Prop):Prop where
 go:∀ (H:Type) (enc:TypeId×Value→H) (w:World) (base:Nat) (spare:Nat→Bool) (held:Bool) (fuel:Nat) (cs:List Value) (x:DataW H×List MemPlace),
  DataW.trod enc P w base spare held fuel t cs = some x→∃ a,d.K w a cs∧Wf a
theorem gG.int {P:Program} {t:TypeId} {k:IntKind} (ht:P.underlying t = some (.int k)):gG P (Kd.int k) t (fun n=>(Lit.int k n).wf = true):=by
 refine ⟨fun H enc w base spare held fuel cs x h=>?_⟩;obtain ⟨n,rfl,_,hw⟩:=DataW.trod_int ht h;exact ⟨n,rfl,hw⟩
theorem gG.bool {P:Program} {t:TypeId} (ht:P.underlying t = some .bool):gG P Kd.bool t (fun _=>True):=by
 refine ⟨fun H enc w base spare held fuel cs x h=>?_⟩;obtain ⟨n,rfl,_⟩:=DataW.trod_bool ht h;exact ⟨n,rfl,trivial⟩
theorem rQ {α:Type} {p:Nat→α→Prop}:∀ {len:Nat},(∀ i,i < len→∃ y,p i y)→∃ xs:List α,xs.length = len∧∀ i y,xs[i]? = some y→p i y:=by
 intro len;induction len with
 | zero=>exact fun _=>⟨[],rfl,fun i y h=>by simp at h⟩
 | succ len ih =>
  intro key;obtain ⟨xs,hxl,hxs⟩:=ih (fun i hi=>key i (by omega));obtain ⟨y,hy⟩:=key len (by omega);refine ⟨xs ++ [y],by simp [hxl],fun i z hz=>?_⟩;by_cases hi:i < xs.length
  ·rw [List.getElem?_append_left hi] at hz
   exact hxs i z hz
  ·have hlt:i < (xs ++ [y]).length:=(List.getElem?_eq_some_iff.1 hz).1
   have e:i = len:=by simp [hxl] at hlt hi;omega
   subst e;rw [List.getElem?_append_right (by omega),hxl] at hz;simp at hz;subst hz;exact hy
theorem gG.slice {α:Type} {P:Program} {t e:TypeId} {d:Kd α} {Wf:α→Prop} (ht:P.underlying t = some (.slice e)) (hs:P.cellsOf e = d.sz) (h:gG P d e Wf) :
  gG P (Kd.slice e d) t (fun xs=>xs.length≤maxLen∧∀ x∈xs,Wf x):=by
 refine ⟨fun H enc w base spare held fuel cs x hx=>?_⟩;rcases open_slice ht hx with ⟨rfl,_⟩ | ⟨a,len,cap,m,n,D,Pl,rfl,hb,hl,hm,hmm,_,hel⟩
 ·exact ⟨[],⟨none,0,rfl,Nat.le_refl _,rfl,by simp,fun h=>absurd h (by simp)⟩,by simp,by simp⟩
 ·have hlm:len≤m:=by rw [hmm];split <;> omega
  have key:∀ i,i < len→∃ y:α,(∃ cs',w.cells? base (a.add (i * P.cellsOf e)) (P.cellsOf e) = some cs'∧d.K w y cs')∧Wf y:=fun i hi=>by
   obtain ⟨cs',h1,h2⟩:=hel i (by omega);obtain ⟨y,h3,h4⟩:=h.go _ enc w base spare held n cs' _ h2;exact ⟨y,⟨cs',h1,h3⟩,h4⟩
  obtain ⟨xs,hxl,hxs⟩:=rQ key;refine ⟨xs,⟨some a,cap,by rw [hxl],by omega,rfl,by have:=hm;unfold maxLen at this;omega,fun _=>⟨a,rfl,fun j p hj=>?_⟩⟩,by omega,fun y hy=>?_⟩
  ·obtain ⟨⟨cs',h1,h2⟩,_⟩:=hxs j p hj
   obtain ⟨_,h3,h4⟩:=World.cells?_some h1;refine ⟨cs',by rw [h3,hs],h2,fun i u hu=>?_⟩;have hlt:i < cs'.length:=(List.getElem?_eq_some_iff.1 hu).1;have:=h4 i (by omega);rw [hs,Go.Deep.add_add] at this;rw [this,hu]
  ·obtain ⟨i,hi⟩:=List.getElem?_of_mem hy
   exact (hxs i y hi).2
structure iK {α:Type} (P:Program) (fs:List Field) (off:Nat) (d:Kd α) (Wf:α→Prop):Prop where
 go:∀ (H:Type) (enc:TypeId×Value→H) (w:World) (base:Nat) (spare:Nat→Bool) (held:Bool) (n:Nat) (cs:List Value),
  cs.length = off+d.sz→(∀ f∈fs,∃ x,DataW.trod enc P w base spare held n f.type ((cs.drop f.offset).take (P.cellsOf f.type)) = some x)→∃ a,d.K w a (cs.drop off)∧Wf a
theorem iK.one {α:Type} {P:Program} {f:Field} {off:Nat} {d:Kd α} {Wf:α→Prop} (ho:f.offset = off) (hs:P.cellsOf f.type = d.sz) (h:gG P d f.type Wf):iK P [f] off d Wf:=by
 refine ⟨fun H enc w base spare held n cs hl hf=>?_⟩;obtain ⟨x,hx⟩:=hf f (by simp);rw [ho,hs,List.take_of_length_le (by rw [List.length_drop];omega)] at hx;exact h.go _ enc w base spare held n _ x hx
theorem iK.cons {α β:Type} {P:Program} {f:Field} {fs:List Field} {off:Nat} {d:Kd α} {d':Kd β} {Wf:α→Prop} {j:β→Prop} (ho:f.offset = off) (hs:P.cellsOf f.type = d.sz) (h:gG P d f.type Wf)
  (h':iK P fs (off+d.sz) d' j):iK P (f :: fs) off (Kd.pair d d') (fun x=>Wf x.1∧j x.2):=by
 refine ⟨fun H enc w base spare held n cs hl hf=>?_⟩;have hl':cs.length = off+(d.sz+d'.sz):=hl;obtain ⟨x,hx⟩:=hf f (by simp);rw [ho,hs] at hx;obtain ⟨a,ha,wa⟩:=h.go _ enc w base spare held n _ x hx;obtain ⟨b,hb,wb⟩:=h'.go _ enc w base spare held n cs (by omega) (fun g hg=>hf g (by simp [hg]));refine ⟨(a,b),⟨(cs.drop off).take d.sz,cs.drop (off+d.sz),?_,ha,hb⟩,wa,wb⟩;rw [← List.drop_drop,List.take_append_drop]
theorem gG.struct {α:Type} {P:Program} {t:TypeId} {fs:Array Field} {d:Kd α} {Wf:α→Prop} (ht:P.underlying t = some (.struct fs)) (hs:P.cellsOf t = d.sz) (h:iK P fs.toList 0 d Wf):gG P d t Wf:=by
 refine ⟨fun H enc w base spare held fuel cs x hx=>?_⟩;obtain ⟨xs,n,_,_,hl,hlen,hg⟩:=DataW.trod_struct ht hx;obtain ⟨a,ha,wa⟩:=h.go _ enc w base spare held n cs (by omega) (fun f hf=>by
  obtain ⟨i,hi⟩:=List.getElem?_of_mem hf;have h1:=hg i f (by simpa using hi);have hlt:i < fs.size:=by have:=(List.getElem?_eq_some_iff.1 hi).1;simpa using this
  exact ⟨_,h1.trans (List.getElem?_eq_getElem (by omega))⟩)
 exact ⟨a,by simpa using ha,wa⟩
theorem gG.tX {α β:Type} {P:Program} {t:TypeId} {d:Kd α} {Wf:α→Prop} (h:gG P d t Wf) (f:β→α) (g:α→β) (hfg:∀ a,f (g a) = a):gG P (Kd.tX d f) t (fun b=>Wf (f b)):=by
 refine ⟨fun H enc w base spare held fuel cs x hx=>?_⟩;obtain ⟨a,ha,wa⟩:=h.go _ enc w base spare held fuel cs x hx;exact ⟨g a,by show d.K w (f (g a)) cs;rw [hfg];exact ha,by show Wf (f (g a));rw [hfg];exact wa⟩
end Open
end
section
namespace gQ
open Go.ChangeShapes Go.WideShapes Go.ChangeAt Go.RowKit Go.Proofs.YtmpbccmcaabpjaaGreat.Open ag.aX
open Go.ChangeMaps (open_string shut_string)
set_option linter.unusedVariables false
theorem own:ownKnob Tryz.prog.godebug = none:=by kernel_rfl
set_option maxRecDepth 100000 in
theorem lifted (os:Os) (started:os.Started) (H:Type) (enc:TypeId×Value→H) :
  ReturnsInHanded {} Tryz.checked os 5 .any (Rows.fnExactCatalogueSpec.pre6 enc Tryz.prog Tryz.f5 Rows.fnExactCatalogueRow.domain false) (Rows.fnExactCatalogueSpec.post enc Tryz.prog Tryz.f5 false true false false):=by
 refine returnsInHanded_of_change_sized (C:=Tryz.checked) own started (by kernel_rfl) Tryz.func5
  (ChangeSpec.witness6 (enc:=enc) (C:=Tryz.checked) false ⟨#[],#[.int .i64 0,.int .i64 0],[]⟩ 8 (by kernel_rfl) (by kernel_rfl) (by kernel_rfl) (by kernel_rfl)) ?_
 intro W base args ds gs before y hW hcnd z _;have hval:∀ (j:Nat) t v,Tryz.f5.params[j]? = some t→args[j]? = some v→Value.okWide Tryz.prog W .any base t v:=y;have hW':=hW;obtain ⟨p,q,I,hV,rfl,hfz,hnd⟩:=hW;have hA:DataW.TrodAll enc Tryz.prog W 0 (fun _=>true) true Tryz.f5.params.toList args.toList ds p:=I;rw [Tryz.params5] at hA hval;obtain ⟨v0,M,d0,U,p0,q0,hargs,rfl,rfl,X,Y⟩:=trodAll_cons hA;obtain ⟨v1,a2,d1,a3,p1,q1,rfl,rfl,rfl,h1,r1⟩:=trodAll_cons Y;obtain ⟨rfl,rfl,rfl⟩:=trodAll_nil r1;obtain rfl:args = #[v0,v1]:=by cases args;simp_all
 obtain ⟨rfl,rfl⟩:=trodVars_none hV;obtain ⟨a0,rfl,rfl,rfl,w0⟩:=open_int Tryz.underlying3 (hval 0 3 v0 rfl rfl) X;obtain ⟨J,rfl,rfl,rfl,w1⟩:=open_int Tryz.underlying3 (hval 1 3 v1 rfl rfl) h1;clear I y z;obtain ⟨k,hk⟩:=Pure.jF a0 J w0 w1;refine (Pr.dj.calls k a0 J true W  ⟨rfl⟩ hk).mono fun e W' ⟨he,bel⟩=>?_
 subst he;exact ⟨_,rfl,_,_,_,[],_,[],hW',trodAll_mk1 (shut_bool Tryz.underlying4 _),(trodAll_cons_mk (shut_int Tryz.underlying3 w0) (trodAll_cons_mk (shut_int Tryz.underlying3 w1) trodAll_mk0)),rfl,bel.frame _,fun h=>by cases h⟩
theorem uc:Rows.fnExactCatalogueRow.holds Tryz.pinned (OpenSpec.ofChange Rows.fnExactCatalogueSpec) :=
 OpenClaim.holds_of_wide 5 Tryz.f5 rfl rfl rfl rfl rfl rfl rfl ⟨rfl,rfl,rfl,rfl,rfl⟩ rfl rfl rfl rfl rfl (by kernel_rfl) Tryz.func5 (by kernel_rfl)
  (of_decide_eq_true (by kernel_rfl)) (by unfold Func.isWrapper;first | (rw [if_pos (by decide +kernel)];kernel_rfl) | (rw [if_neg (by decide +kernel)];exact ⟨rfl,rfl⟩))
  (fun os started H enc _=>lifted os started H enc)
theorem proved:Rows.FnExactCatalogueSaid:=uc
#print axioms proved
end gQ
theorem fnExactCatalogue_holds:Rows.FnExactCatalogueSaid:=gQ.proved
end
end Go.Proofs.YtmpbccmcaabpjaaGreat
