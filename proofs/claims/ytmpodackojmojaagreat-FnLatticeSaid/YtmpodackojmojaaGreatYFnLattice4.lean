/- The claim FnLattice: every text that its row comes to, laid together by slim.py (the words of the kit's print, the printed walks, the pure law, the row). -/
import Derived.Test.YtmpodackojmojaaGreatYFnLattice3
section
namespace Go.Proofs.YtmpodackojmojaaGreat.Pr
open Go.RowKit Go.Proofs.ag.aX Go.Proofs.ag.bU Go.Proofs.ag.bQ
attribute [local go_sem] je jf jW jX iF iG jg jh
set_option linter.unusedVariables false
set_option linter.unusedSimpArgs false
def di.f (k:Nat) (l0:List Int):Option (Int×List Int×Int×Int):=(dj.f k l0).bind fun j=>((cY.f k j.1 j.2.1 j.2.2 6).bind fun y=>((cL.f k y.1 y.2.1).bind fun z=>((aH.f j.1 y.2.2.1 y.2.2.2 (z.length:Int)).bind fun X=>(if 0≤X.1 then (if X.1 < (z.length:Int) then ((e9.f j.1 X.2.1 X.2.2 10).bind fun Y=>(if Y.1 = true then ((eF.f j.1 Y.2.1 Y.2.2).bind fun a0=>((aH.f j.1 a0.2.1 a0.2.2 (z.length:Int)).bind fun a1=>(if 0≤a1.1 then (if a1.1 < (z.length:Int) then (some (y.1,y.2.1,a0.1,rd z a1.1)) else (none)) else (none)))) else ((aH.f j.1 Y.2.1 Y.2.2 (z.length:Int)).bind fun a2=>(if 0≤a2.1 then (if a2.1 < (z.length:Int) then (some (y.1,y.2.1,rd z X.1,rd z a2.1)) else (none)) else (none))))) else (none)) else (none)))))
def di.T7:Bool×List (List Nat×List Nat):=(true,[([],[]),([],[]),([],[]),([],[]),([],[]),([4],[4]),([3,5],[3,5]),([2,6],[2,6]),([7],[7]),([0,6,0],[0]),([1,9,0,1,9],[1]),([8,10,0,1,2,3,4,5,6,7,8,9,10],[8])])
def di.B7:List Nat:=[0,0,0,0,0,16,56,124,252,121,635,2047]
theorem di.vS:gm .any (opsOf Tryz.f105 7) = di.T7:=by kernel_rfl
theorem di.ud:eT di.T7.2 di.B7 = true:=by kernel_rfl
set_option maxHeartbeats 8000000 in
set_option maxRecDepth 100000 in
theorem di.calls (k:Nat) (A0:Option Addr) (c0:Nat) (l0:List Int) (r1:Int) (r2:List Int) (r3:Int) (r4:Int) (w:World) (du:Kd.C (Kd.int .u8) w A0 l0.length l0) (dv:l0.length≤c0) (h:di.f k l0 = some (r1,r2,r3,r4)) :
  Calls Tryz.prog 105 #[.slice A0 l0.length c0] w fun e w'=>∃ dC:Value,e = .returned (.tuple #[.agg #[.int .i64 r1,dC],.int .i64 r3,.int .i64 r4])∧Kd.R (Kd.int .i64) 3 w' w.heap.size (fun _=>True) dC r2∧Below w.heap.size w w':=by
 have gs:=Tryz.underlying30
 have dE:=ae.mk du
 have dT:=ae.mk dv
 clear du dv
 have HB:=ae.mk (Below.refl w.heap.size w)
 unfold di.f at h
 have H:=h
 clear h
 obtain ⟨⟨a4,c1,ca⟩,A2,H⟩:=af.be H
 (try dsimp only at H)
 obtain ⟨⟨a6,a5,am,ao⟩,A3,H⟩:=af.be H
 (try dsimp only at H)
 obtain ⟨a9,A4,H⟩:=af.be H
 (try dsimp only at H)
 obtain ⟨⟨aR,b0,b2⟩,A5,H⟩:=af.be H
 (try dsimp only at H)
 obtain ⟨c6,H⟩:=af.ip H
 have gt:=decide_eq_true c6
 clear c6
 obtain ⟨c7,H⟩:=af.ip H
 have h0:=decide_eq_true c7
 clear c7
 obtain ⟨⟨e0,aL,aO⟩,A8,H⟩:=af.be H
 (try dsimp only at H)
 by_cases c9:e0 = true
 ·subst c9
  replace H:((eF.f a4 aL aO).bind fun bm=>((aH.f a4 bm.2.1 bm.2.2 (a9.length:Int)).bind fun bo=>(if 0≤bo.1 then (if bo.1 < (a9.length:Int) then (some (a6,a5,bm.1,rd a9 bo.1)) else (none)) else (none)))) = some (r1,r2,r3,r4):=by rw [if_pos rfl] at H;exact H
  obtain ⟨⟨e1,cb,cc⟩,f8,H⟩:=af.be H
  (try dsimp only at H)
  obtain ⟨⟨ce,e2,e3⟩,f9,H⟩:=af.be H
  (try dsimp only at H)
  obtain ⟨e4,H⟩:=af.ip H
  have fd:=decide_eq_true e4
  clear e4
  obtain ⟨e5,H⟩:=af.ip H
  have fi:=decide_eq_true e5
  clear e5
  simp only [Option.some.injEq,Prod.mk.injEq] at H
  obtain ⟨rfl,rfl,rfl,rfl⟩:=H
  go_enter Tryz.func105,Tryz.ntmps105
  try go_wp2_with (first | (refine af.bx 2 #[.int .i64 0,.slice none 0 0] 30 ?_;intro a0 hg hu hbox hb;have j:=ae.mk hbox;have df:=af.gw hg HB;have dk:=af.gw hg HB;replace HB:=af.lb HB hb;clear hb hbox hg) | (refine af.gl (some 10) Tryz.func74 #[.slice A0 l0.length c0] ?_;(with_reducible refine (dj.calls k _ _ l0 a4 c1 ca w _ ?side1 ?side2 ?side3 A2.out).mono ?_);(case side1=>exact af.J HB);(case side2=>exact dE.out);(case side3=>exact dT.out);rintro e hx ⟨a1,rfl,hi,hb,ar⟩;refine ⟨_,rfl,?_⟩;replace HB:=ae.mk hb;have a3:=ae.mk hi;have bs:=ae.mk (aj.ja hi (b7 (af.Bw j.out) ar) (by decide));have a7:=ae.mk (Ne.symm (aj.ja hi (b7 (af.Bw j.out) ar) (by decide)));replace j:=ae.mk (b7 (af.Bw j.out) ar);(try clear hb);(try clear ar);(try clear hk);(try clear hi)) | (refine af.gl (some 12) Tryz.func139 #[.pointer (some ⟨a1,0,none⟩),.int .i64 6] ?_;(with_reducible refine (cY.calls k a1 a4 c1 ca 6 a6 a5 am ao w _ ?side1 ?side2 A3.out).mono ?_);(case side1=>exact af.I);(case side2=>exact af.J HB);rintro e hz ⟨e6,rfl,aS,hi,hb,hk⟩;refine ⟨_,rfl,?_⟩;replace j:=ae.mk (an.blk hk (g':=a0) (o:=.cells #[.int .i64 0,.slice none 0 0] 30 (0,0)) (af.Bw j.out) a7.out (by simp));have z:=ae.mk (Kd.aV aS (av (af.J HB)));replace HB:=ae.mk hb;replace a3:=ae.mk hi;(try clear hb);(try clear ar);(try clear hk);(try clear hi);(try clear aS)) | (refine af.bx 6 #[.int .i64 0,.slice none 0 0] 30 ?_;intro Y hg fj hbox hb;have ci:=af.rb z hb;have cp:=af.bb j hb;have d0:=ae.mk (aj.below af.I hb);have d1:=ae.mk (ax (af.J HB) hb);have d2:=ae.mk hbox;have d3:=ae.mk ((by rw [hg];exact (av (af.J HB)):w.heap.size≤Y));have d4:=ae.mk ((by rw [hg];exact (av (af.J HB)):w.heap.size≤Y));have d5:=af.nl hg j;have d6:=af.ng hg j;have d7:=ae.mk ((by rw [hg];exact Nat.ne_of_lt (aj.lt (show aj w _ a1 a4 am ao from af.I)):a1≠Y));have ba:=ae.mk ((by rw [hg];exact Nat.ne_of_gt (aj.lt (show aj w _ a1 a4 am ao from af.I)):Y≠a1));clear z;clear j;clear a3;clear HB;have z:=ci;have j:=cp;have a3:=d0;have HB:=d1;have X:=d2;have dl:=d3;have dp:=d4;have aa:=d5;have a2:=d6;have aP:=d7;have a8:=ba;clear ci cp d0 d1 d2 d3 d4 d5 d6 d7 ba;clear hb hbox hg;have fp:=a2.out;have fs:=aa.out;have ft:=a8.out;have fw:=aP.out;obtain ⟨e7,e8,ea,eb⟩:=af.bw X.out;obtain ⟨aw,ap,ec⟩:=Kd.aK z.out;subst ec) | (refine af.gl (some 14) Tryz.func43 #[.agg #[.int .i64 a6,.slice aw a5.length ap]] ?_;(with_reducible refine (cL.calls k a6 _ _ a5 a9 _ ?side1 ?side2 A4.out).mono ?_);(case side1=>refine (Kd.ah (e:=3) (base:=w.heap.size) (ok:=fun k_=>True) (n:=a5.length) (c:=ap) ?_).2.2;exact (af.Rw ((Kd.aC (Kd.bD (p:=⟨Y,1,none⟩) (Kd.bD (p:=⟨Y,0,none⟩) (Kd.bS z.out X.out (by decide)) (fun _ hk=>hk.2) (.int .i64 a6)) (fun _ hk=>hk.2) (.slice aw a5.length ap)) (fun _ h_=>h_.1)))));(case side2=>exact (Kd.ah z.out).2.1);rintro e hA ⟨ed,rfl,aS,hb⟩;refine ⟨_,rfl,?_⟩;have y:=ae.mk (Kd.aV (Kd.br aS (Kd.cK (af.Rw ((Kd.aC (Kd.bD (p:=⟨Y,1,none⟩) (Kd.bD (p:=⟨Y,0,none⟩) (Kd.bS z.out X.out (by decide)) (fun _ hk=>hk.2) (.int .i64 a6)) (fun _ hk=>hk.2) (.slice aw a5.length ap)) (fun _ h_=>h_.1)))))) (av (af.J HB)));replace z:=ae.mk (Kd.aQ (af.Rw ((Kd.aC (Kd.bD (p:=⟨Y,1,none⟩) (Kd.bD (p:=⟨Y,0,none⟩) (Kd.bS z.out X.out (by decide)) (fun _ hk=>hk.2) (.int .i64 a6)) (fun _ hk=>hk.2) (.slice aw a5.length ap)) (fun _ h_=>h_.1)))) (Kd.bn aS) hb);replace j:=ae.mk (b7 (g:=a0) (o:=.cells #[.int .i64 0,.slice none 0 0] 30 (0,0)) af.B hb);replace X:=ae.mk (b7 (g:=Y) (o:=.cells #[.int .i64 a6,.slice aw a5.length ap] 30 (0,0)) af.B hb);replace HB:=ae.mk (ax (af.J HB) hb);replace a3:=ae.mk (aj.below (show aj w ((fj.setCell ⟨Y,0,none⟩ (.int .i64 a6)).setCell ⟨Y,1,none⟩ (.slice aw a5.length ap)) a1 a4 am ao from af.I) hb);(try clear hb);(try clear ar);(try clear hk);(try clear hi);(try clear aS);obtain ⟨h6,h7,ee⟩:=Kd.aK y.out;subst ee) | (refine af.gl (some 19) Tryz.func80 #[.pointer (some ⟨a1,0,none⟩),.int .i64 (a9.length:Int)] ?_;(with_reducible refine (aH.calls a1 a4 am ao (a9.length:Int) aR b0 b2 w _ ?side1 ?side2 A5.out).mono ?_);(case side1=>exact af.I);(case side2=>exact af.J HB);rintro e hC ⟨rfl,hi,hb,hk⟩;refine ⟨_,rfl,?_⟩;replace j:=ae.mk (an.blk hk (g':=a0) (o:=.cells #[.int .i64 0,.slice none 0 0] 30 (0,0)) (af.Bw j.out) a7.out (by simp));replace z:=ae.mk (Kd.aC (Kd.dA (aj.apart (show aj w _ a1 a4 am ao from af.I) (af.Rw z.out) (by decide)) hk (fun _ h=>h.2)) (fun _ h=>h.1));replace X:=ae.mk (an.blk hk (g':=Y) (o:=.cells #[.int .i64 a6,.slice aw a5.length ap] 30 (0,0)) (af.Bw X.out) a8.out (by simp));replace y:=ae.mk (Kd.aC (Kd.dA (aj.apart (show aj w _ a1 a4 am ao from af.I) (af.Rw y.out) (by decide)) hk (fun _ h=>h.2)) (fun _ h=>h.1));replace HB:=ae.mk hb;replace a3:=ae.mk hi;(try clear hb);(try clear ar);(try clear hk);(try clear hi);have b3:0≤(aR:Int):=af.D;have b4:aR < (a9.length:Int):=af.D;obtain ⟨b5,d8,d9⟩:=Kd.ey (Kd.ah y.out).2.2 aR b3 b4;cases d8;replace b3:=eq_true b3;replace b4:=eq_true b4) | (refine af.gl (some 23) Tryz.func134 #[.pointer (some ⟨a1,0,none⟩),.int .i64 10] ?_;(with_reducible refine (e9.calls a1 a4 b0 b2 10 true aL aO w _ ?side1 ?side2 A8.out).mono ?_);(case side1=>exact af.I);(case side2=>exact af.J HB);rintro e hD ⟨rfl,hi,hb,hk⟩;refine ⟨_,rfl,?_⟩;replace j:=ae.mk (an.blk hk (g':=a0) (o:=.cells #[.int .i64 0,.slice none 0 0] 30 (0,0)) (af.Bw j.out) a7.out (by simp));replace z:=ae.mk (Kd.aC (Kd.dA (aj.apart (show aj w _ a1 a4 b0 b2 from af.I) (af.Rw z.out) (by decide)) hk (fun _ h=>h.2)) (fun _ h=>h.1));replace X:=ae.mk (an.blk hk (g':=Y) (o:=.cells #[.int .i64 a6,.slice aw a5.length ap] 30 (0,0)) (af.Bw X.out) a8.out (by simp));replace y:=ae.mk (Kd.aC (Kd.dA (aj.apart (show aj w _ a1 a4 b0 b2 from af.I) (af.Rw y.out) (by decide)) hk (fun _ h=>h.2)) (fun _ h=>h.1));replace HB:=ae.mk hb;replace a3:=ae.mk hi;(try clear hb);(try clear ar);(try clear hk);(try clear hi)) | (refine af.gl (some 25) Tryz.func90 #[.pointer (some ⟨a1,0,none⟩)] ?_;(with_reducible refine (eF.calls a1 a4 aL aO e1 cb cc w _ ?side1 ?side2 f8.out).mono ?_);(case side1=>exact af.I);(case side2=>exact af.J HB);rintro e g0 ⟨rfl,hi,hb,hk⟩;refine ⟨_,rfl,?_⟩;replace j:=ae.mk (an.blk hk (g':=a0) (o:=.cells #[.int .i64 0,.slice none 0 0] 30 (0,0)) (af.Bw j.out) a7.out (by simp));replace z:=ae.mk (Kd.aC (Kd.dA (aj.apart (show aj w _ a1 a4 aL aO from af.I) (af.Rw z.out) (by decide)) hk (fun _ h=>h.2)) (fun _ h=>h.1));replace X:=ae.mk (an.blk hk (g':=Y) (o:=.cells #[.int .i64 a6,.slice aw a5.length ap] 30 (0,0)) (af.Bw X.out) a8.out (by simp));replace y:=ae.mk (Kd.aC (Kd.dA (aj.apart (show aj w _ a1 a4 aL aO from af.I) (af.Rw y.out) (by decide)) hk (fun _ h=>h.2)) (fun _ h=>h.1));replace HB:=ae.mk hb;replace a3:=ae.mk hi;(try clear hb);(try clear ar);(try clear hk);(try clear hi)))
  replace z:=ae.mk (Kd.bl z.out)
  replace y:=ae.mk (Kd.bl y.out)
  replace j:=ae.mk (cO j.out)
  replace X:=ae.mk (cO X.out)
  replace a3:=ae.mk (aj.drew a3.out)
  replace HB:=ae.mk (cn HB.out)
  obtain ⟨dq,ef,bc,h8,h9⟩:=af.ai (Kd.ah y.out).2.2 ce
  obtain rfl:b5 = dq:=(by injection ef)
  refine eM (n:=12) (S:=fun w'=>w'.cell? ⟨Y,0,none⟩ = some (.int .i64 a6)∧w'.cell? ⟨Y,1,none⟩ = some (.slice aw a5.length ap)∧w'.cell? (b5.add (ce).toNat) = some (.int .i64 (rd a9 ce))) (ds:=[]) #[false,false,false,false,false,false,false,false,false,false,false,false] (by kernel_rfl) rfl rfl ⟨(ak X.out 0).trans rfl,(ak X.out 1).trans rfl,bc⟩ (fun hHeld=>?_);refine dc di.vS di.ud (fun ab db=>?_)
  generalize g0.drew = hE at z y j X a3 HB bc hHeld ⊢
  refine af.pu 1 27 ab ?_
  refine af.pu 2 28 ab ?_
  refine af.pu 3 29 ab ?_
  refine af.pu 4 30 ab ?_
  refine af.pu 5 31 ab ?_
  refine af.tk 0 26 ab db hHeld ?_
  refine fN (i:=6) (N:=some 32) #[true,true,true,true,true,true,true,false,false,false,false,false] rfl rfl (da ab.out (by kernel_rfl)) (by decide) (fun K hK=>?_)
  refine fC Tryz.func80 (by kernel_rfl) rfl #[.pointer (some ⟨a1,0,none⟩),.int .i64 (a9.length:Int)] (by rfl) rfl rfl (by (try simp only [List.map_toArray,List.map_cons,List.map_nil]);first | done | rfl) ?_
  with_reducible refine (aH.calls a1 a4 cb cc (a9.length:Int) ce e2 e3 w _ ?side1 ?side2 f9.out).mono ?_
  (case side1=>exact af.I)
  (case side2=>exact af.J HB)
  rintro e eh ⟨rfl,hi,hb,hk⟩
  have dd:=iE hk (hHeld.2.2) (by first | (rw [ep];exact Kd.eK (aj.fU a3.out y.out (by decide))) | (show (Addr.add _ _).block≠_;rw [ep];exact Kd.eK (aj.fU a3.out y.out (by decide))) | exact Kd.eK (aj.fU a3.out y.out (by decide)))
  refine ⟨_,rfl,?_⟩
  replace j:=ae.mk (an.blk hk (g':=a0) (o:=.cells #[.int .i64 0,.slice none 0 0] 30 (0,0)) (af.Bw j.out) a7.out (by simp))
  replace z:=ae.mk (Kd.aC (Kd.dA (aj.apart (show aj w _ a1 a4 cb cc from af.I) (af.Rw z.out) (by decide)) hk (fun _ h=>h.2)) (fun _ h=>h.1))
  replace X:=ae.mk (an.blk hk (g':=Y) (o:=.cells #[.int .i64 a6,.slice aw a5.length ap] 30 (0,0)) (af.Bw X.out) a8.out (by simp))
  replace y:=ae.mk (Kd.aC (Kd.dA (aj.apart (show aj w _ a1 a4 cb cc from af.I) (af.Rw y.out) (by decide)) hk (fun _ h=>h.2)) (fun _ h=>h.1))
  replace HB:=ae.mk hb
  replace a3:=ae.mk hi
  (try clear hb)
  (try clear ar)
  (try clear hk)
  (try clear hi)
  refine hK.out _ _ ⟨(ak X.out 0).trans rfl,(ak X.out 1).trans rfl,dd⟩ (fun hHeld=>?_)
  clear hK K
  refine er (a':=?_) ?_ ?_
  rotate_left
  ·show Act.put _ (some 32) _ = _
   simp only [Act.put,List.setIfInBounds_toArray,List.set_cons_zero,List.set_cons_succ,aM,b8]
   rfl
  refine af.pu 7 33 ab ?_
  refine af.tk 8 34 ab db hHeld ?_
  refine fN (i:=9) (N:=none) #[true,true,true,true,true,true,true,true,true,true,false,false] rfl rfl (da ab.out (by kernel_rfl)) (by decide) (fun K hK=>?_)
  have hj:eh.cell? ⟨a0,0,none⟩ = some (.int .i64 0):=(ak j.out 0).trans rfl
  have g1:=au j.out 0
  have ei:=a2.out
  have ej:=aa.out
  have hl:eh.cell? ⟨a0,1,none⟩ = some (.slice none 0 0):=(ak j.out 1).trans rfl
  have g2:=au j.out 1
  have el:=a2.out
  have em:=aa.out
  refine lK (w1:=?_) (by rfl) rfl ?_ ?_
  rotate_left
  ·go_simp
   rfl
  refine hK.out _ _ ⟨((cell_far (p:=⟨a0,_,none⟩) a2.out _).trans (((cell_far (p:=⟨a0,_,none⟩) a2.out _).trans (hHeld.1)))),((cell_far (p:=⟨a0,_,none⟩) a2.out _).trans (((cell_far (p:=⟨a0,_,none⟩) a2.out _).trans (hHeld.2.1)))),((cell_far (p:=⟨a0,_,none⟩) (by first | exact Kd.eK (Kd.fS y.out j.out (by decide)) | (rw [ep];exact Kd.eK (Kd.fS y.out j.out (by decide))) | (show (Addr.add _ _).block≠_;rw [ep];exact Kd.eK (Kd.fS y.out j.out (by decide))) | (dsimp only;exact Kd.eK (Kd.fS y.out j.out (by decide)))) _).trans (((cell_far (p:=⟨a0,_,none⟩) (by first | exact Kd.eK (Kd.fS y.out j.out (by decide)) | (rw [ep];exact Kd.eK (Kd.fS y.out j.out (by decide))) | (show (Addr.add _ _).block≠_;rw [ep];exact Kd.eK (Kd.fS y.out j.out (by decide))) | (dsimp only;exact Kd.eK (Kd.fS y.out j.out (by decide)))) _).trans (hHeld.2.2))))⟩ (fun hHeld=>?_)
  clear hK K
  refine af.pu 10 3 ab ?_
  refine af.pu 11 4 ab ?_
  refine fO (dU ab.out (by kernel_rfl)) ?_
  try go_wp2
  refine bodyPost_ret (jG rfl _ _ a0 30 #[.int .i64 a6,.slice aw a5.length ap] (0,0) _ rfl af.B Tryz.underlying30 rfl (by kernel_rfl)) rfl ?_
  exact ⟨_,af.E,by (with_reducible repeat (first | apply Kd.cH | apply Kd.cI | apply Kd.bl));exact Kd.aC (Kd.bD (p:=⟨a0,1,none⟩) (Kd.bD (p:=⟨a0,0,none⟩) (Kd.bS z.out j.out (by decide)) (fun _ hk=>hk.2) (.int .i64 a6)) (fun _ hk=>hk.2) (.slice aw a5.length ap)) (fun _ hk=>trivial),af.J HB⟩
 ·replace c9:=Bool.eq_false_iff.mpr c9
  subst c9
  replace H:((aH.f a4 aL aO (a9.length:Int)).bind fun bv=>(if 0≤bv.1 then (if bv.1 < (a9.length:Int) then (some (a6,a5,rd a9 aR,rd a9 bv.1)) else (none)) else (none))) = some (r1,r2,r3,r4):=by rw [if_neg (show ¬ (false = true) by decide)] at H;exact H
  obtain ⟨⟨cf,eo,eq⟩,g3,H⟩:=af.be H
  (try dsimp only at H)
  obtain ⟨es,H⟩:=af.ip H
  have g4:=decide_eq_true es
  clear es
  obtain ⟨et,H⟩:=af.ip H
  have g5:=decide_eq_true et
  clear et
  simp only [Option.some.injEq,Prod.mk.injEq] at H
  obtain ⟨rfl,rfl,rfl,rfl⟩:=H
  go_enter Tryz.func105,Tryz.ntmps105
  try go_wp2_with (first | (refine af.bx 2 #[.int .i64 0,.slice none 0 0] 30 ?_;intro a0 hg hG hbox hb;have j:=ae.mk hbox;have df:=af.gw hg HB;have dk:=af.gw hg HB;replace HB:=af.lb HB hb;clear hb hbox hg) | (refine af.gl (some 10) Tryz.func74 #[.slice A0 l0.length c0] ?_;(with_reducible refine (dj.calls k _ _ l0 a4 c1 ca w _ ?side1 ?side2 ?side3 A2.out).mono ?_);(case side1=>exact af.J HB);(case side2=>exact dE.out);(case side3=>exact dT.out);rintro e hH ⟨a1,rfl,hi,hb,ar⟩;refine ⟨_,rfl,?_⟩;replace HB:=ae.mk hb;have a3:=ae.mk hi;have bs:=ae.mk (aj.ja hi (b7 (af.Bw j.out) ar) (by decide));have a7:=ae.mk (Ne.symm (aj.ja hi (b7 (af.Bw j.out) ar) (by decide)));replace j:=ae.mk (b7 (af.Bw j.out) ar);(try clear hb);(try clear ar);(try clear hk);(try clear hi)) | (refine af.gl (some 12) Tryz.func139 #[.pointer (some ⟨a1,0,none⟩),.int .i64 6] ?_;(with_reducible refine (cY.calls k a1 a4 c1 ca 6 a6 a5 am ao w _ ?side1 ?side2 A3.out).mono ?_);(case side1=>exact af.I);(case side2=>exact af.J HB);rintro e hI ⟨e6,rfl,aS,hi,hb,hk⟩;refine ⟨_,rfl,?_⟩;replace j:=ae.mk (an.blk hk (g':=a0) (o:=.cells #[.int .i64 0,.slice none 0 0] 30 (0,0)) (af.Bw j.out) a7.out (by simp));have z:=ae.mk (Kd.aV aS (av (af.J HB)));replace HB:=ae.mk hb;replace a3:=ae.mk hi;(try clear hb);(try clear ar);(try clear hk);(try clear hi);(try clear aS)) | (refine af.bx 6 #[.int .i64 0,.slice none 0 0] 30 ?_;intro Y hg g6 hbox hb;have ci:=af.rb z hb;have cp:=af.bb j hb;have d0:=ae.mk (aj.below af.I hb);have d1:=ae.mk (ax (af.J HB) hb);have d2:=ae.mk hbox;have d3:=ae.mk ((by rw [hg];exact (av (af.J HB)):w.heap.size≤Y));have d4:=ae.mk ((by rw [hg];exact (av (af.J HB)):w.heap.size≤Y));have d5:=af.nl hg j;have d6:=af.ng hg j;have d7:=ae.mk ((by rw [hg];exact Nat.ne_of_lt (aj.lt (show aj w _ a1 a4 am ao from af.I)):a1≠Y));have ba:=ae.mk ((by rw [hg];exact Nat.ne_of_gt (aj.lt (show aj w _ a1 a4 am ao from af.I)):Y≠a1));clear z;clear j;clear a3;clear HB;have z:=ci;have j:=cp;have a3:=d0;have HB:=d1;have X:=d2;have dl:=d3;have dp:=d4;have aa:=d5;have a2:=d6;have aP:=d7;have a8:=ba;clear ci cp d0 d1 d2 d3 d4 d5 d6 d7 ba;clear hb hbox hg;have g7:=a2.out;have g8:=aa.out;have g9:=a8.out;have gb:=aP.out;obtain ⟨ev,ew,ex,eQ⟩:=af.bw X.out;obtain ⟨aF,aB,f0⟩:=Kd.aK z.out;subst f0) | (refine af.gl (some 14) Tryz.func43 #[.agg #[.int .i64 a6,.slice aF a5.length aB]] ?_;(with_reducible refine (cL.calls k a6 _ _ a5 a9 _ ?side1 ?side2 A4.out).mono ?_);(case side1=>refine (Kd.ah (e:=3) (base:=w.heap.size) (ok:=fun k_=>True) (n:=a5.length) (c:=aB) ?_).2.2;exact (af.Rw ((Kd.aC (Kd.bD (p:=⟨Y,1,none⟩) (Kd.bD (p:=⟨Y,0,none⟩) (Kd.bS z.out X.out (by decide)) (fun _ hk=>hk.2) (.int .i64 a6)) (fun _ hk=>hk.2) (.slice aF a5.length aB)) (fun _ h_=>h_.1)))));(case side2=>exact (Kd.ah z.out).2.1);rintro e hL ⟨ed,rfl,aS,hb⟩;refine ⟨_,rfl,?_⟩;have y:=ae.mk (Kd.aV (Kd.br aS (Kd.cK (af.Rw ((Kd.aC (Kd.bD (p:=⟨Y,1,none⟩) (Kd.bD (p:=⟨Y,0,none⟩) (Kd.bS z.out X.out (by decide)) (fun _ hk=>hk.2) (.int .i64 a6)) (fun _ hk=>hk.2) (.slice aF a5.length aB)) (fun _ h_=>h_.1)))))) (av (af.J HB)));replace z:=ae.mk (Kd.aQ (af.Rw ((Kd.aC (Kd.bD (p:=⟨Y,1,none⟩) (Kd.bD (p:=⟨Y,0,none⟩) (Kd.bS z.out X.out (by decide)) (fun _ hk=>hk.2) (.int .i64 a6)) (fun _ hk=>hk.2) (.slice aF a5.length aB)) (fun _ h_=>h_.1)))) (Kd.bn aS) hb);replace j:=ae.mk (b7 (g:=a0) (o:=.cells #[.int .i64 0,.slice none 0 0] 30 (0,0)) af.B hb);replace X:=ae.mk (b7 (g:=Y) (o:=.cells #[.int .i64 a6,.slice aF a5.length aB] 30 (0,0)) af.B hb);replace HB:=ae.mk (ax (af.J HB) hb);replace a3:=ae.mk (aj.below (show aj w ((g6.setCell ⟨Y,0,none⟩ (.int .i64 a6)).setCell ⟨Y,1,none⟩ (.slice aF a5.length aB)) a1 a4 am ao from af.I) hb);(try clear hb);(try clear ar);(try clear hk);(try clear hi);(try clear aS);obtain ⟨hm,hn,f1⟩:=Kd.aK y.out;subst f1) | (refine af.gl (some 19) Tryz.func80 #[.pointer (some ⟨a1,0,none⟩),.int .i64 (a9.length:Int)] ?_;(with_reducible refine (aH.calls a1 a4 am ao (a9.length:Int) aR b0 b2 w _ ?side1 ?side2 A5.out).mono ?_);(case side1=>exact af.I);(case side2=>exact af.J HB);rintro e hM ⟨rfl,hi,hb,hk⟩;refine ⟨_,rfl,?_⟩;replace j:=ae.mk (an.blk hk (g':=a0) (o:=.cells #[.int .i64 0,.slice none 0 0] 30 (0,0)) (af.Bw j.out) a7.out (by simp));replace z:=ae.mk (Kd.aC (Kd.dA (aj.apart (show aj w _ a1 a4 am ao from af.I) (af.Rw z.out) (by decide)) hk (fun _ h=>h.2)) (fun _ h=>h.1));replace X:=ae.mk (an.blk hk (g':=Y) (o:=.cells #[.int .i64 a6,.slice aF a5.length aB] 30 (0,0)) (af.Bw X.out) a8.out (by simp));replace y:=ae.mk (Kd.aC (Kd.dA (aj.apart (show aj w _ a1 a4 am ao from af.I) (af.Rw y.out) (by decide)) hk (fun _ h=>h.2)) (fun _ h=>h.1));replace HB:=ae.mk hb;replace a3:=ae.mk hi;(try clear hb);(try clear ar);(try clear hk);(try clear hi);have b3:0≤(aR:Int):=af.D;have b4:aR < (a9.length:Int):=af.D;obtain ⟨b5,d8,d9⟩:=Kd.ey (Kd.ah y.out).2.2 aR b3 b4;cases d8;replace b3:=eq_true b3;replace b4:=eq_true b4) | (refine af.gl (some 23) Tryz.func134 #[.pointer (some ⟨a1,0,none⟩),.int .i64 10] ?_;(with_reducible refine (e9.calls a1 a4 b0 b2 10 false aL aO w _ ?side1 ?side2 A8.out).mono ?_);(case side1=>exact af.I);(case side2=>exact af.J HB);rintro e gc ⟨rfl,hi,hb,hk⟩;refine ⟨_,rfl,?_⟩;replace j:=ae.mk (an.blk hk (g':=a0) (o:=.cells #[.int .i64 0,.slice none 0 0] 30 (0,0)) (af.Bw j.out) a7.out (by simp));replace z:=ae.mk (Kd.aC (Kd.dA (aj.apart (show aj w _ a1 a4 b0 b2 from af.I) (af.Rw z.out) (by decide)) hk (fun _ h=>h.2)) (fun _ h=>h.1));replace X:=ae.mk (an.blk hk (g':=Y) (o:=.cells #[.int .i64 a6,.slice aF a5.length aB] 30 (0,0)) (af.Bw X.out) a8.out (by simp));replace y:=ae.mk (Kd.aC (Kd.dA (aj.apart (show aj w _ a1 a4 b0 b2 from af.I) (af.Rw y.out) (by decide)) hk (fun _ h=>h.2)) (fun _ h=>h.1));replace HB:=ae.mk hb;replace a3:=ae.mk hi;(try clear hb);(try clear ar);(try clear hk);(try clear hi)))
  replace z:=ae.mk (Kd.bl z.out)
  replace y:=ae.mk (Kd.bl y.out)
  replace j:=ae.mk (cO j.out)
  replace X:=ae.mk (cO X.out)
  replace a3:=ae.mk (aj.drew a3.out)
  replace HB:=ae.mk (cn HB.out)
  obtain ⟨dt,f2,bi,ho,hq⟩:=af.ai (Kd.ah y.out).2.2 cf
  obtain rfl:b5 = dt:=(by injection f2)
  refine eM (n:=12) (S:=fun w'=>w'.cell? ⟨Y,0,none⟩ = some (.int .i64 a6)∧w'.cell? ⟨Y,1,none⟩ = some (.slice aF a5.length aB)∧w'.cell? (b5.add (cf).toNat) = some (.int .i64 (rd a9 cf))) (ds:=[]) #[false,false,false,false,false,false,false,false,false,false,false,false] (by kernel_rfl) rfl rfl ⟨(ak X.out 0).trans rfl,(ak X.out 1).trans rfl,bi⟩ (fun hHeld=>?_);refine dc di.vS di.ud (fun ab db=>?_)
  generalize gc.drew = hP at z y j X a3 HB bi hHeld ⊢
  refine af.pu 1 27 ab ?_
  refine af.pu 2 28 ab ?_
  refine af.pu 3 29 ab ?_
  refine af.pu 4 30 ab ?_
  refine af.pu 5 31 ab ?_
  refine af.tk 0 26 ab db hHeld ?_
  refine fN (i:=6) (N:=some 32) #[true,true,true,true,true,true,true,false,false,false,false,false] rfl rfl (da ab.out (by kernel_rfl)) (by decide) (fun K hK=>?_)
  refine fC Tryz.func80 (by kernel_rfl) rfl #[.pointer (some ⟨a1,0,none⟩),.int .i64 (a9.length:Int)] (by rfl) rfl rfl (by (try simp only [List.map_toArray,List.map_cons,List.map_nil]);first | done | rfl) ?_
  with_reducible refine (aH.calls a1 a4 aL aO (a9.length:Int) cf eo eq w _ ?side1 ?side2 g3.out).mono ?_
  (case side1=>exact af.I)
  (case side2=>exact af.J HB)
  rintro e f3 ⟨rfl,hi,hb,hk⟩
  have dd:=iE hk (hHeld.2.2) (by first | (rw [ep];exact Kd.eK (aj.fU a3.out y.out (by decide))) | (show (Addr.add _ _).block≠_;rw [ep];exact Kd.eK (aj.fU a3.out y.out (by decide))) | exact Kd.eK (aj.fU a3.out y.out (by decide)))
  refine ⟨_,rfl,?_⟩
  replace j:=ae.mk (an.blk hk (g':=a0) (o:=.cells #[.int .i64 0,.slice none 0 0] 30 (0,0)) (af.Bw j.out) a7.out (by simp))
  replace z:=ae.mk (Kd.aC (Kd.dA (aj.apart (show aj w _ a1 a4 aL aO from af.I) (af.Rw z.out) (by decide)) hk (fun _ h=>h.2)) (fun _ h=>h.1))
  replace X:=ae.mk (an.blk hk (g':=Y) (o:=.cells #[.int .i64 a6,.slice aF a5.length aB] 30 (0,0)) (af.Bw X.out) a8.out (by simp))
  replace y:=ae.mk (Kd.aC (Kd.dA (aj.apart (show aj w _ a1 a4 aL aO from af.I) (af.Rw y.out) (by decide)) hk (fun _ h=>h.2)) (fun _ h=>h.1))
  replace HB:=ae.mk hb
  replace a3:=ae.mk hi
  (try clear hb)
  (try clear ar)
  (try clear hk)
  (try clear hi)
  refine hK.out _ _ ⟨(ak X.out 0).trans rfl,(ak X.out 1).trans rfl,dd⟩ (fun hHeld=>?_)
  clear hK K
  refine er (a':=?_) ?_ ?_
  rotate_left
  ·show Act.put _ (some 32) _ = _
   simp only [Act.put,List.setIfInBounds_toArray,List.set_cons_zero,List.set_cons_succ,aM,b8]
   rfl
  refine af.pu 7 33 ab ?_
  refine af.tk 8 34 ab db hHeld ?_
  refine fN (i:=9) (N:=none) #[true,true,true,true,true,true,true,true,true,true,false,false] rfl rfl (da ab.out (by kernel_rfl)) (by decide) (fun K hK=>?_)
  have hr:f3.cell? ⟨a0,0,none⟩ = some (.int .i64 0):=(ak j.out 0).trans rfl
  have gk:=au j.out 0
  have f4:=a2.out
  have f5:=aa.out
  have ht:f3.cell? ⟨a0,1,none⟩ = some (.slice none 0 0):=(ak j.out 1).trans rfl
  have go:=au j.out 1
  have f6:=a2.out
  have f7:=aa.out
  refine lK (w1:=?_) (by rfl) rfl ?_ ?_
  rotate_left
  ·go_simp
   rfl
  refine hK.out _ _ ⟨((cell_far (p:=⟨a0,_,none⟩) a2.out _).trans (((cell_far (p:=⟨a0,_,none⟩) a2.out _).trans (hHeld.1)))),((cell_far (p:=⟨a0,_,none⟩) a2.out _).trans (((cell_far (p:=⟨a0,_,none⟩) a2.out _).trans (hHeld.2.1)))),((cell_far (p:=⟨a0,_,none⟩) (by first | exact Kd.eK (Kd.fS y.out j.out (by decide)) | (rw [ep];exact Kd.eK (Kd.fS y.out j.out (by decide))) | (show (Addr.add _ _).block≠_;rw [ep];exact Kd.eK (Kd.fS y.out j.out (by decide))) | (dsimp only;exact Kd.eK (Kd.fS y.out j.out (by decide)))) _).trans (((cell_far (p:=⟨a0,_,none⟩) (by first | exact Kd.eK (Kd.fS y.out j.out (by decide)) | (rw [ep];exact Kd.eK (Kd.fS y.out j.out (by decide))) | (show (Addr.add _ _).block≠_;rw [ep];exact Kd.eK (Kd.fS y.out j.out (by decide))) | (dsimp only;exact Kd.eK (Kd.fS y.out j.out (by decide)))) _).trans (hHeld.2.2))))⟩ (fun hHeld=>?_)
  clear hK K
  refine af.pu 10 3 ab ?_
  refine af.pu 11 4 ab ?_
  refine fO (dU ab.out (by kernel_rfl)) ?_
  try go_wp2
  refine bodyPost_ret (jG rfl _ _ a0 30 #[.int .i64 a6,.slice aF a5.length aB] (0,0) _ rfl af.B Tryz.underlying30 rfl (by kernel_rfl)) rfl ?_
  exact ⟨_,af.E,by (with_reducible repeat (first | apply Kd.cH | apply Kd.cI | apply Kd.bl));exact Kd.aC (Kd.bD (p:=⟨a0,1,none⟩) (Kd.bD (p:=⟨a0,0,none⟩) (Kd.bS z.out j.out (by decide)) (fun _ hk=>hk.2) (.int .i64 a6)) (fun _ hk=>hk.2) (.slice aF a5.length aB)) (fun _ hk=>trivial),af.J HB⟩
def ek.f (k:Nat) (l0:List Int):Option (Int×List Int×Int×Int):=(di.f k l0).bind fun j=>(some (j.1,j.2.1,j.2.2.1,j.2.2.2))
set_option maxHeartbeats 8000000 in
set_option maxRecDepth 100000 in
theorem ek.calls (k:Nat) (A0:Option Addr) (c0:Nat) (l0:List Int) (r1:Int) (r2:List Int) (r3:Int) (r4:Int) (w:World) (a6:Kd.C (Kd.int .u8) w A0 l0.length l0) (a7:l0.length≤c0) (h:ek.f k l0 = some (r1,r2,r3,r4)) :
  Calls Tryz.prog 33 #[.slice A0 l0.length c0] w fun e w'=>∃ a8:Value,e = .returned (.tuple #[.agg #[.int .i64 r1,a8],.int .i64 r3,.int .i64 r4])∧Kd.R (Kd.int .i64) 3 w' w.heap.size (fun _=>True) a8 r2∧Below w.heap.size w w':=by
 have b4:=Tryz.underlying30
 have aO:=ae.mk a6
 have aP:=ae.mk a7
 clear a6 a7
 have HB:=ae.mk (Below.refl w.heap.size w)
 unfold ek.f at h
 have H:=h
 clear h
 obtain ⟨⟨a0,a1,a9,aa⟩,A2,H⟩:=af.be H
 (try dsimp only at H)
 simp only [Option.some.injEq,Prod.mk.injEq] at H
 obtain ⟨rfl,rfl,rfl,rfl⟩:=H
 go_enter Tryz.func33,Tryz.ntmps33
 go_wp2_with (first | (refine af.bx 2 #[.int .i64 0,.slice none 0 0] 30 ?_;intro z hg w3 hbox hb;have j:=ae.mk hbox;have aR:=af.gw hg HB;have aS:=af.gw hg HB;replace HB:=af.lb HB hb;clear hb hbox hg) | (refine af.gl (some 10) Tryz.func105 #[.slice A0 l0.length c0] ?_;(with_reducible refine (di.calls k _ _ l0 a0 a1 a9 aa _ ?side1 ?side2 A2.out).mono ?_);(case side1=>exact af.Cw (Kd.aT aO.out HB.out));(case side2=>exact aP.out);rintro e w4 ⟨b5,rfl,ab,hb⟩;refine ⟨_,rfl,?_⟩;have y:=ae.mk (Kd.aV ab (av (af.Lw HB.out)));replace j:=af.bb j hb;replace HB:=af.lb HB hb;(try clear hb);(try clear bi);(try clear hk);(try clear hi);(try clear ab)) | (refine af.bx 5 #[.int .i64 0,.slice none 0 0] 30 ?_;intro a2 hg w5 hbox hb;replace y:=af.rb y hb;have a3:=ae.mk hbox;have b0:=af.gw hg HB;have b2:=af.gw hg HB;replace HB:=af.lb HB hb;have X:=af.nl hg j;have Y:=af.ng hg j;replace j:=af.bb j hb;clear hb hbox hg;have ba:=Y.out;have bc:=X.out;obtain ⟨am,ao,ap,ar⟩:=af.bw a3.out;obtain ⟨a4,a5,b3⟩:=Kd.aK y.out;subst b3;obtain ⟨aw,aB,aF,aL⟩:=af.bw j.out))
 refine bodyPost_ret (jG rfl _ _ z 30 #[.int .i64 a0,.slice a4 a1.length a5] (0,0) _ rfl af.B Tryz.underlying30 rfl (by kernel_rfl)) rfl ?_
 exact ⟨_,af.E,by (with_reducible repeat (first | apply Kd.cH | apply Kd.cI | apply Kd.bl));exact Kd.aC (Kd.bD (p:=⟨z,1,none⟩) (Kd.bD (p:=⟨z,0,none⟩) (Kd.bD (p:=⟨a2,1,none⟩) (Kd.bD (p:=⟨a2,0,none⟩) (Kd.bS (Kd.bS y.out a3.out (by decide)) j.out (by decide)) (fun _ hk=>hk.1.2) (.int .i64 a0)) (fun _ hk=>hk.1.2) (.slice a4 a1.length a5)) (fun _ hk=>hk.2) (.int .i64 a0)) (fun _ hk=>hk.2) (.slice a4 a1.length a5)) (fun _ hk=>trivial),af.L⟩
def eY.f (k:Nat) (j:Int) (y:List Int) (Y:Int) (a2:Int):Option (Int):=(cU.f k j y Y).bind fun z=>(if z = true then ((cU.f k j y a2).bind fun X=>(if X = true then (some (Go.bits .and .i64 Y a2)) else (some 0))) else (some 0))
set_option maxHeartbeats 8000000 in
set_option maxRecDepth 100000 in
theorem eY.calls (k:Nat) (z:Int) (X:Option Addr) (Y:Nat) (y:List Int) (a1:Int) (a2:Int) (r:Int) (w:World) (a4:Kd.C (Kd.int .i64) w X y.length y) (a5:y.length≤Y) (h:eY.f k z y a1 a2 = some r) :
  Calls Tryz.prog 34 #[.agg #[.int .i64 z,.slice X y.length Y],.int .i64 a1,.int .i64 a2] w fun e w'=>e = .returned (.int .i64 r)∧Below w.heap.size w w':=by
 have bm:=Tryz.underlying30
 have a0:=ae.mk a4
 have a3:=ae.mk a5
 clear a4 a5
 have HB:=ae.mk (Below.refl w.heap.size w)
 unfold eY.f at h
 have H:=h
 clear h
 obtain ⟨ab,A4,H⟩:=af.be H
 (try dsimp only at H)
 by_cases c5:ab = true
 ·subst c5
  replace H:((cU.f k z y a2).bind fun a6=>(if a6 = true then (some (Go.bits .and .i64 a1 a2)) else (some 0))) = some r:=by rw [if_pos rfl] at H;exact H
  obtain ⟨a6,A6,H⟩:=af.be H
  (try dsimp only at H)
  by_cases c7:a6 = true
  ·subst c7
   replace H:(some (Go.bits .and .i64 a1 a2)) = some r:=by rw [if_pos rfl] at H;exact H
   obtain rfl:=Option.some.inj H
   go_enter Tryz.func34,Tryz.ntmps34
   go_wp2_with (first | ((with_reducible refine bh (N:=3) rfl ?_);refine af.bx 3 #[.int .i64 z,.slice X y.length Y] 30 ?_;intro a7 hg w8 hbox hb;have j:=ae.mk hbox;have a8:=af.gw hg HB;have a9:=af.gw hg HB;replace HB:=af.lb HB hb;clear hb hbox hg;obtain ⟨b5,ba,bc,bi⟩:=af.bw j.out) | ((with_reducible refine aA (f:=98) rfl ?_);refine af.gl (some 9) Tryz.func98 #[.agg #[.int .i64 z,.slice X y.length Y],.int .i64 a1] ?_;(with_reducible refine (cU.calls k z _ _ y a1 true _ ?side1 ?side2 A4.out).mono ?_);(case side1=>exact af.Cw (Kd.aT a0.out HB.out));(case side2=>exact a3.out);rintro e bo ⟨rfl,hb⟩;refine ⟨_,rfl,?_⟩;replace j:=af.bb j hb;replace HB:=af.lb HB hb;(try clear hb);(try clear aa);(try clear hk);(try clear hi);obtain ⟨am,ao,ap,ar⟩:=af.bw j.out) | (go_at_call 98;(with_reducible refine (cU.calls k z _ _ y a2 true _ ?side1 ?side2 A6.out).mono ?_);(case side1=>exact af.Cw (Kd.aT a0.out HB.out));(case side2=>exact a3.out);rintro e bs ⟨rfl,hb⟩;replace j:=af.bb j hb;replace HB:=af.lb HB hb;(try clear hb);(try clear aa);(try clear hk);(try clear hi)))
   go_ret
   exact ⟨af.E,af.L⟩
  ·replace c7:=Bool.eq_false_iff.mpr c7
   subst c7
   replace H:(some 0) = some r:=by rw [if_neg (show ¬ (false = true) by decide)] at H;exact H
   obtain rfl:=Option.some.inj H
   go_enter Tryz.func34,Tryz.ntmps34
   go_wp2_with (first | ((with_reducible refine bh (N:=3) rfl ?_);refine af.bx 3 #[.int .i64 z,.slice X y.length Y] 30 ?_;intro a7 hg bv hbox hb;have j:=ae.mk hbox;have a8:=af.gw hg HB;have a9:=af.gw hg HB;replace HB:=af.lb HB hb;clear hb hbox hg;obtain ⟨aw,aB,aF,aL⟩:=af.bw j.out) | ((with_reducible refine aA (f:=98) rfl ?_);refine af.gl (some 9) Tryz.func98 #[.agg #[.int .i64 z,.slice X y.length Y],.int .i64 a1] ?_;(with_reducible refine (cU.calls k z _ _ y a1 true _ ?side1 ?side2 A4.out).mono ?_);(case side1=>exact af.Cw (Kd.aT a0.out HB.out));(case side2=>exact a3.out);rintro e c0 ⟨rfl,hb⟩;refine ⟨_,rfl,?_⟩;replace j:=af.bb j hb;replace HB:=af.lb HB hb;(try clear hb);(try clear aa);(try clear hk);(try clear hi);obtain ⟨aO,aP,aR,aS⟩:=af.bw j.out) | (go_at_call 98;(with_reducible refine (cU.calls k z _ _ y a2 false _ ?side1 ?side2 A6.out).mono ?_);(case side1=>exact af.Cw (Kd.aT a0.out HB.out));(case side2=>exact a3.out);rintro e c1 ⟨rfl,hb⟩;replace j:=af.bb j hb;replace HB:=af.lb HB hb;(try clear hb);(try clear aa);(try clear hk);(try clear hi)))
   go_ret
   exact ⟨af.E,af.L⟩
 ·replace c5:=Bool.eq_false_iff.mpr c5
  subst c5
  replace H:(some 0) = some r:=by rw [if_neg (show ¬ (false = true) by decide)] at H;exact H
  obtain rfl:=Option.some.inj H
  go_enter Tryz.func34,Tryz.ntmps34
  go_wp2_with (first | ((with_reducible refine bh (N:=3) rfl ?_);refine af.bx 3 #[.int .i64 z,.slice X y.length Y] 30 ?_;intro a7 hg ca hbox hb;have j:=ae.mk hbox;have a8:=af.gw hg HB;have a9:=af.gw hg HB;replace HB:=af.lb HB hb;clear hb hbox hg;obtain ⟨b0,b2,b3,b4⟩:=af.bw j.out) | ((with_reducible refine aA (f:=98) rfl ?_);refine af.gl (some 9) Tryz.func98 #[.agg #[.int .i64 z,.slice X y.length Y],.int .i64 a1] ?_;(with_reducible refine (cU.calls k z _ _ y a1 false _ ?side1 ?side2 A4.out).mono ?_);(case side1=>exact af.Cw (Kd.aT a0.out HB.out));(case side2=>exact a3.out);rintro e cb ⟨rfl,hb⟩;refine ⟨_,rfl,?_⟩;replace j:=af.bb j hb;replace HB:=af.lb HB hb;(try clear hb);(try clear aa);(try clear hk);(try clear hi)))
  go_ret
  exact ⟨af.E,af.L⟩
def eZ.f (k:Nat) (j:Int) (y:List Int) (a1:Int) (a2:Int):Option (Int):=(cU.f k j y a1).bind fun z=>(if z = true then ((cU.f k j y a2).bind fun X=>(if X = true then ((b6.f k j y (Go.bits .or .i64 a1 a2)).bind fun Y=>(some Y)) else (some 0))) else (some 0))
set_option maxHeartbeats 8000000 in
set_option maxRecDepth 100000 in
theorem eZ.calls (k:Nat) (z:Int) (X:Option Addr) (Y:Nat) (y:List Int) (a1:Int) (a2:Int) (r:Int) (w:World) (a5:Kd.C (Kd.int .i64) w X y.length y) (a6:y.length≤Y) (h:eZ.f k z y a1 a2 = some r) :
  Calls Tryz.prog 35 #[.agg #[.int .i64 z,.slice X y.length Y],.int .i64 a1,.int .i64 a2] w fun e w'=>e = .returned (.int .i64 r)∧Below w.heap.size w w':=by
 have c1:=Tryz.underlying30
 have a0:=ae.mk a5
 have a3:=ae.mk a6
 clear a5 a6
 have HB:=ae.mk (Below.refl w.heap.size w)
 unfold eZ.f at h
 have H:=h
 clear h
 obtain ⟨am,A4,H⟩:=af.be H
 (try dsimp only at H)
 by_cases c5:am = true
 ·subst c5
  replace H:((cU.f k z y a2).bind fun a7=>(if a7 = true then ((b6.f k z y (Go.bits .or .i64 a1 a2)).bind fun a4=>(some a4)) else (some 0))) = some r:=by rw [if_pos rfl] at H;exact H
  obtain ⟨a7,A6,H⟩:=af.be H
  (try dsimp only at H)
  by_cases c7:a7 = true
  ·subst c7
   replace H:((b6.f k z y (Go.bits .or .i64 a1 a2)).bind fun a4=>(some a4)) = some r:=by rw [if_pos rfl] at H;exact H
   obtain ⟨a4,A8,H⟩:=af.be H
   (try dsimp only at H)
   obtain rfl:=Option.some.inj H
   go_enter Tryz.func35,Tryz.ntmps35
   go_wp2_with (first | ((with_reducible refine bh (N:=3) rfl ?_);refine af.bx 3 #[.int .i64 z,.slice X y.length Y] 30 ?_;intro a8 hg w9 hbox hb;have j:=ae.mk hbox;have a9:=af.gw hg HB;have aa:=af.gw hg HB;replace HB:=af.lb HB hb;clear hb hbox hg;obtain ⟨ao,ap,ar,aw⟩:=af.bw j.out) | ((with_reducible refine aA (f:=98) rfl ?_);refine af.gl (some 9) Tryz.func98 #[.agg #[.int .i64 z,.slice X y.length Y],.int .i64 a1] ?_;(with_reducible refine (cU.calls k z _ _ y a1 true _ ?side1 ?side2 A4.out).mono ?_);(case side1=>exact af.Cw (Kd.aT a0.out HB.out));(case side2=>exact a3.out);rintro e ca ⟨rfl,hb⟩;refine ⟨_,rfl,?_⟩;replace j:=af.bb j hb;replace HB:=af.lb HB hb;(try clear hb);(try clear ab);(try clear hk);(try clear hi);obtain ⟨aB,aF,aL,aO⟩:=af.bw j.out) | (go_at_call 98;(with_reducible refine (cU.calls k z _ _ y a2 true _ ?side1 ?side2 A6.out).mono ?_);(case side1=>exact af.Cw (Kd.aT a0.out HB.out));(case side2=>exact a3.out);rintro e cb ⟨rfl,hb⟩;replace j:=af.bb j hb;replace HB:=af.lb HB hb;(try clear hb);(try clear ab);(try clear hk);(try clear hi);obtain ⟨aP,aR,aS,b0⟩:=af.bw j.out) | ((with_reducible refine aA (f:=106) rfl ?_);refine af.gl (some 21) Tryz.func106 #[.agg #[.int .i64 z,.slice X y.length Y],.int .i64 (Go.bits .or .i64 a1 a2)] ?_;(with_reducible refine (b6.calls k z _ _ y (Go.bits .or .i64 a1 a2) a4 _ ?side1 ?side2 A8.out).mono ?_);(case side1=>exact af.Cw (Kd.aT a0.out HB.out));(case side2=>exact a3.out);rintro e cc ⟨rfl,hb⟩;refine ⟨_,rfl,?_⟩;replace j:=af.bb j hb;replace HB:=af.lb HB hb;(try clear hb);(try clear ab);(try clear hk);(try clear hi)))
   go_ret
   exact ⟨af.E,af.L⟩
  ·replace c7:=Bool.eq_false_iff.mpr c7
   subst c7
   replace H:(some 0) = some r:=by rw [if_neg (show ¬ (false = true) by decide)] at H;exact H
   obtain rfl:=Option.some.inj H
   go_enter Tryz.func35,Tryz.ntmps35
   go_wp2_with (first | ((with_reducible refine bh (N:=3) rfl ?_);refine af.bx 3 #[.int .i64 z,.slice X y.length Y] 30 ?_;intro a8 hg ce hbox hb;have j:=ae.mk hbox;have a9:=af.gw hg HB;have aa:=af.gw hg HB;replace HB:=af.lb HB hb;clear hb hbox hg;obtain ⟨b2,b3,b4,b5⟩:=af.bw j.out) | ((with_reducible refine aA (f:=98) rfl ?_);refine af.gl (some 9) Tryz.func98 #[.agg #[.int .i64 z,.slice X y.length Y],.int .i64 a1] ?_;(with_reducible refine (cU.calls k z _ _ y a1 true _ ?side1 ?side2 A4.out).mono ?_);(case side1=>exact af.Cw (Kd.aT a0.out HB.out));(case side2=>exact a3.out);rintro e cf ⟨rfl,hb⟩;refine ⟨_,rfl,?_⟩;replace j:=af.bb j hb;replace HB:=af.lb HB hb;(try clear hb);(try clear ab);(try clear hk);(try clear hi);obtain ⟨ba,bc,bi,bm⟩:=af.bw j.out) | (go_at_call 98;(with_reducible refine (cU.calls k z _ _ y a2 false _ ?side1 ?side2 A6.out).mono ?_);(case side1=>exact af.Cw (Kd.aT a0.out HB.out));(case side2=>exact a3.out);rintro e ci ⟨rfl,hb⟩;replace j:=af.bb j hb;replace HB:=af.lb HB hb;(try clear hb);(try clear ab);(try clear hk);(try clear hi)))
   go_ret
   exact ⟨af.E,af.L⟩
 ·replace c5:=Bool.eq_false_iff.mpr c5
  subst c5
  replace H:(some 0) = some r:=by rw [if_neg (show ¬ (false = true) by decide)] at H;exact H
  obtain rfl:=Option.some.inj H
  go_enter Tryz.func35,Tryz.ntmps35
  go_wp2_with (first | ((with_reducible refine bh (N:=3) rfl ?_);refine af.bx 3 #[.int .i64 z,.slice X y.length Y] 30 ?_;intro a8 hg cp hbox hb;have j:=ae.mk hbox;have a9:=af.gw hg HB;have aa:=af.gw hg HB;replace HB:=af.lb HB hb;clear hb hbox hg;obtain ⟨bo,bs,bv,c0⟩:=af.bw j.out) | ((with_reducible refine aA (f:=98) rfl ?_);refine af.gl (some 9) Tryz.func98 #[.agg #[.int .i64 z,.slice X y.length Y],.int .i64 a1] ?_;(with_reducible refine (cU.calls k z _ _ y a1 false _ ?side1 ?side2 A4.out).mono ?_);(case side1=>exact af.Cw (Kd.aT a0.out HB.out));(case side2=>exact a3.out);rintro e d0 ⟨rfl,hb⟩;refine ⟨_,rfl,?_⟩;replace j:=af.bb j hb;replace HB:=af.lb HB hb;(try clear hb);(try clear ab);(try clear hk);(try clear hi)))
  go_ret
  exact ⟨af.E,af.L⟩
def gi.f (a0:Bool):Option (Int):=if a0 = true then (some 1) else (some 0)
set_option maxHeartbeats 8000000 in
set_option maxRecDepth 100000 in
theorem gi.calls (a0:Bool) (r:Int) (w:World) (h:gi.f a0 = some r) :
  Calls Tryz.prog 144 #[.bool a0] w fun e w'=>e = .returned (.int .i64 r)∧cS w w':=by
 unfold gi.f at h
 have H:=h
 clear h
 by_cases c2:a0 = true
 ·subst c2
  replace H:(some 1) = some r:=by rw [if_pos rfl] at H;exact H
  obtain rfl:=Option.some.inj H
  go_enter Tryz.func144,Tryz.ntmps144
  go_wp2
  go_ret
  exact ⟨af.F,af.G⟩
 ·replace c2:=Bool.eq_false_iff.mpr c2
  subst c2
  replace H:(some 0) = some r:=by rw [if_neg (show ¬ (false = true) by decide)] at H;exact H
  obtain rfl:=Option.some.inj H
  go_enter Tryz.func144,Tryz.ntmps144
  go_wp2
  go_ret
  exact ⟨af.F,af.G⟩
mutual
def bj.l0:Nat→List Int→List Int→Int→Option (List Int)
 | 0,_,_,_=>none
 | k+1,j,z,y=>if y < (j.length:Int) then (bj.l1 k j z y 0 0) else (some z)
def bj.l1:Nat→List Int→List Int→Int→Int→Int→Option (List Int)
 | 0,_,_,_,_,_=>none
 | k+1,j,z,y,x7,X=>if X < y then (if 0≤X then (if X < (j.length:Int) then (if 0≤y then (if y < (j.length:Int) then (if (Go.bits .and .i64 (rd j X) (rd j y)) = (rd j X) then (if X < (z.length:Int) then (bj.l1 k j z y (wrap64 (x7+(rd z X))) (wrap64 (X+1))) else (none)) else (bj.l1 k j z y x7 (wrap64 (X+1)))) else (none)) else (none)) else (none)) else (none)) else ((gi.f (y == 0)).bind fun Y=>(if z.length < 17592186044416 then (bj.l0 k j (z ++ [wrap64 (Y - x7)]) (wrap64 (y+1))) else (none)))
end
def bj.f (k:Nat) (j:Int) (y:List Int) (l1:List Int):Option (List Int):=bj.l0 k l1 (([]:List Int)) 0
set_option maxHeartbeats 8000000 in
set_option maxRecDepth 100000 in
theorem bj.calls (k:Nat) (a5:Int) (a6:Option Addr) (a7:Nat) (a2:List Int) (A1:Option Addr) (c1:Nat) (l1:List Int) (r:List Int) (w:World) (ba:Kd.C (Kd.int .i64) w a6 a2.length a2) (bc:a2.length≤a7) (d0:Kd.C (Kd.int .i64) w A1 l1.length l1) (d1:l1.length≤c1) (h:bj.f k a5 a2 l1 = some r) :
  Calls Tryz.prog 107 #[.agg #[.int .i64 a5,.slice a6 a2.length a7],.slice A1 l1.length c1] w fun e w'=>∃ d2:Value,e = .returned (d2)∧Kd.R (Kd.int .i64) 3 w' w.heap.size (fun _=>True) d2 r∧Below w.heap.size w w':=by
 have e1:=Tryz.underlying30
 have du:=ae.mk ba
 have dv:=ae.mk bc
 clear ba bc
 have b3:=ae.mk d0
 have e8:=ae.mk d1
 clear d0 d1
 have HB:=ae.mk (Below.refl w.heap.size w)
 unfold bj.f at h
 have H:=h
 clear h
 obtain ⟨ca,aB⟩:∃ y_:List Int,y_ = (([]:List Int)):=⟨_,rfl⟩
 replace H:(bj.l0 k l1 ca 0) = some r:=by (try rw [aB]);exact af.Z
 have ab:=ae.mk aB
 clear aB
 have H':=ae.mk H
 clear H
 go_enter Tryz.func107,Tryz.ntmps107
 go_wp2_with (first | ((with_reducible refine bh (N:=2) rfl ?_);refine af.bx 2 #[.int .i64 a5,.slice a6 a2.length a7] 30 ?_;intro aa hg w3 hbox hb;have j:=ae.mk hbox;have bi:=af.gw hg HB;have bm:=af.gw hg HB;replace HB:=af.lb HB hb;clear hb hbox hg) | (refine af.lt (Kd.int .i64) 3 9 ?_;intro cb w4 a4 hb bo am;clear bo am;(first | rw [← ab.out] at a4 | (simp only [Int.reduceToNat] at a4;rw [← ab.out] at a4));have aF:=ae.mk (Kd.aV a4 (av (af.Lw HB.out)));replace j:=af.bb j hb;replace HB:=af.lb HB hb;clear hb a4))
 repeat (go_quiet (first | ((with_reducible refine bh (N:=2) rfl ?_);refine af.bx 2 #[.int .i64 a5,.slice a6 a2.length a7] 30 ?_;intro aa hg w3 hbox hb;have j:=ae.mk hbox;have bi:=af.gw hg HB;have bm:=af.gw hg HB;replace HB:=af.lb HB hb;clear hb hbox hg) | (refine af.lt (Kd.int .i64) 3 9 ?_;intro cb w4 a4 hb bo am;clear bo am;(first | rw [← ab.out] at a4 | (simp only [Int.reduceToNat] at a4;rw [← ab.out] at a4));have aF:=ae.mk (Kd.aV a4 (av (af.Lw HB.out)));replace j:=af.bb j hb;replace HB:=af.lb HB hb;clear hb a4));try go_wp2_with (first | ((with_reducible refine bh (N:=2) rfl ?_);refine af.bx 2 #[.int .i64 a5,.slice a6 a2.length a7] 30 ?_;intro aa hg w3 hbox hb;have j:=ae.mk hbox;have bi:=af.gw hg HB;have bm:=af.gw hg HB;replace HB:=af.lb HB hb;clear hb hbox hg) | (refine af.lt (Kd.int .i64) 3 9 ?_;intro cb w4 a4 hb bo am;clear bo am;(first | rw [← ab.out] at a4 | (simp only [Int.reduceToNat] at a4;rw [← ab.out] at a4));have aF:=ae.mk (Kd.aV a4 (av (af.Lw HB.out)));replace j:=af.bb j hb;replace HB:=af.lb HB hb;clear hb a4)))
 go_loopg [5,6] k (fun kq v5 v6 w'=>∃ (a8:List Int) (z:Int),v6 = .int .i64 z∧ae (bj.l0 kq l1 a8 z = some r)∧ae (kq≤k)∧ae (Kd.R (Kd.int .i64) 3 w' w.heap.size (fun _=>True) v5 a8)∧ae (w'.heap[aa]? = some (.cells #[.int .i64 a5,(.slice a6 a2.length a7)] 30 (0,0)))∧ae (Below w.heap.size w w'))
 case atStart=>exact ⟨(ca),(0),af.F,H',⟨Nat.le_refl _⟩,⟨af.Rw aF.out⟩,⟨af.Bw j.out⟩,⟨af.Lw HB.out⟩⟩
 case round =>
  clear H'
  obtain ⟨a8,z,rfl,HA,b4,X,j,HB⟩:=hrel
  cases gk with
  | zero=>exact absurd HA.out (by simp [bj.l0])
  | succ k1 =>
   have H:=HA.out
   clear HA
   simp only [bj.l0] at H
   by_cases c6:z < (l1.length:Int)
   ·rw [if_pos c6] at H
    have d3:=decide_eq_true c6
    clear c6
    have H':=ae.mk H
    clear H
    go_wp2
    repeat (go_quiet (fail);try go_wp2)
    go_loopg [7,8] k1 (fun kq v7 v8 w'=>∃ (a3:Int) (y:Int),v7 = .int .i64 a3∧v8 = .int .i64 y∧ae (bj.l1 kq l1 a8 z a3 y = some r)∧ae (kq≤k1)∧ae (Kd.R (Kd.int .i64) 3 w' w.heap.size (fun _=>True) u5 a8)∧ae (w'.heap[aa]? = some (.cells #[.int .i64 a5,(.slice a6 a2.length a7)] 30 (0,0)))∧ae (Below w.heap.size w w'))
    case atStart=>exact ⟨(0),(0),af.F,af.F,H',⟨Nat.le_refl _⟩,⟨af.Rw X.out⟩,⟨af.Bw j.out⟩,⟨af.Lw HB.out⟩⟩
    case round =>
     clear H'
     obtain ⟨a3,y,rfl,rfl,HA,b5,X,j,HB⟩:=hrel
     cases gk with
     | zero=>exact absurd HA.out (by simp [bj.l1])
     | succ k2 =>
      have H:=HA.out
      clear HA
      simp only [bj.l1] at H
      by_cases c7:y < z
      ·rw [if_pos c7] at H
       have d4:=decide_eq_true c7
       clear c7
       obtain ⟨c8,H⟩:=af.ip H
       have e2:=decide_eq_true c8
       clear c8
       obtain ⟨c9,H⟩:=af.ip H
       have e3:=decide_eq_true c9
       clear c9
       obtain ⟨gX,H⟩:=af.ip H
       have dC:=decide_eq_true gX
       clear gX
       obtain ⟨d5,H⟩:=af.ip H
       have dE:=decide_eq_true d5
       clear d5
       by_cases aL:(Go.bits .and .i64 (rd l1 y) (rd l1 z)) = (rd l1 y)
       ·rw [if_pos aL] at H
        have cf:((Go.bits .and .i64 (rd l1 y) (rd l1 z)) == (rd l1 y)) = true:=beq_iff_eq.mpr aL
        have ci:((Go.bits .and .i64 (rd l1 y) (rd l1 z)) != (rd l1 y)) = false:=bne_eq_false_iff_eq.mpr aL
        clear aL
        obtain ⟨d6,H⟩:=af.ip H
        have dT:=decide_eq_true d6
        clear d6
        have H':=ae.mk H
        clear H
        obtain ⟨ao,bs,Y,d7,d8⟩:=af.ai b3.out y
        cases bs
        try replace Y:=(HB.out.cell (World.block_lt_of_cell? w _ Y)).trans Y
        obtain ⟨aO,bv,a0,d9,db⟩:=af.ai b3.out z
        obtain rfl:ao = aO:=(by injection bv)
        try replace a0:=(HB.out.cell (World.block_lt_of_cell? w _ a0)).trans a0
        obtain ⟨aP,c0,a1,dd,df⟩:=af.ai b3.out y
        obtain rfl:ao = aP:=(by injection c0)
        try replace a1:=(HB.out.cell (World.block_lt_of_cell? w _ a1)).trans a1
        obtain ⟨e4,e5,dk⟩:=Kd.aK X.out
        subst dk
        obtain ⟨e0,dl,dp,e6,e7⟩:=af.ai (Kd.ah X.out).2.2 y
        cases dl
        go_wp2
        repeat (go_quiet (fail);try go_wp2)
        go_roundg k2
        case measure=>have:=b4.out;have:=b5.out;omega
        case rel=>exact ⟨(wrap64 (a3+(rd a8 y))),(wrap64 (y+1)),af.F,af.F,H',⟨by have:=b4.out;have:=b5.out;omega⟩,⟨af.Rw X.out⟩,⟨af.Bw j.out⟩,⟨af.Lw HB.out⟩⟩
       ·rw [if_neg aL] at H
        have cf:((Go.bits .and .i64 (rd l1 y) (rd l1 z)) == (rd l1 y)) = false:=beq_eq_false_iff_ne.mpr aL
        have ci:((Go.bits .and .i64 (rd l1 y) (rd l1 z)) != (rd l1 y)) = true:=bne_iff_ne.mpr aL
        have H':=ae.mk H
        clear H
        obtain ⟨ao,bs,Y,d7,d8⟩:=af.ai b3.out y
        cases bs
        try replace Y:=(HB.out.cell (World.block_lt_of_cell? w _ Y)).trans Y
        obtain ⟨aO,bv,a0,d9,db⟩:=af.ai b3.out z
        obtain rfl:ao = aO:=(by injection bv)
        try replace a0:=(HB.out.cell (World.block_lt_of_cell? w _ a0)).trans a0
        obtain ⟨aP,c0,a1,dd,df⟩:=af.ai b3.out y
        obtain rfl:ao = aP:=(by injection c0)
        try replace a1:=(HB.out.cell (World.block_lt_of_cell? w _ a1)).trans a1
        go_wp2
        repeat (go_quiet (fail);try go_wp2)
        go_roundg k2
        case measure=>have:=b4.out;have:=b5.out;omega
        case rel=>exact ⟨(a3),(wrap64 (y+1)),af.F,af.F,H',⟨by have:=b4.out;have:=b5.out;omega⟩,⟨af.Rw X.out⟩,⟨af.Bw j.out⟩,⟨af.Lw HB.out⟩⟩
      ·rw [if_neg c7] at H
       have d4:decide (y < z) = false:=decide_eq_false c7
       clear c7
       obtain ⟨a9,cp,H⟩:=af.be H
       (try dsimp only at H)
       obtain ⟨dq,H⟩:=af.ip H
       have aR:=ae.mk dq
       clear dq
       obtain ⟨cc,aS⟩:∃ y_:List Int,y_ = (a8 ++ [wrap64 (a9 - a3)]):=⟨_,rfl⟩
       replace H:(bj.l0 k2 l1 cc (wrap64 (z+1))) = some r:=by (try rw [aS]);exact af.Z
       have b0:=ae.mk aS
       clear aS
       have H':=ae.mk H
       clear H
       go_wp2_with (first | (go_at_call 144;(with_reducible refine (gi.calls (z == 0) a9 _ cp.out).mono ?_);rintro e w' ⟨rfl,⟨nd,rfl⟩⟩;(try exact af.W)) | ((with_reducible refine cP (b:=.append) (xs:=#[.tmp 41,.tmp 47]) rfl ?_);at_builtin;refine Kd.eE (Kd.int .i64) (w0:=w) w.heap.size rfl (.tmp 41) (.tmp 47) 28 3 (.int .i64 0) 8 rfl Tryz.underlying28 eI rfl (by decide) (by omega) u5 a8 (wrap64 (a9 - a3)) [.int .i64 (wrap64 (a9 - a3))] (fun _=>True) (fun _=>False) rfl rfl (by exact rfl) (fun _ hk=>hk.elim) (by exact fun _ _=>trivial) (by exact af.Rw X.out) (by exact af.Lw HB.out) (by exact av (af.Lw HB.out)) (by have:=aR.out;omega) ?_;intro ce dt ho hb hg hat;rw [← b0.out] at ho;have ap:=ae.mk (dJ (g:=aa) (o:=.cells #[.int .i64 a5,.slice a6 a2.length a7] 30 (0,0)) (af.Bw j.out) hg (Kd.fS X.out j.out (by decide)));have ar:=ae.mk hb;have aw:=ae.mk ho;clear j;clear HB;clear X;have j:=ap;have HB:=ar;have b2:=aw;clear ap ar aw;clear ho hb hg hat))
       repeat (go_quiet (first | (go_at_call 144;(with_reducible refine (gi.calls (z == 0) a9 _ cp.out).mono ?_);rintro e w' ⟨rfl,⟨nd,rfl⟩⟩;(try exact af.W)) | ((with_reducible refine cP (b:=.append) (xs:=#[.tmp 41,.tmp 47]) rfl ?_);at_builtin;refine Kd.eE (Kd.int .i64) (w0:=w) w.heap.size rfl (.tmp 41) (.tmp 47) 28 3 (.int .i64 0) 8 rfl Tryz.underlying28 eI rfl (by decide) (by omega) u5 a8 (wrap64 (a9 - a3)) [.int .i64 (wrap64 (a9 - a3))] (fun _=>True) (fun _=>False) rfl rfl (by exact rfl) (fun _ hk=>hk.elim) (by exact fun _ _=>trivial) (by exact af.Rw X.out) (by exact af.Lw HB.out) (by exact av (af.Lw HB.out)) (by have:=aR.out;omega) ?_;intro ce dt ho hb hg hat;rw [← b0.out] at ho;have ap:=ae.mk (dJ (g:=aa) (o:=.cells #[.int .i64 a5,.slice a6 a2.length a7] 30 (0,0)) (af.Bw j.out) hg (Kd.fS X.out j.out (by decide)));have ar:=ae.mk hb;have aw:=ae.mk ho;clear j;clear HB;clear X;have j:=ap;have HB:=ar;have b2:=aw;clear ap ar aw;clear ho hb hg hat));try go_wp2_with (first | (go_at_call 144;(with_reducible refine (gi.calls (z == 0) a9 _ cp.out).mono ?_);rintro e w' ⟨rfl,⟨nd,rfl⟩⟩;(try exact af.W)) | ((with_reducible refine cP (b:=.append) (xs:=#[.tmp 41,.tmp 47]) rfl ?_);at_builtin;refine Kd.eE (Kd.int .i64) (w0:=w) w.heap.size rfl (.tmp 41) (.tmp 47) 28 3 (.int .i64 0) 8 rfl Tryz.underlying28 eI rfl (by decide) (by omega) u5 a8 (wrap64 (a9 - a3)) [.int .i64 (wrap64 (a9 - a3))] (fun _=>True) (fun _=>False) rfl rfl (by exact rfl) (fun _ hk=>hk.elim) (by exact fun _ _=>trivial) (by exact af.Rw X.out) (by exact af.Lw HB.out) (by exact av (af.Lw HB.out)) (by have:=aR.out;omega) ?_;intro ce dt ho hb hg hat;rw [← b0.out] at ho;have ap:=ae.mk (dJ (g:=aa) (o:=.cells #[.int .i64 a5,.slice a6 a2.length a7] 30 (0,0)) (af.Bw j.out) hg (Kd.fS X.out j.out (by decide)));have ar:=ae.mk hb;have aw:=ae.mk ho;clear j;clear HB;clear X;have j:=ap;have HB:=ar;have b2:=aw;clear ap ar aw;clear ho hb hg hat)))
       go_roundg k2
       case measure=>have:=b4.out;have:=b5.out;omega
       case rel=>exact ⟨(cc),(wrap64 (z+1)),af.F,H',⟨by have:=b4.out;have:=b5.out;omega⟩,⟨af.Rw b2.out⟩,⟨af.Bw j.out⟩,⟨af.Lw HB.out⟩⟩
   ·rw [if_neg c6] at H
    have d3:decide (z < (l1.length:Int)) = false:=decide_eq_false c6
    clear c6
    obtain rfl:=Option.some.inj H
    go_wp2
    repeat (go_quiet (fail);try go_wp2)
    go_ret
    exact ⟨_,af.E,by (with_reducible repeat (first | apply Kd.cH | apply Kd.cI | apply Kd.bl));exact X.out,af.L⟩
def cy.l0:Nat→Int→List Int→List Int→Int→Option (Int)
 | 0,_,_,_,_=>none
 | k+1,X,y,z,j=>if j < (y.length:Int) then (if 0≤j then (if (rd y j) = X then (if j < (z.length:Int) then (some (rd z j)) else (none)) else (cy.l0 k X y z (wrap64 (j+1)))) else (none)) else (some 0)
def cy.f (k:Nat) (y:Int) (z:List Int) (a1:Int):Option (Int):=(cL.f k y z).bind fun j=>((aI.f k j a1).bind fun X=>(if X = true then ((bj.f k y z j).bind fun Y=>(cy.l0 k a1 j Y 0)) else (some 0)))
set_option maxHeartbeats 8000000 in
set_option maxRecDepth 100000 in
theorem cy.calls (k:Nat) (a0:Int) (a2:Option Addr) (a3:Nat) (X:List Int) (a1:Int) (r:Int) (w:World) (am:Kd.C (Kd.int .i64) w a2 X.length X) (ao:X.length≤a3) (h:cy.f k a0 X a1 = some r) :
  Calls Tryz.prog 36 #[.agg #[.int .i64 a0,.slice a2 X.length a3],.int .i64 a1] w fun e w'=>e = .returned (.int .i64 r)∧Below w.heap.size w w':=by
 have df:=Tryz.underlying30
 have a6:=ae.mk am
 have a7:=ae.mk ao
 clear am ao
 have HB:=ae.mk (Below.refl w.heap.size w)
 unfold cy.f at h
 have H:=h
 clear h
 obtain ⟨j,A3,H⟩:=af.be H
 (try dsimp only at H)
 obtain ⟨b4,A4,H⟩:=af.be H
 (try dsimp only at H)
 by_cases c5:b4 = true
 ·subst c5
  replace H:((bj.f k a0 X j).bind fun a5=>(cy.l0 k a1 j a5 0)) = some r:=by rw [if_pos rfl] at H;exact H
  obtain ⟨a5,A6,H⟩:=af.be H
  (try dsimp only at H)
  have H':=ae.mk H
  clear H
  go_enter Tryz.func36,Tryz.ntmps36
  go_wp2_with (first | (refine af.bx 2 #[.int .i64 a0,.slice a2 X.length a3] 30 ?_;intro ap hg w7 hbox hb;have y:=ae.mk hbox;have aO:=af.gw hg HB;have aP:=af.gw hg HB;replace HB:=af.lb HB hb;clear hb hbox hg;obtain ⟨d5,d6,d7,d8⟩:=af.bw y.out) | (refine af.gl (some 9) Tryz.func43 #[.agg #[.int .i64 a0,.slice a2 X.length a3]] ?_;(with_reducible refine (cL.calls k a0 _ _ X j _ ?side1 ?side2 A3.out).mono ?_);(case side1=>exact af.Cw (Kd.aT a6.out HB.out));(case side2=>exact a7.out);rintro e w9 ⟨b5,rfl,a4,hb⟩;refine ⟨_,rfl,?_⟩;have z:=ae.mk (Kd.aV a4 (av (af.Lw HB.out)));replace y:=af.bb y hb;replace HB:=af.lb HB hb;(try clear hb);(try clear ba);(try clear hk);(try clear hi);(try clear a4);obtain ⟨a9,aa,bc⟩:=Kd.aK z.out;subst bc) | (refine af.gl (some 12) Tryz.func44 #[.slice a9 j.length aa,.int .i64 a1] ?_;(with_reducible refine (aI.calls k _ _ j a1 true _ ?side1 ?side2 A4.out).mono ?_);(case side1=>exact af.Cw ((Kd.ah z.out).2.2));(case side2=>exact (Kd.ah z.out).2.1);rintro e w' ⟨rfl,⟨nd,rfl⟩⟩;refine ⟨_,rfl,?_⟩;obtain ⟨bi,bm,bo,bs⟩:=af.bw y.out) | (refine af.gl (some 16) Tryz.func107 #[.agg #[.int .i64 a0,.slice a2 X.length a3],.slice a9 j.length aa] ?_;(with_reducible refine (bj.calls k a0 _ _ X _ _ j a5 _ ?side1 ?side2 ?side3 ?side4 A6.out).mono ?_);(case side1=>exact af.Cw (Kd.aT a6.out HB.out));(case side2=>exact a7.out);(case side3=>exact af.Cw ((Kd.ah z.out).2.2));(case side4=>exact (Kd.ah z.out).2.1);rintro e dt ⟨aL,rfl,a4,hb⟩;refine ⟨_,rfl,?_⟩;have aR:=ae.mk (Kd.aV (Kd.br a4 (Kd.cK (af.Rw z.out))) (av (af.Lw HB.out)));replace z:=ae.mk (Kd.aQ (af.Rw z.out) (Kd.bn a4) hb);replace y:=af.bb y hb;replace HB:=af.lb HB hb;(try clear hb);(try clear ba);(try clear hk);(try clear hi);(try clear a4)))
  go_loopg [7] k (fun kq v7 w'=>∃ (Y:Int),v7 = .int .i64 Y∧ae (cy.l0 kq a1 j a5 Y = some r)∧ae (kq≤k)∧ae (Kd.R (Kd.int .i64) 3 w' w.heap.size (fun k_=>some k_≠(aL:Value).ownBlock) (.slice a9 j.length aa) j)∧ae (Kd.R (Kd.int .i64) 3 w' w.heap.size (fun k_=>some k_≠((.slice a9 j.length aa):Value).ownBlock) aL a5)∧ae (w'.heap[ap]? = some (.cells #[.int .i64 a0,(.slice a2 X.length a3)] 30 (0,0)))∧ae (Below w.heap.size w w'))
  case atStart=>exact ⟨(0),af.F,H',⟨Nat.le_refl _⟩,⟨af.Rw (Kd.aC z.out (fun _ hk=>hk.2))⟩,⟨af.Rw (Kd.aC aR.out (fun _ hk=>hk.2))⟩,⟨af.Bw y.out⟩,⟨af.Lw HB.out⟩⟩
  case round =>
   clear H'
   obtain ⟨Y,rfl,HA,bv,ar,aw,y,HB⟩:=hrel
   cases gk with
   | zero=>exact absurd HA.out (by simp [cy.l0])
   | succ k1 =>
    have H:=HA.out
    clear HA
    simp only [cy.l0] at H
    by_cases ab:Y < (j.length:Int)
    ·rw [if_pos ab] at H
     have aS:=decide_eq_true ab
     clear ab
     obtain ⟨c0,H⟩:=af.ip H
     have d9:=decide_eq_true c0
     clear c0
     by_cases a8:(rd j Y) = a1
     ·rw [if_pos a8] at H
      have b0:((rd j Y) == a1) = true:=beq_iff_eq.mpr a8
      have b2:((rd j Y) != a1) = false:=bne_eq_false_iff_eq.mpr a8
      clear a8
      obtain ⟨c1,H⟩:=af.ip H
      have db:=decide_eq_true c1
      clear c1
      obtain rfl:=Option.some.inj H
      obtain ⟨b3,aB,aF,ca,cb⟩:=af.ai (Kd.ah ar.out).2.2 Y
      cases aB
      obtain ⟨dk,dl,cc⟩:=Kd.aK aw.out
      subst cc
      obtain ⟨dd,ce,cf,dp,dq⟩:=af.ai (Kd.ah aw.out).2.2 Y
      cases ce
      go_wp2
      go_ret
      exact ⟨af.E,af.L⟩
     ·rw [if_neg a8] at H
      have b0:((rd j Y) == a1) = false:=beq_eq_false_iff_ne.mpr a8
      have b2:((rd j Y) != a1) = true:=bne_iff_ne.mpr a8
      have H':=ae.mk H
      clear H
      obtain ⟨b3,aB,aF,ca,cb⟩:=af.ai (Kd.ah ar.out).2.2 Y
      cases aB
      go_wp2
      go_roundg k1
      case measure=>have:=bv.out;omega
      case rel=>exact ⟨(wrap64 (Y+1)),af.F,H',⟨by have:=bv.out;omega⟩,⟨af.Rw ar.out⟩,⟨af.Rw aw.out⟩,⟨af.Bw y.out⟩,⟨af.Lw HB.out⟩⟩
    ·rw [if_neg ab] at H
     have aS:decide (Y < (j.length:Int)) = false:=decide_eq_false ab
     clear ab
     obtain rfl:=Option.some.inj H
     go_wp2
     go_ret
     exact ⟨af.E,af.L⟩
 ·replace c5:=Bool.eq_false_iff.mpr c5
  subst c5
  replace H:(some 0) = some r:=by rw [if_neg (show ¬ (false = true) by decide)] at H;exact H
  obtain rfl:=Option.some.inj H
  go_enter Tryz.func36,Tryz.ntmps36
  go_wp2_with (first | (refine af.bx 2 #[.int .i64 a0,.slice a2 X.length a3] 30 ?_;intro ap hg du hbox hb;have y:=ae.mk hbox;have aO:=af.gw hg HB;have aP:=af.gw hg HB;replace HB:=af.lb HB hb;clear hb hbox hg;obtain ⟨ci,cp,d0,d1⟩:=af.bw y.out) | (refine af.gl (some 9) Tryz.func43 #[.agg #[.int .i64 a0,.slice a2 X.length a3]] ?_;(with_reducible refine (cL.calls k a0 _ _ X j _ ?side1 ?side2 A3.out).mono ?_);(case side1=>exact af.Cw (Kd.aT a6.out HB.out));(case side2=>exact a7.out);rintro e dv ⟨b5,rfl,a4,hb⟩;refine ⟨_,rfl,?_⟩;have z:=ae.mk (Kd.aV a4 (av (af.Lw HB.out)));replace y:=af.bb y hb;replace HB:=af.lb HB hb;(try clear hb);(try clear ba);(try clear hk);(try clear hi);(try clear a4);obtain ⟨d2,d3,d4⟩:=Kd.aK z.out;subst d4) | (refine af.gl (some 12) Tryz.func44 #[.slice d2 j.length d3,.int .i64 a1] ?_;(with_reducible refine (aI.calls k _ _ j a1 false _ ?side1 ?side2 A4.out).mono ?_);(case side1=>exact af.Cw ((Kd.ah z.out).2.2));(case side2=>exact (Kd.ah z.out).2.1);rintro e w' ⟨rfl,⟨nd,rfl⟩⟩;refine ⟨_,rfl,?_⟩))
  go_ret
  exact ⟨af.E,af.L⟩
def cm.f (k:Nat) (y:Int) (j:List Int):Option (Int):=(bI.f k y j).bind fun z=>(if z = true then (if 0 < (j.length:Int) then ((bC.f k (rd j 0)).bind fun X=>(some X)) else (none)) else (some (-1)))
set_option maxHeartbeats 8000000 in
set_option maxRecDepth 100000 in
theorem cm.calls (k:Nat) (X:Int) (Y:Option Addr) (a0:Nat) (j:List Int) (r:Int) (w:World) (a2:Kd.C (Kd.int .i64) w Y j.length j) (a3:j.length≤a0) (h:cm.f k X j = some r) :
  Calls Tryz.prog 47 #[.agg #[.int .i64 X,.slice Y j.length a0]] w fun e w'=>e = .returned (.int .i64 r)∧Below w.heap.size w w':=by
 have b5:=Tryz.underlying30
 have a1:=ae.mk a2
 have a4:=ae.mk a3
 clear a2 a3
 have HB:=ae.mk (Below.refl w.heap.size w)
 unfold cm.f at h
 have H:=h
 clear h
 obtain ⟨ab,A2,H⟩:=af.be H
 (try dsimp only at H)
 by_cases c3:ab = true
 ·subst c3
  replace H:(if 0 < (j.length:Int) then ((bC.f k (rd j 0)).bind fun a5=>(some a5)) else (none)) = some r:=by rw [if_pos rfl] at H;exact H
  obtain ⟨c4,H⟩:=af.ip H
  have ba:=decide_eq_true c4
  have bc:decide (0 < j.length) = true:=decide_eq_true (by omega)
  clear c4
  obtain ⟨a5,A5,H⟩:=af.be H
  (try dsimp only at H)
  obtain rfl:=Option.some.inj H
  go_enter Tryz.func47,Tryz.ntmps47
  go_wp2_with (first | (refine af.bx 1 #[.int .i64 X,.slice Y j.length a0] 30 ?_;intro a8 hg w6 hbox hb;have y:=ae.mk hbox;have a9:=af.gw hg HB;have aa:=af.gw hg HB;replace HB:=af.lb HB hb;clear hb hbox hg;obtain ⟨aB,aF,aL,aO⟩:=af.bw y.out) | (refine af.gl (some 4) Tryz.func26 #[.agg #[.int .i64 X,.slice Y j.length a0]] ?_;(with_reducible refine (bI.calls k X _ _ j true _ ?side1 ?side2 A2.out).mono ?_);(case side1=>exact af.Cw (Kd.aT a1.out HB.out));(case side2=>exact a4.out);rintro e w8 ⟨rfl,hb⟩;refine ⟨_,rfl,?_⟩;replace y:=af.bb y hb;replace HB:=af.lb HB hb;(try clear hb);(try clear b2);(try clear hk);(try clear hi);obtain ⟨aP,aR,aS,b0⟩:=af.bw y.out;have a6:0≤(0:Int):=(by omega);have a7:0 < (j.length:Int):=af.D;obtain ⟨b3,am,z⟩:=Kd.ey a1.out 0 a6 a7;cases am;have b4:(0 < j.length) = True:=eq_true (by omega);(try rw [show ((0:Int)).toNat = 0 from rfl] at z);(try rw [Addr.add_zero'] at z);replace z:=(HB.out.cell (World.block_lt_of_cell? w _ z)).trans z;replace a6:=eq_true a6;replace a7:=eq_true a7) | (refine af.gl (some 10) Tryz.func25 #[.int .i64 (rd j 0)] ?_;(with_reducible refine (bC.calls k (rd j 0) a5 _ A5.out).mono ?_);rintro e w' ⟨rfl,⟨nd,rfl⟩⟩;refine ⟨_,rfl,?_⟩))
  go_ret
  exact ⟨af.E,af.L⟩
 ·replace c3:=Bool.eq_false_iff.mpr c3
  subst c3
  replace H:(some (-1)) = some r:=by rw [if_neg (show ¬ (false = true) by decide)] at H;exact H
  obtain rfl:=Option.some.inj H
  go_enter Tryz.func47,Tryz.ntmps47
  go_wp2_with (first | (refine af.bx 1 #[.int .i64 X,.slice Y j.length a0] 30 ?_;intro a8 hg bi hbox hb;have y:=ae.mk hbox;have a9:=af.gw hg HB;have aa:=af.gw hg HB;replace HB:=af.lb HB hb;clear hb hbox hg;obtain ⟨ao,ap,ar,aw⟩:=af.bw y.out) | (refine af.gl (some 4) Tryz.func26 #[.agg #[.int .i64 X,.slice Y j.length a0]] ?_;(with_reducible refine (bI.calls k X _ _ j false _ ?side1 ?side2 A2.out).mono ?_);(case side1=>exact af.Cw (Kd.aT a1.out HB.out));(case side2=>exact a4.out);rintro e bm ⟨rfl,hb⟩;refine ⟨_,rfl,?_⟩;replace y:=af.bb y hb;replace HB:=af.lb HB hb;(try clear hb);(try clear b2);(try clear hk);(try clear hi)))
  go_ret
  exact ⟨af.E,af.L⟩
def dh.l0:Nat→Int→Int→Int→List Int→Option (Int)
 | 0,_,_,_,_=>none
 | k+1,X,z,y,j=>if z < (j.length:Int) then (if 0≤z then (dh.l0 k (wrap64 (X - (Go.bits .and .i64 X (rd j z)))) (wrap64 (z+1)) y j) else (none)) else (some X)
def dh.f (k:Nat) (j:Int) (y:List Int):Option (Int):=(bI.f k j y).bind fun z=>(if z = true then ((cF.f j).bind fun X=>(dh.l0 k X 0 j y)) else (some 0))
set_option maxHeartbeats 8000000 in
set_option maxRecDepth 100000 in
theorem dh.calls (k:Nat) (z:Int) (Y:Option Addr) (a0:Nat) (y:List Int) (r:Int) (w:World) (a5:Kd.C (Kd.int .i64) w Y y.length y) (a6:y.length≤a0) (h:dh.f k z y = some r) :
  Calls Tryz.prog 70 #[.agg #[.int .i64 z,.slice Y y.length a0]] w fun e w'=>e = .returned (.int .i64 r)∧Below w.heap.size w w':=by
 have ca:=Tryz.underlying30
 have a3:=ae.mk a5
 have a7:=ae.mk a6
 clear a5 a6
 have HB:=ae.mk (Below.refl w.heap.size w)
 unfold dh.f at h
 have H:=h
 clear h
 obtain ⟨ab,A2,H⟩:=af.be H
 (try dsimp only at H)
 by_cases c3:ab = true
 ·subst c3
  replace H:((cF.f z).bind fun a4=>(dh.l0 k a4 0 z y)) = some r:=by rw [if_pos rfl] at H;exact H
  obtain ⟨a4,A4,H⟩:=af.be H
  (try dsimp only at H)
  have H':=ae.mk H
  clear H
  go_enter Tryz.func70,Tryz.ntmps70
  go_wp2_with (first | (refine af.bx 1 #[.int .i64 z,.slice Y y.length a0] 30 ?_;intro a8 hg w5 hbox hb;have j:=ae.mk hbox;have a9:=af.gw hg HB;have aa:=af.gw hg HB;replace HB:=af.lb HB hb;clear hb hbox hg;obtain ⟨b4,b5,ba,bc⟩:=af.bw j.out) | (refine af.gl (some 6) Tryz.func26 #[.agg #[.int .i64 z,.slice Y y.length a0]] ?_;(with_reducible refine (bI.calls k z _ _ y true _ ?side1 ?side2 A2.out).mono ?_);(case side1=>exact af.Cw (Kd.aT a3.out HB.out));(case side2=>exact a7.out);rintro e w7 ⟨rfl,hb⟩;refine ⟨_,rfl,?_⟩;replace j:=af.bb j hb;replace HB:=af.lb HB hb;(try clear hb);(try clear bv);(try clear hk);(try clear hi);obtain ⟨bi,bm,bo,bs⟩:=af.bw j.out) | (refine af.gl (some 10) Tryz.func24 #[.int .i64 z] ?_;(with_reducible refine (cF.calls z a4 _ A4.out).mono ?_);rintro e w' ⟨rfl,⟨nd,rfl⟩⟩;refine ⟨_,rfl,?_⟩))
  go_loopg [3,4] k (fun kq v3 v4 w'=>∃ (a2:Int) (X:Int),v3 = .int .i64 a2∧v4 = .int .i64 X∧ae (dh.l0 kq a2 X z y = some r)∧ae (kq≤k)∧ae (w'.heap[a8]? = some (.cells #[.int .i64 z,(.slice Y y.length a0)] 30 (0,0)))∧ae (Below w.heap.size w w'))
  case atStart=>exact ⟨(a4),(0),af.F,af.F,H',⟨Nat.le_refl _⟩,⟨af.Bw j.out⟩,⟨af.Lw HB.out⟩⟩
  case round =>
   clear H'
   obtain ⟨a2,X,rfl,rfl,HA,am,j,HB⟩:=hrel
   cases gk with
   | zero=>exact absurd HA.out (by simp [dh.l0])
   | succ k1 =>
    have H:=HA.out
    clear HA
    simp only [dh.l0] at H
    by_cases c9:X < (y.length:Int)
    ·rw [if_pos c9] at H
     have ao:=decide_eq_true c9
     clear c9
     obtain ⟨gX,H⟩:=af.ip H
     have c0:=decide_eq_true gX
     clear gX
     have H':=ae.mk H
     clear H
     obtain ⟨ap,ar,aw,aB⟩:=af.bw j.out
     obtain ⟨c1,aF,a1,cb,cc⟩:=af.ai a3.out X
     cases aF
     try replace a1:=(HB.out.cell (World.block_lt_of_cell? w _ a1)).trans a1
     go_wp2
     go_roundg k1
     case measure=>have:=am.out;omega
     case rel=>exact ⟨(wrap64 (a2 - (Go.bits .and .i64 a2 (rd y X)))),(wrap64 (X+1)),af.F,af.F,H',⟨by have:=am.out;omega⟩,⟨af.Bw j.out⟩,⟨af.Lw HB.out⟩⟩
    ·rw [if_neg c9] at H
     have ao:decide (X < (y.length:Int)) = false:=decide_eq_false c9
     clear c9
     obtain rfl:=Option.some.inj H
     obtain ⟨aL,aO,aP,aR⟩:=af.bw j.out
     go_wp2
     go_ret
     exact ⟨af.E,af.L⟩
 ·replace c3:=Bool.eq_false_iff.mpr c3
  subst c3
  replace H:(some 0) = some r:=by rw [if_neg (show ¬ (false = true) by decide)] at H;exact H
  obtain rfl:=Option.some.inj H
  go_enter Tryz.func70,Tryz.ntmps70
  go_wp2_with (first | (refine af.bx 1 #[.int .i64 z,.slice Y y.length a0] 30 ?_;intro a8 hg ce hbox hb;have j:=ae.mk hbox;have a9:=af.gw hg HB;have aa:=af.gw hg HB;replace HB:=af.lb HB hb;clear hb hbox hg;obtain ⟨aS,b0,b2,b3⟩:=af.bw j.out) | (refine af.gl (some 6) Tryz.func26 #[.agg #[.int .i64 z,.slice Y y.length a0]] ?_;(with_reducible refine (bI.calls k z _ _ y false _ ?side1 ?side2 A2.out).mono ?_);(case side1=>exact af.Cw (Kd.aT a3.out HB.out));(case side2=>exact a7.out);rintro e cf ⟨rfl,hb⟩;refine ⟨_,rfl,?_⟩;replace j:=af.bb j hb;replace HB:=af.lb HB hb;(try clear hb);(try clear bv);(try clear hk);(try clear hi)))
  go_ret
  exact ⟨af.E,af.L⟩
def aE.l0:Nat→Int→List Int→List Int→List Int→Int→Int→List Int→Option (List Int)
 | 0,_,_,_,_,_,_,_=>none
 | k+1,Y,x4,x5,x6,X,j,y=>if X < (x5.length:Int) then ((dh.f k j y).bind fun a0=>(if a0 = 0 then (if 0≤X then ((bW.f k j y (rd x5 X)).bind fun z=>(if 0≤(wrap64 (Y - z)) then (if (wrap64 (Y - z)) < (x4.length:Int) then (if X < (x6.length:Int) then (aE.l0 k Y (x4.set ((wrap64 (Y - z)):Int).toNat (wrap64 ((rd x4 (wrap64 (Y - z)))+(rd x6 X)))) x5 x6 (wrap64 (X+1)) j y) else (none)) else (none)) else (none))) else (none)) else (some x4))) else (some x4)
def aE.f (k:Nat) (y:Int) (z:List Int):Option (List Int):=(cm.f k y z).bind fun j=>(if j < 0 then (some (([]:List Int))) else (if 0≤(wrap64 (j+1)) then (if (wrap64 (j+1):Int).toNat≤35184372088832 then ((cG.f k y z).bind fun X=>((bj.f k y z X).bind fun Y=>(aE.l0 k j (List.replicate (wrap64 (j+1):Int).toNat 0) X Y 0 y z))) else (none)) else (none)))
def aE.uc:Bool×List (List Nat×List Nat):=(true,[([],[]),([],[]),([],[]),([],[]),([2,3],[2,3]),([4],[4]),([1,5],[1,5]),([0,6],[0,6]),([7,6,0,1,2,3,4,5,6,7],[7])])
def aE.vQ:List Nat:=[0,0,0,0,12,28,62,127,255]
theorem aE.n8:gm .any (opsOf Tryz.f37 10) = aE.uc:=by kernel_rfl
theorem aE.lB:eT aE.uc.2 aE.vQ = true:=by kernel_rfl
def aE.vR:Bool×List (List Nat×List Nat):=(true,[([],[]),([],[]),([],[]),([],[]),([2,3],[2,3]),([4],[4]),([],[]),([],[]),([6,7],[6,7]),([8],[8]),([5,9],[5,9]),([0,1,0,1,2,3,4,5,6,7,8,9,10],[0,1]),([11,10,0,1,2,3,4,5,6,7,8,9,10],[10,11])])
def aE.wA:List Nat:=[0,0,0,0,12,28,0,0,192,448,1020,2047,4095]
theorem aE.rT:gm .any (opsOf Tryz.f37 11) = aE.vR:=by kernel_rfl
theorem aE.pq:eT aE.vR.2 aE.wA = true:=by kernel_rfl
set_option maxHeartbeats 8000000 in
set_option maxRecDepth 100000 in
theorem aE.calls (k:Nat) (z:Int) (a8:Option Addr) (a9:Nat) (y:List Int) (r:List Int) (w:World) (bs:Kd.C (Kd.int .i64) w a8 y.length y) (bv:y.length≤a9) (h:aE.f k z y = some r) :
  Calls Tryz.prog 37 #[.agg #[.int .i64 z,.slice a8 y.length a9]] w fun e w'=>∃ e7:Value,e = .returned (e7)∧Kd.R (Kd.int .i64) 3 w' w.heap.size (fun _=>True) e7 r∧Below w.heap.size w w':=by
 have hj:=Tryz.underlying30
 have aa:=ae.mk bs
 have ab:=ae.mk bv
 clear bs bv
 have HB:=ae.mk (Below.refl w.heap.size w)
 unfold aE.f at h
 have H:=h
 clear h
 obtain ⟨a6,A2,H⟩:=af.be H
 (try dsimp only at H)
 by_cases c3:a6 < 0
 ·rw [if_pos c3] at H
  have e8:=decide_eq_true c3
  clear c3
  obtain ⟨ea,b2⟩:∃ y_:List Int,y_ = (([]:List Int)):=⟨_,rfl⟩
  replace H:(some ea) = some r:=by (try rw [b2]);exact af.Z
  have c0:=ae.mk b2
  clear b2
  obtain rfl:=Option.some.inj H
  go_enter Tryz.func37,Tryz.ntmps37
  go_wp2_with (first | ((with_reducible refine bh (N:=1) rfl ?_);refine af.bx 1 #[.int .i64 z,.slice a8 y.length a9] 30 ?_;intro aF hg w4 hbox hb;have j:=ae.mk hbox;have dk:=af.gw hg HB;have c1:=af.gw hg HB;replace HB:=af.lb HB hb;clear hb hbox hg;obtain ⟨fw,g0,g1,g2⟩:=af.bw j.out) | ((with_reducible refine aA (f:=47) rfl ?_);refine af.gl (some 10) Tryz.func47 #[.agg #[.int .i64 z,.slice a8 y.length a9]] ?_;(with_reducible refine (cm.calls k z _ _ y a6 _ ?side1 ?side2 A2.out).mono ?_);(case side1=>exact af.Cw (Kd.aT aa.out HB.out));(case side2=>exact ab.out);rintro e w6 ⟨rfl,hb⟩;refine ⟨_,rfl,?_⟩;replace j:=af.bb j hb;replace HB:=af.lb HB hb;(try clear hb);(try clear bm);(try clear hk);(try clear hi)) | (refine af.lt (Kd.int .i64) 3 13 ?_;intro hl w7 ca hb dl b3;clear dl b3;(first | rw [← c0.out] at ca | (simp only [Int.reduceToNat] at ca;rw [← c0.out] at ca));have dp:=ae.mk (Kd.aV ca (av (af.Lw HB.out)));replace j:=af.bb j hb;replace HB:=af.lb HB hb;clear hb ca))
  go_ret
  exact ⟨_,af.E,by (with_reducible repeat (first | apply Kd.cH | apply Kd.cI | apply Kd.bl));exact dp.out,af.L⟩
 ·rw [if_neg c3] at H
  have e8:decide (a6 < 0) = false:=decide_eq_false c3
  clear c3
  obtain ⟨aL,aB⟩:∃ j_:Int,(wrap64 (a6+1)) = j_:=⟨_,rfl⟩
  replace H:(if 0≤(aL) then (if (aL:Int).toNat≤35184372088832 then ((cG.f k z y).bind fun Y=>((bj.f k z y Y).bind fun a3=>(aE.l0 k a6 (List.replicate (aL:Int).toNat 0) Y a3 0 z y))) else (none)) else (none)) = some r:=by first | (rw [aB] at H;exact H) | (simp only [aB] at H ⊢;exact H)
  (try rw [aB] at A2)
  have g4:(IntKind.i64.wrap (a6+1)) = aL:=(aM _).trans aB
  obtain ⟨gX,H⟩:=af.ip H
  have g5:=eq_true gX
  have g6:decide (0≤(aL)) = true:=decide_eq_true gX
  clear gX
  obtain ⟨dq,H⟩:=af.ip H
  have g7:=eq_true dq
  have g8:decide ((aL:Int).toNat≤35184372088832) = true:=decide_eq_true dq
  clear dq
  obtain ⟨d5,b4⟩:∃ y_:List Int,y_ = (List.replicate (aL:Int).toNat 0):=⟨_,rfl⟩
  replace H:((cG.f k z y).bind fun Y=>((bj.f k z y Y).bind fun a3=>(aE.l0 k a6 d5 Y a3 0 z y))) = some r:=by (try rw [b4]);exact af.Z
  have cb:=ae.mk b4
  clear b4
  obtain ⟨Y,g9,H⟩:=af.be H
  (try dsimp only at H)
  obtain ⟨a3,gb,H⟩:=af.be H
  (try dsimp only at H)
  have H':=ae.mk H
  clear H
  go_enter Tryz.func37,Tryz.ntmps37
  go_wp2_with (first | ((with_reducible refine bh (N:=1) rfl ?_);refine af.bx 1 #[.int .i64 z,.slice a8 y.length a9] 30 ?_;intro aF hg hG hbox hb;have j:=ae.mk hbox;have dk:=af.gw hg HB;have c1:=af.gw hg HB;replace HB:=af.lb HB hb;clear hb hbox hg;obtain ⟨eb,ec,ed,ee⟩:=af.bw j.out) | ((with_reducible refine aA (f:=47) rfl ?_);refine af.gl (some 10) Tryz.func47 #[.agg #[.int .i64 z,.slice a8 y.length a9]] ?_;(with_reducible refine (cm.calls k z _ _ y a6 _ ?side1 ?side2 A2.out).mono ?_);(case side1=>exact af.Cw (Kd.aT aa.out HB.out));(case side2=>exact ab.out);rintro e hH ⟨rfl,hb⟩;refine ⟨_,rfl,?_⟩;replace j:=af.bb j hb;replace HB:=af.lb HB hb;(try clear hb);(try clear bm);(try clear hk);(try clear hi)) | ((with_reducible refine bh (N:=16) rfl ?_);refine Kd.lq (Kd.int .i64) _ 3 rfl (N:=16) rfl 28 _ _ rfl aL rfl rfl Tryz.underlying28 (.int .i64 0) 8 eI rfl (by decide) (by omega) 0 (ok:=fun _=>True) (okp:=fun _=>True) rfl (fun _ hk=>hk) trivial (af.D) (Nat.le_trans (Nat.mul_le_mul_right _ (af.D:aL.toNat≤35184372088832)) (by omega)) (Below.refl _ _) (Nat.le_refl _) ?_;intro cc hI aO hb dl b3;clear dl b3;(first | rw [← cb.out] at aO | (simp only [Int.reduceToNat] at aO;rw [← cb.out] at aO));have am:=ae.mk (Kd.aV aO (av (af.Lw HB.out)));replace j:=af.bb j hb;replace HB:=af.lb HB hb;clear hb aO;obtain ⟨ef,eh,ei,ej⟩:=af.bw j.out) | ((with_reducible refine aA (f:=108) rfl ?_);refine af.gl (some 18) Tryz.func108 #[.agg #[.int .i64 z,.slice a8 y.length a9]] ?_;(with_reducible refine (cG.calls k z _ _ y Y _ ?side1 ?side2 g9.out).mono ?_);(case side1=>exact af.Cw (Kd.aT aa.out HB.out));(case side2=>exact ab.out);rintro e hL ⟨hm,rfl,aP,hb⟩;refine ⟨_,rfl,?_⟩;have ao:=ae.mk (Kd.aV (Kd.br aP (Kd.cK (af.Rw am.out))) (av (af.Lw HB.out)));replace am:=ae.mk (Kd.aQ (af.Rw am.out) (Kd.bn aP) hb);replace j:=af.bb j hb;replace HB:=af.lb HB hb;(try clear hb);(try clear bm);(try clear hk);(try clear hi);(try clear aP);obtain ⟨el,em,eo,eq⟩:=af.bw j.out;obtain ⟨bc,bi,es⟩:=Kd.aK ao.out;subst es) | ((with_reducible refine aA (f:=107) rfl ?_);refine af.gl (some 21) Tryz.func107 #[.agg #[.int .i64 z,.slice a8 y.length a9],.slice bc Y.length bi] ?_;(with_reducible refine (bj.calls k z _ _ y _ _ Y a3 _ ?side1 ?side2 ?side3 ?side4 gb.out).mono ?_);(case side1=>exact af.Cw (Kd.aT aa.out HB.out));(case side2=>exact ab.out);(case side3=>exact af.Cw ((Kd.ah ao.out).2.2));(case side4=>exact (Kd.ah ao.out).2.1);rintro e hM ⟨ce,rfl,aP,hb⟩;refine ⟨_,rfl,?_⟩;have dt:=ae.mk (Kd.aV (Kd.br (Kd.br aP (Kd.cK (af.Rw am.out))) (Kd.cK (af.Rw ao.out))) (av (af.Lw HB.out)));replace am:=ae.mk (Kd.aQ (af.Rw am.out) (Kd.bn aP) hb);replace ao:=ae.mk (Kd.aQ (af.Rw ao.out) (Kd.bn aP) hb);replace j:=af.bb j hb;replace HB:=af.lb HB hb;(try clear hb);(try clear bm);(try clear hk);(try clear hi);(try clear aP)))
  go_loopg [7] k (fun kq v7 w'=>∃ (a7:List Int) (X:Int),v7 = .int .i64 X∧ae (aE.l0 kq a6 a7 Y a3 X z y = some r)∧ae (kq≤k)∧ae (Kd.R (Kd.int .i64) 3 w' w.heap.size (fun k_=>some k_≠((.slice bc Y.length bi):Value).ownBlock∧some k_≠(ce:Value).ownBlock) cc a7)∧ae (Kd.R (Kd.int .i64) 3 w' w.heap.size (fun k_=>some k_≠(cc:Value).ownBlock∧some k_≠(ce:Value).ownBlock) (.slice bc Y.length bi) Y)∧ae (Kd.R (Kd.int .i64) 3 w' w.heap.size (fun k_=>some k_≠(cc:Value).ownBlock∧some k_≠((.slice bc Y.length bi):Value).ownBlock) ce a3)∧ae (w'.heap[aF]? = some (.cells #[.int .i64 z,(.slice a8 y.length a9)] 30 (0,0)))∧ae (Below w.heap.size w w'))
  case atStart=>exact ⟨(d5),(0),af.F,H',⟨Nat.le_refl _⟩,⟨af.Rw (Kd.aC am.out (fun _ hk=>(by first | exact ⟨hk.1.2,hk.2⟩ | (simp_all;done))))⟩,⟨af.Rw (Kd.aC ao.out (fun _ hk=>(by first | exact ⟨hk.1.2,hk.2⟩ | (simp_all;done))))⟩,⟨af.Rw (Kd.aC dt.out (fun _ hk=>(by first | exact ⟨hk.1.2,hk.2⟩ | (simp_all;done))))⟩,⟨af.Bw j.out⟩,⟨af.Lw HB.out⟩⟩
  case round =>
   clear H'
   obtain ⟨a7,X,rfl,HA,et,a0,a5,a4,j,HB⟩:=hrel
   cases gk with
   | zero=>exact absurd HA.out (by simp [aE.l0])
   | succ k1 =>
    have H:=HA.out
    clear HA
    simp only [aE.l0] at H
    by_cases bo:X < (Y.length:Int)
    ·rw [if_pos bo] at H
     have du:=decide_eq_true bo
     clear bo
     obtain ⟨ap,dv,H⟩:=af.be H
     (try dsimp only at H)
     by_cases b5:ap = 0
     ·rw [if_pos b5] at H
      have dC:(ap == 0) = true:=beq_iff_eq.mpr b5
      have dE:(ap != 0) = false:=bne_eq_false_iff_eq.mpr b5
      clear b5
      obtain ⟨ev,H⟩:=af.ip H
      have gc:=decide_eq_true ev
      clear ev
      obtain ⟨cf,ew,H⟩:=af.be H
      (try dsimp only at H)
      obtain ⟨a1,ar⟩:∃ j_:Int,(wrap64 (a6 - cf)) = j_:=⟨_,rfl⟩
      replace H:(if 0≤(a1) then (if (a1) < (a7.length:Int) then (if X < (a3.length:Int) then (aE.l0 k1 a6 (a7.set ((a1):Int).toNat (wrap64 ((rd a7 (a1))+(rd a3 X)))) Y a3 (wrap64 (X+1)) z y) else (none)) else (none)) else (none)) = some r:=by first | (rw [ar] at H;exact H) | (simp only [ar] at H ⊢;exact H)
      (try rw [ar] at dv)
      (try rw [ar] at ew)
      have g3:(IntKind.i64.wrap (a6 - cf)) = a1:=(aM _).trans ar
      obtain ⟨ex,H⟩:=af.ip H
      have go:=decide_eq_true ex
      clear ex
      obtain ⟨eQ,H⟩:=af.ip H
      have gs:=decide_eq_true eQ
      clear eQ
      obtain ⟨f0,H⟩:=af.ip H
      have gt:=decide_eq_true f0
      clear f0
      obtain ⟨d6,ba⟩:∃ y_:List Int,y_ = (a7.set ((a1):Int).toNat (wrap64 ((rd a7 (a1))+(rd a3 X)))):=⟨_,rfl⟩
      replace H:(aE.l0 k1 a6 d6 Y a3 (wrap64 (X+1)) z y) = some r:=by (try rw [ba]);exact af.Z
      have dT:=ae.mk ba
      clear ba
      have H':=ae.mk H
      clear H
      obtain ⟨f1,f2,f3,f4⟩:=af.bw j.out
      try go_wp2_with (first | (go_at_call 70;(with_reducible refine (dh.calls k1 z _ _ y ap _ ?side1 ?side2 dv.out).mono ?_);(case side1=>exact af.Cw (Kd.aT aa.out HB.out));(case side2=>exact ab.out);rintro e h0 ⟨rfl,hb⟩;replace a0:=af.rb a0 hb;replace a5:=af.rb a5 hb;replace a4:=af.rb a4 hb;replace j:=af.bb j hb;replace HB:=af.lb HB hb;(try clear hb);(try clear bm);(try clear hk);(try clear hi)))
      replace a0:=ae.mk (Kd.bl a0.out)
      replace a5:=ae.mk (Kd.bl a5.out)
      replace a4:=ae.mk (Kd.bl a4.out)
      replace j:=ae.mk (cO j.out)
      replace HB:=ae.mk (cn HB.out)
      obtain ⟨e0,f5,aR,hn,ho⟩:=af.ai (Kd.ah a5.out).2.2 X
      cases f5
      refine eM (n:=9) (S:=fun w'=>w'.cell? ⟨aF,0,none⟩ = some (.int .i64 z)∧w'.cell? ⟨aF,1,none⟩ = some (.slice a8 y.length a9)∧w'.cell? (e0.add (X).toNat) = some (.int .i64 (rd Y X))) (ds:=[]) #[false,false,false,false,false,false,false,false,false] (by kernel_rfl) rfl rfl ⟨(ak j.out 0).trans rfl,(ak j.out 1).trans rfl,aR⟩ (fun hHeld=>?_);refine dc aE.n8 aE.lB (fun a2 ci=>?_)
      generalize h0.drew = hP at a0 a5 a4 j HB aR hHeld ⊢
      refine af.pu 0 33 a2 ?_
      refine af.pu 2 35 a2 ?_
      refine af.pu 3 36 a2 ?_
      refine af.pu 4 37 a2 ?_
      refine af.tk 1 34 a2 ci hHeld ?_
      refine af.tk 5 38 a2 ci hHeld ?_
      refine fN (i:=6) (N:=some 39) #[true,true,true,true,true,true,true,false,false] rfl rfl (da a2.out (by kernel_rfl)) (by decide) (fun K hK=>?_)
      refine fC Tryz.func109 (by kernel_rfl) rfl #[.agg #[.int .i64 z,.slice a8 y.length a9],.int .i64 (rd Y X)] (by rfl) rfl rfl (by (try simp only [List.map_toArray,List.map_cons,List.map_nil]);first | done | rfl) ?_
      with_reducible refine (bW.calls k1 z _ _ y (rd Y X) cf _ ?side1 ?side2 ew.out).mono ?_
      (case side1=>exact af.Cw (Kd.aT aa.out HB.out))
      (case side2=>exact ab.out)
      rintro e h6 ⟨rfl,hb⟩
      have f6:=(hb.cell (World.block_lt_of_cell? _ _ (hHeld.2.2))).trans (hHeld.2.2)
      refine ⟨_,rfl,?_⟩
      replace a0:=af.rb a0 hb
      replace a5:=af.rb a5 hb
      replace a4:=af.rb a4 hb
      replace j:=af.bb j hb
      replace HB:=af.lb HB hb
      (try clear hb)
      (try clear bm)
      (try clear hk)
      (try clear hi)
      refine hK.out _ _ ⟨(ak j.out 0).trans rfl,(ak j.out 1).trans rfl,f6⟩ (fun hHeld=>?_)
      clear hK K
      refine er (a':=?_) ?_ ?_
      rotate_left
      ·show Act.put _ (some 39) _ = _
       simp only [Act.put,List.setIfInBounds_toArray,List.set_cons_zero,List.set_cons_succ,aM,b8]
       rfl
      refine af.pu 7 40 a2 ?_
      refine af.pu 8 8 a2 ?_
      refine fO (dU a2.out (by kernel_rfl)) ?_
      try go_wp2
      replace a0:=ae.mk (Kd.bl a0.out)
      replace a5:=ae.mk (Kd.bl a5.out)
      replace a4:=ae.mk (Kd.bl a4.out)
      replace j:=ae.mk (cO j.out)
      replace HB:=ae.mk (cn HB.out)
      obtain ⟨hq,hr,d7⟩:=Kd.aK a0.out
      (first | subst d7 | (injection d7 with cp e1 d0;have e2:=cp.symm;have e3:=d0.symm;clear cp e1 d0;subst e2;subst e3))
      obtain ⟨h7,f7,aw,ht,hu⟩:=af.ai (Kd.ah a0.out).2.2 (a1)
      cases f7
      obtain ⟨hx,hz,d8⟩:=Kd.aK a4.out
      (first | subst d8 | (injection d8 with cp e1 d0;have e2:=cp.symm;have e3:=d0.symm;clear cp e1 d0;subst e2;subst e3))
      obtain ⟨e4,f8,aS,hA,hC⟩:=af.ai (Kd.ah a4.out).2.2 X
      cases f8
      have e5:0≤((a1):Int):=af.D
      have e6:((a1):Int) < ((a7.length:Int):Int):=af.D
      obtain ⟨b0,hD,d9,db,f9,hE,dd⟩:=Kd.jr a0.out (by omega)
      (first | cases d9 | (injection d9 with d2 h8 h9;(first | subst d2 | (injection d2 with d2;subst d2));subst h9;clear h8))
      have fd:=ae.mk db
      have fi:=ae.mk dd
      clear db f9 dd
      (first | simp only [add_plain] at aw | skip)
      obtain ⟨d3,d4⟩:=Kd.gA 0 a0.out ((a1):Int) e5 e6
      replace e5:=eq_true e5
      replace e6:=eq_true e6
      have d1:=Kd.pb a0.out ((a1):Int) (wrap64 ((rd a7 (a1))+(rd a3 X)))
      rw [← dT.out] at d1
      have df:=ae.mk d1
      clear d1
      refine eM (n:=13) (S:=fun w'=>w'.cell? ⟨b0,((a1)).toNat,none⟩ = some (.int .i64 (rd a7 (a1)))∧w'.cell? (e4.add (X).toNat) = some (.int .i64 (rd a3 X))) (ds:=[12]) #[false,false,false,false,false,false,false,false,false,false,false,false,false] (by kernel_rfl) rfl rfl ⟨aw,aS⟩ (fun hHeld=>?_);refine dc aE.rT aE.pq (fun a2 ci=>?_)
      generalize h6.drew = hR at a0 a5 a4 j HB fi df d4 d3 aw aS hHeld ⊢
      refine af.pu 0 41 a2 ?_
      refine af.pu 1 42 a2 ?_
      refine af.pu 2 43 a2 ?_
      refine af.pu 3 44 a2 ?_
      refine af.pu 4 45 a2 ?_
      refine af.pu 6 47 a2 ?_
      refine af.pu 7 48 a2 ?_
      refine af.pu 8 49 a2 ?_
      refine af.tk 5 46 a2 ci hHeld ?_
      refine af.tk 9 50 a2 ci hHeld ?_
      refine af.pu 10 51 a2 ?_
      refine af.pu 11 52 a2 ?_
      refine lJ (i:=12) (N:=none) #[true,true,true,true,true,true,true,true,true,true,true,true,true] rfl rfl (da a2.out (by kernel_rfl)) (by decide) (fun K hK=>?_)
      refine lK (w1:=?_) (by rfl) rfl ?_ ?_
      rotate_left
      ·go_simp
       rfl
      refine hK.out _ _ ?_
      clear hK K
      refine fO (dU a2.out (by kernel_rfl)) ?_
      try go_wp2
      go_roundg k1
      case measure=>have:=et.out;omega
      case rel=>exact ⟨(d6),(wrap64 (X+1)),af.F,H',⟨by have:=et.out;omega⟩,⟨af.Rw df.out⟩,⟨af.Rw (Kd.aC (Kd.bD (p:=⟨b0,((a1):Int).toNat,none⟩) (Kd.aC a5.out (fun k_ hk=>(⟨hk,fun e_=>hk.1 (by rw [e_];rfl)⟩:_∧k_≠b0))) (fun _ hk=>hk.2) (.int .i64 (wrap64 ((rd a7 (a1))+(rd a3 X))))) (fun _ hk=>(by first | exact ⟨hk.1.1,hk.1.2⟩ | (simp_all;done))))⟩,⟨af.Rw (Kd.aC (Kd.bD (p:=⟨b0,((a1):Int).toNat,none⟩) (Kd.aC a4.out (fun k_ hk=>(⟨hk,fun e_=>hk.1 (by rw [e_];rfl)⟩:_∧k_≠b0))) (fun _ hk=>hk.2) (.int .i64 (wrap64 ((rd a7 (a1))+(rd a3 X))))) (fun _ hk=>(by first | exact ⟨hk.1.1,hk.1.2⟩ | (simp_all;done))))⟩,⟨by (with_reducible repeat (first | refine hJ ?_ _ | refine cO ?_ | refine gx ?_ _));refine lU ?_ (by have h_:=Kd.fS a0.out j.out (by decide);intro e_;exact h_ (by rw [e_];rfl)) _;(with_reducible repeat (first | refine hJ ?_ _ | refine cO ?_ | refine gx ?_ _));exact j.out⟩,⟨by repeat (first | (with_reducible first | exact HB.out | apply dX | apply dY | apply cn | refine dP ?_ fd.out | refine dP ?_ c1.out) | exact HB.out)⟩⟩
     ·rw [if_neg b5] at H
      have dC:(ap == 0) = false:=beq_eq_false_iff_ne.mpr b5
      have dE:(ap != 0) = true:=bne_iff_ne.mpr b5
      obtain rfl:=Option.some.inj H
      obtain ⟨fj,fp,fs,ft⟩:=af.bw j.out
      go_wp2_with (first | (go_at_call 70;(with_reducible refine (dh.calls k1 z _ _ y ap _ ?side1 ?side2 dv.out).mono ?_);(case side1=>exact af.Cw (Kd.aT aa.out HB.out));(case side2=>exact ab.out);rintro e hT ⟨rfl,hb⟩;replace a0:=af.rb a0 hb;replace a5:=af.rb a5 hb;replace a4:=af.rb a4 hb;replace j:=af.bb j hb;replace HB:=af.lb HB hb;(try clear hb);(try clear bm);(try clear hk);(try clear hi)))
      go_ret
      exact ⟨_,by first | rfl | (simp [dK,dL] <;> rfl) | (simp only [← aB];first | rfl | (simp [dK,dL] <;> rfl)) | (simp [*,dK,dL] <;> rfl),by (with_reducible repeat (first | apply Kd.cH | apply Kd.cI | apply Kd.bl));exact Kd.aC a0.out (fun _ hk=>trivial),af.L⟩
    ·rw [if_neg bo] at H
     have du:decide (X < (Y.length:Int)) = false:=decide_eq_false bo
     clear bo
     obtain rfl:=Option.some.inj H
     go_wp2
     go_ret
     exact ⟨_,by first | rfl | (simp [dK,dL] <;> rfl) | (simp only [← aB];first | rfl | (simp [dK,dL] <;> rfl)) | (simp [*,dK,dL] <;> rfl),by (with_reducible repeat (first | apply Kd.cH | apply Kd.cI | apply Kd.bl));exact Kd.aC a0.out (fun _ hk=>trivial),af.L⟩
def bT.l0:Nat→List Int→Int→Int→Int→Option (Int)
 | 0,_,_,_,_=>none
 | k+1,y,z,X,j=>if j≥0 then (if 0≤j then (if j < (y.length:Int) then (bT.l0 k y z (wrap64 ((wrap64 (X * z))+(rd y j))) (wrap64 (j - 1))) else (none)) else (none)) else (some X)
def bT.f (k:Nat) (l0:List Int) (j:Int):Option (Int):=bT.l0 k l0 j 0 (wrap64 ((l0.length:Int) - 1))
set_option maxHeartbeats 8000000 in
set_option maxRecDepth 100000 in
theorem bT.calls (k:Nat) (A0:Option Addr) (c0:Nat) (l0:List Int) (a1:Int) (r:Int) (w:World) (z:Kd.C (Kd.int .i64) w A0 l0.length l0) (X:l0.length≤c0) (h:bT.f k l0 a1 = some r) :
  Calls Tryz.prog 38 #[.slice A0 l0.length c0,.int .i64 a1] w fun e w'=>e = .returned (.int .i64 r)∧cS w w':=by
 have a4:=ae.mk z
 have aa:=ae.mk X
 clear z X
 unfold bT.f at h
 have H:=h
 clear h
 have H':=ae.mk H
 clear H
 go_enter Tryz.func38,Tryz.ntmps38
 go_wp2
 go_loopg [5,6] k (fun kq v5 v6 w'=>∃ (y:Int) (j:Int),v5 = .int .i64 y∧v6 = .int .i64 j∧ae (bT.l0 kq l0 a1 y j = some r)∧ae (kq≤k)∧cS w w')
 case atStart=>exact ⟨(0),(wrap64 ((l0.length:Int) - 1)),af.F,af.F,H',⟨Nat.le_refl _⟩,af.G⟩
 case round =>
  clear H'
  obtain ⟨y,j,rfl,rfl,HA,Y,⟨m1,rfl⟩⟩:=hrel
  cases gk with
  | zero=>exact absurd HA.out (by simp [bT.l0])
  | succ k1 =>
   have H:=HA.out
   clear HA
   simp only [bT.l0] at H
   by_cases c3:j≥0
   ·rw [if_pos c3] at H
    have a0:=decide_eq_true c3
    clear c3
    obtain ⟨c4,H⟩:=af.ip H
    have a6:=decide_eq_true c4
    clear c4
    obtain ⟨c5,H⟩:=af.ip H
    have a7:=decide_eq_true c5
    clear c5
    have H':=ae.mk H
    clear H
    obtain ⟨a5,a2,a3,a8,a9⟩:=af.ai a4.out j
    cases a2
    go_wp2
    go_roundg k1
    case measure=>have:=Y.out;omega
    case rel=>exact ⟨(wrap64 ((wrap64 (y * a1))+(rd l0 j))),(wrap64 (j - 1)),af.F,af.F,H',⟨by have:=Y.out;omega⟩,af.G⟩
   ·rw [if_neg c3] at H
    have a0:decide (0≤j) = false:=decide_eq_false c3
    clear c3
    obtain rfl:=Option.some.inj H
    go_wp2
    go_ret
    exact ⟨af.F,af.G⟩
def cD.l0:Nat→List Int→Int→Int→Int→Option (Int)
 | 0,_,_,_,_=>none
 | k+1,y,z,X,j=>if j≥0 then (if 0≤j then (if j < (y.length:Int) then (cD.l0 k y z (wrap64 ((wrap64 (X * z))+(rd y j))) (wrap64 (j - 1))) else (none)) else (none)) else (some X)
def cD.f (k:Nat) (l0:List Int) (j:Int):Option (Int):=cD.l0 k l0 j 0 (wrap64 ((l0.length:Int) - 1))
set_option maxHeartbeats 8000000 in
set_option maxRecDepth 100000 in
theorem cD.calls (k:Nat) (A0:Option Addr) (c0:Nat) (l0:List Int) (a1:Int) (r:Int) (w:World) (z:Kd.C (Kd.int .i64) w A0 l0.length l0) (X:l0.length≤c0) (h:cD.f k l0 a1 = some r) :
  Calls Tryz.prog 39 #[.slice A0 l0.length c0,.int .i64 a1] w fun e w'=>e = .returned (.int .i64 r)∧cS w w':=by
 have a4:=ae.mk z
 have aa:=ae.mk X
 clear z X
 unfold cD.f at h
 have H:=h
 clear h
 have H':=ae.mk H
 clear H
 go_enter Tryz.func39,Tryz.ntmps39
 go_wp2
 go_loopg [5,6] k (fun kq v5 v6 w'=>∃ (y:Int) (j:Int),v5 = .int .i64 y∧v6 = .int .i64 j∧ae (cD.l0 kq l0 a1 y j = some r)∧ae (kq≤k)∧cS w w')
 case atStart=>exact ⟨(0),(wrap64 ((l0.length:Int) - 1)),af.F,af.F,H',⟨Nat.le_refl _⟩,af.G⟩
 case round =>
  clear H'
  obtain ⟨y,j,rfl,rfl,HA,Y,⟨m1,rfl⟩⟩:=hrel
  cases gk with
  | zero=>exact absurd HA.out (by simp [cD.l0])
  | succ k1 =>
   have H:=HA.out
   clear HA
   simp only [cD.l0] at H
   by_cases c3:j≥0
   ·rw [if_pos c3] at H
    have a0:=decide_eq_true c3
    clear c3
    obtain ⟨c4,H⟩:=af.ip H
    have a6:=decide_eq_true c4
    clear c4
    obtain ⟨c5,H⟩:=af.ip H
    have a7:=decide_eq_true c5
    clear c5
    have H':=ae.mk H
    clear H
    obtain ⟨a5,a2,a3,a8,a9⟩:=af.ai a4.out j
    cases a2
    go_wp2
    go_roundg k1
    case measure=>have:=Y.out;omega
    case rel=>exact ⟨(wrap64 ((wrap64 (y * a1))+(rd l0 j))),(wrap64 (j - 1)),af.F,af.F,H',⟨by have:=Y.out;omega⟩,af.G⟩
   ·rw [if_neg c3] at H
    have a0:decide (0≤j) = false:=decide_eq_false c3
    clear c3
    obtain rfl:=Option.some.inj H
    go_wp2
    go_ret
    exact ⟨af.F,af.G⟩
def bg.l0:Nat→Int→List Int→List Int→Int→Int→List Int→Option (List Int)
 | 0,_,_,_,_,_,_=>none
 | k+1,x1,x5,X,z,j,y=>if z < (X.length:Int) then (if 0≤z then ((bW.f k j y (rd X z)).bind fun Y=>(if Y = x1 then (if x5.length < 17592186044416 then (bg.l0 k x1 (x5 ++ [rd X z]) X (wrap64 (z+1)) j y) else (none)) else (bg.l0 k x1 x5 X (wrap64 (z+1)) j y))) else (none)) else (some x5)
def bg.f (k:Nat) (j:Int) (y:List Int) (X:Int):Option (List Int):=(cL.f k j y).bind fun z=>(bg.l0 k X (([]:List Int)) z 0 j y)
def bg.T6:Bool×List (List Nat×List Nat):=(true,[([],[]),([],[]),([],[]),([1,2],[1,2]),([3],[3]),([0,4],[0,4]),([],[]),([5,6],[5,6])])
def bg.B6:List Nat:=[0,0,0,6,14,31,0,127]
theorem bg.lS:gm .any (opsOf Tryz.f110 6) = bg.T6:=by kernel_rfl
theorem bg.jA:eT bg.T6.2 bg.B6 = true:=by kernel_rfl
set_option maxHeartbeats 8000000 in
set_option maxRecDepth 100000 in
theorem bg.calls (k:Nat) (a0:Int) (a5:Option Addr) (a6:Nat) (X:List Int) (a1:Int) (r:List Int) (w:World) (aB:Kd.C (Kd.int .i64) w a5 X.length X) (aF:X.length≤a6) (h:bg.f k a0 X a1 = some r) :
  Calls Tryz.prog 110 #[.agg #[.int .i64 a0,.slice a5 X.length a6],.int .i64 a1] w fun e w'=>∃ c1:Value,e = .returned (c1)∧Kd.R (Kd.int .i64) 3 w' w.heap.size (fun _=>True) c1 r∧Below w.heap.size w w':=by
 have dt:=Tryz.underlying30
 have am:=ae.mk aB
 have ao:=ae.mk aF
 clear aB aF
 have HB:=ae.mk (Below.refl w.heap.size w)
 unfold bg.f at h
 have H:=h
 clear h
 obtain ⟨b2,ap⟩:∃ y_:List Int,y_ = (([]:List Int)):=⟨_,rfl⟩
 replace H:((cL.f k a0 X).bind fun Y=>(bg.l0 k a1 b2 Y 0 a0 X)) = some r:=by (try rw [ap]);exact af.Z
 have aL:=ae.mk ap
 clear ap
 obtain ⟨Y,A3,H⟩:=af.be H
 (try dsimp only at H)
 have H':=ae.mk H
 clear H
 go_enter Tryz.func110,Tryz.ntmps110
 go_wp2_with (first | (refine af.bx 2 #[.int .i64 a0,.slice a5 X.length a6] 30 ?_;intro a7 hg w4 hbox hb;have j:=ae.mk hbox;have dk:=af.gw hg HB;have dl:=af.gw hg HB;replace HB:=af.lb HB hb;clear hb hbox hg) | (refine af.lt (Kd.int .i64) 3 8 ?_;intro du w5 aO hb dp b5;clear dp b5;(first | rw [← aL.out] at aO | (simp only [Int.reduceToNat] at aO;rw [← aL.out] at aO));have ab:=ae.mk (Kd.aV aO (av (af.Lw HB.out)));replace j:=af.bb j hb;replace HB:=af.lb HB hb;clear hb aO;obtain ⟨d9,db,dd,df⟩:=af.bw j.out) | (refine af.gl (some 10) Tryz.func43 #[.agg #[.int .i64 a0,.slice a5 X.length a6]] ?_;(with_reducible refine (cL.calls k a0 _ _ X Y _ ?side1 ?side2 A3.out).mono ?_);(case side1=>exact af.Cw (Kd.aT am.out HB.out));(case side2=>exact ao.out);rintro e w8 ⟨b3,rfl,ba,hb⟩;refine ⟨_,rfl,?_⟩;have bc:=ae.mk (Kd.aV (Kd.br ba (Kd.cK (af.Rw ab.out))) (av (af.Lw HB.out)));replace ab:=ae.mk (Kd.aQ (af.Rw ab.out) (Kd.bn ba) hb);replace j:=af.bb j hb;replace HB:=af.lb HB hb;(try clear hb);(try clear ca);(try clear hk);(try clear hi);(try clear ba)))
 go_loopg [5,7] k (fun kq v5 v7 w'=>∃ (aa:List Int) (y:Int),v7 = .int .i64 y∧ae (bg.l0 kq a1 aa Y y a0 X = some r)∧ae (kq≤k)∧ae (Kd.R (Kd.int .i64) 3 w' w.heap.size (fun k_=>some k_≠(b3:Value).ownBlock) v5 aa)∧ae (Kd.R (Kd.int .i64) 3 w' w.heap.size (fun k_=>some k_≠(v5:Value).ownBlock) b3 Y)∧ae (w'.heap[a7]? = some (.cells #[.int .i64 a0,(.slice a5 X.length a6)] 30 (0,0)))∧ae (Below w.heap.size w w'))
 case atStart=>exact ⟨(b2),(0),af.F,H',⟨Nat.le_refl _⟩,⟨af.Rw (Kd.aC ab.out (fun _ hk=>hk.2))⟩,⟨af.Rw (Kd.aC bc.out (fun _ hk=>hk.2))⟩,⟨af.Bw j.out⟩,⟨af.Lw HB.out⟩⟩
 case round =>
  clear H'
  obtain ⟨aa,y,rfl,HA,b0,a2,z,j,HB⟩:=hrel
  cases gk with
  | zero=>exact absurd HA.out (by simp [bg.l0])
  | succ k1 =>
   have H:=HA.out
   clear HA
   simp only [bg.l0] at H
   by_cases c9:y < (Y.length:Int)
   ·rw [if_pos c9] at H
    have cb:=decide_eq_true c9
    clear c9
    obtain ⟨gX,H⟩:=af.ip H
    have dq:=decide_eq_true gX
    clear gX
    obtain ⟨a8,cc,H⟩:=af.be H
    (try dsimp only at H)
    by_cases ar:a8 = a1
    ·rw [if_pos ar] at H
     have bi:(a8 == a1) = true:=beq_iff_eq.mpr ar
     have bm:(a8 != a1) = false:=bne_eq_false_iff_eq.mpr ar
     clear ar
     obtain ⟨ce,H⟩:=af.ip H
     have bo:=ae.mk ce
     clear ce
     obtain ⟨b4,aw⟩:∃ y_:List Int,y_ = (aa ++ [rd Y y]):=⟨_,rfl⟩
     replace H:(bg.l0 k1 a1 b4 Y (wrap64 (y+1)) a0 X) = some r:=by (try rw [aw]);exact af.Z
     have bs:=ae.mk aw
     clear aw
     have H':=ae.mk H
     clear H
     obtain ⟨dv,cf,ci⟩:=Kd.aK z.out
     subst ci
     try go_wp2
     replace a2:=ae.mk (Kd.bl a2.out)
     replace z:=ae.mk (Kd.bl z.out)
     replace j:=ae.mk (cO j.out)
     replace HB:=ae.mk (cn HB.out)
     obtain ⟨a9,aP,a4,cp,d0⟩:=af.ai (Kd.ah z.out).2.2 y
     cases aP
     refine eM (n:=8) (S:=fun w'=>w'.cell? ⟨a7,0,none⟩ = some (.int .i64 a0)∧w'.cell? ⟨a7,1,none⟩ = some (.slice a5 X.length a6)∧w'.cell? (a9.add (y).toNat) = some (.int .i64 (rd Y y))) (ds:=[]) #[false,false,false,false,false,false,false,false] (by kernel_rfl) rfl rfl ⟨(ak j.out 0).trans rfl,(ak j.out 1).trans rfl,a4⟩ (fun hHeld=>?_);refine dc bg.lS bg.jA (fun a3 aR=>?_)
     generalize wr.drew = e4 at a2 z j HB a4 hHeld ⊢
     refine af.pu 1 18 a3 ?_
     refine af.pu 2 19 a3 ?_
     refine af.pu 3 20 a3 ?_
     refine af.pu 6 23 a3 ?_
     refine af.tk 0 17 a3 aR hHeld ?_
     refine af.tk 4 21 a3 aR hHeld ?_
     refine fN (i:=5) (N:=some 22) #[true,true,true,true,true,true,true,false] rfl rfl (da a3.out (by kernel_rfl)) (by decide) (fun K hK=>?_)
     refine fC Tryz.func109 (by kernel_rfl) rfl #[.agg #[.int .i64 a0,.slice a5 X.length a6],.int .i64 (rd Y y)] (by rfl) rfl rfl (by (try simp only [List.map_toArray,List.map_cons,List.map_nil]);first | done | rfl) ?_
     with_reducible refine (bW.calls k1 a0 _ _ X (rd Y y) a8 _ ?side1 ?side2 cc.out).mono ?_
     (case side1=>exact af.Cw (Kd.aT am.out HB.out))
     (case side2=>exact ao.out)
     rintro e e5 ⟨rfl,hb⟩
     have aS:=(hb.cell (World.block_lt_of_cell? _ _ (hHeld.2.2))).trans (hHeld.2.2)
     refine ⟨_,rfl,?_⟩
     replace a2:=af.rb a2 hb
     replace z:=af.rb z hb
     replace j:=af.bb j hb
     replace HB:=af.lb HB hb
     (try clear hb)
     (try clear ca)
     (try clear hk)
     (try clear hi)
     refine hK.out _ _ ⟨(ak j.out 0).trans rfl,(ak j.out 1).trans rfl,aS⟩ (fun hHeld=>?_)
     clear hK K
     refine er (a':=?_) ?_ ?_
     rotate_left
     ·show Act.put _ (some 22) _ = _
      simp only [Act.put,List.setIfInBounds_toArray,List.set_cons_zero,List.set_cons_succ,aM,b8]
      rfl
     refine af.pu 7 24 a3 ?_
     refine fO (dU a3.out (by kernel_rfl)) ?_
     obtain ⟨bv,d1,d2,dC,dE⟩:=af.ai (Kd.ah z.out).2.2 y
     obtain rfl:a9 = bv:=(by injection d1)
     try go_wp2_with (first | ((with_reducible refine cP (b:=.append) (xs:=#[.tmp 25,.tmp 30]) rfl ?_);at_builtin;refine Kd.eE (Kd.int .i64) (w0:=w) w.heap.size rfl (.tmp 25) (.tmp 30) 28 3 (.int .i64 0) 8 rfl Tryz.underlying28 eI rfl (by decide) (by omega) u5 aa (rd Y y) [.int .i64 (rd Y y)] (fun k_=>some k_≠(.slice (some a9) Y.length cf:Value).ownBlock) (fun _=>False) rfl rfl (by exact rfl) (fun _ hk=>hk.elim) (by exact fun k_ hk=>Kd.fresh' (Kd.cK (af.Rw z.out)) k_ hk) (by exact af.Rw a2.out) (by exact af.Lw HB.out) (by exact av (af.Lw HB.out)) (by have:=bo.out;omega) ?_;intro dT e6 ho hb hg hat;rw [← bs.out] at ho;have d3:=ae.mk (Kd.dO (ok:=(fun _=>True)) (af.Rw (Kd.aC z.out (fun _ hk=>⟨trivial,hk⟩))) hg hat);have d4:=ae.mk (dJ (g:=a7) (o:=.cells #[.int .i64 a0,.slice a5 X.length a6] 30 (0,0)) (af.Bw j.out) hg (Kd.fS a2.out j.out (by decide)));have d5:=ae.mk hb;have d6:=ae.mk ho;clear z;clear j;clear HB;clear a2;have z:=d3;have j:=d4;have HB:=d5;have c0:=d6;clear d3 d4 d5 d6;clear ho hb hg hat))
     go_roundg k1
     case measure=>have:=b0.out;omega
     case rel=>exact ⟨(b4),(wrap64 (y+1)),af.F,H',⟨by have:=b0.out;omega⟩,⟨af.Rw c0.out⟩,⟨af.Rw (Kd.aC z.out (fun _ hk=>hk.2))⟩,⟨af.Bw j.out⟩,⟨af.Lw HB.out⟩⟩
    ·rw [if_neg ar] at H
     have bi:(a8 == a1) = false:=beq_eq_false_iff_ne.mpr ar
     have bm:(a8 != a1) = true:=bne_iff_ne.mpr ar
     have H':=ae.mk H
     clear H
     obtain ⟨e0,e1,d7⟩:=Kd.aK z.out
     subst d7
     try go_wp2
     replace a2:=ae.mk (Kd.bl a2.out)
     replace z:=ae.mk (Kd.bl z.out)
     replace j:=ae.mk (cO j.out)
     replace HB:=ae.mk (cn HB.out)
     obtain ⟨a9,aP,a4,cp,d0⟩:=af.ai (Kd.ah z.out).2.2 y
     cases aP
     refine eM (n:=8) (S:=fun w'=>w'.cell? ⟨a7,0,none⟩ = some (.int .i64 a0)∧w'.cell? ⟨a7,1,none⟩ = some (.slice a5 X.length a6)∧w'.cell? (a9.add (y).toNat) = some (.int .i64 (rd Y y))) (ds:=[]) #[false,false,false,false,false,false,false,false] (by kernel_rfl) rfl rfl ⟨(ak j.out 0).trans rfl,(ak j.out 1).trans rfl,a4⟩ (fun hHeld=>?_);refine dc bg.lS bg.jA (fun a3 aR=>?_)
     generalize wr.drew = e7 at a2 z j HB a4 hHeld ⊢
     refine af.pu 1 18 a3 ?_
     refine af.pu 2 19 a3 ?_
     refine af.pu 3 20 a3 ?_
     refine af.pu 6 23 a3 ?_
     refine af.tk 0 17 a3 aR hHeld ?_
     refine af.tk 4 21 a3 aR hHeld ?_
     refine fN (i:=5) (N:=some 22) #[true,true,true,true,true,true,true,false] rfl rfl (da a3.out (by kernel_rfl)) (by decide) (fun K hK=>?_)
     refine fC Tryz.func109 (by kernel_rfl) rfl #[.agg #[.int .i64 a0,.slice a5 X.length a6],.int .i64 (rd Y y)] (by rfl) rfl rfl (by (try simp only [List.map_toArray,List.map_cons,List.map_nil]);first | done | rfl) ?_
     with_reducible refine (bW.calls k1 a0 _ _ X (rd Y y) a8 _ ?side1 ?side2 cc.out).mono ?_
     (case side1=>exact af.Cw (Kd.aT am.out HB.out))
     (case side2=>exact ao.out)
     rintro e e8 ⟨rfl,hb⟩
     have aS:=(hb.cell (World.block_lt_of_cell? _ _ (hHeld.2.2))).trans (hHeld.2.2)
     refine ⟨_,rfl,?_⟩
     replace a2:=af.rb a2 hb
     replace z:=af.rb z hb
     replace j:=af.bb j hb
     replace HB:=af.lb HB hb
     (try clear hb)
     (try clear ca)
     (try clear hk)
     (try clear hi)
     refine hK.out _ _ ⟨(ak j.out 0).trans rfl,(ak j.out 1).trans rfl,aS⟩ (fun hHeld=>?_)
     clear hK K
     refine er (a':=?_) ?_ ?_
     rotate_left
     ·show Act.put _ (some 22) _ = _
      simp only [Act.put,List.setIfInBounds_toArray,List.set_cons_zero,List.set_cons_succ,aM,b8]
      rfl
     refine af.pu 7 24 a3 ?_
     refine fO (dU a3.out (by kernel_rfl)) ?_
     try go_wp2
     go_roundg k1
     case measure=>have:=b0.out;omega
     case rel=>exact ⟨(aa),(wrap64 (y+1)),af.F,H',⟨by have:=b0.out;omega⟩,⟨af.Rw a2.out⟩,⟨af.Rw z.out⟩,⟨af.Bw j.out⟩,⟨af.Lw HB.out⟩⟩
   ·rw [if_neg c9] at H
    have cb:decide (y < (Y.length:Int)) = false:=decide_eq_false c9
    clear c9
    obtain rfl:=Option.some.inj H
    obtain ⟨e2,e3,d8⟩:=Kd.aK z.out
    subst d8
    go_wp2
    go_ret
    exact ⟨_,af.E,by (with_reducible repeat (first | apply Kd.cH | apply Kd.cI | apply Kd.bl));exact Kd.aC a2.out (fun _ hk=>trivial),af.L⟩
def bF.l0:Nat→List Int→Int→Int→Int→List Int→Option (List Int)
 | 0,_,_,_,_,_=>none
 | k+1,X,x4,Y,j,y=>if Y≤x4 then ((bg.f k j y Y).bind fun z=>(if X.length < 17592186044416 then (bF.l0 k (X ++ [(z.length:Int)]) x4 (wrap64 (Y+1)) j y) else (none))) else (some X)
def bF.f (k:Nat) (j:Int) (y:List Int):Option (List Int):=(cm.f k j y).bind fun z=>(bF.l0 k (([]:List Int)) z 0 j y)
set_option maxHeartbeats 8000000 in
set_option maxRecDepth 100000 in
theorem bF.calls (k:Nat) (z:Int) (Y:Option Addr) (a0:Nat) (y:List Int) (r:List Int) (w:World) (a9:Kd.C (Kd.int .i64) w Y y.length y) (aa:y.length≤a0) (h:bF.f k z y = some r) :
  Calls Tryz.prog 40 #[.agg #[.int .i64 z,.slice Y y.length a0]] w fun e w'=>∃ aS:Value,e = .returned (aS)∧Kd.R (Kd.int .i64) 3 w' w.heap.size (fun _=>True) aS r∧Below w.heap.size w w':=by
 have d0:=Tryz.underlying30
 have ab:=ae.mk a9
 have am:=ae.mk aa
 clear a9 aa
 have HB:=ae.mk (Below.refl w.heap.size w)
 unfold bF.f at h
 have H:=h
 clear h
 obtain ⟨aw,a6⟩:∃ y_:List Int,y_ = (([]:List Int)):=⟨_,rfl⟩
 replace H:((cm.f k z y).bind fun a1=>(bF.l0 k aw a1 0 z y)) = some r:=by (try rw [a6]);exact af.Z
 have ao:=ae.mk a6
 clear a6
 obtain ⟨a1,A2,H⟩:=af.be H
 (try dsimp only at H)
 have H':=ae.mk H
 clear H
 go_enter Tryz.func40,Tryz.ntmps40
 go_wp2_with (first | (refine af.bx 1 #[.int .i64 z,.slice Y y.length a0] 30 ?_;intro ap hg w3 hbox hb;have j:=ae.mk hbox;have ce:=af.gw hg HB;have cf:=af.gw hg HB;replace HB:=af.lb HB hb;clear hb hbox hg) | (refine af.lt (Kd.int .i64) 3 6 ?_;intro d1 w4 ar hb ci aF;clear ci aF;(first | rw [← ao.out] at ar | (simp only [Int.reduceToNat] at ar;rw [← ao.out] at ar));have a7:=ae.mk (Kd.aV ar (av (af.Lw HB.out)));replace j:=af.bb j hb;replace HB:=af.lb HB hb;clear hb ar;obtain ⟨c1,ca,cb,cc⟩:=af.bw j.out) | (refine af.gl (some 8) Tryz.func47 #[.agg #[.int .i64 z,.slice Y y.length a0]] ?_;(with_reducible refine (cm.calls k z _ _ y a1 _ ?side1 ?side2 A2.out).mono ?_);(case side1=>exact af.Cw (Kd.aT ab.out HB.out));(case side2=>exact am.out);rintro e w7 ⟨rfl,hb⟩;refine ⟨_,rfl,?_⟩;replace a7:=af.rb a7 hb;replace j:=af.bb j hb;replace HB:=af.lb HB hb;(try clear hb);(try clear cp);(try clear hk);(try clear hi)))
 go_loopg [3,5] k (fun kq v3 v5 w'=>∃ (a4:List Int) (X:Int),v5 = .int .i64 X∧ae (bF.l0 kq a4 a1 X z y = some r)∧ae (kq≤k)∧ae (Kd.R (Kd.int .i64) 3 w' w.heap.size (fun _=>True) v3 a4)∧ae (w'.heap[ap]? = some (.cells #[.int .i64 z,(.slice Y y.length a0)] 30 (0,0)))∧ae (Below w.heap.size w w'))
 case atStart=>exact ⟨(aw),(0),af.F,H',⟨Nat.le_refl _⟩,⟨af.Rw a7.out⟩,⟨af.Bw j.out⟩,⟨af.Lw HB.out⟩⟩
 case round =>
  clear H'
  obtain ⟨a4,X,rfl,HA,b0,a2,j,HB⟩:=hrel
  cases gk with
  | zero=>exact absurd HA.out (by simp [bF.l0])
  | succ k1 =>
   have H:=HA.out
   clear HA
   simp only [bF.l0] at H
   by_cases c8:X≤a1
   ·rw [if_pos c8] at H
    have b2:=decide_eq_true c8
    clear c8
    obtain ⟨a5,A9,H⟩:=af.be H
    (try dsimp only at H)
    obtain ⟨gX,H⟩:=af.ip H
    have aL:=ae.mk gX
    clear gX
    obtain ⟨aB,a8⟩:∃ y_:List Int,y_ = (a4 ++ [(a5.length:Int)]):=⟨_,rfl⟩
    replace H:(bF.l0 k1 aB a1 (wrap64 (X+1)) z y) = some r:=by (try rw [a8]);exact af.Z
    have aO:=ae.mk a8
    clear a8
    have H':=ae.mk H
    clear H
    obtain ⟨b3,b4,b5,ba⟩:=af.bw j.out
    go_wp2_with (first | (refine af.gl (some 17) Tryz.func110 #[.agg #[.int .i64 z,.slice Y y.length a0],.int .i64 X] ?_;(with_reducible refine (bg.calls k1 z _ _ y X a5 _ ?side1 ?side2 A9.out).mono ?_);(case side1=>exact af.Cw (Kd.aT ab.out HB.out));(case side2=>exact am.out);rintro e d4 ⟨d2,rfl,aP,hb⟩;refine ⟨_,rfl,?_⟩;have a3:=ae.mk (Kd.aV (Kd.br aP (Kd.cK (af.Rw a2.out))) (av (af.Lw HB.out)));replace a2:=ae.mk (Kd.aQ (af.Rw a2.out) (Kd.bn aP) hb);replace j:=af.bb j hb;replace HB:=af.lb HB hb;(try clear hb);(try clear cp);(try clear hk);(try clear hi);(try clear aP);obtain ⟨bc,bi,bm⟩:=Kd.aK a3.out;subst bm) | ((with_reducible refine cP (b:=.append) (xs:=#[.tmp 14,.tmp 19]) rfl ?_);at_builtin;refine Kd.eE (Kd.int .i64) (w0:=w) w.heap.size rfl (.tmp 14) (.tmp 19) 28 3 (.int .i64 0) 8 rfl Tryz.underlying28 eI rfl (by decide) (by omega) u3 a4 (a5.length:Int) [.int .i64 (a5.length:Int)] (fun k_=>some k_≠(.slice bc a5.length bi:Value).ownBlock) (fun _=>False) rfl rfl (by exact rfl) (fun _ hk=>hk.elim) (by exact fun k_ hk=>Kd.fresh' (Kd.cK (af.Rw a3.out)) k_ hk) (by exact af.Rw (Kd.aC a2.out (fun _ hk=>hk.2))) (by exact af.Lw HB.out) (by exact av (af.Lw HB.out)) (by have:=aL.out;omega) ?_;intro d3 d5 ho hb hg hat;rw [← aO.out] at ho;have bo:=ae.mk (dJ (g:=ap) (o:=.cells #[.int .i64 z,.slice Y y.length a0] 30 (0,0)) (af.Bw j.out) hg (Kd.fS a2.out j.out (by decide)));have bs:=ae.mk (Kd.dO (ok:=(fun _=>True)) (af.Rw a3.out) hg hat);have bv:=ae.mk hb;have c0:=ae.mk ho;clear j;clear a3;clear HB;clear a2;have j:=bo;have a3:=bs;have HB:=bv;have aR:=c0;clear bo bs bv c0;clear ho hb hg hat))
    go_roundg k1
    case measure=>have:=b0.out;omega
    case rel=>exact ⟨(aB),(wrap64 (X+1)),af.F,H',⟨by have:=b0.out;omega⟩,⟨af.Rw (Kd.aC aR.out (fun _ hk=>trivial))⟩,⟨af.Bw j.out⟩,⟨af.Lw HB.out⟩⟩
   ·rw [if_neg c8] at H
    have b2:decide (X≤a1) = false:=decide_eq_false c8
    clear c8
    obtain rfl:=Option.some.inj H
    go_wp2
    go_ret
    exact ⟨_,af.E,by (with_reducible repeat (first | apply Kd.cH | apply Kd.cI | apply Kd.bl));exact a2.out,af.L⟩
def fa.f (k:Nat) (y:Int) (z:List Int) (a1:Int) (a2:Int):Option (Bool):=(cL.f k y z).bind fun j=>((aI.f k j a1).bind fun X=>(if X = true then ((aI.f k j a2).bind fun Y=>(some Y)) else (some false)))
set_option maxHeartbeats 8000000 in
set_option maxRecDepth 100000 in
theorem fa.calls (k:Nat) (X:Int) (a0:Option Addr) (a3:Nat) (y:List Int) (a1:Int) (a2:Int) (r:Bool) (w:World) (a4:Kd.C (Kd.int .i64) w a0 y.length y) (a5:y.length≤a3) (h:fa.f k X y a1 a2 = some r) :
  Calls Tryz.prog 111 #[.agg #[.int .i64 X,.slice a0 y.length a3],.int .i64 a1,.int .i64 a2] w fun e w'=>e = .returned (.bool r)∧Below w.heap.size w w':=by
 have bc:=Tryz.underlying30
 have a6:=ae.mk a4
 have a7:=ae.mk a5
 clear a4 a5
 have HB:=ae.mk (Below.refl w.heap.size w)
 unfold fa.f at h
 have H:=h
 clear h
 obtain ⟨Y,A4,H⟩:=af.be H
 (try dsimp only at H)
 obtain ⟨ao,A5,H⟩:=af.be H
 (try dsimp only at H)
 by_cases c6:ao = true
 ·subst c6
  replace H:((aI.f k Y a2).bind fun a8=>(some a8)) = some r:=by rw [if_pos rfl] at H;exact H
  obtain ⟨a8,A7,H⟩:=af.be H
  (try dsimp only at H)
  obtain rfl:=Option.some.inj H
  go_enter Tryz.func111,Tryz.ntmps111
  go_wp2_with (first | ((with_reducible refine bh (N:=3) rfl ?_);refine af.bx 3 #[.int .i64 X,.slice a0 y.length a3] 30 ?_;intro aa hg w8 hbox hb;have z:=ae.mk hbox;have ab:=af.gw hg HB;have am:=af.gw hg HB;replace HB:=af.lb HB hb;clear hb hbox hg;obtain ⟨b2,b3,b4,b5⟩:=af.bw z.out) | ((with_reducible refine aA (f:=43) rfl ?_);refine af.gl (some 9) Tryz.func43 #[.agg #[.int .i64 X,.slice a0 y.length a3]] ?_;(with_reducible refine (cL.calls k X _ _ y Y _ ?side1 ?side2 A4.out).mono ?_);(case side1=>exact af.Cw (Kd.aT a6.out HB.out));(case side2=>exact a7.out);rintro e bi ⟨ap,rfl,a9,hb⟩;refine ⟨_,rfl,?_⟩;have j:=ae.mk (Kd.aV a9 (av (af.Lw HB.out)));replace z:=af.bb z hb;replace HB:=af.lb HB hb;(try clear hb);(try clear ba);(try clear hk);(try clear hi);(try clear a9);obtain ⟨ar,aw,aB⟩:=Kd.aK j.out;subst aB) | ((with_reducible refine aA (f:=44) rfl ?_);refine af.gl (some 12) Tryz.func44 #[.slice ar Y.length aw,.int .i64 a1] ?_;(with_reducible refine (aI.calls k _ _ Y a1 true _ ?side1 ?side2 A5.out).mono ?_);(case side1=>exact af.Cw ((Kd.ah j.out).2.2));(case side2=>exact (Kd.ah j.out).2.1);rintro e w' ⟨rfl,⟨nd,rfl⟩⟩;refine ⟨_,rfl,?_⟩) | (go_at_call 44;(with_reducible refine (aI.calls k _ _ Y a2 a8 _ ?side1 ?side2 A7.out).mono ?_);(case side1=>exact af.Cw ((Kd.ah j.out).2.2));(case side2=>exact (Kd.ah j.out).2.1);rintro e w' ⟨rfl,⟨nd,rfl⟩⟩))
  go_ret
  exact ⟨af.E,af.L⟩
 ·replace c6:=Bool.eq_false_iff.mpr c6
  subst c6
  replace H:(some false) = some r:=by rw [if_neg (show ¬ (false = true) by decide)] at H;exact H
  obtain rfl:=Option.some.inj H
  go_enter Tryz.func111,Tryz.ntmps111
  go_wp2_with (first | ((with_reducible refine bh (N:=3) rfl ?_);refine af.bx 3 #[.int .i64 X,.slice a0 y.length a3] 30 ?_;intro aa hg bm hbox hb;have z:=ae.mk hbox;have ab:=af.gw hg HB;have am:=af.gw hg HB;replace HB:=af.lb HB hb;clear hb hbox hg;obtain ⟨aF,aL,aO,aP⟩:=af.bw z.out) | ((with_reducible refine aA (f:=43) rfl ?_);refine af.gl (some 9) Tryz.func43 #[.agg #[.int .i64 X,.slice a0 y.length a3]] ?_;(with_reducible refine (cL.calls k X _ _ y Y _ ?side1 ?side2 A4.out).mono ?_);(case side1=>exact af.Cw (Kd.aT a6.out HB.out));(case side2=>exact a7.out);rintro e bo ⟨ap,rfl,a9,hb⟩;refine ⟨_,rfl,?_⟩;have j:=ae.mk (Kd.aV a9 (av (af.Lw HB.out)));replace z:=af.bb z hb;replace HB:=af.lb HB hb;(try clear hb);(try clear ba);(try clear hk);(try clear hi);(try clear a9);obtain ⟨aR,aS,b0⟩:=Kd.aK j.out;subst b0) | ((with_reducible refine aA (f:=44) rfl ?_);refine af.gl (some 12) Tryz.func44 #[.slice aR Y.length aS,.int .i64 a1] ?_;(with_reducible refine (aI.calls k _ _ Y a1 false _ ?side1 ?side2 A5.out).mono ?_);(case side1=>exact af.Cw ((Kd.ah j.out).2.2));(case side2=>exact (Kd.ah j.out).2.1);rintro e w' ⟨rfl,⟨nd,rfl⟩⟩;refine ⟨_,rfl,?_⟩))
  go_ret
  exact ⟨af.E,af.L⟩
def en.f (k:Nat) (j:Int) (y:List Int) (X:Int) (a2:Int):Option (Int):=(fa.f k j y X a2).bind fun z=>(if z = true then (some (Go.bits .and .i64 X a2)) else (some 0))
set_option maxHeartbeats 8000000 in
set_option maxRecDepth 100000 in
theorem en.calls (k:Nat) (z:Int) (X:Option Addr) (Y:Nat) (j:List Int) (a1:Int) (a2:Int) (r:Int) (w:World) (a0:Kd.C (Kd.int .i64) w X j.length j) (a3:j.length≤Y) (h:en.f k z j a1 a2 = some r) :
  Calls Tryz.prog 41 #[.agg #[.int .i64 z,.slice X j.length Y],.int .i64 a1,.int .i64 a2] w fun e w'=>e = .returned (.int .i64 r)∧Below w.heap.size w w':=by
 have aL:=Tryz.underlying30
 have a4:=ae.mk a0
 have a5:=ae.mk a3
 clear a0 a3
 have HB:=ae.mk (Below.refl w.heap.size w)
 unfold en.f at h
 have H:=h
 clear h
 obtain ⟨a9,A4,H⟩:=af.be H
 (try dsimp only at H)
 by_cases c5:a9 = true
 ·subst c5
  replace H:(some (Go.bits .and .i64 a1 a2)) = some r:=by rw [if_pos rfl] at H;exact H
  obtain rfl:=Option.some.inj H
  go_enter Tryz.func41,Tryz.ntmps41
  go_wp2_with (first | (refine af.bx 3 #[.int .i64 z,.slice X j.length Y] 30 ?_;intro a6 hg w6 hbox hb;have y:=ae.mk hbox;have a7:=af.gw hg HB;have a8:=af.gw hg HB;replace HB:=af.lb HB hb;clear hb hbox hg;obtain ⟨ap,ar,aw,aB⟩:=af.bw y.out) | (refine af.gl (some 10) Tryz.func111 #[.agg #[.int .i64 z,.slice X j.length Y],.int .i64 a1,.int .i64 a2] ?_;(with_reducible refine (fa.calls k z _ _ j a1 a2 true _ ?side1 ?side2 A4.out).mono ?_);(case side1=>exact af.Cw (Kd.aT a4.out HB.out));(case side2=>exact a5.out);rintro e w8 ⟨rfl,hb⟩;refine ⟨_,rfl,?_⟩;replace y:=af.bb y hb;replace HB:=af.lb HB hb;(try clear hb);(try clear aF);(try clear hk);(try clear hi)))
  go_ret
  exact ⟨af.E,af.L⟩
 ·replace c5:=Bool.eq_false_iff.mpr c5
  subst c5
  replace H:(some 0) = some r:=by rw [if_neg (show ¬ (false = true) by decide)] at H;exact H
  obtain rfl:=Option.some.inj H
  go_enter Tryz.func41,Tryz.ntmps41
  go_wp2_with (first | (refine af.bx 3 #[.int .i64 z,.slice X j.length Y] 30 ?_;intro a6 hg w9 hbox hb;have y:=ae.mk hbox;have a7:=af.gw hg HB;have a8:=af.gw hg HB;replace HB:=af.lb HB hb;clear hb hbox hg;obtain ⟨aa,ab,am,ao⟩:=af.bw y.out) | (refine af.gl (some 10) Tryz.func111 #[.agg #[.int .i64 z,.slice X j.length Y],.int .i64 a1,.int .i64 a2] ?_;(with_reducible refine (fa.calls k z _ _ j a1 a2 false _ ?side1 ?side2 A4.out).mono ?_);(case side1=>exact af.Cw (Kd.aT a4.out HB.out));(case side2=>exact a5.out);rintro e aO ⟨rfl,hb⟩;refine ⟨_,rfl,?_⟩;replace y:=af.bb y hb;replace HB:=af.lb HB hb;(try clear hb);(try clear aF);(try clear hk);(try clear hi)))
  go_ret
  exact ⟨af.E,af.L⟩
def ez.f (k:Nat) (j:Int) (y:List Int) (Y:Int) (a2:Int):Option (Int):=(fa.f k j y Y a2).bind fun z=>(if z = true then ((cj.f k j y (Go.bits .or .i64 Y a2)).bind fun X=>(some X)) else (some 0))
set_option maxHeartbeats 8000000 in
set_option maxRecDepth 100000 in
theorem ez.calls (k:Nat) (z:Int) (X:Option Addr) (Y:Nat) (j:List Int) (a1:Int) (a2:Int) (r:Int) (w:World) (a4:Kd.C (Kd.int .i64) w X j.length j) (a5:j.length≤Y) (h:ez.f k z j a1 a2 = some r) :
  Calls Tryz.prog 42 #[.agg #[.int .i64 z,.slice X j.length Y],.int .i64 a1,.int .i64 a2] w fun e w'=>e = .returned (.int .i64 r)∧Below w.heap.size w w':=by
 have b0:=Tryz.underlying30
 have a0:=ae.mk a4
 have a3:=ae.mk a5
 clear a4 a5
 have HB:=ae.mk (Below.refl w.heap.size w)
 unfold ez.f at h
 have H:=h
 clear h
 obtain ⟨aa,A4,H⟩:=af.be H
 (try dsimp only at H)
 by_cases c5:aa = true
 ·subst c5
  replace H:((cj.f k z j (Go.bits .or .i64 a1 a2)).bind fun a6=>(some a6)) = some r:=by rw [if_pos rfl] at H;exact H
  obtain ⟨a6,A6,H⟩:=af.be H
  (try dsimp only at H)
  obtain rfl:=Option.some.inj H
  go_enter Tryz.func42,Tryz.ntmps42
  go_wp2_with (first | (refine af.bx 3 #[.int .i64 z,.slice X j.length Y] 30 ?_;intro a7 hg w7 hbox hb;have y:=ae.mk hbox;have a8:=af.gw hg HB;have a9:=af.gw hg HB;replace HB:=af.lb HB hb;clear hb hbox hg;obtain ⟨aO,aP,aR,aS⟩:=af.bw y.out) | (refine af.gl (some 10) Tryz.func111 #[.agg #[.int .i64 z,.slice X j.length Y],.int .i64 a1,.int .i64 a2] ?_;(with_reducible refine (fa.calls k z _ _ j a1 a2 true _ ?side1 ?side2 A4.out).mono ?_);(case side1=>exact af.Cw (Kd.aT a0.out HB.out));(case side2=>exact a3.out);rintro e w9 ⟨rfl,hb⟩;refine ⟨_,rfl,?_⟩;replace y:=af.bb y hb;replace HB:=af.lb HB hb;(try clear hb);(try clear ab);(try clear hk);(try clear hi);obtain ⟨am,ao,ap,ar⟩:=af.bw y.out) | (refine af.gl (some 16) Tryz.func112 #[.agg #[.int .i64 z,.slice X j.length Y],.int .i64 (Go.bits .or .i64 a1 a2)] ?_;(with_reducible refine (cj.calls k z _ _ j (Go.bits .or .i64 a1 a2) a6 _ ?side1 ?side2 A6.out).mono ?_);(case side1=>exact af.Cw (Kd.aT a0.out HB.out));(case side2=>exact a3.out);rintro e b2 ⟨rfl,hb⟩;refine ⟨_,rfl,?_⟩;replace y:=af.bb y hb;replace HB:=af.lb HB hb;(try clear hb);(try clear ab);(try clear hk);(try clear hi)))
  go_ret
  exact ⟨af.E,af.L⟩
 ·replace c5:=Bool.eq_false_iff.mpr c5
  subst c5
  replace H:(some 0) = some r:=by rw [if_neg (show ¬ (false = true) by decide)] at H;exact H
  obtain rfl:=Option.some.inj H
  go_enter Tryz.func42,Tryz.ntmps42
  go_wp2_with (first | (refine af.bx 3 #[.int .i64 z,.slice X j.length Y] 30 ?_;intro a7 hg b3 hbox hb;have y:=ae.mk hbox;have a8:=af.gw hg HB;have a9:=af.gw hg HB;replace HB:=af.lb HB hb;clear hb hbox hg;obtain ⟨aw,aB,aF,aL⟩:=af.bw y.out) | (refine af.gl (some 10) Tryz.func111 #[.agg #[.int .i64 z,.slice X j.length Y],.int .i64 a1,.int .i64 a2] ?_;(with_reducible refine (fa.calls k z _ _ j a1 a2 false _ ?side1 ?side2 A4.out).mono ?_);(case side1=>exact af.Cw (Kd.aT a0.out HB.out));(case side2=>exact a3.out);rintro e b4 ⟨rfl,hb⟩;refine ⟨_,rfl,?_⟩;replace y:=af.bb y hb;replace HB:=af.lb HB hb;(try clear hb);(try clear ab);(try clear hk);(try clear hi)))
  go_ret
  exact ⟨af.E,af.L⟩
def bK.f (k:Nat) (j:Int) (y:List Int) (a1:Int):Option (Int):=(bI.f k j y).bind fun z=>(if z = true then ((bN.f j a1).bind fun X=>(if X = true then ((bW.f k j y a1).bind fun Y=>(some Y)) else (some (-1)))) else (some (-1)))
set_option maxHeartbeats 8000000 in
set_option maxRecDepth 100000 in
theorem bK.calls (k:Nat) (y:Int) (X:Option Addr) (Y:Nat) (z:List Int) (a1:Int) (r:Int) (w:World) (a4:Kd.C (Kd.int .i64) w X z.length z) (a5:z.length≤Y) (h:bK.f k y z a1 = some r) :
  Calls Tryz.prog 45 #[.agg #[.int .i64 y,.slice X z.length Y],.int .i64 a1] w fun e w'=>e = .returned (.int .i64 r)∧Below w.heap.size w w':=by
 have bm:=Tryz.underlying30
 have a0:=ae.mk a4
 have a2:=ae.mk a5
 clear a4 a5
 have HB:=ae.mk (Below.refl w.heap.size w)
 unfold bK.f at h
 have H:=h
 clear h
 obtain ⟨ab,A3,H⟩:=af.be H
 (try dsimp only at H)
 by_cases c4:ab = true
 ·subst c4
  replace H:((bN.f y a1).bind fun a6=>(if a6 = true then ((bW.f k y z a1).bind fun a3=>(some a3)) else (some (-1)))) = some r:=by rw [if_pos rfl] at H;exact H
  obtain ⟨a6,A5,H⟩:=af.be H
  (try dsimp only at H)
  by_cases c6:a6 = true
  ·subst c6
   replace H:((bW.f k y z a1).bind fun a3=>(some a3)) = some r:=by rw [if_pos rfl] at H;exact H
   obtain ⟨a3,A7,H⟩:=af.be H
   (try dsimp only at H)
   obtain rfl:=Option.some.inj H
   go_enter Tryz.func45,Tryz.ntmps45
   go_wp2_with (first | ((with_reducible refine bh (N:=2) rfl ?_);refine af.bx 2 #[.int .i64 y,.slice X z.length Y] 30 ?_;intro a7 hg w8 hbox hb;have j:=ae.mk hbox;have a8:=af.gw hg HB;have a9:=af.gw hg HB;replace HB:=af.lb HB hb;clear hb hbox hg;obtain ⟨b5,ba,bc,bi⟩:=af.bw j.out) | ((with_reducible refine aA (f:=26) rfl ?_);refine af.gl (some 6) Tryz.func26 #[.agg #[.int .i64 y,.slice X z.length Y]] ?_;(with_reducible refine (bI.calls k y _ _ z true _ ?side1 ?side2 A3.out).mono ?_);(case side1=>exact af.Cw (Kd.aT a0.out HB.out));(case side2=>exact a2.out);rintro e bo ⟨rfl,hb⟩;refine ⟨_,rfl,?_⟩;replace j:=af.bb j hb;replace HB:=af.lb HB hb;(try clear hb);(try clear aa);(try clear hk);(try clear hi);obtain ⟨am,ao,ap,ar⟩:=af.bw j.out) | (go_at_call 87;(with_reducible refine (bN.calls y a1 true _ A5.out).mono ?_);rintro e w' ⟨rfl,⟨nd,rfl⟩⟩) | ((with_reducible refine aA (f:=109) rfl ?_);refine af.gl (some 17) Tryz.func109 #[.agg #[.int .i64 y,.slice X z.length Y],.int .i64 a1] ?_;(with_reducible refine (bW.calls k y _ _ z a1 a3 _ ?side1 ?side2 A7.out).mono ?_);(case side1=>exact af.Cw (Kd.aT a0.out HB.out));(case side2=>exact a2.out);rintro e bs ⟨rfl,hb⟩;refine ⟨_,rfl,?_⟩;replace j:=af.bb j hb;replace HB:=af.lb HB hb;(try clear hb);(try clear aa);(try clear hk);(try clear hi)))
   go_ret
   exact ⟨af.E,af.L⟩
  ·replace c6:=Bool.eq_false_iff.mpr c6
   subst c6
   replace H:(some (-1)) = some r:=by rw [if_neg (show ¬ (false = true) by decide)] at H;exact H
   obtain rfl:=Option.some.inj H
   go_enter Tryz.func45,Tryz.ntmps45
   go_wp2_with (first | ((with_reducible refine bh (N:=2) rfl ?_);refine af.bx 2 #[.int .i64 y,.slice X z.length Y] 30 ?_;intro a7 hg bv hbox hb;have j:=ae.mk hbox;have a8:=af.gw hg HB;have a9:=af.gw hg HB;replace HB:=af.lb HB hb;clear hb hbox hg;obtain ⟨aw,aB,aF,aL⟩:=af.bw j.out) | ((with_reducible refine aA (f:=26) rfl ?_);refine af.gl (some 6) Tryz.func26 #[.agg #[.int .i64 y,.slice X z.length Y]] ?_;(with_reducible refine (bI.calls k y _ _ z true _ ?side1 ?side2 A3.out).mono ?_);(case side1=>exact af.Cw (Kd.aT a0.out HB.out));(case side2=>exact a2.out);rintro e c0 ⟨rfl,hb⟩;refine ⟨_,rfl,?_⟩;replace j:=af.bb j hb;replace HB:=af.lb HB hb;(try clear hb);(try clear aa);(try clear hk);(try clear hi);obtain ⟨aO,aP,aR,aS⟩:=af.bw j.out) | (go_at_call 87;(with_reducible refine (bN.calls y a1 false _ A5.out).mono ?_);rintro e w' ⟨rfl,⟨nd,rfl⟩⟩))
   go_ret
   exact ⟨af.E,af.L⟩
 ·replace c4:=Bool.eq_false_iff.mpr c4
  subst c4
  replace H:(some (-1)) = some r:=by rw [if_neg (show ¬ (false = true) by decide)] at H;exact H
  obtain rfl:=Option.some.inj H
  go_enter Tryz.func45,Tryz.ntmps45
  go_wp2_with (first | ((with_reducible refine bh (N:=2) rfl ?_);refine af.bx 2 #[.int .i64 y,.slice X z.length Y] 30 ?_;intro a7 hg c1 hbox hb;have j:=ae.mk hbox;have a8:=af.gw hg HB;have a9:=af.gw hg HB;replace HB:=af.lb HB hb;clear hb hbox hg;obtain ⟨b0,b2,b3,b4⟩:=af.bw j.out) | ((with_reducible refine aA (f:=26) rfl ?_);refine af.gl (some 6) Tryz.func26 #[.agg #[.int .i64 y,.slice X z.length Y]] ?_;(with_reducible refine (bI.calls k y _ _ z false _ ?side1 ?side2 A3.out).mono ?_);(case side1=>exact af.Cw (Kd.aT a0.out HB.out));(case side2=>exact a2.out);rintro e ca ⟨rfl,hb⟩;refine ⟨_,rfl,?_⟩;replace j:=af.bb j hb;replace HB:=af.lb HB hb;(try clear hb);(try clear aa);(try clear hk);(try clear hi)))
  go_ret
  exact ⟨af.E,af.L⟩
def dD.l0:Nat→Int→Int→Int→Int→Option (Int)
 | 0,_,_,_,_=>none
 | k+1,j,y,z,X=>if X < y then (dD.l0 k j y (wrap64 (z * j)) (wrap64 (X+1))) else (some z)
def dD.f (k:Nat) (a0:Int) (j:Int):Option (Int):=dD.l0 k a0 j 1 0
set_option maxHeartbeats 8000000 in
set_option maxRecDepth 100000 in
theorem dD.calls (k:Nat) (a0:Int) (z:Int) (r:Int) (w:World) (h:dD.f k a0 z = some r) :
  Calls Tryz.prog 46 #[.int .i64 a0,.int .i64 z] w fun e w'=>e = .returned (.int .i64 r)∧cS w w':=by
 unfold dD.f at h
 have H:=h
 clear h
 have H':=ae.mk H
 clear H
 go_enter Tryz.func46,Tryz.ntmps46
 go_wp2
 go_loopg [5,6] k (fun kq v5 v6 w'=>∃ (y:Int) (j:Int),v5 = .int .i64 y∧v6 = .int .i64 j∧ae (dD.l0 kq a0 z y j = some r)∧ae (kq≤k)∧cS w w')
 case atStart=>exact ⟨(1),(0),af.F,af.F,H',⟨Nat.le_refl _⟩,af.G⟩
 case round =>
  clear H'
  obtain ⟨y,j,rfl,rfl,HA,X,⟨m1,rfl⟩⟩:=hrel
  cases gk with
  | zero=>exact absurd HA.out (by simp [dD.l0])
  | succ k1 =>
   have H:=HA.out
   clear HA
   simp only [dD.l0] at H
   by_cases c3:j < z
   ·rw [if_pos c3] at H
    have Y:=decide_eq_true c3
    clear c3
    have H':=ae.mk H
    clear H
    go_wp2
    go_roundg k1
    case measure=>have:=X.out;omega
    case rel=>exact ⟨(wrap64 (y * a0)),(wrap64 (j+1)),af.F,af.F,H',⟨by have:=X.out;omega⟩,af.G⟩
   ·rw [if_neg c3] at H
    have Y:decide (j < z) = false:=decide_eq_false c3
    clear c3
    obtain rfl:=Option.some.inj H
    go_wp2
    go_ret
    exact ⟨af.F,af.G⟩
mutual
def aW.l0:Nat→Int→List Int→Int→Option (List Int)
 | 0,_,_,_=>none
 | k+1,X,j,z=>if z≤X then (aW.l1 k X j z (([1]:List Int)) 1) else (some j)
def aW.l1:Nat→Int→List Int→Int→List Int→Int→Option (List Int)
 | 0,_,_,_,_,_=>none
 | k+1,X,j,z,Y,y=>if y < z then (if 0≤(wrap64 (y - 1)) then (if (wrap64 (y - 1)) < (j.length:Int) then (if 0≤y then (if y < (j.length:Int) then (if Y.length < 17592186044416 then (aW.l1 k X j z (Y ++ [wrap64 ((rd j (wrap64 (y - 1)))+(rd j y))]) (wrap64 (y+1))) else (none)) else (none)) else (none)) else (none)) else (none)) else (if Y.length < 17592186044416 then (aW.l0 k X (Y ++ [1]) (wrap64 (z+1))) else (none))
end
def aW.f (k:Nat) (a0:Int):Option (List Int):=aW.l0 k a0 (([1]:List Int)) 1
theorem aW.cX:∀ k,af.S3 aW.l0 k∧af.S5 aW.l1 k
 | 0=>by and_intros <;> (repeat intro _) <;> exact af.mz rfl
 | k+1=>by
  obtain ⟨j,y⟩:=aW.cX k
  and_intros <;> (repeat intro _) <;> (first | unfold aW.l0 | unfold aW.l1) <;> exact ⟨af.mt⟩
theorem aW.mono:∀ a0 k,ic (aW.f k a0) (aW.f (k+1) a0):=by
 intro a0 k
 obtain ⟨j,y⟩:=aW.cX k
 unfold aW.f
 exact af.mt
def aW.T9:Bool×List (List Nat×List Nat):=(true,[([],[]),([],[]),([],[]),([2],[2]),([1,3],[1,3]),([4],[4]),([],[]),([],[]),([6,7],[6,7]),([8],[8]),([5,9],[5,9]),([10],[10]),([0,11],[0,11]),([12,12,0,1,2,3,4,5,6,7,8,9,10,11,12],[0,12])])
def aW.B9:List Nat:=[0,0,0,4,14,30,0,0,192,448,1022,2046,4095,8191]
theorem aW.wB:gm .any (opsOf Tryz.f145 9) = aW.T9:=by kernel_rfl
theorem aW.vT:eT aW.T9.2 aW.B9 = true:=by kernel_rfl
set_option maxHeartbeats 8000000 in
set_option maxRecDepth 100000 in
theorem aW.calls (k:Nat) (a0:Int) (r:List Int) (w:World) (h:aW.f k a0 = some r) :
  Calls Tryz.prog 145 #[.int .i64 a0] w fun e w'=>∃ ci:Value,e = .returned (ci)∧Kd.R (Kd.int .i64) 3 w' w.heap.size (fun _=>True) ci r∧Below w.heap.size w w':=by
 have HB:=ae.mk (Below.refl w.heap.size w)
 unfold aW.f at h
 have H:=h
 clear h
 obtain ⟨b5,a7⟩:∃ y_:List Int,y_ = (([1]:List Int)):=⟨_,rfl⟩
 replace H:(aW.l0 k a0 b5 1) = some r:=by (try rw [a7]);exact af.Z
 have ao:=ae.mk a7
 clear a7
 have H':=ae.mk H
 clear H
 go_enter Tryz.func145,Tryz.ntmps145
 go_wp2_with (first | ((with_reducible refine bh (N:=7) rfl ?_);refine Kd.jH (Kd.int .i64) _ 3 ?hg (N:=7) ?hd (xs:=([1]:List Int)) (inner:=[.int .i64 1]) (ok:=fun _=>True) (okp:=fun _=>True) ?hr ?hp (fun _ hk=>hk) trivial (Below.refl _ _) (Nat.le_refl _) (by simp) ?_;(case hd=>rfl);(case hg=>rfl);(case hr=>first | (go_simp;done) | (go_simp;rfl));(case hp=>exact (cV.one (show Kd.M (Kd.int .i64) _ _ _ 1 [.int .i64 1] from rfl) (cV.none _ _)));intro du w2 ap hb bo a8;clear bo a8;(first | rw [← ao.out] at ap | (simp only [Int.reduceToNat] at ap;rw [← ao.out] at ap));have bs:=ae.mk (Kd.aV ap (av (af.Lw HB.out)));replace HB:=af.lb HB hb;clear hb ap))
 go_loopg [3,4] k (fun kq v3 v4 w'=>∃ (j:List Int) (X:Int),v4 = .int .i64 X∧ae (aW.l0 kq a0 j X = some r)∧ae (kq≤k)∧ae (Kd.R (Kd.int .i64) 3 w' w.heap.size (fun _=>True) v3 j)∧ae (Below w.heap.size w w'))
 case atStart=>exact ⟨(b5),(1),af.F,H',⟨Nat.le_refl _⟩,⟨af.Rw bs.out⟩,⟨af.Lw HB.out⟩⟩
 case round =>
  clear H'
  obtain ⟨j,X,rfl,HA,b3,y,HB⟩:=hrel
  cases gk with
  | zero=>exact absurd HA.out (by simp [aW.l0])
  | succ k1 =>
   have H:=HA.out
   clear HA
   simp only [aW.l0] at H
   by_cases c4:X≤a0
   ·rw [if_pos c4] at H
    have cp:=decide_eq_true c4
    clear c4
    obtain ⟨ba,a9⟩:∃ y_:List Int,y_ = (([1]:List Int)):=⟨_,rfl⟩
    replace H:(aW.l1 k1 a0 j X ba 1) = some r:=by (try rw [a9]);exact af.Z
    have ar:=ae.mk a9
    clear a9
    have H':=ae.mk H
    clear H
    go_wp2_with (first | ((with_reducible refine bh (N:=13) rfl ?_);refine Kd.jH (Kd.int .i64) _ 3 ?hg (N:=13) ?hd (xs:=([1]:List Int)) (inner:=[.int .i64 1]) (ok:=fun _=>True) (okp:=fun _=>True) ?hr ?hp (fun _ hk=>hk) trivial (Below.refl _ _) (Nat.le_refl _) (by simp) ?_;(case hd=>rfl);(case hg=>rfl);(case hr=>first | (go_simp;done) | (go_simp;rfl));(case hp=>exact (cV.one (show Kd.M (Kd.int .i64) _ _ _ 1 [.int .i64 1] from rfl) (cV.none _ _)));intro dv w5 am hb bo a8;clear bo a8;(first | rw [← ar.out] at am | (simp only [Int.reduceToNat] at am;rw [← ar.out] at am));have bv:=ae.mk (Kd.aV (Kd.br am (Kd.cK (af.Rw y.out))) (av (af.Lw HB.out)));replace y:=ae.mk (Kd.aQ (af.Rw y.out) (Kd.bn am) hb);replace HB:=af.lb HB hb;clear hb am))
    go_loopg [5,6] k1 (fun kq v5 v6 w'=>∃ (a1:List Int) (z:Int),v6 = .int .i64 z∧ae (aW.l1 kq a0 j X a1 z = some r)∧ae (kq≤k1)∧ae (Kd.R (Kd.int .i64) 3 w' w.heap.size (fun k_=>some k_≠(v5:Value).ownBlock) u3 j)∧ae (Kd.R (Kd.int .i64) 3 w' w.heap.size (fun k_=>some k_≠(u3:Value).ownBlock) v5 a1)∧ae (Below w.heap.size w w'))
    case atStart=>exact ⟨(ba),(1),af.F,H',⟨Nat.le_refl _⟩,⟨af.Rw (Kd.aC y.out (fun _ hk=>hk.2))⟩,⟨af.Rw (Kd.aC bv.out (fun _ hk=>hk.2))⟩,⟨af.Lw HB.out⟩⟩
    case round =>
     clear H'
     obtain ⟨a1,z,rfl,HA,b4,y,a2,HB⟩:=hrel
     cases gk with
     | zero=>exact absurd HA.out (by simp [aW.l1])
     | succ k2 =>
      have H:=HA.out
      clear HA
      simp only [aW.l1] at H
      by_cases c7:z < X
      ·rw [if_pos c7] at H
       have d0:=decide_eq_true c7
       clear c7
       obtain ⟨a3,aw⟩:∃ j_:Int,(wrap64 (z - 1)) = j_:=⟨_,rfl⟩
       replace H:(if 0≤(a3) then (if (a3) < (j.length:Int) then (if 0≤z then (if z < (j.length:Int) then (if a1.length < 17592186044416 then (aW.l1 k2 a0 j X (a1 ++ [wrap64 ((rd j (a3))+(rd j z))]) (wrap64 (z+1))) else (none)) else (none)) else (none)) else (none)) else (none)) = some r:=by first | (rw [aw] at H;exact H) | (simp only [aw] at H ⊢;exact H)
       have dd:(IntKind.i64.wrap (z - 1)) = a3:=(aM _).trans aw
       obtain ⟨c9,H⟩:=af.ip H
       have dC:=decide_eq_true c9
       clear c9
       obtain ⟨gX,H⟩:=af.ip H
       have df:=decide_eq_true gX
       clear gX
       obtain ⟨d1,H⟩:=af.ip H
       have dk:=decide_eq_true d1
       clear d1
       obtain ⟨d2,H⟩:=af.ip H
       have dl:=decide_eq_true d2
       clear d2
       obtain ⟨d3,H⟩:=af.ip H
       have c0:=ae.mk d3
       clear d3
       obtain ⟨bc,aa⟩:∃ y_:List Int,y_ = (a1 ++ [wrap64 ((rd j (a3))+(rd j z))]):=⟨_,rfl⟩
       replace H:(aW.l1 k2 a0 j X bc (wrap64 (z+1))) = some r:=by (try rw [aa]);exact af.Z
       have c1:=ae.mk aa
       clear aa
       have H':=ae.mk H
       clear H
       try go_wp2
       replace y:=ae.mk (Kd.bl y.out)
       replace a2:=ae.mk (Kd.bl a2.out)
       replace HB:=ae.mk (cn HB.out)
       obtain ⟨dE,d4,bi⟩:=Kd.aK y.out
       (first | subst bi | (injection bi with d5 dp d6;have dq:=d5.symm;have dt:=d6.symm;clear d5 dp d6;subst dq;subst dt))
       obtain ⟨a4,d7,a5,dT,e0⟩:=af.ai (Kd.ah y.out).2.2 (a3)
       cases d7
       obtain ⟨ca,d8,a6,e1,e2⟩:=af.ai (Kd.ah y.out).2.2 z
       obtain rfl:a4 = ca:=(by injection d8)
       refine eM (n:=14) (S:=fun w'=>w'.cell? (a4.add ((a3)).toNat) = some (.int .i64 (rd j (a3)))∧w'.cell? (a4.add (z).toNat) = some (.int .i64 (rd j z))) (ds:=[11,12]) #[false,false,false,false,false,false,false,false,false,false,false,false,false,false] (by kernel_rfl) rfl rfl ⟨a5,a6⟩ (fun hHeld=>?_);refine dc aW.wB aW.vT (fun Y d9=>?_)
       generalize wr.drew = e5 at y a2 HB a5 a6 hHeld ⊢
       refine af.pu 0 19 Y ?_
       refine af.pu 1 20 Y ?_
       refine af.pu 2 21 Y ?_
       refine af.pu 3 22 Y ?_
       refine af.pu 4 23 Y ?_
       refine af.pu 6 25 Y ?_
       refine af.pu 7 26 Y ?_
       refine af.pu 8 27 Y ?_
       refine af.tk 5 24 Y d9 hHeld ?_
       refine af.tk 9 28 Y d9 hHeld ?_
       refine af.pu 10 29 Y ?_
       refine lJ (i:=11) (N:=some 30) #[true,true,true,true,true,true,true,true,true,true,true,true,false,false] rfl rfl (da Y.out (by kernel_rfl)) (by decide) (fun K hK=>?_)
       refine nI (w1:=?_) (v:=?_) (by rfl) rfl ?_ ?_
       rotate_left 2
       ·go_simp
        constructor
        ·rfl
        ·rfl
       refine hK.out _ _ ?_
       clear hK K
       refine er (a':=?_) ?_ ?_
       rotate_left
       ·show Act.put _ (some 30) _ = _
        simp only [Act.put,List.setIfInBounds_toArray,List.set_cons_zero,List.set_cons_succ,aM,b8]
        rfl
       refine lJ (i:=12) (N:=some 31) #[true,true,true,true,true,true,true,true,true,true,true,true,true,false] rfl rfl (da Y.out (by kernel_rfl)) (by decide) (fun K hK=>?_)
       refine Kd.ie (Kd.int .i64) (w0:=w) w.heap.size (by rfl) (.tmp 19) (.tmp 30) 28 3 (.int .i64 0) 8 rfl Tryz.underlying28 eI rfl (by decide) (by omega) u5 a1 (wrap64 ((rd j (a3))+(rd j z))) [.int .i64 (wrap64 ((rd j (a3))+(rd j z)))] (fun k_=>some k_≠(.slice (some a4) j.length d4:Value).ownBlock) (fun _=>False) rfl rfl ?aP (fun _ hk=>hk.elim) ?aF ?aO ?aB ?aS ?aL ?_
       (case aP=>exact rfl)
       (case aB=>exact (af.Lw HB.out))
       (case aF=>exact (fun k_ hk=>Kd.fresh' (Kd.cK (af.Rw y.out)) k_ hk))
       (case aO=>exact (af.Rw a2.out))
       (case aS=>exact (av (af.Lw HB.out)))
       (case aL=>have:=c0.out;omega)
       intro e3 e6 ho hb hg hat
       rw [← c1.out] at ho
       have aR:=ae.mk (Kd.dO (ok:=(fun _=>True)) (af.Rw (Kd.aC y.out (fun _ hk=>⟨trivial,hk⟩))) hg hat)
       have b0:=ae.mk hb
       have b2:=ae.mk ho
       clear y
       clear HB
       clear a2
       have y:=aR
       have HB:=b0
       have cb:=b2
       clear aR b0 b2
       clear ho hb hg hat
       refine hK.out _ _ ?_
       clear hK K
       refine er (a':=?_) ?_ ?_
       rotate_left
       ·show Act.put _ (some 31) _ = _
        simp only [Act.put,List.setIfInBounds_toArray,List.set_cons_zero,List.set_cons_succ,aM,b8]
        rfl
       refine af.pu 13 5 Y ?_
       refine fO (dU Y.out (by kernel_rfl)) ?_
       try go_wp2
       go_roundg k2
       case measure=>have:=b3.out;have:=b4.out;omega
       case rel=>exact ⟨(bc),(wrap64 (z+1)),af.F,H',⟨by have:=b3.out;have:=b4.out;omega⟩,⟨af.Rw (Kd.aC y.out (fun _ hk=>hk.2))⟩,⟨af.Rw cb.out⟩,⟨af.Lw HB.out⟩⟩
      ·rw [if_neg c7] at H
       have d0:decide (z < X) = false:=decide_eq_false c7
       clear c7
       obtain ⟨db,H⟩:=af.ip H
       have cc:=ae.mk db
       clear db
       obtain ⟨bm,ab⟩:∃ y_:List Int,y_ = (a1 ++ [1]):=⟨_,rfl⟩
       replace H:(aW.l0 k2 a0 bm (wrap64 (X+1))) = some r:=by (try rw [ab]);exact af.Z
       have ce:=ae.mk ab
       clear ab
       have H':=ae.mk H
       clear H
       go_wp2_with (first | ((with_reducible refine cP (b:=.append) (xs:=#[.tmp 32,.tmp 33]) rfl ?_);at_builtin;refine Kd.eE (Kd.int .i64) (w0:=w) w.heap.size rfl (.tmp 32) (.tmp 33) 28 3 (.int .i64 0) 8 rfl Tryz.underlying28 eI rfl (by decide) (by omega) u5 a1 1 [.int .i64 1] (fun k_=>some k_≠(u3:Value).ownBlock) (fun _=>False) rfl rfl (by exact rfl) (fun _ hk=>hk.elim) (by exact fun k_ hk=>Kd.fresh' (Kd.cK (af.Rw y.out)) k_ hk) (by exact af.Rw a2.out) (by exact af.Lw HB.out) (by exact av (af.Lw HB.out)) (by have:=cc.out;omega) ?_;intro e4 e7 ho hb hg hat;rw [← ce.out] at ho;have aR:=ae.mk (Kd.dO (ok:=(fun _=>True)) (af.Rw (Kd.aC y.out (fun _ hk=>⟨trivial,hk⟩))) hg hat);have b0:=ae.mk hb;have b2:=ae.mk ho;clear y;clear HB;clear a2;have y:=aR;have HB:=b0;have cf:=b2;clear aR b0 b2;clear ho hb hg hat))
       go_roundg k2
       case measure=>have:=b3.out;have:=b4.out;omega
       case rel=>exact ⟨(bm),(wrap64 (X+1)),af.F,H',⟨by have:=b3.out;have:=b4.out;omega⟩,⟨af.Rw (Kd.aC cf.out (fun _ hk=>trivial))⟩,⟨af.Lw HB.out⟩⟩
   ·rw [if_neg c4] at H
    have cp:decide (X≤a0) = false:=decide_eq_false c4
    clear c4
    obtain rfl:=Option.some.inj H
    go_wp2
    go_ret
    exact ⟨_,af.E,by (with_reducible repeat (first | apply Kd.cH | apply Kd.cI | apply Kd.bl));exact y.out,af.L⟩
def fP.f (a0:Int):Option (Int):=some (wrap64 (1 - (wrap64 (2 * (Int.tmod a0 2)))))
set_option maxHeartbeats 8000000 in
set_option maxRecDepth 100000 in
theorem fP.calls (a0:Int) (r:Int) (w:World) (h:fP.f a0 = some r) :
  Calls Tryz.prog 146 #[.int .i64 a0] w fun e w'=>e = .returned (.int .i64 r)∧cS w w':=by
 unfold fP.f at h
 have H:=h
 clear h
 obtain rfl:=Option.some.inj H
 go_enter Tryz.func146,Tryz.ntmps146
 go_wp2
 go_ret
 exact ⟨af.F,af.G⟩
mutual
def bX.l0:Nat→Int→Int→Int→List (List Int)→List Int→List Int→Int→Option ((List (List Int)))
 | 0,_,_,_,_,_,_,_=>none
 | k+1,X,Y,x3,z,x8,x9,j=>if j≤X then (bX.l1 k X Y x3 z x8 x9 j 0) else (some z)
def bX.l1:Nat→Int→Int→Int→List (List Int)→List Int→List Int→Int→Int→Option ((List (List Int)))
 | 0,_,_,_,_,_,_,_,_=>none
 | k+1,X,Y,x3,z,x8,x9,j,y=>if y≤Y then (if 0≤j then (if j < (z.length:Int) then (if 0≤y then (if y < ((gn z j).length:Int) then (if j < (x8.length:Int) then (if y < (x9.length:Int) then ((fP.f (wrap64 (X - j))).bind fun a0=>((fP.f (wrap64 (Y - y))).bind fun a1=>(bX.l1 k X Y x3 (z.set (j:Int).toNat ((gn z j).set (y:Int).toNat (wrap64 ((rd (gn z j) y)+(wrap64 ((wrap64 ((wrap64 ((wrap64 (x3 * (rd x8 j))) * (rd x9 y))) * a0)) * a1)))))) x8 x9 j (wrap64 (y+1))))) else (none)) else (none)) else (none)) else (none)) else (none)) else (none)) else (bX.l0 k X Y x3 z x8 x9 (wrap64 (j+1)))
end
def bX.f (k:Nat) (j:List (List Int)) (X:Int) (a2:Int) (a3:Int):Option ((List (List Int))):=(aW.f k X).bind fun y=>((aW.f k a2).bind fun z=>(bX.l0 k X a2 a3 j y z 0))
def bX.T8:Bool×List (List Nat×List Nat):=(true,[([],[]),([],[]),([0,1],[0,1]),([2],[2]),([],[]),([],[]),([],[]),([5,6],[5,6]),([7],[7]),([],[]),([8,9],[8,9]),([10],[10]),([],[]),([],[]),([],[]),([13,14],[13,14]),([15],[15]),([12,16],[12,16]),([],[]),([],[]),([18,19],[18,19]),([20],[20]),([17,21],[17,21]),([],[]),([],[]),([23,24],[23,24]),([25],[25]),([22,26],[22,26]),([],[]),([],[]),([28,29],[28,29]),([30,26],[30]),([27,31],[27,31]),([11,32],[11,32]),([3,4,0,1,2,3,4,5,6,7,8,9,10,11,12,13,14,15,16,17,18,19,20,21,22,23,24,25,26,27,28,29,30,31,32,33],[3,4]),([34,33,31,0,1,2,3,4,5,6,7,8,9,10,11,12,13,14,15,16,17,18,19,20,21,22,23,24,25,26,27,28,29,30,31,32,33],[33,34])])
def bX.B8:List Nat:=[0,0,3,7,0,0,0,96,224,0,992,2016,0,0,0,24576,57344,126976,0,0,786432,1835008,4190208,0,0,25165824,58720256,134213632,0,0,805306368,2004877312,4294963200,8589934560,17179869183,34359738367]
theorem bX.rS:gm .any (opsOf Tryz.f113 8) = bX.T8:=by kernel_rfl
theorem bX.ox:eT bX.T8.2 bX.B8 = true:=by kernel_rfl
set_option maxHeartbeats 8000000 in
set_option maxRecDepth 100000 in
theorem bX.calls (k:Nat) (b0:Value) (dl:List (List Int)) (a1:Int) (a2:Int) (a3:Int) (r:List (List Int)) (ap:Nat) (ce:Int) (cf:Option Addr) (ci:Nat) (cp:List Int) (w wi:World) (f6:Below w.heap.size w wi) (ar:Kd.S (Kd.slice 3 (Kd.int .i64)) 28 wi w.heap.size (fun _=>True) b0 dl) (hbk:wi.heap[ap]? = some (.cells #[.int .i64 ce,.slice cf cp.length ci] 30 (0,0))) (hge:w.heap.size≤ap) (h:bX.f k dl a1 a2 a3 = some r) :
  Calls Tryz.prog 113 #[b0,.int .i64 a1,.int .i64 a2,.int .i64 a3] wi fun e w'=>e = .returned (.tuple #[])∧Kd.S (Kd.slice 3 (Kd.int .i64)) 28 w' w.heap.size (fun _=>True) b0 r∧w'.heap[ap]? = some (.cells #[.int .i64 ce,.slice cf cp.length ci] 30 (0,0))∧Below w.heap.size w w':=by
 have HB:=ae.mk f6
 have aw:=ae.mk ar
 have Y:=ae.mk hbk
 have em:=ae.mk hge
 have h6:=ae.mk hge
 clear f6 ar hbk hge
 unfold bX.f at h
 have H:=h
 clear h
 obtain ⟨ea,A6,H⟩:=af.be H
 (try dsimp only at H)
 obtain ⟨eb,A7,H⟩:=af.be H
 (try dsimp only at H)
 have H':=ae.mk H
 clear H
 go_enter Tryz.func113,Tryz.ntmps113
 go_wp2_with (first | (refine af.gl (some 13) Tryz.func145 #[.int .i64 a1] ?_;(with_reducible refine (aW.calls k a1 ea _ A6.out).mono ?_);rintro e hW ⟨aP,rfl,ar,hb⟩;refine ⟨_,rfl,?_⟩;replace aw:=ae.mk (Kd.m8 (af.Sw aw.out) (Kd.bn ar) hb);have aS:=ae.mk (Kd.aV ar (av (af.Lw HB.out)));replace Y:=af.bb Y hb;replace HB:=af.lb HB hb;(try clear hb);(try clear h7);(try clear hk);(try clear hi);(try clear ar)) | (refine af.gl (some 15) Tryz.func145 #[.int .i64 a2] ?_;(with_reducible refine (aW.calls k a2 eb _ A7.out).mono ?_);rintro e hX ⟨aR,rfl,ar,hb⟩;refine ⟨_,rfl,?_⟩;replace aw:=ae.mk (Kd.m8 (af.Sw aw.out) (Kd.bn ar) hb);have eo:=ae.mk (Kd.aV (Kd.br ar (Kd.cK (af.Rw aS.out))) (av (af.Lw HB.out)));replace aS:=ae.mk (Kd.aQ (af.Rw aS.out) (Kd.bn ar) hb);replace Y:=af.bb Y hb;replace HB:=af.lb HB hb;(try clear hb);(try clear h7);(try clear hk);(try clear hi);(try clear ar)))
 go_loopg [10] k (fun kq v10 w'=>∃ (d0:List (List Int)) (d1:List Int) (d2:List Int) (j:Int),v10 = .int .i64 j∧ae (bX.l0 kq a1 a2 a3 d0 d1 d2 j = some r)∧ae (kq≤k)∧ae (Kd.S (Kd.slice 3 (Kd.int .i64)) 28 w' w.heap.size (fun k_=>some k_≠(aP:Value).ownBlock∧some k_≠(aR:Value).ownBlock) b0 d0)∧ae (Kd.R (Kd.int .i64) 3 w' w.heap.size (fun k_=>some k_≠(aR:Value).ownBlock) aP d1)∧ae (Kd.R (Kd.int .i64) 3 w' w.heap.size (fun k_=>some k_≠(aP:Value).ownBlock) aR d2)∧ae (w'.heap[ap]? = some (.cells #[.int .i64 ce,(.slice cf cp.length ci)] 30 (0,0)))∧ae (Below w.heap.size w w'))
 case atStart=>exact ⟨(dl),(ea),(eb),(0),af.F,H',⟨Nat.le_refl _⟩,⟨af.Sw (Kd.jI aw.out (fun _ hk=>(by first | exact ⟨hk.1.2,hk.2⟩ | (simp_all;done))))⟩,⟨af.Rw (Kd.aC aS.out (fun _ hk=>hk.2))⟩,⟨af.Rw (Kd.aC eo.out (fun _ hk=>hk.2))⟩,⟨af.Bw Y.out⟩,⟨af.Lw HB.out⟩⟩
 case round =>
  clear H'
  obtain ⟨d0,d1,d2,j,rfl,HA,e3,a0,ab,am,Y,HB⟩:=hrel
  cases gk with
  | zero=>exact absurd HA.out (by simp [bX.l0])
  | succ k1 =>
   have H:=HA.out
   clear HA
   simp only [bX.l0] at H
   by_cases df:j≤a1
   ·rw [if_pos df] at H
    have eq:=decide_eq_true df
    clear df
    have H':=ae.mk H
    clear H
    go_wp2
    go_loopg [11] k1 (fun kq v11 w'=>∃ (X:List (List Int)) (a5:List Int) (a6:List Int) (y:Int),v11 = .int .i64 y∧ae (bX.l1 kq a1 a2 a3 X a5 a6 j y = some r)∧ae (kq≤k1)∧ae (Kd.S (Kd.slice 3 (Kd.int .i64)) 28 w' w.heap.size (fun k_=>some k_≠(aP:Value).ownBlock∧some k_≠(aR:Value).ownBlock) b0 X)∧ae (Kd.R (Kd.int .i64) 3 w' w.heap.size (fun k_=>some k_≠(aR:Value).ownBlock) aP a5)∧ae (Kd.R (Kd.int .i64) 3 w' w.heap.size (fun k_=>some k_≠(aP:Value).ownBlock) aR a6)∧ae (w'.heap[ap]? = some (.cells #[.int .i64 ce,(.slice cf cp.length ci)] 30 (0,0)))∧ae (Below w.heap.size w w'))
    case atStart=>exact ⟨(d0),(d1),(d2),(0),af.F,H',⟨Nat.le_refl _⟩,⟨af.Sw a0.out⟩,⟨af.Rw ab.out⟩,⟨af.Rw am.out⟩,⟨af.Bw Y.out⟩,⟨af.Lw HB.out⟩⟩
    case round =>
     clear H'
     obtain ⟨X,a5,a6,y,rfl,HA,e4,a0,ab,am,Y,HB⟩:=hrel
     cases gk with
     | zero=>exact absurd HA.out (by simp [bX.l1])
     | succ k2 =>
      have H:=HA.out
      clear HA
      simp only [bX.l1] at H
      by_cases dk:y≤a2
      ·rw [if_pos dk] at H
       have es:=decide_eq_true dk
       clear dk
       obtain ⟨f7,H⟩:=af.ip H
       have h8:=decide_eq_true f7
       clear f7
       obtain ⟨f8,H⟩:=af.ip H
       have h9:=decide_eq_true f8
       clear f8
       obtain ⟨f9,H⟩:=af.ip H
       have hj:=decide_eq_true f9
       clear f9
       obtain ⟨fd,H⟩:=af.ip H
       have hl:=decide_eq_true fd
       clear fd
       obtain ⟨fi,H⟩:=af.ip H
       have hm:=decide_eq_true fi
       clear fi
       obtain ⟨fj,H⟩:=af.ip H
       have hn:=decide_eq_true fj
       clear fj
       obtain ⟨b2,ho,H⟩:=af.be H
       (try dsimp only at H)
       obtain ⟨b3,hq,H⟩:=af.be H
       (try dsimp only at H)
       obtain ⟨dp,c1⟩:∃ y_:List Int,y_ = ((gn X j).set (y:Int).toNat (wrap64 ((rd (gn X j) y)+(wrap64 ((wrap64 ((wrap64 ((wrap64 (a3 * (rd a5 j))) * (rd a6 y))) * b2)) * b3))))):=⟨_,rfl⟩
       replace H:(bX.l1 k2 a1 a2 a3 (X.set (j:Int).toNat dp) a5 a6 j (wrap64 (y+1))) = some r:=by (try rw [c1]);exact af.Z
       have et:=ae.mk c1
       clear c1
       obtain ⟨ec,ca⟩:∃ y_:List (List Int),y_ = (X.set (j:Int).toNat dp):=⟨_,rfl⟩
       replace H:(bX.l1 k2 a1 a2 a3 ec a5 a6 j (wrap64 (y+1))) = some r:=by (try rw [ca]);exact af.Z
       have ev:=ae.mk ca
       clear ca
       have H':=ae.mk H
       clear H
       try go_wp2
       replace a0:=ae.mk (Kd.pg a0.out)
       replace ab:=ae.mk (Kd.bl ab.out)
       replace am:=ae.mk (Kd.bl am.out)
       replace Y:=ae.mk (cO Y.out)
       replace HB:=ae.mk (cn HB.out)
       obtain ⟨hx,hz,ed⟩:=Kd.qa a0.out
       (first | subst ed | (injection ed with b4 dq b5;have dt:=b4.symm;have du:=b5.symm;clear b4 dq b5;subst dt;subst du))
       have d3:0≤(j:Int):=af.D
       have d4:j < (X.length:Int):=af.D
       obtain ⟨cb,gb,d5,fp,a7,ba,bc⟩:=ow (Kd.iN a0.out).2.2 j d3 d4
       cases fp
       obtain ⟨hr,e5,e6,d6⟩:=Kd.u4 a0.out [] j d3 (by first | exact d4 | exact af.D | (have e_:=(Kd.iN a0.out).1;omega))
       obtain ⟨fs,rfl,aB⟩:=e6
       have a8:=d6 0 _ rfl
       rw [Nat.add_zero,show ((Kd.slice 3 (Kd.int .i64))).sz = 1 from rfl,Nat.mul_one] at a8
       replace a8:=Option.some.inj (a8.symm.trans a7)
       rw [a8] at aB
       have a4:=ae.mk (show Kd.R (Kd.int .i64) 3 _ _ _ _ (gn X j) from aB)
       clear a8 aB
       have bi:=ae.mk a7
       clear d6 e5
       have dv:=ae.mk bc
       have ft:=ae.mk ba
       clear bc ba
       replace d3:=eq_true d3
       replace d4:=eq_true d4
       have d7:0≤(j:Int):=af.D
       have d8:j < (X.length:Int):=af.D
       obtain ⟨ew,gc,go,fw,a9,bm,bo⟩:=ow (Kd.iN a0.out).2.2 j d7 d8
       obtain rfl:cb = ew:=(by injection fw)
       obtain ⟨ht,e7,e8,d9⟩:=Kd.u4 a0.out [] j d7 (by first | exact d8 | exact af.D | (have e_:=(Kd.iN a0.out).1;omega))
       obtain ⟨g0,rfl,aF⟩:=e8
       have aa:=d9 0 _ rfl
       rw [Nat.add_zero,show ((Kd.slice 3 (Kd.int .i64))).sz = 1 from rfl,Nat.mul_one] at aa
       replace aa:=Option.some.inj (aa.symm.trans a9)
       rw [aa] at aF
       have dC:=ae.mk (show Kd.R (Kd.int .i64) 3 _ _ _ _ (gn X j) from aF)
       clear aa aF
       have dE:=ae.mk a9
       clear d9 e7
       have aL:=ae.mk bo
       have g1:=ae.mk bm
       clear bo bm
       replace d7:=eq_true d7
       replace d8:=eq_true d8
       have bs:=Option.some.inj (a7.symm.trans a9)
       injection bs with bs ex eQ
       subst bs
       subst eQ
       clear ex
       obtain ⟨cc,g2,aO,hA,hC⟩:=af.ai (by repeat (first | (with_reducible exact aL.out) | (with_reducible refine Kd.fE ?_ _) | (with_reducible refine Kd.fF ?_ _) | (with_reducible refine Kd.fV ?_) | exact aL.out)) y
       cases g2
       obtain ⟨hD,hE,ee⟩:=Kd.aK ab.out
       (first | subst ee | (injection ee with b4 dq b5;have dt:=b4.symm;have du:=b5.symm;clear b4 dq b5;subst dt;subst du))
       obtain ⟨f0,g3,bv,hG,hH⟩:=af.ai (Kd.ah ab.out).2.2 j
       cases g3
       obtain ⟨hI,hL,ef⟩:=Kd.aK am.out
       (first | subst ef | (injection ef with b4 dq b5;have dt:=b4.symm;have du:=b5.symm;clear b4 dq b5;subst dt;subst du))
       obtain ⟨f1,g4,c0,hM,hP⟩:=af.ai (Kd.ah am.out).2.2 y
       cases g4
       refine eM (n:=36) (S:=fun w'=>w'.cell? (cb.add (j).toNat) = some (.slice (some cc) (gn X j).length d5)∧w'.cell? (cb.add (j).toNat) = some (.slice (some cc) (gn X j).length d5)∧w'.cell? (cc.add (y).toNat) = some (.int .i64 (rd (gn X j) y))∧w'.cell? (f0.add (j).toNat) = some (.int .i64 (rd a5 j))∧w'.cell? (f1.add (y).toNat) = some (.int .i64 (rd a6 y))) (ds:=[35]) #[false,false,false,false,false,false,false,false,false,false,false,false,false,false,false,false,false,false,false,false,false,false,false,false,false,false,false,false,false,false,false,false,false,false,false,false] (by kernel_rfl) rfl rfl ⟨a7,a9,aO,bv,c0⟩ (fun hHeld=>?_);refine dc bX.rS bX.ox (fun z dT=>?_)
       generalize wr.drew = hZ at a0 ab am Y HB a4 dC dv aL bi dE a7 a9 aO bv c0 hHeld ⊢
       refine af.pu 0 26 z ?_
       refine af.pu 1 27 z ?_
       refine af.pu 2 28 z ?_
       refine af.pu 4 30 z ?_
       refine af.pu 5 31 z ?_
       refine af.pu 6 32 z ?_
       refine af.pu 7 33 z ?_
       refine af.pu 9 35 z ?_
       refine af.pu 12 38 z ?_
       refine af.pu 13 39 z ?_
       refine af.pu 14 40 z ?_
       refine af.pu 15 41 z ?_
       refine af.pu 18 44 z ?_
       refine af.pu 19 45 z ?_
       refine af.pu 20 46 z ?_
       refine af.pu 23 49 z ?_
       refine af.pu 24 50 z ?_
       refine af.pu 25 51 z ?_
       refine af.pu 28 54 z ?_
       refine af.pu 29 55 z ?_
       refine af.pu 30 56 z ?_
       refine af.tk 3 29 z dT hHeld ?_
       refine af.tk 8 34 z dT hHeld ?_
       refine af.pu 10 36 z ?_
       refine af.tk 11 37 z dT hHeld ?_
       refine af.tk 16 42 z dT hHeld ?_
       refine af.pu 17 43 z ?_
       refine af.tk 21 47 z dT hHeld ?_
       refine af.pu 22 48 z ?_
       refine fN (i:=26) (N:=some 52) #[true,true,true,true,true,true,true,true,true,true,true,true,true,true,true,true,true,true,true,true,true,true,true,true,true,true,true,false,true,true,true,false,false,false,false,false] rfl rfl (da z.out (by kernel_rfl)) (by decide) (fun K hK=>?_)
       refine fC Tryz.func146 (by kernel_rfl) rfl #[.int .i64 (wrap64 (a1 - j))] (by rfl) rfl rfl (by (try simp only [List.map_toArray,List.map_cons,List.map_nil]);first | done | rfl) ?_
       with_reducible refine (fP.calls (wrap64 (a1 - j)) b2 _ ho.out).mono ?_
       rintro e w' ⟨rfl,⟨nd,rfl⟩⟩
       refine ⟨_,rfl,?_⟩
       refine hK.out _ _ ⟨hHeld.1,hHeld.2.1,hHeld.2.2.1,hHeld.2.2.2.1,hHeld.2.2.2.2⟩ (fun hHeld=>?_)
       clear hK K
       refine er (a':=?_) ?_ ?_
       rotate_left
       ·show Act.put _ (some 52) _ = _
        simp only [Act.put,List.setIfInBounds_toArray,List.set_cons_zero,List.set_cons_succ,aM,b8]
        rfl
       refine af.pu 27 53 z ?_
       refine fN (i:=31) (N:=some 57) #[true,true,true,true,true,true,true,true,true,true,true,true,true,true,true,true,true,true,true,true,true,true,true,true,true,true,true,true,true,true,true,true,false,false,false,false] rfl rfl (da z.out (by kernel_rfl)) (by decide) (fun K hK=>?_)
       refine fC Tryz.func146 (by kernel_rfl) rfl #[.int .i64 (wrap64 (a2 - y))] (by rfl) rfl rfl (by (try simp only [List.map_toArray,List.map_cons,List.map_nil]);first | done | rfl) ?_
       with_reducible refine (fP.calls (wrap64 (a2 - y)) b3 _ hq.out).mono ?_
       rintro e w' ⟨rfl,⟨nd,rfl⟩⟩
       refine ⟨_,rfl,?_⟩
       have f2:0≤(y:Int):=af.D
       have f3:(y:Int) < (((gn X j).length:Int):Int):=af.D
       obtain ⟨eh,hR,ei,ej,g5,hT,el⟩:=Kd.jr a4.out (by omega)
       (first | cases ei | (injection ei with bs ex eQ;(first | subst bs | (injection bs with bs;subst bs));subst eQ;clear ex))
       have g6:=ae.mk ej
       have hU:=ae.mk el
       clear ej g5 el
       (first | simp only [add_plain] at aO | skip)
       obtain ⟨gs,gt⟩:=Kd.gA 0 a4.out (y:Int) f2 f3
       replace f2:=eq_true f2
       replace f3:=eq_true f3
       have g7:(j:Int) < (X.length:Int):=(by have h_:(j:Int) < ((X.length:Int):Int):=af.D;first | exact h_ | (have e_:=(Kd.iN a0.out).1;omega) | simpa only [List.length_set,List.length_set] using h_)
       obtain ⟨hu,hV,f4,g8,e0,f5,e1⟩:=Kd.rI a0.out [] (j:Int) (af.D) g7
       obtain ⟨h0,rfl,ao⟩:=g8
       have db:=e0 0 _ rfl
       rw [Nat.add_zero,show ((Kd.slice 3 (Kd.int .i64))).sz = 1 from rfl,Nat.mul_one] at db
       replace db:=Option.some.inj (db.symm.trans bi.out)
       subst db
       clear e0 f4
       replace ao:=(show Kd.R (Kd.int .i64) 3 _ _ _ _ (gn X j) from ao)
       have dd:=Kd.kF ao (y:Int) (wrap64 ((rd (gn X j) y)+(wrap64 ((wrap64 ((wrap64 ((wrap64 (a3 * (rd a5 j))) * (rd a6 y))) * b2)) * b3))))
       rw [← et.out] at dd
       have e2:=e1 dd.2 (fun k_ e_=>by injection e_ with e_;subst e_;exact ao.1 _ rfl) (x':=dp) (Kd.tZ dd.1)
       rw [← ev.out] at e2
       have g9:=ae.mk e2
       clear dd e2 e1 f5
       refine hK.out _ _ ⟨hHeld.1,hHeld.2.1,hHeld.2.2.1,hHeld.2.2.2.1,hHeld.2.2.2.2⟩ (fun hHeld=>?_)
       clear hK K
       refine er (a':=?_) ?_ ?_
       rotate_left
       ·show Act.put _ (some 57) _ = _
        simp only [Act.put,List.setIfInBounds_toArray,List.set_cons_zero,List.set_cons_succ,aM,b8]
        rfl
       refine af.pu 32 58 z ?_
       refine af.pu 33 59 z ?_
       refine af.pu 34 60 z ?_
       refine lJ (i:=35) (N:=none) #[true,true,true,true,true,true,true,true,true,true,true,true,true,true,true,true,true,true,true,true,true,true,true,true,true,true,true,true,true,true,true,true,true,true,true,true] rfl rfl (da z.out (by kernel_rfl)) (by decide) (fun K hK=>?_)
       refine lK (w1:=?_) (by rfl) rfl ?_ ?_
       rotate_left
       ·go_simp
        rfl
       refine hK.out _ _ ?_
       clear hK K
       refine fO (dU z.out (by kernel_rfl)) ?_
       try go_wp2
       go_roundg k2
       case measure=>have:=e3.out;have:=e4.out;omega
       case rel=>exact ⟨(ec),(a5),(a6),(wrap64 (y+1)),af.F,H',⟨by have:=e3.out;have:=e4.out;omega⟩,⟨g9.out⟩,⟨(Kd.aC (Kd.bD (p:=⟨eh,(y:Int).toNat,none⟩) (Kd.rN ab.out rfl ((a4.out.1 _ rfl).1.1)) (fun _ hk=>hk.2) (.int .i64 (wrap64 ((rd (gn X j) y)+(wrap64 ((wrap64 ((wrap64 ((wrap64 (a3 * (rd a5 j))) * (rd a6 y))) * b2)) * b3)))))) (fun _ hk=>hk.1))⟩,⟨(Kd.aC (Kd.bD (p:=⟨eh,(y:Int).toNat,none⟩) (Kd.rN am.out rfl ((a4.out.1 _ rfl).1.2)) (fun _ hk=>hk.2) (.int .i64 (wrap64 ((rd (gn X j) y)+(wrap64 ((wrap64 ((wrap64 ((wrap64 (a3 * (rd a5 j))) * (rd a6 y))) * b2)) * b3)))))) (fun _ hk=>hk.1))⟩,⟨by (with_reducible repeat (first | refine hJ ?_ _ | refine cO ?_ | refine gx ?_ _));refine lU ?_ (by have h_:=Kd.fS a4.out Y.out (by decide);intro e_;exact h_ (by rw [e_];rfl)) _;(with_reducible repeat (first | refine hJ ?_ _ | refine cO ?_ | refine gx ?_ _));exact Y.out⟩,⟨by repeat (first | (with_reducible first | exact HB.out | apply dX | apply dY | apply cn | refine dP ?_ g6.out | refine dP ?_ em.out) | exact HB.out)⟩⟩
      ·rw [if_neg dk] at H
       have es:decide (y≤a2) = false:=decide_eq_false dk
       clear dk
       have H':=ae.mk H
       clear H
       go_wp2
       go_roundg k2
       case measure=>have:=e3.out;have:=e4.out;omega
       case rel=>exact ⟨(X),(a5),(a6),(wrap64 (j+1)),af.F,H',⟨by have:=e3.out;have:=e4.out;omega⟩,⟨af.Sw a0.out⟩,⟨af.Rw ab.out⟩,⟨af.Rw am.out⟩,⟨af.Bw Y.out⟩,⟨af.Lw HB.out⟩⟩
   ·rw [if_neg df] at H
    have eq:decide (j≤a1) = false:=decide_eq_false df
    clear df
    obtain rfl:=Option.some.inj H
    go_wp2
    go_end0
    exact ⟨rfl,af.Sw (Kd.jI a0.out (fun _ hk=>trivial)),af.Bw Y.out,af.Lw HB.out⟩
mutual
def bZ.l0:Nat→List (List Int)→Int→Int→Int→List Int→Option ((List (List Int)))
 | 0,_,_,_,_,_=>none
 | k+1,Y,z,x5,j,y=>if x5≤z then (if 0≤(wrap64 ((wrap64 (j - z))+1)) then (if (wrap64 ((wrap64 (j - z))+1):Int).toNat≤35184372088832 then (if Y.length < 5864062014805 then (bZ.l0 k (Y ++ [(List.replicate (wrap64 ((wrap64 (j - z))+1):Int).toNat 0)]) z (wrap64 (x5+1)) j y) else (none)) else (none)) else (none)) else (bZ.l1 k Y z 0 j y)
def bZ.l1:Nat→List (List Int)→Int→Int→Int→List Int→Option ((List (List Int)))
 | 0,_,_,_,_,_=>none
 | k+1,Y,z,x6,j,y=>(cF.f j).bind fun a0=>(if x6≤a0 then ((bW.f k j y x6).bind fun X=>((bC.f k x6).bind fun a1=>((bX.f k Y (wrap64 (z - X)) (wrap64 (a1 - X)) 1).bind fun a2=>(bZ.l1 k a2 z (wrap64 (x6+1)) j y)))) else (some Y))
end
def bZ.f (k:Nat) (j:Int) (y:List Int):Option ((List (List Int))):=(some (([]:List (List Int)):List (List Int))).bind fun z=>((cm.f k j y).bind fun X=>(if X < 0 then (some z) else (bZ.l0 k z X 0 j y)))
set_option maxHeartbeats 8000000 in
set_option maxRecDepth 100000 in
theorem bZ.calls (k:Nat) (y:Int) (a0:Option Addr) (a1:Nat) (z:List Int) (r:List (List Int)) (w:World) (bi:Kd.C (Kd.int .i64) w a0 z.length z) (bm:z.length≤a1) (h:bZ.f k y z = some r) :
  Calls Tryz.prog 48 #[.agg #[.int .i64 y,.slice a0 z.length a1]] w fun e w'=>∃ d7:Value,e = .returned (d7)∧Kd.S (Kd.slice 3 (Kd.int .i64)) 28 w' w.heap.size (fun _=>True) d7 r∧Below w.heap.size w w':=by
 have f3:=Tryz.underlying30
 have ar:=ae.mk bi
 have aw:=ae.mk bm
 clear bi bm
 have HB:=ae.mk (Below.refl w.heap.size w)
 unfold bZ.f at h
 have H:=h
 clear h
 obtain ⟨bo,aR⟩:∃ y_:List (List Int),y_ = (([]:List (List Int))):=⟨_,rfl⟩
 replace H:((cm.f k y z).bind fun X=>(if X < 0 then (some bo) else (bZ.l0 k bo X 0 y z))) = some r:=by (try rw [aR]);exact af.Z
 have aa:=ae.mk aR
 clear aR
 obtain ⟨X,A2,H⟩:=af.be H
 (try dsimp only at H)
 by_cases c3:X < 0
 ·rw [if_pos c3] at H
  have d8:=decide_eq_true c3
  clear c3
  obtain rfl:=Option.some.inj H
  go_enter Tryz.func48,Tryz.ntmps48
  go_wp2_with (first | (refine af.bx 1 #[.int .i64 y,.slice a0 z.length a1] 30 ?_;intro a7 hg w4 hbox hb;have j:=ae.mk hbox;have cp:=af.gw hg HB;have bs:=af.gw hg HB;replace HB:=af.lb HB hb;clear hb hbox hg) | ((with_reducible refine bh (N:=8) rfl ?_);refine Kd.u9 (Kd.slice 3 (Kd.int .i64)) _ 28 ?hg (N:=8) ?hd (xs:=([]:List (List Int))) (inner:=[]) (ok:=fun _=>True) (okp:=fun _=>True) ?hr ?hp (fun _ hk=>hk) trivial (Below.refl _ _) (Nat.le_refl _) (by simp) ?_;(case hd=>rfl);(case hg=>rfl);(case hr=>first | (go_simp;done) | (go_simp;rfl));(case hp=>exact (cV.none _ _));intro d9 w5 bv hb c0 a8;clear c0 a8;(first | rw [← aa.out] at bv | (simp only [Int.reduceToNat] at bv;rw [← aa.out] at bv));have a4:=ae.mk (Kd.nK bv (av (af.Lw HB.out)));replace j:=af.bb j hb;replace HB:=af.lb HB hb;clear hb bv;obtain ⟨el,em,eo,eq⟩:=af.bw j.out) | (refine af.gl (some 10) Tryz.func47 #[.agg #[.int .i64 y,.slice a0 z.length a1]] ?_;(with_reducible refine (cm.calls k y _ _ z X _ ?side1 ?side2 A2.out).mono ?_);(case side1=>exact af.Cw (Kd.aT ar.out HB.out));(case side2=>exact aw.out);rintro e w8 ⟨rfl,hb⟩;refine ⟨_,rfl,?_⟩;replace a4:=ae.mk (Kd.js (af.Sw a4.out) hb);replace j:=af.bb j hb;replace HB:=af.lb HB hb;(try clear hb);(try clear db);(try clear hk);(try clear hi)))
  go_ret
  exact ⟨_,af.E,by (with_reducible repeat (first | apply Kd.pZ | apply Kd.q5 | apply Kd.pg));exact a4.out,af.L⟩
 ·rw [if_neg c3] at H
  have d8:decide (X < 0) = false:=decide_eq_false c3
  clear c3
  have H':=ae.mk H
  clear H
  go_enter Tryz.func48,Tryz.ntmps48
  go_wp2_with (first | (refine af.bx 1 #[.int .i64 y,.slice a0 z.length a1] 30 ?_;intro a7 hg w9 hbox hb;have j:=ae.mk hbox;have cp:=af.gw hg HB;have bs:=af.gw hg HB;replace HB:=af.lb HB hb;clear hb hbox hg) | ((with_reducible refine bh (N:=8) rfl ?_);refine Kd.u9 (Kd.slice 3 (Kd.int .i64)) _ 28 ?hg (N:=8) ?hd (xs:=([]:List (List Int))) (inner:=[]) (ok:=fun _=>True) (okp:=fun _=>True) ?hr ?hp (fun _ hk=>hk) trivial (Below.refl _ _) (Nat.le_refl _) (by simp) ?_;(case hd=>rfl);(case hg=>rfl);(case hr=>first | (go_simp;done) | (go_simp;rfl));(case hp=>exact (cV.none _ _));intro d9 f7 am hb c0 a8;clear c0 a8;(first | rw [← aa.out] at am | (simp only [Int.reduceToNat] at am;rw [← aa.out] at am));have a4:=ae.mk (Kd.nK am (av (af.Lw HB.out)));replace j:=af.bb j hb;replace HB:=af.lb HB hb;clear hb am;obtain ⟨dd,df,dk,dl⟩:=af.bw j.out) | (refine af.gl (some 10) Tryz.func47 #[.agg #[.int .i64 y,.slice a0 z.length a1]] ?_;(with_reducible refine (cm.calls k y _ _ z X _ ?side1 ?side2 A2.out).mono ?_);(case side1=>exact af.Cw (Kd.aT ar.out HB.out));(case side2=>exact aw.out);rintro e f8 ⟨rfl,hb⟩;refine ⟨_,rfl,?_⟩;replace a4:=ae.mk (Kd.js (af.Sw a4.out) hb);replace j:=af.bb j hb;replace HB:=af.lb HB hb;(try clear hb);(try clear db);(try clear hk);(try clear hi)))
  go_loopg [3,5] k (fun kq v3 v5 w'=>∃ (a2:List (List Int)) (a5:Int),v5 = .int .i64 a5∧ae (bZ.l0 kq a2 X a5 y z = some r)∧ae (kq≤k)∧ae (Kd.S (Kd.slice 3 (Kd.int .i64)) 28 w' w.heap.size (fun _=>True) v3 a2)∧ae (w'.heap[a7]? = some (.cells #[.int .i64 y,(.slice a0 z.length a1)] 30 (0,0)))∧ae (Below w.heap.size w w'))
  case atStart=>exact ⟨(bo),(0),af.F,H',⟨Nat.le_refl _⟩,⟨af.Sw a4.out⟩,⟨af.Bw j.out⟩,⟨af.Lw HB.out⟩⟩
  case round =>
   clear H'
   obtain ⟨a2,a5,rfl,HA,cb,Y,j,HB⟩:=hrel
   cases gk with
   | zero=>exact absurd HA.out (by simp [bZ.l0])
   | succ k1 =>
    have H:=HA.out
    clear HA
    simp only [bZ.l0] at H
    by_cases ba:a5≤X
    ·rw [if_pos ba] at H
     have d0:=decide_eq_true ba
     clear ba
     obtain ⟨a6,b0⟩:∃ j_:Int,(wrap64 ((wrap64 (y - X))+1)) = j_:=⟨_,rfl⟩
     replace H:(if 0≤(a6) then (if (a6:Int).toNat≤35184372088832 then (if a2.length < 5864062014805 then (bZ.l0 k1 (a2 ++ [(List.replicate (a6:Int).toNat 0)]) X (wrap64 (a5+1)) y z) else (none)) else (none)) else (none)) = some r:=by first | (rw [b0] at H;exact H) | (simp only [b0] at H ⊢;exact H)
     have es:(IntKind.i64.wrap ((wrap64 (y - X))+1)) = a6:=(aM _).trans b0
     obtain ⟨d1,H⟩:=af.ip H
     have et:=eq_true d1
     have ev:decide (0≤(a6)) = true:=decide_eq_true d1
     clear d1
     obtain ⟨d2,H⟩:=af.ip H
     have ew:=eq_true d2
     have ex:decide ((a6:Int).toNat≤35184372088832) = true:=decide_eq_true d2
     clear d2
     obtain ⟨ao,b2⟩:∃ y_:List Int,y_ = (List.replicate (a6:Int).toNat 0):=⟨_,rfl⟩
     replace H:(if a2.length < 5864062014805 then (bZ.l0 k1 (a2 ++ [ao]) X (wrap64 (a5+1)) y z) else (none)) = some r:=by (try rw [b2]);exact af.Z
     have c1:=ae.mk b2
     clear b2
     obtain ⟨dp,H⟩:=af.ip H
     have d3:=ae.mk dp
     clear dp
     obtain ⟨cc,b3⟩:∃ y_:List (List Int),y_ = (a2 ++ [ao]):=⟨_,rfl⟩
     replace H:(bZ.l0 k1 cc X (wrap64 (a5+1)) y z) = some r:=by (try rw [b3]);exact af.Z
     have d4:=ae.mk b3
     clear b3
     have H':=ae.mk H
     clear H
     obtain ⟨dq,dt,du,dv⟩:=af.bw j.out
     go_wp2_with (first | ((with_reducible refine bh (N:=25) rfl ?_);refine Kd.lq (Kd.int .i64) _ 3 rfl (N:=25) rfl 28 _ _ rfl a6 rfl rfl Tryz.underlying28 (.int .i64 0) 8 eI rfl (by decide) (by omega) 0 (ok:=fun _=>True) (okp:=fun _=>True) rfl (fun _ hk=>hk) trivial (af.D) (Nat.le_trans (Nat.mul_le_mul_right _ (af.D:a6.toNat≤35184372088832)) (by omega)) (Below.refl _ _) (Nat.le_refl _) ?_;intro f4 f9 a9 hb c0 a8;clear c0 a8;(first | rw [← c1.out] at a9 | (simp only [Int.reduceToNat] at a9;rw [← c1.out] at a9));replace Y:=ae.mk (Kd.m8 (af.Sw Y.out) (Kd.bn a9) hb);have ab:=ae.mk (Kd.aV a9 (av (af.Lw HB.out)));replace j:=af.bb j hb;replace HB:=af.lb HB hb;clear hb a9;obtain ⟨ce,cf,dC⟩:=Kd.aK ab.out;subst dC) | ((with_reducible refine cP (b:=.append) (xs:=#[.tmp 19,.tmp 26]) rfl ?_);at_builtin;refine Kd.rH (Kd.slice 3 (Kd.int .i64)) (w0:=w) w.heap.size rfl (.tmp 19) (.tmp 26) 57 28 (.slice none 0 0) 24 rfl Tryz.underlying57 uK rfl (by decide) (by omega) u3 a2 ao [.slice ce ao.length cf] (fun _=>True) (fun k_=>some k_ = (.slice ce ao.length cf:Value).ownBlock) rfl rfl ?aP (fun k_ eQ=>((Kd.aC (ok':=fun k_=>((fun _=>True)) k_∧some k_≠(u3:Value).ownBlock) (Kd.oq (ab.out) (Kd.q8 Y.out) (by decide)) (fun k_ hk=>⟨trivial,hk.2⟩))).1 k_ eQ.symm) ?aF ?aO ?aB ?aS ?aL ?_;(case aP=>exact Kd.tZ (Kd.aC (Kd.pY rfl (Kd.aC (ok':=fun k_=>((fun _=>True)) k_∧some k_≠(u3:Value).ownBlock) (Kd.oq (ab.out) (Kd.q8 Y.out) (by decide)) (fun k_ hk=>⟨trivial,hk.2⟩))) (fun _ h_=>h_)));(case aB=>exact (af.Lw HB.out));(case aF=>exact (fun _ _=>trivial));(case aO=>exact (af.Sw (Kd.jI Y.out (fun k_ hk=>⟨trivial,fun e_=>hk.2 e_⟩))));(case aS=>exact (av (af.Lw HB.out)));(case aL=>have:=d3.out;omega);intro f5 fd ho hb hg hat;rw [← d4.out] at ho;have dE:=ae.mk (dJ (g:=a7) (o:=.cells #[.int .i64 y,.slice a0 z.length a1] 30 (0,0)) (af.Bw j.out) hg (Kd.wv Y.out j.out (by decide)));have dT:=ae.mk hb;have e0:=ae.mk ho;clear j;clear HB;clear Y;clear ab;have j:=dE;have HB:=dT;have d5:=e0;clear dE dT e0;clear ho hb hg hat))
     go_roundg k1
     case measure=>have:=cb.out;omega
     case rel=>exact ⟨(cc),(wrap64 (a5+1)),af.F,H',⟨by have:=cb.out;omega⟩,⟨af.Sw d5.out⟩,⟨af.Bw j.out⟩,⟨af.Lw HB.out⟩⟩
    ·rw [if_neg ba] at H
     have d0:decide (a5≤X) = false:=decide_eq_false ba
     clear ba
     have H':=ae.mk H
     clear H
     go_wp2
     go_loopg [6] k1 (fun kq v6 w'=>∃ (b4:List (List Int)) (a3:Int),v6 = .int .i64 a3∧ae (bZ.l1 kq b4 X a3 y z = some r)∧ae (kq≤k1)∧ae (Kd.S (Kd.slice 3 (Kd.int .i64)) 28 w' w.heap.size (fun _=>True) u3 b4)∧ae (w'.heap[a7]? = some (.cells #[.int .i64 y,(.slice a0 z.length a1)] 30 (0,0)))∧ae (Below w.heap.size w w'))
     case atStart=>exact ⟨(a2),(0),af.F,H',⟨Nat.le_refl _⟩,⟨af.Sw Y.out⟩,⟨af.Bw j.out⟩,⟨af.Lw HB.out⟩⟩
     case round =>
      clear H'
      obtain ⟨b4,a3,rfl,HA,e1,Y,j,HB⟩:=hrel
      cases gk with
      | zero=>exact absurd HA.out (by simp [bZ.l1])
      | succ k2 =>
       have H:=HA.out
       clear HA
       simp only [bZ.l1] at H
       obtain ⟨b5,e2,H⟩:=af.be H
       (try dsimp only at H)
       by_cases bc:a3≤b5
       ·rw [if_pos bc] at H
        have d6:=decide_eq_true bc
        clear bc
        obtain ⟨ap,f0,H⟩:=af.be H
        (try dsimp only at H)
        obtain ⟨ca,f1,H⟩:=af.be H
        (try dsimp only at H)
        obtain ⟨ci,f2,H⟩:=af.be H
        (try dsimp only at H)
        have H':=ae.mk H
        clear H
        obtain ⟨e3,e4,e5,e6⟩:=af.bw j.out
        go_wp2_with (first | (refine af.gl (some 31) Tryz.func24 #[.int .i64 y] ?_;(with_reducible refine (cF.calls y b5 _ e2.out).mono ?_);rintro e w' ⟨rfl,⟨nd,rfl⟩⟩;refine ⟨_,rfl,?_⟩) | (refine af.gl (some 37) Tryz.func109 #[.agg #[.int .i64 y,.slice a0 z.length a1],.int .i64 a3] ?_;(with_reducible refine (bW.calls k2 y _ _ z a3 ap _ ?side1 ?side2 f0.out).mono ?_);(case side1=>exact af.Cw (Kd.aT ar.out HB.out));(case side2=>exact aw.out);rintro e fi ⟨rfl,hb⟩;refine ⟨_,rfl,?_⟩;replace Y:=ae.mk (Kd.js (af.Sw Y.out) hb);replace j:=af.bb j hb;replace HB:=af.lb HB hb;(try clear hb);(try clear db);(try clear hk);(try clear hi);obtain ⟨e7,e8,ea,eb⟩:=af.bw j.out) | (refine af.gl (some 43) Tryz.func25 #[.int .i64 a3] ?_;(with_reducible refine (bC.calls k2 a3 ca _ f1.out).mono ?_);rintro e w' ⟨rfl,⟨nd,rfl⟩⟩;refine ⟨_,rfl,?_⟩) | (refine af.gl (some 46) Tryz.func113 #[u3,.int .i64 (wrap64 (X - ap)),.int .i64 (wrap64 (ca - ap)),.int .i64 1] ?_;(with_reducible refine (bX.calls k2 u3 b4 (wrap64 (X - ap)) (wrap64 (ca - ap)) 1 ci a7 y _ _ z w _ (af.Lw HB.out) (af.Sw Y.out) (af.Bw j.out) bs.out f2.out).mono ?_);rintro e f6 ⟨rfl,ec,ed,ee⟩;refine ⟨_,rfl,?_⟩;replace Y:=ae.mk ec;replace j:=ae.mk ed;replace HB:=ae.mk ee;clear ec ed ee))
        go_roundg k2
        case measure=>have:=cb.out;have:=e1.out;omega
        case rel=>exact ⟨(ci),(wrap64 (a3+1)),af.F,H',⟨by have:=cb.out;have:=e1.out;omega⟩,⟨af.Sw Y.out⟩,⟨af.Bw j.out⟩,⟨af.Lw HB.out⟩⟩
       ·rw [if_neg bc] at H
        have d6:decide (a3≤b5) = false:=decide_eq_false bc
        clear bc
        obtain rfl:=Option.some.inj H
        obtain ⟨ef,eh,ei,ej⟩:=af.bw j.out
        go_wp2_with (first | (refine af.gl (some 31) Tryz.func24 #[.int .i64 y] ?_;(with_reducible refine (cF.calls y b5 _ e2.out).mono ?_);rintro e w' ⟨rfl,⟨nd,rfl⟩⟩;refine ⟨_,rfl,?_⟩))
        go_ret
        exact ⟨_,af.E,by (with_reducible repeat (first | apply Kd.pZ | apply Kd.q5 | apply Kd.pg));exact Y.out,af.L⟩
mutual
def bB.l0:Nat→List (List Int)→Int→Int→Int→Int→Int→Option (Int)
 | 0,_,_,_,_,_,_=>none
 | k+1,z,X,Y,x7,x8,j=>if j < (z.length:Int) then (bB.l1 k z X Y x7 x8 j x8 0) else (some x7)
def bB.l1:Nat→List (List Int)→Int→Int→Int→Int→Int→Int→Int→Option (Int)
 | 0,_,_,_,_,_,_,_,_=>none
 | k+1,z,X,Y,x7,x8,j,a0,y=>if 0≤j then (if j < (z.length:Int) then (if y < ((gn z j).length:Int) then (if 0≤y then (bB.l1 k z X Y (wrap64 (x7+(wrap64 ((rd (gn z j) y) * a0)))) x8 j (wrap64 (a0 * Y)) (wrap64 (y+1))) else (none)) else (bB.l0 k z X Y x7 (wrap64 (x8 * X)) (wrap64 (j+1)))) else (none)) else (none)
end
def bB.f (k:Nat) (l0:List (List Int)) (j:Int) (a2:Int):Option (Int):=bB.l0 k l0 j a2 0 1 0
set_option maxHeartbeats 8000000 in
set_option maxRecDepth 100000 in
theorem bB.calls (k:Nat) (A0:Option Addr) (c0:Nat) (l0:List (List Int)) (a1:Int) (a2:Int) (r:Int) (w:World) (b2:Kd.C (Kd.slice 3 (Kd.int .i64)) w A0 l0.length l0) (b3:l0.length≤c0) (h:bB.f k l0 a1 a2 = some r) :
  Calls Tryz.prog 49 #[.slice A0 l0.length c0,.int .i64 a1,.int .i64 a2] w fun e w'=>e = .returned (.int .i64 r)∧cS w w':=by
 have aR:=ae.mk b2
 have cp:=ae.mk b3
 clear b2 b3
 unfold bB.f at h
 have H:=h
 clear h
 have H':=ae.mk H
 clear H
 go_enter Tryz.func49,Tryz.ntmps49
 go_wp2
 go_loopg [7,8,9] k (fun kq v7 v8 v9 w'=>∃ (a9:Int) (a4:Int) (j:Int),v7 = .int .i64 a9∧v8 = .int .i64 a4∧v9 = .int .i64 j∧ae (bB.l0 kq l0 a1 a2 a9 a4 j = some r)∧ae (kq≤k)∧cS w w')
 case atStart=>exact ⟨(0),(1),(0),af.F,af.F,af.F,H',⟨Nat.le_refl _⟩,af.G⟩
 case round =>
  clear H'
  obtain ⟨a9,a4,j,rfl,rfl,rfl,HA,aF,⟨m1,rfl⟩⟩:=hrel
  cases gk with
  | zero=>exact absurd HA.out (by simp [bB.l0])
  | succ k1 =>
   have H:=HA.out
   clear HA
   simp only [bB.l0] at H
   by_cases c4:j < (l0.length:Int)
   ·rw [if_pos c4] at H
    have b4:=decide_eq_true c4
    clear c4
    have H':=ae.mk H
    clear H
    go_wp2
    go_loopg [7,10,11] k1 (fun kq v7 v10 v11 w'=>∃ (a5:Int) (Y:Int) (y:Int),v7 = .int .i64 a5∧v10 = .int .i64 Y∧v11 = .int .i64 y∧ae (bB.l1 kq l0 a1 a2 a5 a4 j Y y = some r)∧ae (kq≤k1)∧cS w w')
    case atStart=>exact ⟨(a9),(a4),(0),af.F,af.F,af.F,H',⟨Nat.le_refl _⟩,af.G⟩
    case round =>
     clear H'
     obtain ⟨a5,Y,y,rfl,rfl,rfl,HA,aL,⟨m2,rfl⟩⟩:=hrel
     cases gk with
     | zero=>exact absurd HA.out (by simp [bB.l1])
     | succ k2 =>
      have H:=HA.out
      clear HA
      simp only [bB.l1] at H
      obtain ⟨c5,H⟩:=af.ip H
      have cb:=decide_eq_true c5
      clear c5
      obtain ⟨c6,H⟩:=af.ip H
      have cc:=decide_eq_true c6
      clear c6
      by_cases c7:y < ((gn l0 j).length:Int)
      ·rw [if_pos c7] at H
       have b5:=decide_eq_true c7
       clear c7
       obtain ⟨c8,H⟩:=af.ip H
       have ce:=decide_eq_true c8
       clear c8
       have H':=ae.mk H
       clear H
       have a0:0≤(j:Int):=af.D
       have a3:j < (l0.length:Int):=af.D
       obtain ⟨aa,aO,aP,ab,a6,z,X⟩:=ow aR.out j a0 a3
       cases ab
       have am:=ae.mk X
       have ao:=ae.mk z
       clear X z
       replace a0:=eq_true a0
       replace a3:=eq_true a3
       have ap:0≤(j:Int):=af.D
       have ar:j < (l0.length:Int):=af.D
       obtain ⟨aS,bo,bs,ba,aw,a7,a8⟩:=ow aR.out j ap ar
       obtain rfl:aa = aS:=(by injection ba)
       have aB:=ae.mk a8
       have bc:=ae.mk a7
       clear a8 a7
       replace ap:=eq_true ap
       replace ar:=eq_true ar
       have b0:=Option.some.inj (a6.symm.trans aw)
       injection b0 with b0 bv c1
       subst b0
       subst c1
       clear bv
       obtain ⟨ca,bi,bm,cf,ci⟩:=af.ai aB.out y
       cases bi
       go_wp2
       go_roundg k2
       case measure=>have:=aF.out;have:=aL.out;omega
       case rel=>exact ⟨(wrap64 (a5+(wrap64 ((rd (gn l0 j) y) * Y)))),(wrap64 (Y * a2)),(wrap64 (y+1)),af.F,af.F,af.F,H',⟨by have:=aF.out;have:=aL.out;omega⟩,af.G⟩
      ·rw [if_neg c7] at H
       have b5:decide (y < ((gn l0 j).length:Int)) = false:=decide_eq_false c7
       clear c7
       have H':=ae.mk H
       clear H
       have a0:0≤(j:Int):=af.D
       have a3:j < (l0.length:Int):=af.D
       obtain ⟨aa,aO,aP,ab,a6,z,X⟩:=ow aR.out j a0 a3
       cases ab
       have am:=ae.mk X
       have ao:=ae.mk z
       clear X z
       replace a0:=eq_true a0
       replace a3:=eq_true a3
       go_wp2
       go_roundg k2
       case measure=>have:=aF.out;have:=aL.out;omega
       case rel=>exact ⟨(a5),(wrap64 (a4 * a1)),(wrap64 (j+1)),af.F,af.F,af.F,H',⟨by have:=aF.out;have:=aL.out;omega⟩,af.G⟩
   ·rw [if_neg c4] at H
    have b4:decide (j < (l0.length:Int)) = false:=decide_eq_false c4
    clear c4
    obtain rfl:=Option.some.inj H
    go_wp2
    go_ret
    exact ⟨af.F,af.G⟩
end Go.Proofs.YtmpodackojmojaaGreat.Pr
end
