/- The claim FnLattice: every text that its row comes to, laid together by slim.py (the words of the kit's print, the printed walks, the pure law, the row). -/
import Derived.Test.YtmpodackojmojaaGreatYFnLattice4
section
namespace Go.Proofs.YtmpodackojmojaaGreat.Pr
open Go.RowKit Go.Proofs.ag.aX Go.Proofs.ag.bU Go.Proofs.ag.bQ
attribute [local go_sem] je jf jW jX iF iG jg jh
set_option linter.unusedVariables false
set_option linter.unusedSimpArgs false
mutual
def aq.j0:Nat→Int→Int→List Int→Int→Int→Int→Int→Bool→Int→List Int→Int→List Int→Int→List Int→Option (Bool)
 | 0,_,_,_,_,_,_,_,_,_,_,_,_,_,_=>none
 | k+1,x4,x5,x7,a3,a4,a5,a6,ba,z,X,j,y,Y,a0=>if ba = true then (some false) else ((cL.f k Y a0).bind fun a1=>((aI.f k a1 a3).bind fun a7=>(if a7 = true then ((aI.f k a1 a4).bind fun a8=>(if a8 = true then ((aI.f k a1 a5).bind fun a9=>(if a9 = true then ((aI.f k a1 a6).bind fun aa=>(if aa = true then ((bK.f k Y a0 a5).bind fun ab=>((bK.f k Y a0 a6).bind fun am=>((bK.f k Y a0 a3).bind fun ao=>((bK.f k Y a0 a4).bind fun ap=>(aq.j1 k x4 x5 x7 (decide ((wrap64 (ab+am)) > (wrap64 (ao+ap)))) z X j y))))) else (aq.j1 k x4 x5 x7 true z X j y))) else (aq.j1 k x4 x5 x7 true z X j y))) else (aq.j1 k x4 x5 x7 false z X j y))) else (aq.j1 k x4 x5 x7 false z X j y))))
def aq.j1:Nat→Int→Int→List Int→Bool→Int→List Int→Int→List Int→Option (Bool)
 | 0,_,_,_,_,_,_,_,_=>none
 | k+1,x4,x5,x7,ar,z,X,j,y=>if ar = true then (some false) else ((cL.f k z X).bind fun aw=>((aI.f k aw x4).bind fun aB=>(if aB = true then ((bK.f k z X x4).bind fun aF=>((dD.f k (-1) aF).bind fun aL=>(aq.j2 k x7 (decide ((wrap64 (x5 * aL))≤0)) j y))) else (aq.j2 k x7 false j y))))
def aq.j2:Nat→List Int→Bool→Int→List Int→Option (Bool)
 | 0,_,_,_,_=>none
 | k+1,x7,aO,j,y=>if aO = true then (some false) else ((bI.f k j y).bind fun aP=>(if aP = true then ((cm.f k j y).bind fun aR=>((bZ.f k j y).bind fun aS=>(aq.l0 k x7 aR aS 0))) else (some ((x7.length:Int) == 0))))
def aq.l0:Nat→List Int→Int→List (List Int)→Int→Option (Bool)
 | 0,_,_,_,_=>none
 | k+1,x7,b0,b2,a2=>if a2 < 4 then ((bT.f k x7 a2).bind fun b3=>((dD.f k (-1) b0).bind fun b4=>((bB.f k b2 (wrap64 (1 - a2)) 0).bind fun b5=>(if b3 = (wrap64 (b4 * b5)) then (aq.l0 k x7 b0 b2 (wrap64 (a2+1))) else (some false))))) else (some true)
end
def aq.f (k:Nat) (l0:List Int):Option (Bool):=(iO.f l0).bind fun a3=>(if a3 = true then (some true) else ((eg.f k l0).bind fun y=>((cT.f k y.1 y.2.1 y.2.2).bind fun X=>((dn.f k l0).bind fun z=>((aU.f k z.1 z.2).bind fun Y=>((dR.f k l0).bind fun a2=>((bP.f k z.1 z.2).bind fun a4=>((ek.f k l0).bind fun j=>((eY.f k j.1 j.2.1 j.2.2.1 j.2.2.2).bind fun a0=>((eZ.f k j.1 j.2.1 j.2.2.1 j.2.2.2).bind fun a1=>((cy.f k y.1 y.2.1 y.2.2).bind fun a5=>(if X = a5 then ((aE.f k z.1 z.2).bind fun a6=>((ct.f k Y a6).bind fun a7=>(if a7 = true then ((bT.f k a2.1 a2.2).bind fun a8=>((cD.f k a2.1 a2.2).bind fun a9=>(if a8 = a9 then ((bF.f k z.1 z.2).bind fun aa=>((ct.f k a4 aa).bind fun ab=>(if ab = true then ((en.f k j.1 j.2.1 j.2.2.1 j.2.2.2).bind fun am=>(if a0 = am then ((ez.f k j.1 j.2.1 j.2.2.1 j.2.2.2).bind fun ao=>(aq.j0 k y.2.2 X Y j.2.2.1 j.2.2.2 a0 a1 (a1 != ao) y.1 y.2.1 z.1 z.2 j.1 j.2.1)) else (aq.j0 k y.2.2 X Y j.2.2.1 j.2.2.2 a0 a1 true y.1 y.2.1 z.1 z.2 j.1 j.2.1))) else (aq.j0 k y.2.2 X Y j.2.2.1 j.2.2.2 a0 a1 true y.1 y.2.1 z.1 z.2 j.1 j.2.1)))) else (aq.j0 k y.2.2 X Y j.2.2.1 j.2.2.2 a0 a1 true y.1 y.2.1 z.1 z.2 j.1 j.2.1)))) else (aq.j0 k y.2.2 X Y j.2.2.1 j.2.2.2 a0 a1 true y.1 y.2.1 z.1 z.2 j.1 j.2.1)))) else (aq.j0 k y.2.2 X Y j.2.2.1 j.2.2.2 a0 a1 true y.1 y.2.1 z.1 z.2 j.1 j.2.1)))))))))))))
def aq.wO:Bool×List (List Nat×List Nat):=(true,[([],[]),([],[]),([0,1],[0,1]),([2,2],[2]),([3],[3]),([3],[3]),([4,5,3,3],[3,4,5]),([3,6],[3,6]),([7,6],[7]),([8],[8]),([8],[8]),([9,10,8,8],[8,9,10]),([11,8],[8,11]),([12,11,8],[8,12]),([13],[13]),([13],[13]),([14,15,13,13],[13,14,15]),([16,13],[13,16]),([13,17,8],[8,13,17]),([18,16,8],[8,18]),([19],[19]),([19],[19]),([20,21,19,19],[19,20,21]),([19],[19]),([19],[19]),([23,24,22,19],[19,23,24]),([22,25,19],[19,22,25]),([19],[19]),([19],[19]),([27,28,25,19],[19,27,28]),([19],[19]),([19],[19]),([30,31,29,19],[19,30,31]),([29,32,19],[19,29,32]),([26,33,19],[19,26,33]),([19,34,8],[8,19,34]),([8,35],[8,35])])
def aq.wX:List Nat:=[0,0,3,7,15,15,63,127,255,511,511,2047,4095,8191,16383,16383,65535,131071,262143,524287,1048575,1048575,4194303,1048575,1048575,33554431,67108863,1048575,1048575,469762047,1048575,1048575,4227858431,8522825727,17179869183,34359738367,68719476735]
theorem aq.oy:gm .any (opsOf Tryz.f4 15) = aq.wO:=by kernel_rfl
theorem aq.mm:eT aq.wO.2 aq.wX = true:=by kernel_rfl
set_option maxHeartbeats 8000000 in
set_option maxRecDepth 100000 in
theorem aq.calls (k:Nat) (A0:Option Addr) (c0:Nat) (l0:List Int) (r:Bool) (w:World) (nb:Kd.C (Kd.int .u8) w A0 l0.length l0) (ne:l0.length≤c0) (hT:ae (r = true)) (h:aq.f k l0 = some r) :
  Calls Tryz.prog 4 #[.slice A0 l0.length c0] w fun e w'=>e = .returned (.bool r)∧Below w.heap.size w w':=by
 have xG:=Tryz.underlying30
 have g6:=ae.mk nb
 have g7:=ae.mk ne
 clear nb ne
 have HB:=ae.mk (Below.refl w.heap.size w)
 unfold aq.f at h
 have H:=h
 clear h
 obtain ⟨no,A2,H⟩:=af.be H
 (try dsimp only at H)
 by_cases c3:no = true
 ·subst c3
  replace H:(some true) = some r:=by rw [if_pos rfl] at H;exact H
  obtain rfl:=Option.some.inj H
  go_enter Tryz.func4,Tryz.ntmps4
  go_wp2_with (first | ((with_reducible refine aA (f:=6) rfl ?_);refine af.gl (some 21) Tryz.func6 #[.slice A0 l0.length c0] ?_;(with_reducible refine (iO.calls _ _ l0 true _ ?side1 ?side2 A2.out).mono ?_);(case side1=>exact af.Cw g6.out);(case side2=>exact g7.out);rintro e w' ⟨rfl,⟨nd,rfl⟩⟩;refine ⟨_,rfl,?_⟩))
  go_ret
  exact ⟨af.E,af.L⟩
 ·replace c3:=Bool.eq_false_iff.mpr c3
  subst c3
  replace H:((eg.f k l0).bind fun bs=>((cT.f k bs.1 bs.2.1 bs.2.2).bind fun aP=>((dn.f k l0).bind fun ce=>((aU.f k ce.1 ce.2).bind fun aB=>((dR.f k l0).bind fun el=>((bP.f k ce.1 ce.2).bind fun e8=>((ek.f k l0).bind fun aL=>((eY.f k aL.1 aL.2.1 aL.2.2.1 aL.2.2.2).bind fun aS=>((eZ.f k aL.1 aL.2.1 aL.2.2.1 aL.2.2.2).bind fun bi=>((cy.f k bs.1 bs.2.1 bs.2.2).bind fun d7=>(if aP = d7 then ((aE.f k ce.1 ce.2).bind fun df=>((ct.f k aB df).bind fun g9=>(if g9 = true then ((bT.f k el.1 el.2).bind fun d8=>((cD.f k el.1 el.2).bind fun d9=>(if d8 = d9 then ((bF.f k ce.1 ce.2).bind fun dE=>((ct.f k e8 dE).bind fun f0=>(if f0 = true then ((en.f k aL.1 aL.2.1 aL.2.2.1 aL.2.2.2).bind fun db=>(if aS = db then ((ez.f k aL.1 aL.2.1 aL.2.2.1 aL.2.2.2).bind fun e4=>(aq.j0 k bs.2.2 aP aB aL.2.2.1 aL.2.2.2 aS bi (bi != e4) bs.1 bs.2.1 ce.1 ce.2 aL.1 aL.2.1)) else (aq.j0 k bs.2.2 aP aB aL.2.2.1 aL.2.2.2 aS bi true bs.1 bs.2.1 ce.1 ce.2 aL.1 aL.2.1))) else (aq.j0 k bs.2.2 aP aB aL.2.2.1 aL.2.2.2 aS bi true bs.1 bs.2.1 ce.1 ce.2 aL.1 aL.2.1)))) else (aq.j0 k bs.2.2 aP aB aL.2.2.1 aL.2.2.2 aS bi true bs.1 bs.2.1 ce.1 ce.2 aL.1 aL.2.1)))) else (aq.j0 k bs.2.2 aP aB aL.2.2.1 aL.2.2.2 aS bi true bs.1 bs.2.1 ce.1 ce.2 aL.1 aL.2.1)))) else (aq.j0 k bs.2.2 aP aB aL.2.2.1 aL.2.2.2 aS bi true bs.1 bs.2.1 ce.1 ce.2 aL.1 aL.2.1)))))))))))) = some r:=by rw [if_neg (show ¬ (false = true) by decide)] at H;exact H
  obtain ⟨⟨aw,aa,aO⟩,A4,H⟩:=af.be H
  (try dsimp only at H)
  obtain ⟨aP,A5,H⟩:=af.be H
  (try dsimp only at H)
  obtain ⟨⟨ao,a6⟩,A6,H⟩:=af.be H
  (try dsimp only at H)
  obtain ⟨aB,A7,H⟩:=af.be H
  (try dsimp only at H)
  obtain ⟨⟨dt,du⟩,A8,H⟩:=af.be H
  (try dsimp only at H)
  obtain ⟨e8,A9,H⟩:=af.be H
  (try dsimp only at H)
  obtain ⟨⟨ar,a7,b2,b3⟩,wb,H⟩:=af.be H
  (try dsimp only at H)
  obtain ⟨aS,wd,H⟩:=af.be H
  (try dsimp only at H)
  obtain ⟨bi,wf,H⟩:=af.be H
  (try dsimp only at H)
  have gb:=ae.mk H
  clear H
  go_enter Tryz.func4,Tryz.ntmps4
  go_upto_region 12 with (first | ((with_reducible refine aA (f:=6) rfl ?_);refine af.gl (some 21) Tryz.func6 #[.slice A0 l0.length c0] ?_;(with_reducible refine (iO.calls _ _ l0 false _ ?side1 ?side2 A2.out).mono ?_);(case side1=>exact af.Cw g6.out);(case side2=>exact g7.out);rintro e w' ⟨rfl,⟨nd,rfl⟩⟩;refine ⟨_,rfl,?_⟩) | ((with_reducible refine aA (f:=27) rfl ?_);refine af.gl (some 24) Tryz.func27 #[.slice A0 l0.length c0] ?_;(with_reducible refine (eg.calls k _ _ l0 aw aa aO _ ?side1 ?side2 A4.out).mono ?_);(case side1=>exact af.Cw g6.out);(case side2=>exact g7.out);rintro e yG ⟨xH,rfl,a8,hb⟩;refine ⟨_,rfl,?_⟩;have a2:=ae.mk (Kd.aV a8 (av (af.Lw HB.out)));replace HB:=af.lb HB hb;(try clear hb);(try clear cp);(try clear hk);(try clear hi);(try clear a8)) | ((with_reducible refine bh (N:=3) rfl ?_);refine af.bx 3 #[.int .i64 0,.slice none 0 0] 30 ?_;intro d5 hg yH hbox hb;replace a2:=af.rb a2 hb;have X:=ae.mk hbox;have wi:=af.gw hg HB;have wl:=af.gw hg HB;replace HB:=af.lb HB hb;clear hb hbox hg;obtain ⟨np,ns,nz,o0⟩:=af.bw X.out;obtain ⟨ba,b4,o1⟩:=Kd.aK a2.out;subst o1) | ((with_reducible refine aA (f:=28) rfl ?_);refine af.gl (some 29) Tryz.func28 #[.agg #[.int .i64 aw,.slice ba aa.length b4],.int .i64 aO] ?_;(with_reducible refine (cT.calls k aw _ _ aa aO aP _ ?side1 ?side2 A5.out).mono ?_);(case side1=>refine (Kd.ah (e:=3) (base:=w.heap.size) (ok:=fun k_=>True) (n:=aa.length) (c:=b4) ?_).2.2;exact (af.Rw ((Kd.aC (Kd.bD (p:=⟨d5,1,none⟩) (Kd.bD (p:=⟨d5,0,none⟩) (Kd.bS a2.out X.out (by decide)) (fun _ hk=>hk.2) (.int .i64 aw)) (fun _ hk=>hk.2) (.slice ba aa.length b4)) (fun _ h_=>h_.1)))));(case side2=>exact (Kd.ah a2.out).2.1);rintro e yI ⟨rfl,hb⟩;refine ⟨_,rfl,?_⟩;replace a2:=ae.mk (Kd.dW (af.Rw ((Kd.aC (Kd.bD (p:=⟨d5,1,none⟩) (Kd.bD (p:=⟨d5,0,none⟩) (Kd.bS a2.out X.out (by decide)) (fun _ hk=>hk.2) (.int .i64 aw)) (fun _ hk=>hk.2) (.slice ba aa.length b4)) (fun _ h_=>h_.1)))) hb);replace X:=ae.mk (b7 (g:=d5) (o:=.cells #[.int .i64 aw,.slice ba aa.length b4] 30 (0,0)) af.B hb);replace HB:=ae.mk (ax af.L hb);(try clear hb);(try clear cp);(try clear hk);(try clear hi)) | ((with_reducible refine aA (f:=29) rfl ?_);refine af.gl (some 31) Tryz.func29 #[.slice A0 l0.length c0] ?_;(with_reducible refine (dn.calls k _ _ l0 ao a6 _ ?side1 ?side2 A6.out).mono ?_);(case side1=>exact af.Cw (Kd.aT g6.out HB.out));(case side2=>exact g7.out);rintro e yJ ⟨xI,rfl,a8,hb⟩;refine ⟨_,rfl,?_⟩;have a3:=ae.mk (Kd.aV (Kd.br a8 (Kd.cK (af.Rw a2.out))) (av af.L));replace a2:=ae.mk (Kd.aQ (af.Rw a2.out) (Kd.bn a8) hb);replace X:=af.bb X hb;replace HB:=ae.mk (ax af.L hb);(try clear hb);(try clear cp);(try clear hk);(try clear hi);(try clear a8)) | ((with_reducible refine bh (N:=6) rfl ?_);refine af.bx 6 #[.int .i64 0,.slice none 0 0] 30 ?_;intro d2 hg yK hbox hb;replace a2:=af.rb a2 hb;replace a3:=af.rb a3 hb;have Y:=ae.mk hbox;have wn:=af.gL (w:=w) hg af.L;have wr:=af.gL (w:=w) hg af.L;replace HB:=ae.mk (ax af.L hb);have bv:=af.nl hg X;have c1:=af.ng hg X;replace X:=af.bb X hb;clear hb hbox hg;have ws:=c1.out;have wt:=bv.out;obtain ⟨o2,ob,oj,ol⟩:=af.bw Y.out;obtain ⟨bo,bm,on⟩:=Kd.aK a3.out;subst on) | ((with_reducible refine aA (f:=30) rfl ?_);refine af.gl (some 33) Tryz.func30 #[.agg #[.int .i64 ao,.slice bo a6.length bm]] ?_;(with_reducible refine (aU.calls k ao _ _ a6 aB _ ?side1 ?side2 A7.out).mono ?_);(case side1=>refine (Kd.ah (e:=3) (base:=w.heap.size) (ok:=fun k_=>(True∧some k_≠(.slice ba aa.length b4:Value).ownBlock)) (n:=a6.length) (c:=bm) ?_).2.2;exact (af.Rw ((Kd.aC (Kd.bD (p:=⟨d2,1,none⟩) (Kd.bD (p:=⟨d2,0,none⟩) (Kd.bS a3.out Y.out (by decide)) (fun _ hk=>hk.2) (.int .i64 ao)) (fun _ hk=>hk.2) (.slice bo a6.length bm)) (fun _ h_=>h_.1)))));(case side2=>exact (Kd.ah a3.out).2.1);rintro e yL ⟨d3,rfl,a8,hb⟩;refine ⟨_,rfl,?_⟩;have a4:=ae.mk (Kd.aV (Kd.br (Kd.br a8 (Kd.cK (af.Rw ((Kd.aC (Kd.bD (p:=⟨d2,1,none⟩) (Kd.bD (p:=⟨d2,0,none⟩) (Kd.bS a2.out Y.out (by decide)) (fun _ hk=>hk.2) (.int .i64 ao)) (fun _ hk=>hk.2) (.slice bo a6.length bm)) (fun _ h_=>h_.1)))))) (Kd.cK (af.Rw ((Kd.aC (Kd.bD (p:=⟨d2,1,none⟩) (Kd.bD (p:=⟨d2,0,none⟩) (Kd.bS a3.out Y.out (by decide)) (fun _ hk=>hk.2) (.int .i64 ao)) (fun _ hk=>hk.2) (.slice bo a6.length bm)) (fun _ h_=>h_.1)))))) (av af.L));replace a2:=ae.mk (Kd.aQ (af.Rw ((Kd.aC (Kd.bD (p:=⟨d2,1,none⟩) (Kd.bD (p:=⟨d2,0,none⟩) (Kd.bS a2.out Y.out (by decide)) (fun _ hk=>hk.2) (.int .i64 ao)) (fun _ hk=>hk.2) (.slice bo a6.length bm)) (fun _ h_=>h_.1)))) (Kd.bn a8) hb);replace a3:=ae.mk (Kd.aQ (af.Rw ((Kd.aC (Kd.bD (p:=⟨d2,1,none⟩) (Kd.bD (p:=⟨d2,0,none⟩) (Kd.bS a3.out Y.out (by decide)) (fun _ hk=>hk.2) (.int .i64 ao)) (fun _ hk=>hk.2) (.slice bo a6.length bm)) (fun _ h_=>h_.1)))) (Kd.bn a8) hb);replace X:=ae.mk (b7 (g:=d5) (o:=.cells #[.int .i64 aw,.slice ba aa.length b4] 30 (0,0)) af.B hb);replace Y:=ae.mk (b7 (g:=d2) (o:=.cells #[.int .i64 ao,.slice bo a6.length bm] 30 (0,0)) af.B hb);replace HB:=ae.mk (ax af.L hb);(try clear hb);(try clear cp);(try clear hk);(try clear hi);(try clear a8)) | ((with_reducible refine aA (f:=31) rfl ?_);refine af.gl (some 36) Tryz.func31 #[.slice A0 l0.length c0] ?_;(with_reducible refine (dR.calls k _ _ l0 dt du _ ?side1 ?side2 A8.out).mono ?_);(case side1=>exact af.Cw (Kd.aT g6.out HB.out));(case side2=>exact g7.out);rintro e yM ⟨os,rfl,a8,hb⟩;refine ⟨_,rfl,?_⟩;have a5:=ae.mk (Kd.aV (Kd.br (Kd.br (Kd.br a8 (Kd.cK (af.Rw a2.out))) (Kd.cK (af.Rw a3.out))) (Kd.cK (af.Rw a4.out))) (av af.L));replace a2:=ae.mk (Kd.aQ (af.Rw a2.out) (Kd.bn a8) hb);replace a3:=ae.mk (Kd.aQ (af.Rw a3.out) (Kd.bn a8) hb);replace a4:=ae.mk (Kd.aQ (af.Rw a4.out) (Kd.bn a8) hb);replace X:=af.bb X hb;replace Y:=af.bb Y hb;replace HB:=ae.mk (ax af.L hb);(try clear hb);(try clear cp);(try clear hk);(try clear hi);(try clear a8);obtain ⟨p0,p1,p2,p3⟩:=af.bw Y.out) | ((with_reducible refine aA (f:=32) rfl ?_);refine af.gl (some 40) Tryz.func32 #[.agg #[.int .i64 ao,.slice bo a6.length bm]] ?_;(with_reducible refine (bP.calls k ao _ _ a6 e8 _ ?side1 ?side2 A9.out).mono ?_);(case side1=>exact af.Cw ((Kd.ah a3.out).2.2));(case side2=>exact (Kd.ah a3.out).2.1);rintro e yN ⟨p6,rfl,a8,hb⟩;refine ⟨_,rfl,?_⟩;have ab:=ae.mk (Kd.aV (Kd.br (Kd.br (Kd.br (Kd.br a8 (Kd.cK (af.Rw a2.out))) (Kd.cK (af.Rw a3.out))) (Kd.cK (af.Rw a4.out))) (Kd.cK (af.Rw a5.out))) (av af.L));replace a2:=ae.mk (Kd.aQ (af.Rw a2.out) (Kd.bn a8) hb);replace a3:=ae.mk (Kd.aQ (af.Rw a3.out) (Kd.bn a8) hb);replace a4:=ae.mk (Kd.aQ (af.Rw a4.out) (Kd.bn a8) hb);replace a5:=ae.mk (Kd.aQ (af.Rw a5.out) (Kd.bn a8) hb);replace X:=af.bb X hb;replace Y:=af.bb Y hb;replace HB:=ae.mk (ax af.L hb);(try clear hb);(try clear cp);(try clear hk);(try clear hi);(try clear a8)) | ((with_reducible refine aA (f:=33) rfl ?_);refine af.gl (some 43) Tryz.func33 #[.slice A0 l0.length c0] ?_;(with_reducible refine (ek.calls k _ _ l0 ar a7 b2 b3 _ ?side1 ?side2 wb.out).mono ?_);(case side1=>exact af.Cw (Kd.aT g6.out HB.out));(case side2=>exact g7.out);rintro e yO ⟨xJ,rfl,a8,hb⟩;refine ⟨_,rfl,?_⟩;have a9:=ae.mk (Kd.aV (Kd.br (Kd.br (Kd.br (Kd.br (Kd.br a8 (Kd.cK (af.Rw a2.out))) (Kd.cK (af.Rw a3.out))) (Kd.cK (af.Rw a4.out))) (Kd.cK (af.Rw a5.out))) (Kd.cK (af.Rw ab.out))) (av af.L));replace a2:=ae.mk (Kd.aQ (af.Rw a2.out) (Kd.bn a8) hb);replace a3:=ae.mk (Kd.aQ (af.Rw a3.out) (Kd.bn a8) hb);replace a4:=ae.mk (Kd.aQ (af.Rw a4.out) (Kd.bn a8) hb);replace a5:=ae.mk (Kd.aQ (af.Rw a5.out) (Kd.bn a8) hb);replace ab:=ae.mk (Kd.aQ (af.Rw ab.out) (Kd.bn a8) hb);replace X:=af.bb X hb;replace Y:=af.bb Y hb;replace HB:=ae.mk (ax af.L hb);(try clear hb);(try clear cp);(try clear hk);(try clear hi);(try clear a8)) | ((with_reducible refine bh (N:=11) rfl ?_);refine af.bx 11 #[.int .i64 0,.slice none 0 0] 30 ?_;intro ca hg yP hbox hb;replace a2:=af.rb a2 hb;replace a3:=af.rb a3 hb;replace a4:=af.rb a4 hb;replace a5:=af.rb a5 hb;replace ab:=af.rb ab hb;replace a9:=af.rb a9 hb;have z:=ae.mk hbox;have ww:=af.gL (w:=w) hg af.L;have wx:=af.gL (w:=w) hg af.L;replace HB:=ae.mk (ax af.L hb);have cb:=af.nl hg X;have cc:=af.ng hg X;replace X:=af.bb X hb;have cf:=af.nl hg Y;have ci:=af.ng hg Y;replace Y:=af.bb Y hb;clear hb hbox hg;have wy:=cc.out;have x0:=cb.out;have x1:=ci.out;have x2:=cf.out;obtain ⟨p7,p9,pa,pd⟩:=af.bw z.out;obtain ⟨bc,b5,pf⟩:=Kd.aK a9.out;subst pf) | ((with_reducible refine aA (f:=34) rfl ?_);refine af.gl (some 50) Tryz.func34 #[.agg #[.int .i64 ar,.slice bc a7.length b5],.int .i64 b2,.int .i64 b3] ?_;(with_reducible refine (eY.calls k ar _ _ a7 b2 b3 aS _ ?side1 ?side2 wd.out).mono ?_);(case side1=>refine (Kd.ah (e:=3) (base:=w.heap.size) (ok:=fun k_=>(((((True∧some k_≠(.slice ba aa.length b4:Value).ownBlock)∧some k_≠(.slice bo a6.length bm:Value).ownBlock)∧some k_≠(d3:Value).ownBlock)∧some k_≠(os:Value).ownBlock)∧some k_≠(p6:Value).ownBlock)) (n:=a7.length) (c:=b5) ?_).2.2;exact (af.Rw ((Kd.aC (Kd.bD (p:=⟨ca,1,none⟩) (Kd.bD (p:=⟨ca,0,none⟩) (Kd.bS a9.out z.out (by decide)) (fun _ hk=>hk.2) (.int .i64 ar)) (fun _ hk=>hk.2) (.slice bc a7.length b5)) (fun _ h_=>h_.1)))));(case side2=>exact (Kd.ah a9.out).2.1);rintro e yQ ⟨rfl,hb⟩;refine ⟨_,rfl,?_⟩;replace a2:=ae.mk (Kd.dW (af.Rw ((Kd.aC (Kd.bD (p:=⟨ca,1,none⟩) (Kd.bD (p:=⟨ca,0,none⟩) (Kd.bS a2.out z.out (by decide)) (fun _ hk=>hk.2) (.int .i64 ar)) (fun _ hk=>hk.2) (.slice bc a7.length b5)) (fun _ h_=>h_.1)))) hb);replace a3:=ae.mk (Kd.dW (af.Rw ((Kd.aC (Kd.bD (p:=⟨ca,1,none⟩) (Kd.bD (p:=⟨ca,0,none⟩) (Kd.bS a3.out z.out (by decide)) (fun _ hk=>hk.2) (.int .i64 ar)) (fun _ hk=>hk.2) (.slice bc a7.length b5)) (fun _ h_=>h_.1)))) hb);replace a4:=ae.mk (Kd.dW (af.Rw ((Kd.aC (Kd.bD (p:=⟨ca,1,none⟩) (Kd.bD (p:=⟨ca,0,none⟩) (Kd.bS a4.out z.out (by decide)) (fun _ hk=>hk.2) (.int .i64 ar)) (fun _ hk=>hk.2) (.slice bc a7.length b5)) (fun _ h_=>h_.1)))) hb);replace a5:=ae.mk (Kd.dW (af.Rw ((Kd.aC (Kd.bD (p:=⟨ca,1,none⟩) (Kd.bD (p:=⟨ca,0,none⟩) (Kd.bS a5.out z.out (by decide)) (fun _ hk=>hk.2) (.int .i64 ar)) (fun _ hk=>hk.2) (.slice bc a7.length b5)) (fun _ h_=>h_.1)))) hb);replace ab:=ae.mk (Kd.dW (af.Rw ((Kd.aC (Kd.bD (p:=⟨ca,1,none⟩) (Kd.bD (p:=⟨ca,0,none⟩) (Kd.bS ab.out z.out (by decide)) (fun _ hk=>hk.2) (.int .i64 ar)) (fun _ hk=>hk.2) (.slice bc a7.length b5)) (fun _ h_=>h_.1)))) hb);replace a9:=ae.mk (Kd.dW (af.Rw ((Kd.aC (Kd.bD (p:=⟨ca,1,none⟩) (Kd.bD (p:=⟨ca,0,none⟩) (Kd.bS a9.out z.out (by decide)) (fun _ hk=>hk.2) (.int .i64 ar)) (fun _ hk=>hk.2) (.slice bc a7.length b5)) (fun _ h_=>h_.1)))) hb);replace X:=ae.mk (b7 (g:=d5) (o:=.cells #[.int .i64 aw,.slice ba aa.length b4] 30 (0,0)) af.B hb);replace Y:=ae.mk (b7 (g:=d2) (o:=.cells #[.int .i64 ao,.slice bo a6.length bm] 30 (0,0)) af.B hb);replace z:=ae.mk (b7 (g:=ca) (o:=.cells #[.int .i64 ar,.slice bc a7.length b5] 30 (0,0)) af.B hb);replace HB:=ae.mk (ax af.L hb);(try clear hb);(try clear cp);(try clear hk);(try clear hi);obtain ⟨ph,pi,pj,pk⟩:=af.bw z.out) | ((with_reducible refine aA (f:=35) rfl ?_);refine af.gl (some 54) Tryz.func35 #[.agg #[.int .i64 ar,.slice bc a7.length b5],.int .i64 b2,.int .i64 b3] ?_;(with_reducible refine (eZ.calls k ar _ _ a7 b2 b3 bi _ ?side1 ?side2 wf.out).mono ?_);(case side1=>exact af.Cw ((Kd.ah a9.out).2.2));(case side2=>exact (Kd.ah a9.out).2.1);rintro e yR ⟨rfl,hb⟩;refine ⟨_,rfl,?_⟩;replace a2:=af.rb a2 hb;replace a3:=af.rb a3 hb;replace a4:=af.rb a4 hb;replace a5:=af.rb a5 hb;replace ab:=af.rb ab hb;replace a9:=af.rb a9 hb;replace X:=af.bb X hb;replace Y:=af.bb Y hb;replace z:=af.bb z hb;replace HB:=ae.mk (ax af.L hb);(try clear hb);(try clear cp);(try clear hk);(try clear hi)))
  (try simp only [Act.put,List.setIfInBounds_toArray,List.set_cons_zero,List.set_cons_succ])
  go_cut [98] (fun x3 wc=>∃ (kq:Nat) (e7:Bool),x3 = .bool e7∧ae (aq.j0 kq aO aP aB b2 b3 aS bi e7 aw aa ao a6 ar a7 = some r)∧ae (kq≤k)∧ae (Kd.R (Kd.int .i64) 3 wc w.heap.size (fun k_=>some k_≠((.slice ba aa.length b4):Value).ownBlock∧some k_≠((.slice bo a6.length bm):Value).ownBlock∧some k_≠((.slice bc a7.length b5):Value).ownBlock) d3 aB)∧ae (Kd.R (Kd.int .i64) 3 wc w.heap.size (fun k_=>some k_≠(d3:Value).ownBlock∧some k_≠((.slice bo a6.length bm):Value).ownBlock∧some k_≠((.slice bc a7.length b5):Value).ownBlock) (.slice ba aa.length b4) aa)∧ae (Kd.R (Kd.int .i64) 3 wc w.heap.size (fun k_=>some k_≠(d3:Value).ownBlock∧some k_≠((.slice ba aa.length b4):Value).ownBlock∧some k_≠((.slice bc a7.length b5):Value).ownBlock) (.slice bo a6.length bm) a6)∧ae (Kd.R (Kd.int .i64) 3 wc w.heap.size (fun k_=>some k_≠(d3:Value).ownBlock∧some k_≠((.slice ba aa.length b4):Value).ownBlock∧some k_≠((.slice bo a6.length bm):Value).ownBlock) (.slice bc a7.length b5) a7)∧ae (wc.heap[d5]? = some (.cells #[.int .i64 aw,(.slice ba aa.length b4)] 30 (0,0)))∧ae (wc.heap[d2]? = some (.cells #[.int .i64 ao,(.slice bo a6.length bm)] 30 (0,0)))∧ae (wc.heap[ca]? = some (.cells #[.int .i64 ar,(.slice bc a7.length b5)] 30 (0,0)))∧ae (Below w.heap.size w wc))
  case first =>
   have H:=gb.out
   clear gb
   obtain ⟨d7,g8,H⟩:=af.be H
   (try dsimp only at H)
   by_cases f5:aP = d7
   ·rw [if_pos f5] at H
    have ea:(aP == d7) = true:=beq_iff_eq.mpr f5
    have hI:(aP != d7) = false:=bne_eq_false_iff_eq.mpr f5
    clear f5
    (first | rw [ea] | (simp only [aM,b8];rw [ea]) | skip)
    obtain ⟨df,gc,H⟩:=af.be H
    (try dsimp only at H)
    obtain ⟨g9,go,H⟩:=af.be H
    (try dsimp only at H)
    by_cases hq:g9 = true
    ·subst hq
     replace H:((bT.f k dt du).bind fun d8=>((cD.f k dt du).bind fun d9=>(if d8 = d9 then ((bF.f k ao a6).bind fun dE=>((ct.f k e8 dE).bind fun f0=>(if f0 = true then ((en.f k ar a7 b2 b3).bind fun db=>(if aS = db then ((ez.f k ar a7 b2 b3).bind fun e4=>(aq.j0 k aO aP aB b2 b3 aS bi (bi != e4) aw aa ao a6 ar a7)) else (aq.j0 k aO aP aB b2 b3 aS bi true aw aa ao a6 ar a7))) else (aq.j0 k aO aP aB b2 b3 aS bi true aw aa ao a6 ar a7)))) else (aq.j0 k aO aP aB b2 b3 aS bi true aw aa ao a6 ar a7)))) = some r:=by rw [if_pos rfl] at H;exact H
     obtain ⟨d8,hr,H⟩:=af.be H
     (try dsimp only at H)
     obtain ⟨d9,ht,H⟩:=af.be H
     (try dsimp only at H)
     by_cases f6:d8 = d9
     ·rw [if_pos f6] at H
      have hL:(d8 == d9) = true:=beq_iff_eq.mpr f6
      have hM:(d8 != d9) = false:=bne_eq_false_iff_eq.mpr f6
      clear f6
      obtain ⟨dE,hP,H⟩:=af.be H
      (try dsimp only at H)
      obtain ⟨f0,hR,H⟩:=af.be H
      (try dsimp only at H)
      by_cases hu:f0 = true
      ·subst hu
       replace H:((en.f k ar a7 b2 b3).bind fun db=>(if aS = db then ((ez.f k ar a7 b2 b3).bind fun e4=>(aq.j0 k aO aP aB b2 b3 aS bi (bi != e4) aw aa ao a6 ar a7)) else (aq.j0 k aO aP aB b2 b3 aS bi true aw aa ao a6 ar a7))) = some r:=by rw [if_pos rfl] at H;exact H
       obtain ⟨db,pm,H⟩:=af.be H
       (try dsimp only at H)
       by_cases f7:aS = db
       ·rw [if_pos f7] at H
        have hU:(aS == db) = true:=beq_iff_eq.mpr f7
        have hV:(aS != db) = false:=bne_eq_false_iff_eq.mpr f7
        clear f7
        obtain ⟨e4,x4,H⟩:=af.be H
        (try dsimp only at H)
        have H':=ae.mk H
        clear H
        have x5:=bv.out
        have x6:=c1.out
        have x7:=cb.out
        have x8:=cc.out
        obtain ⟨pp,pr,ps,pt⟩:=af.bw X.out
        go_wp2_with (first | ((with_reducible refine aA (f:=36) rfl ?_);refine af.gl (some 58) Tryz.func36 #[.agg #[.int .i64 aw,.slice ba aa.length b4],.int .i64 aO] ?_;(with_reducible refine (cy.calls k aw _ _ aa aO d7 _ ?side1 ?side2 g8.out).mono ?_);(case side1=>exact af.Cw ((Kd.ah a2.out).2.2));(case side2=>exact (Kd.ah a2.out).2.1);rintro e yS ⟨rfl,hb⟩;refine ⟨_,rfl,?_⟩;replace a2:=af.rb a2 hb;replace a3:=af.rb a3 hb;replace a4:=af.rb a4 hb;replace a5:=af.rb a5 hb;replace ab:=af.rb ab hb;replace a9:=af.rb a9 hb;replace X:=af.bb X hb;replace Y:=af.bb Y hb;replace z:=af.bb z hb;replace HB:=ae.mk (ax af.L hb);(try clear hb);(try clear cp);(try clear hk);(try clear hi);have x9:=cf.out;have xa:=ci.out;obtain ⟨pv,px,py,q0⟩:=af.bw Y.out) | (go_at_call 37;(with_reducible refine (aE.calls k ao _ _ a6 df _ ?side1 ?side2 gc.out).mono ?_);(case side1=>exact af.Cw ((Kd.ah a3.out).2.2));(case side2=>exact (Kd.ah a3.out).2.1);rintro e yT ⟨fj,rfl,a8,hb⟩;have aR:=ae.mk (Kd.aV (Kd.br (Kd.br (Kd.br (Kd.br (Kd.br (Kd.br a8 (Kd.cK (af.Rw a2.out))) (Kd.cK (af.Rw a3.out))) (Kd.cK (af.Rw a4.out))) (Kd.cK (af.Rw a5.out))) (Kd.cK (af.Rw ab.out))) (Kd.cK (af.Rw a9.out))) (av af.L));replace a2:=ae.mk (Kd.aQ (af.Rw a2.out) (Kd.bn a8) hb);replace a3:=ae.mk (Kd.aQ (af.Rw a3.out) (Kd.bn a8) hb);replace a4:=ae.mk (Kd.aQ (af.Rw a4.out) (Kd.bn a8) hb);replace a5:=ae.mk (Kd.aQ (af.Rw a5.out) (Kd.bn a8) hb);replace ab:=ae.mk (Kd.aQ (af.Rw ab.out) (Kd.bn a8) hb);replace a9:=ae.mk (Kd.aQ (af.Rw a9.out) (Kd.bn a8) hb);replace X:=af.bb X hb;replace Y:=af.bb Y hb;replace z:=af.bb z hb;replace HB:=ae.mk (ax af.L hb);(try clear hb);(try clear cp);(try clear hk);(try clear hi);(try clear a8);obtain ⟨xK,xL,q1⟩:=Kd.aK a4.out;subst q1;obtain ⟨xM,xN,q2⟩:=Kd.aK aR.out;subst q2) | (go_at_call 17;(with_reducible refine (ct.calls k _ _ aB _ _ df true _ ?side1 ?side2 ?side3 ?side4 go.out).mono ?_);(case side1=>exact af.Cw ((Kd.ah a4.out).2.2));(case side2=>exact (Kd.ah a4.out).2.1);(case side3=>exact af.Cw ((Kd.ah aR.out).2.2));(case side4=>exact (Kd.ah aR.out).2.1);rintro e w' ⟨rfl,⟨nd,rfl⟩⟩;obtain ⟨xO,xP,q3⟩:=Kd.aK a5.out;subst q3) | (go_at_call 38;(with_reducible refine (bT.calls k _ _ dt du d8 _ ?side1 ?side2 hr.out).mono ?_);(case side1=>exact af.Cw ((Kd.ah a5.out).2.2));(case side2=>exact (Kd.ah a5.out).2.1);rintro e w' ⟨rfl,⟨nd,rfl⟩⟩) | (go_at_call 39;(with_reducible refine (cD.calls k _ _ dt du d9 _ ?side1 ?side2 ht.out).mono ?_);(case side1=>exact af.Cw ((Kd.ah a5.out).2.2));(case side2=>exact (Kd.ah a5.out).2.1);rintro e w' ⟨rfl,⟨nd,rfl⟩⟩;obtain ⟨q4,q6,q7,q9⟩:=af.bw Y.out) | (go_at_call 40;(with_reducible refine (bF.calls k ao _ _ a6 dE _ ?side1 ?side2 hP.out).mono ?_);(case side1=>exact af.Cw ((Kd.ah a3.out).2.2));(case side2=>exact (Kd.ah a3.out).2.1);rintro e yU ⟨hC,rfl,a8,hb⟩;have d0:=ae.mk (Kd.aV (Kd.br (Kd.br (Kd.br (Kd.br (Kd.br (Kd.br (Kd.br a8 (Kd.cK (af.Rw a2.out))) (Kd.cK (af.Rw a3.out))) (Kd.cK (af.Rw a4.out))) (Kd.cK (af.Rw a5.out))) (Kd.cK (af.Rw ab.out))) (Kd.cK (af.Rw a9.out))) (Kd.cK (af.Rw aR.out))) (av af.L));replace a2:=ae.mk (Kd.aQ (af.Rw a2.out) (Kd.bn a8) hb);replace a3:=ae.mk (Kd.aQ (af.Rw a3.out) (Kd.bn a8) hb);replace a4:=ae.mk (Kd.aQ (af.Rw a4.out) (Kd.bn a8) hb);replace a5:=ae.mk (Kd.aQ (af.Rw a5.out) (Kd.bn a8) hb);replace ab:=ae.mk (Kd.aQ (af.Rw ab.out) (Kd.bn a8) hb);replace a9:=ae.mk (Kd.aQ (af.Rw a9.out) (Kd.bn a8) hb);replace aR:=ae.mk (Kd.aQ (af.Rw aR.out) (Kd.bn a8) hb);replace X:=af.bb X hb;replace Y:=af.bb Y hb;replace z:=af.bb z hb;replace HB:=ae.mk (ax af.L hb);(try clear hb);(try clear cp);(try clear hk);(try clear hi);(try clear a8);obtain ⟨xQ,xR,qr⟩:=Kd.aK ab.out;subst qr;obtain ⟨xS,xT,qs⟩:=Kd.aK d0.out;subst qs) | (go_at_call 17;(with_reducible refine (ct.calls k _ _ e8 _ _ dE true _ ?side1 ?side2 ?side3 ?side4 hR.out).mono ?_);(case side1=>exact af.Cw ((Kd.ah ab.out).2.2));(case side2=>exact (Kd.ah ab.out).2.1);(case side3=>exact af.Cw ((Kd.ah d0.out).2.2));(case side4=>exact (Kd.ah d0.out).2.1);rintro e w' ⟨rfl,⟨nd,rfl⟩⟩;obtain ⟨r0,r1,r2,r3⟩:=af.bw z.out) | (go_at_call 41;(with_reducible refine (en.calls k ar _ _ a7 b2 b3 db _ ?side1 ?side2 pm.out).mono ?_);(case side1=>exact af.Cw ((Kd.ah a9.out).2.2));(case side2=>exact (Kd.ah a9.out).2.1);rintro e yV ⟨rfl,hb⟩;replace a2:=af.rb a2 hb;replace a3:=af.rb a3 hb;replace a4:=af.rb a4 hb;replace a5:=af.rb a5 hb;replace ab:=af.rb ab hb;replace a9:=af.rb a9 hb;replace aR:=af.rb aR hb;replace d0:=af.rb d0 hb;replace X:=af.bb X hb;replace Y:=af.bb Y hb;replace z:=af.bb z hb;replace HB:=ae.mk (ax af.L hb);(try clear hb);(try clear cp);(try clear hk);(try clear hi);obtain ⟨r4,ra,rc,re⟩:=af.bw z.out) | (go_at_call 42;(with_reducible refine (ez.calls k ar _ _ a7 b2 b3 e4 _ ?side1 ?side2 x4.out).mono ?_);(case side1=>exact af.Cw ((Kd.ah a9.out).2.2));(case side2=>exact (Kd.ah a9.out).2.1);rintro e yW ⟨rfl,hb⟩;replace a2:=af.rb a2 hb;replace a3:=af.rb a3 hb;replace a4:=af.rb a4 hb;replace a5:=af.rb a5 hb;replace ab:=af.rb ab hb;replace a9:=af.rb a9 hb;replace aR:=af.rb aR hb;replace d0:=af.rb d0 hb;replace X:=af.bb X hb;replace Y:=af.bb Y hb;replace z:=af.bb z hb;replace HB:=ae.mk (ax af.L hb);(try clear hb);(try clear cp);(try clear hk);(try clear hi)))
        go_meet
        case rel=>exact ⟨_,((bi != e4)),af.F,H',⟨by first | omega | exact Nat.le_refl _⟩,⟨af.Rw (Kd.aC a4.out (fun _ hk=>⟨hk.1.1.1.1.1.1.2,⟨hk.1.1.1.1.1.2,hk.1.1.2⟩⟩))⟩,⟨af.Rw (Kd.aC a2.out (fun _ hk=>⟨hk.1.1.1.1.1.2,⟨hk.1.1.1.1.1.1.2,hk.1.1.2⟩⟩))⟩,⟨af.Rw (Kd.aC a3.out (fun _ hk=>⟨hk.1.1.1.1.1.2,⟨hk.1.1.1.1.1.1.2,hk.1.1.2⟩⟩))⟩,⟨af.Rw (Kd.aC a9.out (fun _ hk=>⟨hk.1.1.1.1.2,⟨hk.1.1.1.1.1.1.2,hk.1.1.1.1.1.2⟩⟩))⟩,⟨af.Bw X.out⟩,⟨af.Bw Y.out⟩,⟨af.Bw z.out⟩,⟨af.L⟩⟩
       ·rw [if_neg f7] at H
        have hU:(aS == db) = false:=beq_eq_false_iff_ne.mpr f7
        have hV:(aS != db) = true:=bne_iff_ne.mpr f7
        have H':=ae.mk H
        clear H
        have xc:=bv.out
        have xf:=c1.out
        have xg:=cb.out
        have xh:=cc.out
        obtain ⟨rg,rk,rl,rm⟩:=af.bw X.out
        go_wp2_with (first | ((with_reducible refine aA (f:=36) rfl ?_);refine af.gl (some 58) Tryz.func36 #[.agg #[.int .i64 aw,.slice ba aa.length b4],.int .i64 aO] ?_;(with_reducible refine (cy.calls k aw _ _ aa aO d7 _ ?side1 ?side2 g8.out).mono ?_);(case side1=>exact af.Cw ((Kd.ah a2.out).2.2));(case side2=>exact (Kd.ah a2.out).2.1);rintro e yX ⟨rfl,hb⟩;refine ⟨_,rfl,?_⟩;replace a2:=af.rb a2 hb;replace a3:=af.rb a3 hb;replace a4:=af.rb a4 hb;replace a5:=af.rb a5 hb;replace ab:=af.rb ab hb;replace a9:=af.rb a9 hb;replace X:=af.bb X hb;replace Y:=af.bb Y hb;replace z:=af.bb z hb;replace HB:=ae.mk (ax af.L hb);(try clear hb);(try clear cp);(try clear hk);(try clear hi);have xi:=cf.out;have xj:=ci.out;obtain ⟨rn,ro,rp,rr⟩:=af.bw Y.out) | (go_at_call 37;(with_reducible refine (aE.calls k ao _ _ a6 df _ ?side1 ?side2 gc.out).mono ?_);(case side1=>exact af.Cw ((Kd.ah a3.out).2.2));(case side2=>exact (Kd.ah a3.out).2.1);rintro e yY ⟨fj,rfl,a8,hb⟩;have aR:=ae.mk (Kd.aV (Kd.br (Kd.br (Kd.br (Kd.br (Kd.br (Kd.br a8 (Kd.cK (af.Rw a2.out))) (Kd.cK (af.Rw a3.out))) (Kd.cK (af.Rw a4.out))) (Kd.cK (af.Rw a5.out))) (Kd.cK (af.Rw ab.out))) (Kd.cK (af.Rw a9.out))) (av af.L));replace a2:=ae.mk (Kd.aQ (af.Rw a2.out) (Kd.bn a8) hb);replace a3:=ae.mk (Kd.aQ (af.Rw a3.out) (Kd.bn a8) hb);replace a4:=ae.mk (Kd.aQ (af.Rw a4.out) (Kd.bn a8) hb);replace a5:=ae.mk (Kd.aQ (af.Rw a5.out) (Kd.bn a8) hb);replace ab:=ae.mk (Kd.aQ (af.Rw ab.out) (Kd.bn a8) hb);replace a9:=ae.mk (Kd.aQ (af.Rw a9.out) (Kd.bn a8) hb);replace X:=af.bb X hb;replace Y:=af.bb Y hb;replace z:=af.bb z hb;replace HB:=ae.mk (ax af.L hb);(try clear hb);(try clear cp);(try clear hk);(try clear hi);(try clear a8);obtain ⟨xU,xV,rt⟩:=Kd.aK a4.out;subst rt;obtain ⟨xW,xX,rv⟩:=Kd.aK aR.out;subst rv) | (go_at_call 17;(with_reducible refine (ct.calls k _ _ aB _ _ df true _ ?side1 ?side2 ?side3 ?side4 go.out).mono ?_);(case side1=>exact af.Cw ((Kd.ah a4.out).2.2));(case side2=>exact (Kd.ah a4.out).2.1);(case side3=>exact af.Cw ((Kd.ah aR.out).2.2));(case side4=>exact (Kd.ah aR.out).2.1);rintro e w' ⟨rfl,⟨nd,rfl⟩⟩;obtain ⟨xY,xZ,rx⟩:=Kd.aK a5.out;subst rx) | (go_at_call 38;(with_reducible refine (bT.calls k _ _ dt du d8 _ ?side1 ?side2 hr.out).mono ?_);(case side1=>exact af.Cw ((Kd.ah a5.out).2.2));(case side2=>exact (Kd.ah a5.out).2.1);rintro e w' ⟨rfl,⟨nd,rfl⟩⟩) | (go_at_call 39;(with_reducible refine (cD.calls k _ _ dt du d9 _ ?side1 ?side2 ht.out).mono ?_);(case side1=>exact af.Cw ((Kd.ah a5.out).2.2));(case side2=>exact (Kd.ah a5.out).2.1);rintro e w' ⟨rfl,⟨nd,rfl⟩⟩;obtain ⟨s0,s1,s2,s3⟩:=af.bw Y.out) | (go_at_call 40;(with_reducible refine (bF.calls k ao _ _ a6 dE _ ?side1 ?side2 hP.out).mono ?_);(case side1=>exact af.Cw ((Kd.ah a3.out).2.2));(case side2=>exact (Kd.ah a3.out).2.1);rintro e yZ ⟨hC,rfl,a8,hb⟩;have d0:=ae.mk (Kd.aV (Kd.br (Kd.br (Kd.br (Kd.br (Kd.br (Kd.br (Kd.br a8 (Kd.cK (af.Rw a2.out))) (Kd.cK (af.Rw a3.out))) (Kd.cK (af.Rw a4.out))) (Kd.cK (af.Rw a5.out))) (Kd.cK (af.Rw ab.out))) (Kd.cK (af.Rw a9.out))) (Kd.cK (af.Rw aR.out))) (av af.L));replace a2:=ae.mk (Kd.aQ (af.Rw a2.out) (Kd.bn a8) hb);replace a3:=ae.mk (Kd.aQ (af.Rw a3.out) (Kd.bn a8) hb);replace a4:=ae.mk (Kd.aQ (af.Rw a4.out) (Kd.bn a8) hb);replace a5:=ae.mk (Kd.aQ (af.Rw a5.out) (Kd.bn a8) hb);replace ab:=ae.mk (Kd.aQ (af.Rw ab.out) (Kd.bn a8) hb);replace a9:=ae.mk (Kd.aQ (af.Rw a9.out) (Kd.bn a8) hb);replace aR:=ae.mk (Kd.aQ (af.Rw aR.out) (Kd.bn a8) hb);replace X:=af.bb X hb;replace Y:=af.bb Y hb;replace z:=af.bb z hb;replace HB:=ae.mk (ax af.L hb);(try clear hb);(try clear cp);(try clear hk);(try clear hi);(try clear a8);obtain ⟨y6,y7,sa⟩:=Kd.aK ab.out;subst sa;obtain ⟨y8,y9,sb⟩:=Kd.aK d0.out;subst sb) | (go_at_call 17;(with_reducible refine (ct.calls k _ _ e8 _ _ dE true _ ?side1 ?side2 ?side3 ?side4 hR.out).mono ?_);(case side1=>exact af.Cw ((Kd.ah ab.out).2.2));(case side2=>exact (Kd.ah ab.out).2.1);(case side3=>exact af.Cw ((Kd.ah d0.out).2.2));(case side4=>exact (Kd.ah d0.out).2.1);rintro e w' ⟨rfl,⟨nd,rfl⟩⟩;obtain ⟨sc,sd,se,sf⟩:=af.bw z.out) | (go_at_call 41;(with_reducible refine (en.calls k ar _ _ a7 b2 b3 db _ ?side1 ?side2 pm.out).mono ?_);(case side1=>exact af.Cw ((Kd.ah a9.out).2.2));(case side2=>exact (Kd.ah a9.out).2.1);rintro e z0 ⟨rfl,hb⟩;replace a2:=af.rb a2 hb;replace a3:=af.rb a3 hb;replace a4:=af.rb a4 hb;replace a5:=af.rb a5 hb;replace ab:=af.rb ab hb;replace a9:=af.rb a9 hb;replace aR:=af.rb aR hb;replace d0:=af.rb d0 hb;replace X:=af.bb X hb;replace Y:=af.bb Y hb;replace z:=af.bb z hb;replace HB:=ae.mk (ax af.L hb);(try clear hb);(try clear cp);(try clear hk);(try clear hi)))
        go_meet
        case rel=>exact ⟨_,(true),af.F,H',⟨by first | omega | exact Nat.le_refl _⟩,⟨af.Rw (Kd.aC a4.out (fun _ hk=>⟨hk.1.1.1.1.1.1.2,⟨hk.1.1.1.1.1.2,hk.1.1.2⟩⟩))⟩,⟨af.Rw (Kd.aC a2.out (fun _ hk=>⟨hk.1.1.1.1.1.2,⟨hk.1.1.1.1.1.1.2,hk.1.1.2⟩⟩))⟩,⟨af.Rw (Kd.aC a3.out (fun _ hk=>⟨hk.1.1.1.1.1.2,⟨hk.1.1.1.1.1.1.2,hk.1.1.2⟩⟩))⟩,⟨af.Rw (Kd.aC a9.out (fun _ hk=>⟨hk.1.1.1.1.2,⟨hk.1.1.1.1.1.1.2,hk.1.1.1.1.1.2⟩⟩))⟩,⟨af.Bw X.out⟩,⟨af.Bw Y.out⟩,⟨af.Bw z.out⟩,⟨af.L⟩⟩
      ·replace hu:=Bool.eq_false_iff.mpr hu
       subst hu
       replace H:(aq.j0 k aO aP aB b2 b3 aS bi true aw aa ao a6 ar a7) = some r:=by rw [if_neg (show ¬ (false = true) by decide)] at H;exact H
       have H':=ae.mk H
       clear H
       have xk:=bv.out
       have xl:=c1.out
       have xm:=cb.out
       have xn:=cc.out
       obtain ⟨sh,sl,so,sp⟩:=af.bw X.out
       go_wp2_with (first | ((with_reducible refine aA (f:=36) rfl ?_);refine af.gl (some 58) Tryz.func36 #[.agg #[.int .i64 aw,.slice ba aa.length b4],.int .i64 aO] ?_;(with_reducible refine (cy.calls k aw _ _ aa aO d7 _ ?side1 ?side2 g8.out).mono ?_);(case side1=>exact af.Cw ((Kd.ah a2.out).2.2));(case side2=>exact (Kd.ah a2.out).2.1);rintro e z1 ⟨rfl,hb⟩;refine ⟨_,rfl,?_⟩;replace a2:=af.rb a2 hb;replace a3:=af.rb a3 hb;replace a4:=af.rb a4 hb;replace a5:=af.rb a5 hb;replace ab:=af.rb ab hb;replace a9:=af.rb a9 hb;replace X:=af.bb X hb;replace Y:=af.bb Y hb;replace z:=af.bb z hb;replace HB:=ae.mk (ax af.L hb);(try clear hb);(try clear cp);(try clear hk);(try clear hi);have xo:=cf.out;have xp:=ci.out;obtain ⟨ss,st,sz,sT⟩:=af.bw Y.out) | (go_at_call 37;(with_reducible refine (aE.calls k ao _ _ a6 df _ ?side1 ?side2 gc.out).mono ?_);(case side1=>exact af.Cw ((Kd.ah a3.out).2.2));(case side2=>exact (Kd.ah a3.out).2.1);rintro e z2 ⟨fj,rfl,a8,hb⟩;have aR:=ae.mk (Kd.aV (Kd.br (Kd.br (Kd.br (Kd.br (Kd.br (Kd.br a8 (Kd.cK (af.Rw a2.out))) (Kd.cK (af.Rw a3.out))) (Kd.cK (af.Rw a4.out))) (Kd.cK (af.Rw a5.out))) (Kd.cK (af.Rw ab.out))) (Kd.cK (af.Rw a9.out))) (av af.L));replace a2:=ae.mk (Kd.aQ (af.Rw a2.out) (Kd.bn a8) hb);replace a3:=ae.mk (Kd.aQ (af.Rw a3.out) (Kd.bn a8) hb);replace a4:=ae.mk (Kd.aQ (af.Rw a4.out) (Kd.bn a8) hb);replace a5:=ae.mk (Kd.aQ (af.Rw a5.out) (Kd.bn a8) hb);replace ab:=ae.mk (Kd.aQ (af.Rw ab.out) (Kd.bn a8) hb);replace a9:=ae.mk (Kd.aQ (af.Rw a9.out) (Kd.bn a8) hb);replace X:=af.bb X hb;replace Y:=af.bb Y hb;replace z:=af.bb z hb;replace HB:=ae.mk (ax af.L hb);(try clear hb);(try clear cp);(try clear hk);(try clear hi);(try clear a8);obtain ⟨ya,yb,t0⟩:=Kd.aK a4.out;subst t0;obtain ⟨yc,yd,t1⟩:=Kd.aK aR.out;subst t1) | (go_at_call 17;(with_reducible refine (ct.calls k _ _ aB _ _ df true _ ?side1 ?side2 ?side3 ?side4 go.out).mono ?_);(case side1=>exact af.Cw ((Kd.ah a4.out).2.2));(case side2=>exact (Kd.ah a4.out).2.1);(case side3=>exact af.Cw ((Kd.ah aR.out).2.2));(case side4=>exact (Kd.ah aR.out).2.1);rintro e w' ⟨rfl,⟨nd,rfl⟩⟩;obtain ⟨ye,yf,t2⟩:=Kd.aK a5.out;subst t2) | (go_at_call 38;(with_reducible refine (bT.calls k _ _ dt du d8 _ ?side1 ?side2 hr.out).mono ?_);(case side1=>exact af.Cw ((Kd.ah a5.out).2.2));(case side2=>exact (Kd.ah a5.out).2.1);rintro e w' ⟨rfl,⟨nd,rfl⟩⟩) | (go_at_call 39;(with_reducible refine (cD.calls k _ _ dt du d9 _ ?side1 ?side2 ht.out).mono ?_);(case side1=>exact af.Cw ((Kd.ah a5.out).2.2));(case side2=>exact (Kd.ah a5.out).2.1);rintro e w' ⟨rfl,⟨nd,rfl⟩⟩;obtain ⟨t3,t4,t5,t6⟩:=af.bw Y.out) | (go_at_call 40;(with_reducible refine (bF.calls k ao _ _ a6 dE _ ?side1 ?side2 hP.out).mono ?_);(case side1=>exact af.Cw ((Kd.ah a3.out).2.2));(case side2=>exact (Kd.ah a3.out).2.1);rintro e z3 ⟨hC,rfl,a8,hb⟩;have d0:=ae.mk (Kd.aV (Kd.br (Kd.br (Kd.br (Kd.br (Kd.br (Kd.br (Kd.br a8 (Kd.cK (af.Rw a2.out))) (Kd.cK (af.Rw a3.out))) (Kd.cK (af.Rw a4.out))) (Kd.cK (af.Rw a5.out))) (Kd.cK (af.Rw ab.out))) (Kd.cK (af.Rw a9.out))) (Kd.cK (af.Rw aR.out))) (av af.L));replace a2:=ae.mk (Kd.aQ (af.Rw a2.out) (Kd.bn a8) hb);replace a3:=ae.mk (Kd.aQ (af.Rw a3.out) (Kd.bn a8) hb);replace a4:=ae.mk (Kd.aQ (af.Rw a4.out) (Kd.bn a8) hb);replace a5:=ae.mk (Kd.aQ (af.Rw a5.out) (Kd.bn a8) hb);replace ab:=ae.mk (Kd.aQ (af.Rw ab.out) (Kd.bn a8) hb);replace a9:=ae.mk (Kd.aQ (af.Rw a9.out) (Kd.bn a8) hb);replace aR:=ae.mk (Kd.aQ (af.Rw aR.out) (Kd.bn a8) hb);replace X:=af.bb X hb;replace Y:=af.bb Y hb;replace z:=af.bb z hb;replace HB:=ae.mk (ax af.L hb);(try clear hb);(try clear cp);(try clear hk);(try clear hi);(try clear a8);obtain ⟨yg,yh,t7⟩:=Kd.aK ab.out;subst t7;obtain ⟨yi,yj,t8⟩:=Kd.aK d0.out;subst t8) | (go_at_call 17;(with_reducible refine (ct.calls k _ _ e8 _ _ dE false _ ?side1 ?side2 ?side3 ?side4 hR.out).mono ?_);(case side1=>exact af.Cw ((Kd.ah ab.out).2.2));(case side2=>exact (Kd.ah ab.out).2.1);(case side3=>exact af.Cw ((Kd.ah d0.out).2.2));(case side4=>exact (Kd.ah d0.out).2.1);rintro e w' ⟨rfl,⟨nd,rfl⟩⟩))
       go_meet
       case rel=>exact ⟨_,(true),af.F,H',⟨by first | omega | exact Nat.le_refl _⟩,⟨af.Rw (Kd.aC a4.out (fun _ hk=>⟨hk.1.1.1.1.1.1.2,⟨hk.1.1.1.1.1.2,hk.1.1.2⟩⟩))⟩,⟨af.Rw (Kd.aC a2.out (fun _ hk=>⟨hk.1.1.1.1.1.2,⟨hk.1.1.1.1.1.1.2,hk.1.1.2⟩⟩))⟩,⟨af.Rw (Kd.aC a3.out (fun _ hk=>⟨hk.1.1.1.1.1.2,⟨hk.1.1.1.1.1.1.2,hk.1.1.2⟩⟩))⟩,⟨af.Rw (Kd.aC a9.out (fun _ hk=>⟨hk.1.1.1.1.2,⟨hk.1.1.1.1.1.1.2,hk.1.1.1.1.1.2⟩⟩))⟩,⟨af.Bw X.out⟩,⟨af.Bw Y.out⟩,⟨af.Bw z.out⟩,⟨af.L⟩⟩
     ·rw [if_neg f6] at H
      have hL:(d8 == d9) = false:=beq_eq_false_iff_ne.mpr f6
      have hM:(d8 != d9) = true:=bne_iff_ne.mpr f6
      have H':=ae.mk H
      clear H
      have xq:=bv.out
      have xr:=c1.out
      have ul:=cb.out
      have un:=cc.out
      obtain ⟨k0,k1,k2,k3⟩:=af.bw X.out
      go_wp2_with (first | ((with_reducible refine aA (f:=36) rfl ?_);refine af.gl (some 58) Tryz.func36 #[.agg #[.int .i64 aw,.slice ba aa.length b4],.int .i64 aO] ?_;(with_reducible refine (cy.calls k aw _ _ aa aO d7 _ ?side1 ?side2 g8.out).mono ?_);(case side1=>exact af.Cw ((Kd.ah a2.out).2.2));(case side2=>exact (Kd.ah a2.out).2.1);rintro e yk ⟨rfl,hb⟩;refine ⟨_,rfl,?_⟩;replace a2:=af.rb a2 hb;replace a3:=af.rb a3 hb;replace a4:=af.rb a4 hb;replace a5:=af.rb a5 hb;replace ab:=af.rb ab hb;replace a9:=af.rb a9 hb;replace X:=af.bb X hb;replace Y:=af.bb Y hb;replace z:=af.bb z hb;replace HB:=ae.mk (ax af.L hb);(try clear hb);(try clear cp);(try clear hk);(try clear hi);have up:=cf.out;have us:=ci.out;obtain ⟨k5,ka,kb,kc⟩:=af.bw Y.out) | (go_at_call 37;(with_reducible refine (aE.calls k ao _ _ a6 df _ ?side1 ?side2 gc.out).mono ?_);(case side1=>exact af.Cw ((Kd.ah a3.out).2.2));(case side2=>exact (Kd.ah a3.out).2.1);rintro e yl ⟨fj,rfl,a8,hb⟩;have aR:=ae.mk (Kd.aV (Kd.br (Kd.br (Kd.br (Kd.br (Kd.br (Kd.br a8 (Kd.cK (af.Rw a2.out))) (Kd.cK (af.Rw a3.out))) (Kd.cK (af.Rw a4.out))) (Kd.cK (af.Rw a5.out))) (Kd.cK (af.Rw ab.out))) (Kd.cK (af.Rw a9.out))) (av af.L));replace a2:=ae.mk (Kd.aQ (af.Rw a2.out) (Kd.bn a8) hb);replace a3:=ae.mk (Kd.aQ (af.Rw a3.out) (Kd.bn a8) hb);replace a4:=ae.mk (Kd.aQ (af.Rw a4.out) (Kd.bn a8) hb);replace a5:=ae.mk (Kd.aQ (af.Rw a5.out) (Kd.bn a8) hb);replace ab:=ae.mk (Kd.aQ (af.Rw ab.out) (Kd.bn a8) hb);replace a9:=ae.mk (Kd.aQ (af.Rw a9.out) (Kd.bn a8) hb);replace X:=af.bb X hb;replace Y:=af.bb Y hb;replace z:=af.bb z hb;replace HB:=ae.mk (ax af.L hb);(try clear hb);(try clear cp);(try clear hk);(try clear hi);(try clear a8);obtain ⟨xt,xu,hW⟩:=Kd.aK a4.out;subst hW;obtain ⟨xv,xw,hX⟩:=Kd.aK aR.out;subst hX) | (go_at_call 17;(with_reducible refine (ct.calls k _ _ aB _ _ df true _ ?side1 ?side2 ?side3 ?side4 go.out).mono ?_);(case side1=>exact af.Cw ((Kd.ah a4.out).2.2));(case side2=>exact (Kd.ah a4.out).2.1);(case side3=>exact af.Cw ((Kd.ah aR.out).2.2));(case side4=>exact (Kd.ah aR.out).2.1);rintro e w' ⟨rfl,⟨nd,rfl⟩⟩;obtain ⟨xx,xy,hZ⟩:=Kd.aK a5.out;subst hZ) | (go_at_call 38;(with_reducible refine (bT.calls k _ _ dt du d8 _ ?side1 ?side2 hr.out).mono ?_);(case side1=>exact af.Cw ((Kd.ah a5.out).2.2));(case side2=>exact (Kd.ah a5.out).2.1);rintro e w' ⟨rfl,⟨nd,rfl⟩⟩) | (go_at_call 39;(with_reducible refine (cD.calls k _ _ dt du d9 _ ?side1 ?side2 ht.out).mono ?_);(case side1=>exact af.Cw ((Kd.ah a5.out).2.2));(case side2=>exact (Kd.ah a5.out).2.1);rintro e w' ⟨rfl,⟨nd,rfl⟩⟩))
      go_meet
      case rel=>exact ⟨_,(true),af.F,H',⟨by first | omega | exact Nat.le_refl _⟩,⟨af.Rw (Kd.aC a4.out (fun _ hk=>⟨hk.1.1.1.1.1.2,⟨hk.1.1.1.1.2,hk.1.2⟩⟩))⟩,⟨af.Rw (Kd.aC a2.out (fun _ hk=>⟨hk.1.1.1.1.2,⟨hk.1.1.1.1.1.2,hk.1.2⟩⟩))⟩,⟨af.Rw (Kd.aC a3.out (fun _ hk=>⟨hk.1.1.1.1.2,⟨hk.1.1.1.1.1.2,hk.1.2⟩⟩))⟩,⟨af.Rw (Kd.aC a9.out (fun _ hk=>⟨hk.1.1.1.2,⟨hk.1.1.1.1.1.2,hk.1.1.1.1.2⟩⟩))⟩,⟨af.Bw X.out⟩,⟨af.Bw Y.out⟩,⟨af.Bw z.out⟩,⟨af.L⟩⟩
    ·replace hq:=Bool.eq_false_iff.mpr hq
     subst hq
     replace H:(aq.j0 k aO aP aB b2 b3 aS bi true aw aa ao a6 ar a7) = some r:=by rw [if_neg (show ¬ (false = true) by decide)] at H;exact H
     have H':=ae.mk H
     clear H
     have ut:=bv.out
     have v0:=c1.out
     have v2:=cb.out
     have v3:=cc.out
     obtain ⟨kd,kh,kl,km⟩:=af.bw X.out
     go_wp2_with (first | ((with_reducible refine aA (f:=36) rfl ?_);refine af.gl (some 58) Tryz.func36 #[.agg #[.int .i64 aw,.slice ba aa.length b4],.int .i64 aO] ?_;(with_reducible refine (cy.calls k aw _ _ aa aO d7 _ ?side1 ?side2 g8.out).mono ?_);(case side1=>exact af.Cw ((Kd.ah a2.out).2.2));(case side2=>exact (Kd.ah a2.out).2.1);rintro e ym ⟨rfl,hb⟩;refine ⟨_,rfl,?_⟩;replace a2:=af.rb a2 hb;replace a3:=af.rb a3 hb;replace a4:=af.rb a4 hb;replace a5:=af.rb a5 hb;replace ab:=af.rb ab hb;replace a9:=af.rb a9 hb;replace X:=af.bb X hb;replace Y:=af.bb Y hb;replace z:=af.bb z hb;replace HB:=ae.mk (ax af.L hb);(try clear hb);(try clear cp);(try clear hk);(try clear hi);have v4:=cf.out;have v5:=ci.out;obtain ⟨ks,kt,kv,kw⟩:=af.bw Y.out) | (go_at_call 37;(with_reducible refine (aE.calls k ao _ _ a6 df _ ?side1 ?side2 gc.out).mono ?_);(case side1=>exact af.Cw ((Kd.ah a3.out).2.2));(case side2=>exact (Kd.ah a3.out).2.1);rintro e yn ⟨fj,rfl,a8,hb⟩;have aR:=ae.mk (Kd.aV (Kd.br (Kd.br (Kd.br (Kd.br (Kd.br (Kd.br a8 (Kd.cK (af.Rw a2.out))) (Kd.cK (af.Rw a3.out))) (Kd.cK (af.Rw a4.out))) (Kd.cK (af.Rw a5.out))) (Kd.cK (af.Rw ab.out))) (Kd.cK (af.Rw a9.out))) (av af.L));replace a2:=ae.mk (Kd.aQ (af.Rw a2.out) (Kd.bn a8) hb);replace a3:=ae.mk (Kd.aQ (af.Rw a3.out) (Kd.bn a8) hb);replace a4:=ae.mk (Kd.aQ (af.Rw a4.out) (Kd.bn a8) hb);replace a5:=ae.mk (Kd.aQ (af.Rw a5.out) (Kd.bn a8) hb);replace ab:=ae.mk (Kd.aQ (af.Rw ab.out) (Kd.bn a8) hb);replace a9:=ae.mk (Kd.aQ (af.Rw a9.out) (Kd.bn a8) hb);replace X:=af.bb X hb;replace Y:=af.bb Y hb;replace z:=af.bb z hb;replace HB:=ae.mk (ax af.L hb);(try clear hb);(try clear cp);(try clear hk);(try clear hi);(try clear a8);obtain ⟨xz,xA,i0⟩:=Kd.aK a4.out;subst i0;obtain ⟨xB,xC,i1⟩:=Kd.aK aR.out;subst i1) | (go_at_call 17;(with_reducible refine (ct.calls k _ _ aB _ _ df false _ ?side1 ?side2 ?side3 ?side4 go.out).mono ?_);(case side1=>exact af.Cw ((Kd.ah a4.out).2.2));(case side2=>exact (Kd.ah a4.out).2.1);(case side3=>exact af.Cw ((Kd.ah aR.out).2.2));(case side4=>exact (Kd.ah aR.out).2.1);rintro e w' ⟨rfl,⟨nd,rfl⟩⟩))
     go_meet
     case rel=>exact ⟨_,(true),af.F,H',⟨by first | omega | exact Nat.le_refl _⟩,⟨af.Rw (Kd.aC a4.out (fun _ hk=>⟨hk.1.1.1.1.1.2,⟨hk.1.1.1.1.2,hk.1.2⟩⟩))⟩,⟨af.Rw (Kd.aC a2.out (fun _ hk=>⟨hk.1.1.1.1.2,⟨hk.1.1.1.1.1.2,hk.1.2⟩⟩))⟩,⟨af.Rw (Kd.aC a3.out (fun _ hk=>⟨hk.1.1.1.1.2,⟨hk.1.1.1.1.1.2,hk.1.2⟩⟩))⟩,⟨af.Rw (Kd.aC a9.out (fun _ hk=>⟨hk.1.1.1.2,⟨hk.1.1.1.1.1.2,hk.1.1.1.1.2⟩⟩))⟩,⟨af.Bw X.out⟩,⟨af.Bw Y.out⟩,⟨af.Bw z.out⟩,⟨af.L⟩⟩
   ·rw [if_neg f5] at H
    have ea:(aP == d7) = false:=beq_eq_false_iff_ne.mpr f5
    have hI:(aP != d7) = true:=bne_iff_ne.mpr f5
    (first | rw [ea] | (simp only [aM,b8];rw [ea]) | skip)
    have H':=ae.mk H
    clear H
    have v6:=bv.out
    have v7:=c1.out
    have v8:=cb.out
    have v9:=cc.out
    obtain ⟨ky,la,lc,le⟩:=af.bw X.out
    go_wp2_with (first | ((with_reducible refine aA (f:=36) rfl ?_);refine af.gl (some 58) Tryz.func36 #[.agg #[.int .i64 aw,.slice ba aa.length b4],.int .i64 aO] ?_;(with_reducible refine (cy.calls k aw _ _ aa aO d7 _ ?side1 ?side2 g8.out).mono ?_);(case side1=>exact af.Cw ((Kd.ah a2.out).2.2));(case side2=>exact (Kd.ah a2.out).2.1);rintro e yo ⟨rfl,hb⟩;refine ⟨_,rfl,?_⟩;replace a2:=af.rb a2 hb;replace a3:=af.rb a3 hb;replace a4:=af.rb a4 hb;replace a5:=af.rb a5 hb;replace ab:=af.rb ab hb;replace a9:=af.rb a9 hb;replace X:=af.bb X hb;replace Y:=af.bb Y hb;replace z:=af.bb z hb;replace HB:=ae.mk (ax af.L hb);(try clear hb);(try clear cp);(try clear hk);(try clear hi)))
    go_meet
    case rel=>exact ⟨_,(true),af.F,H',⟨by first | omega | exact Nat.le_refl _⟩,⟨af.Rw (Kd.aC a4.out (fun _ hk=>⟨hk.1.1.1.1.2,⟨hk.1.1.1.2,hk.2⟩⟩))⟩,⟨af.Rw (Kd.aC a2.out (fun _ hk=>⟨hk.1.1.1.2,⟨hk.1.1.1.1.2,hk.2⟩⟩))⟩,⟨af.Rw (Kd.aC a3.out (fun _ hk=>⟨hk.1.1.1.2,⟨hk.1.1.1.1.2,hk.2⟩⟩))⟩,⟨af.Rw (Kd.aC a9.out (fun _ hk=>⟨hk.1.1.2,⟨hk.1.1.1.1.2,hk.1.1.1.2⟩⟩))⟩,⟨af.Bw X.out⟩,⟨af.Bw Y.out⟩,⟨af.Bw z.out⟩,⟨af.L⟩⟩
  case rest =>
   clear gb
   obtain ⟨kq,e7,rfl,HA,dT,aF,a0,y,j,X,Y,z,HB⟩:=hcut
   cases kq with
   | zero=>exact absurd HA.out (by simp [aq.j0])
   | succ ap =>
    have H:=HA.out
    clear HA
    simp only [aq.j0] at H
    by_cases fp:e7 = true
    ·subst fp
     replace H:(some false) = some r:=by rw [if_pos rfl] at H;exact H
     obtain rfl:=Option.some.inj H
     exact absurd hT.out (by decide)
    ·replace fp:=Bool.eq_false_iff.mpr fp
     subst fp
     replace H:((cL.f ap ar a7).bind fun b0=>((aI.f ap b0 b2).bind fun gs=>(if gs = true then ((aI.f ap b0 b3).bind fun f1=>(if f1 = true then ((aI.f ap b0 aS).bind fun eb=>(if eb = true then ((aI.f ap b0 bi).bind fun e0=>(if e0 = true then ((bK.f ap ar a7 aS).bind fun dk=>((bK.f ap ar a7 bi).bind fun dl=>((bK.f ap ar a7 b2).bind fun dp=>((bK.f ap ar a7 b3).bind fun dq=>(aq.j1 ap aO aP aB (decide ((wrap64 (dk+dl)) > (wrap64 (dp+dq)))) aw aa ao a6))))) else (aq.j1 ap aO aP aB true aw aa ao a6))) else (aq.j1 ap aO aP aB true aw aa ao a6))) else (aq.j1 ap aO aP aB false aw aa ao a6))) else (aq.j1 ap aO aP aB false aw aa ao a6)))) = some r:=by rw [if_neg (show ¬ (false = true) by decide)] at H;exact H
     obtain ⟨b0,t9,H⟩:=af.be H
     (try dsimp only at H)
     have f8:=ae.mk H
     clear H
     have va:=cc.out
     have vb:=cb.out
     have vc:=ci.out
     have vd:=cf.out
     obtain ⟨lh,li,lj,lk⟩:=af.bw z.out
     go_upto_region 15 with (first | ((with_reducible refine aA (f:=43) rfl ?_);refine af.gl (some 100) Tryz.func43 #[.agg #[.int .i64 ar,.slice bc a7.length b5]] ?_;(with_reducible refine (cL.calls ap ar _ _ a7 b0 _ ?side1 ?side2 t9.out).mono ?_);(case side1=>exact af.Cw ((Kd.ah j.out).2.2));(case side2=>exact (Kd.ah j.out).2.1);rintro e f2 ⟨yp,rfl,a8,hb⟩;refine ⟨_,rfl,?_⟩;have am:=ae.mk (Kd.aV (Kd.br (Kd.br (Kd.br (Kd.br a8 (Kd.cK (af.Rw aF.out))) (Kd.cK (af.Rw a0.out))) (Kd.cK (af.Rw y.out))) (Kd.cK (af.Rw j.out))) (av af.L));replace aF:=ae.mk (Kd.aQ (af.Rw aF.out) (Kd.bn a8) hb);replace a0:=ae.mk (Kd.aQ (af.Rw a0.out) (Kd.bn a8) hb);replace y:=ae.mk (Kd.aQ (af.Rw y.out) (Kd.bn a8) hb);replace j:=ae.mk (Kd.aQ (af.Rw j.out) (Kd.bn a8) hb);replace X:=af.bb X hb;replace Y:=af.bb Y hb;replace z:=af.bb z hb;replace HB:=ae.mk (ax af.L hb);(try clear hb);(try clear cp);(try clear hk);(try clear hi);(try clear a8)))
     (try simp only [Act.put,List.setIfInBounds_toArray,List.set_cons_zero,List.set_cons_succ])
     go_cut [137] (fun tb wc=>∃ (kq:Nat) (dv:Bool),tb = .bool dv∧ae (aq.j1 kq aO aP aB dv aw aa ao a6 = some r)∧ae (kq≤ap)∧ae (Kd.R (Kd.int .i64) 3 wc w.heap.size (fun k_=>some k_≠((.slice ba aa.length b4):Value).ownBlock∧some k_≠((.slice bo a6.length bm):Value).ownBlock∧some k_≠((.slice bc a7.length b5):Value).ownBlock) d3 aB)∧ae (Kd.R (Kd.int .i64) 3 wc w.heap.size (fun k_=>some k_≠(d3:Value).ownBlock∧some k_≠((.slice bo a6.length bm):Value).ownBlock∧some k_≠((.slice bc a7.length b5):Value).ownBlock) (.slice ba aa.length b4) aa)∧ae (Kd.R (Kd.int .i64) 3 wc w.heap.size (fun k_=>some k_≠(d3:Value).ownBlock∧some k_≠((.slice ba aa.length b4):Value).ownBlock∧some k_≠((.slice bc a7.length b5):Value).ownBlock) (.slice bo a6.length bm) a6)∧ae (Kd.R (Kd.int .i64) 3 wc w.heap.size (fun k_=>some k_≠(d3:Value).ownBlock∧some k_≠((.slice ba aa.length b4):Value).ownBlock∧some k_≠((.slice bo a6.length bm):Value).ownBlock) (.slice bc a7.length b5) a7)∧ae (wc.heap[d5]? = some (.cells #[.int .i64 aw,(.slice ba aa.length b4)] 30 (0,0)))∧ae (wc.heap[d2]? = some (.cells #[.int .i64 ao,(.slice bo a6.length bm)] 30 (0,0)))∧ae (wc.heap[ca]? = some (.cells #[.int .i64 ar,(.slice bc a7.length b5)] 30 (0,0)))∧ae (Below w.heap.size w wc))
     case first =>
      have H:=f8.out
      clear f8
      obtain ⟨gs,f3,H⟩:=af.be H
      (try dsimp only at H)
      by_cases fs:gs = true
      ·subst fs
       replace H:((aI.f ap b0 b3).bind fun f1=>(if f1 = true then ((aI.f ap b0 aS).bind fun eb=>(if eb = true then ((aI.f ap b0 bi).bind fun e0=>(if e0 = true then ((bK.f ap ar a7 aS).bind fun dk=>((bK.f ap ar a7 bi).bind fun dl=>((bK.f ap ar a7 b2).bind fun dp=>((bK.f ap ar a7 b3).bind fun dq=>(aq.j1 ap aO aP aB (decide ((wrap64 (dk+dl)) > (wrap64 (dp+dq)))) aw aa ao a6))))) else (aq.j1 ap aO aP aB true aw aa ao a6))) else (aq.j1 ap aO aP aB true aw aa ao a6))) else (aq.j1 ap aO aP aB false aw aa ao a6))) = some r:=by rw [if_pos rfl] at H;exact H
       obtain ⟨f1,ft,H⟩:=af.be H
       (try dsimp only at H)
       by_cases fw:f1 = true
       ·subst fw
        replace H:((aI.f ap b0 aS).bind fun eb=>(if eb = true then ((aI.f ap b0 bi).bind fun e0=>(if e0 = true then ((bK.f ap ar a7 aS).bind fun dk=>((bK.f ap ar a7 bi).bind fun dl=>((bK.f ap ar a7 b2).bind fun dp=>((bK.f ap ar a7 b3).bind fun dq=>(aq.j1 ap aO aP aB (decide ((wrap64 (dk+dl)) > (wrap64 (dp+dq)))) aw aa ao a6))))) else (aq.j1 ap aO aP aB true aw aa ao a6))) else (aq.j1 ap aO aP aB true aw aa ao a6))) = some r:=by rw [if_pos rfl] at H;exact H
        obtain ⟨eb,gt,H⟩:=af.be H
        (try dsimp only at H)
        by_cases g0:eb = true
        ·subst g0
         replace H:((aI.f ap b0 bi).bind fun e0=>(if e0 = true then ((bK.f ap ar a7 aS).bind fun dk=>((bK.f ap ar a7 bi).bind fun dl=>((bK.f ap ar a7 b2).bind fun dp=>((bK.f ap ar a7 b3).bind fun dq=>(aq.j1 ap aO aP aB (decide ((wrap64 (dk+dl)) > (wrap64 (dp+dq)))) aw aa ao a6))))) else (aq.j1 ap aO aP aB true aw aa ao a6))) = some r:=by rw [if_pos rfl] at H;exact H
         obtain ⟨e0,hD,H⟩:=af.be H
         (try dsimp only at H)
         by_cases g1:e0 = true
         ·subst g1
          replace H:((bK.f ap ar a7 aS).bind fun dk=>((bK.f ap ar a7 bi).bind fun dl=>((bK.f ap ar a7 b2).bind fun dp=>((bK.f ap ar a7 b3).bind fun dq=>(aq.j1 ap aO aP aB (decide ((wrap64 (dk+dl)) > (wrap64 (dp+dq)))) aw aa ao a6))))) = some r:=by rw [if_pos rfl] at H;exact H
          obtain ⟨dk,te,H⟩:=af.be H
          (try dsimp only at H)
          obtain ⟨dl,ti,H⟩:=af.be H
          (try dsimp only at H)
          obtain ⟨dp,tl,H⟩:=af.be H
          (try dsimp only at H)
          obtain ⟨dq,tm,H⟩:=af.be H
          (try dsimp only at H)
          have H':=ae.mk H
          clear H
          try go_wp2
          replace aF:=ae.mk (Kd.bl aF.out)
          replace a0:=ae.mk (Kd.bl a0.out)
          replace y:=ae.mk (Kd.bl y.out)
          replace j:=ae.mk (Kd.bl j.out)
          replace am:=ae.mk (Kd.bl am.out)
          replace X:=ae.mk (cO X.out)
          replace Y:=ae.mk (cO Y.out)
          replace z:=ae.mk (cO z.out)
          replace HB:=ae.mk (cn HB.out)
          obtain ⟨em,eo,h0⟩:=Kd.aK am.out
          (first | subst h0 | (injection h0 with e1 eq e2;have es:=e1.symm;have et:=e2.symm;clear e1 eq e2;subst es;subst et))
          refine eM (n:=37) (S:=fun w'=>w'.cell? ⟨ca,0,none⟩ = some (.int .i64 ar)∧w'.cell? ⟨ca,1,none⟩ = some (.slice bc a7.length b5)) (ds:=[]) #[false,false,false,false,false,false,false,false,false,false,false,false,false,false,false,false,false,false,false,false,false,false,false,false,false,false,false,false,false,false,false,false,false,false,false,false,false] (by kernel_rfl) rfl rfl ⟨(ak z.out 0).trans rfl,(ak z.out 1).trans rfl⟩ (fun hHeld=>?_);refine dc aq.oy aq.mm (fun a1 f4=>?_)
          generalize f2.drew = yq at aF a0 y j am X Y z HB hHeld ⊢
          refine af.pu 0 101 a1 ?_
          refine af.pu 1 102 a1 ?_
          refine fN (i:=2) (N:=some 103) #[true,true,true,false,false,false,false,false,false,false,false,false,false,false,false,false,false,false,false,false,false,false,false,false,false,false,false,false,false,false,false,false,false,false,false,false,false] rfl rfl (da a1.out (by kernel_rfl)) (by decide) (fun K hK=>?_)
          refine fC Tryz.func44 (by kernel_rfl) rfl #[.slice em b0.length eo,.int .i64 b2] (by rfl) rfl rfl (by (try simp only [List.map_toArray,List.map_cons,List.map_nil]);first | done | rfl) ?_
          with_reducible refine (aI.calls ap _ _ b0 b2 true _ ?side1 ?side2 f3.out).mono ?_
          (case side1=>exact af.Cw ((Kd.ah am.out).2.2))
          (case side2=>exact (Kd.ah am.out).2.1)
          rintro e w' ⟨rfl,⟨nd,rfl⟩⟩
          refine ⟨_,rfl,?_⟩
          refine hK.out _ _ ⟨(ak z.out 0).trans rfl,(ak z.out 1).trans rfl⟩ (fun hHeld=>?_)
          clear hK K
          refine er (a':=?_) ?_ ?_
          rotate_left
          ·show Act.put _ (some 103) _ = _
           simp only [Act.put,List.setIfInBounds_toArray,List.set_cons_zero,List.set_cons_succ,aM,b8]
           rfl
          refine af.pu 3 104 a1 ?_
          refine af.pu 4 105 a1 ?_
          refine af.pu 5 106 a1 ?_
          refine fN (i:=6) (N:=some 107) #[true,true,true,true,true,true,true,false,false,false,false,false,false,false,false,false,false,false,false,false,false,false,false,false,false,false,false,false,false,false,false,false,false,false,false,false,false] rfl rfl (da a1.out (by kernel_rfl)) (by decide) (fun K hK=>?_)
          refine fC Tryz.func44 (by kernel_rfl) rfl #[.slice em b0.length eo,.int .i64 b3] (by rfl) rfl rfl (by (try simp only [List.map_toArray,List.map_cons,List.map_nil]);first | done | rfl) ?_
          with_reducible refine (aI.calls ap _ _ b0 b3 true _ ?side1 ?side2 ft.out).mono ?_
          (case side1=>exact af.Cw ((Kd.ah am.out).2.2))
          (case side2=>exact (Kd.ah am.out).2.1)
          rintro e w' ⟨rfl,⟨nd,rfl⟩⟩
          refine ⟨_,rfl,?_⟩
          refine hK.out _ _ ⟨(ak z.out 0).trans rfl,(ak z.out 1).trans rfl⟩ (fun hHeld=>?_)
          clear hK K
          refine er (a':=?_) ?_ ?_
          rotate_left
          ·show Act.put _ (some 107) _ = _
           simp only [Act.put,List.setIfInBounds_toArray,List.set_cons_zero,List.set_cons_succ,aM,b8]
           rfl
          refine af.pu 7 108 a1 ?_
          refine af.pu 8 109 a1 ?_
          refine af.pu 9 110 a1 ?_
          refine af.pu 10 111 a1 ?_
          refine fN (i:=11) (N:=some 112) #[true,true,true,true,true,true,true,true,true,true,true,true,false,false,false,false,false,false,false,false,false,false,false,false,false,false,false,false,false,false,false,false,false,false,false,false,false] rfl rfl (da a1.out (by kernel_rfl)) (by decide) (fun K hK=>?_)
          refine fC Tryz.func44 (by kernel_rfl) rfl #[.slice em b0.length eo,.int .i64 aS] (by rfl) rfl rfl (by (try simp only [List.map_toArray,List.map_cons,List.map_nil]);first | done | rfl) ?_
          with_reducible refine (aI.calls ap _ _ b0 aS true _ ?side1 ?side2 gt.out).mono ?_
          (case side1=>exact af.Cw ((Kd.ah am.out).2.2))
          (case side2=>exact (Kd.ah am.out).2.1)
          rintro e w' ⟨rfl,⟨nd,rfl⟩⟩
          refine ⟨_,rfl,?_⟩
          refine hK.out _ _ ⟨(ak z.out 0).trans rfl,(ak z.out 1).trans rfl⟩ (fun hHeld=>?_)
          clear hK K
          refine er (a':=?_) ?_ ?_
          rotate_left
          ·show Act.put _ (some 112) _ = _
           simp only [Act.put,List.setIfInBounds_toArray,List.set_cons_zero,List.set_cons_succ,aM,b8]
           rfl
          refine af.pu 12 113 a1 ?_
          refine af.pu 13 114 a1 ?_
          refine af.pu 14 115 a1 ?_
          refine af.pu 15 116 a1 ?_
          refine fN (i:=16) (N:=some 117) #[true,true,true,true,true,true,true,true,true,true,true,true,true,true,true,true,true,false,false,false,false,false,false,false,false,false,false,false,false,false,false,false,false,false,false,false,false] rfl rfl (da a1.out (by kernel_rfl)) (by decide) (fun K hK=>?_)
          refine fC Tryz.func44 (by kernel_rfl) rfl #[.slice em b0.length eo,.int .i64 bi] (by rfl) rfl rfl (by (try simp only [List.map_toArray,List.map_cons,List.map_nil]);first | done | rfl) ?_
          with_reducible refine (aI.calls ap _ _ b0 bi true _ ?side1 ?side2 hD.out).mono ?_
          (case side1=>exact af.Cw ((Kd.ah am.out).2.2))
          (case side2=>exact (Kd.ah am.out).2.1)
          rintro e w' ⟨rfl,⟨nd,rfl⟩⟩
          refine ⟨_,rfl,?_⟩
          refine hK.out _ _ ⟨(ak z.out 0).trans rfl,(ak z.out 1).trans rfl⟩ (fun hHeld=>?_)
          clear hK K
          refine er (a':=?_) ?_ ?_
          rotate_left
          ·show Act.put _ (some 117) _ = _
           simp only [Act.put,List.setIfInBounds_toArray,List.set_cons_zero,List.set_cons_succ,aM,b8]
           rfl
          refine af.pu 17 118 a1 ?_
          refine af.pu 18 119 a1 ?_
          refine af.pu 19 120 a1 ?_
          refine af.pu 21 122 a1 ?_
          refine af.pu 24 125 a1 ?_
          refine af.pu 28 129 a1 ?_
          refine af.pu 31 132 a1 ?_
          refine af.tk 20 121 a1 f4 hHeld ?_
          refine af.tk 23 124 a1 f4 hHeld ?_
          refine af.tk 27 128 a1 f4 hHeld ?_
          refine af.tk 30 131 a1 f4 hHeld ?_
          refine fN (i:=22) (N:=some 123) #[true,true,true,true,true,true,true,true,true,true,true,true,true,true,true,true,true,true,true,true,true,true,true,true,true,false,false,true,true,false,true,true,false,false,false,false,false] rfl rfl (da a1.out (by kernel_rfl)) (by decide) (fun K hK=>?_)
          refine fC Tryz.func45 (by kernel_rfl) rfl #[.agg #[.int .i64 ar,.slice bc a7.length b5],.int .i64 aS] (by rfl) rfl rfl (by (try simp only [List.map_toArray,List.map_cons,List.map_nil]);first | done | rfl) ?_
          with_reducible refine (bK.calls ap ar _ _ a7 aS dk _ ?side1 ?side2 te.out).mono ?_
          (case side1=>exact af.Cw ((Kd.ah j.out).2.2))
          (case side2=>exact (Kd.ah j.out).2.1)
          rintro e yr ⟨rfl,hb⟩
          refine ⟨_,rfl,?_⟩
          replace aF:=af.rb aF hb
          replace a0:=af.rb a0 hb
          replace y:=af.rb y hb
          replace j:=af.rb j hb
          replace am:=af.rb am hb
          replace X:=af.bb X hb
          replace Y:=af.bb Y hb
          replace z:=af.bb z hb
          replace HB:=ae.mk (ax af.L hb)
          (try clear hb)
          (try clear cp)
          (try clear hk)
          (try clear hi)
          refine hK.out _ _ ⟨(ak z.out 0).trans rfl,(ak z.out 1).trans rfl⟩ (fun hHeld=>?_)
          clear hK K
          refine er (a':=?_) ?_ ?_
          rotate_left
          ·show Act.put _ (some 123) _ = _
           simp only [Act.put,List.setIfInBounds_toArray,List.set_cons_zero,List.set_cons_succ,aM,b8]
           rfl
          refine fN (i:=25) (N:=some 126) #[true,true,true,true,true,true,true,true,true,true,true,true,true,true,true,true,true,true,true,true,true,true,true,true,true,true,false,true,true,false,true,true,false,false,false,false,false] rfl rfl (da a1.out (by kernel_rfl)) (by decide) (fun K hK=>?_)
          refine fC Tryz.func45 (by kernel_rfl) rfl #[.agg #[.int .i64 ar,.slice bc a7.length b5],.int .i64 bi] (by rfl) rfl rfl (by (try simp only [List.map_toArray,List.map_cons,List.map_nil]);first | done | rfl) ?_
          with_reducible refine (bK.calls ap ar _ _ a7 bi dl _ ?side1 ?side2 ti.out).mono ?_
          (case side1=>exact af.Cw ((Kd.ah j.out).2.2))
          (case side2=>exact (Kd.ah j.out).2.1)
          rintro e ys ⟨rfl,hb⟩
          refine ⟨_,rfl,?_⟩
          replace aF:=af.rb aF hb
          replace a0:=af.rb a0 hb
          replace y:=af.rb y hb
          replace j:=af.rb j hb
          replace am:=af.rb am hb
          replace X:=af.bb X hb
          replace Y:=af.bb Y hb
          replace z:=af.bb z hb
          replace HB:=ae.mk (ax af.L hb)
          (try clear hb)
          (try clear cp)
          (try clear hk)
          (try clear hi)
          refine hK.out _ _ ⟨(ak z.out 0).trans rfl,(ak z.out 1).trans rfl⟩ (fun hHeld=>?_)
          clear hK K
          refine er (a':=?_) ?_ ?_
          rotate_left
          ·show Act.put _ (some 126) _ = _
           simp only [Act.put,List.setIfInBounds_toArray,List.set_cons_zero,List.set_cons_succ,aM,b8]
           rfl
          refine af.pu 26 127 a1 ?_
          refine fN (i:=29) (N:=some 130) #[true,true,true,true,true,true,true,true,true,true,true,true,true,true,true,true,true,true,true,true,true,true,true,true,true,true,true,true,true,true,true,true,false,false,false,false,false] rfl rfl (da a1.out (by kernel_rfl)) (by decide) (fun K hK=>?_)
          refine fC Tryz.func45 (by kernel_rfl) rfl #[.agg #[.int .i64 ar,.slice bc a7.length b5],.int .i64 b2] (by rfl) rfl rfl (by (try simp only [List.map_toArray,List.map_cons,List.map_nil]);first | done | rfl) ?_
          with_reducible refine (bK.calls ap ar _ _ a7 b2 dp _ ?side1 ?side2 tl.out).mono ?_
          (case side1=>exact af.Cw ((Kd.ah j.out).2.2))
          (case side2=>exact (Kd.ah j.out).2.1)
          rintro e yt ⟨rfl,hb⟩
          refine ⟨_,rfl,?_⟩
          replace aF:=af.rb aF hb
          replace a0:=af.rb a0 hb
          replace y:=af.rb y hb
          replace j:=af.rb j hb
          replace am:=af.rb am hb
          replace X:=af.bb X hb
          replace Y:=af.bb Y hb
          replace z:=af.bb z hb
          replace HB:=ae.mk (ax af.L hb)
          (try clear hb)
          (try clear cp)
          (try clear hk)
          (try clear hi)
          refine hK.out _ _ ⟨(ak z.out 0).trans rfl,(ak z.out 1).trans rfl⟩ (fun hHeld=>?_)
          clear hK K
          refine er (a':=?_) ?_ ?_
          rotate_left
          ·show Act.put _ (some 130) _ = _
           simp only [Act.put,List.setIfInBounds_toArray,List.set_cons_zero,List.set_cons_succ,aM,b8]
           rfl
          refine fN (i:=32) (N:=some 133) #[true,true,true,true,true,true,true,true,true,true,true,true,true,true,true,true,true,true,true,true,true,true,true,true,true,true,true,true,true,true,true,true,true,false,false,false,false] rfl rfl (da a1.out (by kernel_rfl)) (by decide) (fun K hK=>?_)
          refine fC Tryz.func45 (by kernel_rfl) rfl #[.agg #[.int .i64 ar,.slice bc a7.length b5],.int .i64 b3] (by rfl) rfl rfl (by (try simp only [List.map_toArray,List.map_cons,List.map_nil]);first | done | rfl) ?_
          with_reducible refine (bK.calls ap ar _ _ a7 b3 dq _ ?side1 ?side2 tm.out).mono ?_
          (case side1=>exact af.Cw ((Kd.ah j.out).2.2))
          (case side2=>exact (Kd.ah j.out).2.1)
          rintro e yu ⟨rfl,hb⟩
          refine ⟨_,rfl,?_⟩
          replace aF:=af.rb aF hb
          replace a0:=af.rb a0 hb
          replace y:=af.rb y hb
          replace j:=af.rb j hb
          replace am:=af.rb am hb
          replace X:=af.bb X hb
          replace Y:=af.bb Y hb
          replace z:=af.bb z hb
          replace HB:=ae.mk (ax af.L hb)
          (try clear hb)
          (try clear cp)
          (try clear hk)
          (try clear hi)
          refine hK.out _ _ ⟨(ak z.out 0).trans rfl,(ak z.out 1).trans rfl⟩ (fun hHeld=>?_)
          clear hK K
          refine er (a':=?_) ?_ ?_
          rotate_left
          ·show Act.put _ (some 133) _ = _
           simp only [Act.put,List.setIfInBounds_toArray,List.set_cons_zero,List.set_cons_succ,aM,b8]
           rfl
          refine af.pu 33 134 a1 ?_
          refine af.pu 34 135 a1 ?_
          refine af.pu 35 136 a1 ?_
          refine af.pu 36 137 a1 ?_
          refine fO (dU a1.out (by kernel_rfl)) ?_
          try go_wp2
          go_meet
          case rel=>exact ⟨_,(decide ((wrap64 (dk+dl)) > (wrap64 (dp+dq)))),af.F,H',⟨by have:=dT.out;first | omega | exact Nat.le_refl _⟩,⟨af.Rw (Kd.aC aF.out (fun _ hk=>⟨hk.1.1,⟨hk.1.2.1,hk.1.2.2⟩⟩))⟩,⟨af.Rw (Kd.aC a0.out (fun _ hk=>⟨hk.1.1,⟨hk.1.2.1,hk.1.2.2⟩⟩))⟩,⟨af.Rw (Kd.aC y.out (fun _ hk=>⟨hk.1.1,⟨hk.1.2.1,hk.1.2.2⟩⟩))⟩,⟨af.Rw (Kd.aC j.out (fun _ hk=>⟨hk.1.1,⟨hk.1.2.1,hk.1.2.2⟩⟩))⟩,⟨af.Bw X.out⟩,⟨af.Bw Y.out⟩,⟨af.Bw z.out⟩,⟨af.L⟩⟩
         ·replace g1:=Bool.eq_false_iff.mpr g1
          subst g1
          replace H:(aq.j1 ap aO aP aB true aw aa ao a6) = some r:=by rw [if_neg (show ¬ (false = true) by decide)] at H;exact H
          have H':=ae.mk H
          clear H
          try go_wp2
          replace aF:=ae.mk (Kd.bl aF.out)
          replace a0:=ae.mk (Kd.bl a0.out)
          replace y:=ae.mk (Kd.bl y.out)
          replace j:=ae.mk (Kd.bl j.out)
          replace am:=ae.mk (Kd.bl am.out)
          replace X:=ae.mk (cO X.out)
          replace Y:=ae.mk (cO Y.out)
          replace z:=ae.mk (cO z.out)
          replace HB:=ae.mk (cn HB.out)
          obtain ⟨ev,ew,h6⟩:=Kd.aK am.out
          (first | subst h6 | (injection h6 with e1 eq e2;have es:=e1.symm;have et:=e2.symm;clear e1 eq e2;subst es;subst et))
          refine eM (n:=37) (S:=fun w'=>True) (ds:=[]) #[false,false,false,false,false,false,false,false,false,false,false,false,false,false,false,false,false,false,false,false,false,false,false,false,false,false,false,false,false,false,false,false,false,false,false,false,false] (by kernel_rfl) rfl rfl trivial (fun hHeld=>?_);refine dc aq.oy aq.mm (fun a1 f4=>?_)
          generalize f2.drew = yv at aF a0 y j am X Y z HB hHeld ⊢
          refine af.pu 0 101 a1 ?_
          refine af.pu 1 102 a1 ?_
          refine fN (i:=2) (N:=some 103) #[true,true,true,false,false,false,false,false,false,false,false,false,false,false,false,false,false,false,false,false,false,false,false,false,false,false,false,false,false,false,false,false,false,false,false,false,false] rfl rfl (da a1.out (by kernel_rfl)) (by decide) (fun K hK=>?_)
          refine fC Tryz.func44 (by kernel_rfl) rfl #[.slice ev b0.length ew,.int .i64 b2] (by rfl) rfl rfl (by (try simp only [List.map_toArray,List.map_cons,List.map_nil]);first | done | rfl) ?_
          with_reducible refine (aI.calls ap _ _ b0 b2 true _ ?side1 ?side2 f3.out).mono ?_
          (case side1=>exact af.Cw ((Kd.ah am.out).2.2))
          (case side2=>exact (Kd.ah am.out).2.1)
          rintro e w' ⟨rfl,⟨nd,rfl⟩⟩
          refine ⟨_,rfl,?_⟩
          refine hK.out _ _ trivial (fun hHeld=>?_)
          clear hK K
          refine er (a':=?_) ?_ ?_
          rotate_left
          ·show Act.put _ (some 103) _ = _
           simp only [Act.put,List.setIfInBounds_toArray,List.set_cons_zero,List.set_cons_succ,aM,b8]
           rfl
          refine af.pu 3 104 a1 ?_
          refine af.pu 4 105 a1 ?_
          refine af.pu 5 106 a1 ?_
          refine fN (i:=6) (N:=some 107) #[true,true,true,true,true,true,true,false,false,false,false,false,false,false,false,false,false,false,false,false,false,false,false,false,false,false,false,false,false,false,false,false,false,false,false,false,false] rfl rfl (da a1.out (by kernel_rfl)) (by decide) (fun K hK=>?_)
          refine fC Tryz.func44 (by kernel_rfl) rfl #[.slice ev b0.length ew,.int .i64 b3] (by rfl) rfl rfl (by (try simp only [List.map_toArray,List.map_cons,List.map_nil]);first | done | rfl) ?_
          with_reducible refine (aI.calls ap _ _ b0 b3 true _ ?side1 ?side2 ft.out).mono ?_
          (case side1=>exact af.Cw ((Kd.ah am.out).2.2))
          (case side2=>exact (Kd.ah am.out).2.1)
          rintro e w' ⟨rfl,⟨nd,rfl⟩⟩
          refine ⟨_,rfl,?_⟩
          refine hK.out _ _ trivial (fun hHeld=>?_)
          clear hK K
          refine er (a':=?_) ?_ ?_
          rotate_left
          ·show Act.put _ (some 107) _ = _
           simp only [Act.put,List.setIfInBounds_toArray,List.set_cons_zero,List.set_cons_succ,aM,b8]
           rfl
          refine af.pu 7 108 a1 ?_
          refine af.pu 8 109 a1 ?_
          refine af.pu 9 110 a1 ?_
          refine af.pu 10 111 a1 ?_
          refine fN (i:=11) (N:=some 112) #[true,true,true,true,true,true,true,true,true,true,true,true,false,false,false,false,false,false,false,false,false,false,false,false,false,false,false,false,false,false,false,false,false,false,false,false,false] rfl rfl (da a1.out (by kernel_rfl)) (by decide) (fun K hK=>?_)
          refine fC Tryz.func44 (by kernel_rfl) rfl #[.slice ev b0.length ew,.int .i64 aS] (by rfl) rfl rfl (by (try simp only [List.map_toArray,List.map_cons,List.map_nil]);first | done | rfl) ?_
          with_reducible refine (aI.calls ap _ _ b0 aS true _ ?side1 ?side2 gt.out).mono ?_
          (case side1=>exact af.Cw ((Kd.ah am.out).2.2))
          (case side2=>exact (Kd.ah am.out).2.1)
          rintro e w' ⟨rfl,⟨nd,rfl⟩⟩
          refine ⟨_,rfl,?_⟩
          refine hK.out _ _ trivial (fun hHeld=>?_)
          clear hK K
          refine er (a':=?_) ?_ ?_
          rotate_left
          ·show Act.put _ (some 112) _ = _
           simp only [Act.put,List.setIfInBounds_toArray,List.set_cons_zero,List.set_cons_succ,aM,b8]
           rfl
          refine af.pu 12 113 a1 ?_
          refine af.pu 13 114 a1 ?_
          refine af.pu 14 115 a1 ?_
          refine af.pu 15 116 a1 ?_
          refine fN (i:=16) (N:=some 117) #[true,true,true,true,true,true,true,true,true,true,true,true,true,true,true,true,true,false,false,false,false,false,false,false,false,false,false,false,false,false,false,false,false,false,false,false,false] rfl rfl (da a1.out (by kernel_rfl)) (by decide) (fun K hK=>?_)
          refine fC Tryz.func44 (by kernel_rfl) rfl #[.slice ev b0.length ew,.int .i64 bi] (by rfl) rfl rfl (by (try simp only [List.map_toArray,List.map_cons,List.map_nil]);first | done | rfl) ?_
          with_reducible refine (aI.calls ap _ _ b0 bi false _ ?side1 ?side2 hD.out).mono ?_
          (case side1=>exact af.Cw ((Kd.ah am.out).2.2))
          (case side2=>exact (Kd.ah am.out).2.1)
          rintro e w' ⟨rfl,⟨nd,rfl⟩⟩
          refine ⟨_,rfl,?_⟩
          refine hK.out _ _ trivial (fun hHeld=>?_)
          clear hK K
          refine er (a':=?_) ?_ ?_
          rotate_left
          ·show Act.put _ (some 117) _ = _
           simp only [Act.put,List.setIfInBounds_toArray,List.set_cons_zero,List.set_cons_succ,aM,b8]
           rfl
          refine af.pu 17 118 a1 ?_
          refine af.pu 18 119 a1 ?_
          refine af.pu 19 120 a1 ?_
          refine cq (i:=20) (N:=some 121) (v:=undef) (a':=?_) #[true,true,true,true,true,true,true,true,true,true,true,true,true,true,true,true,true,true,true,true,true,false,false,false,false,false,false,false,false,false,false,false,false,false,false,false,false] rfl rfl (bp a1.out (by kernel_rfl)) (fun _ _ _ h=>h) (Or.inr ⟨by rfl,rfl⟩) ?_ ?_
          rotate_left
          ·simp only [Act.put,List.setIfInBounds_toArray,List.set_cons_zero,List.set_cons_succ,aM,b8]
           rfl
          refine cq (i:=21) (N:=some 122) (v:=undef) (a':=?_) #[true,true,true,true,true,true,true,true,true,true,true,true,true,true,true,true,true,true,true,true,true,true,false,false,false,false,false,false,false,false,false,false,false,false,false,false,false] rfl rfl (bp a1.out (by kernel_rfl)) (fun _ _ _ h=>h) (Or.inr ⟨by rfl,rfl⟩) ?_ ?_
          rotate_left
          ·simp only [Act.put,List.setIfInBounds_toArray,List.set_cons_zero,List.set_cons_succ,aM,b8]
           rfl
          refine cq (i:=22) (N:=some 123) (v:=undef) (a':=?_) #[true,true,true,true,true,true,true,true,true,true,true,true,true,true,true,true,true,true,true,true,true,true,true,false,false,false,false,false,false,false,false,false,false,false,false,false,false] rfl rfl (bp a1.out (by kernel_rfl)) (fun _ _ _ h=>h) (Or.inr ⟨by rfl,rfl⟩) ?_ ?_
          rotate_left
          ·simp only [Act.put,List.setIfInBounds_toArray,List.set_cons_zero,List.set_cons_succ,aM,b8]
           rfl
          refine cq (i:=23) (N:=some 124) (v:=undef) (a':=?_) #[true,true,true,true,true,true,true,true,true,true,true,true,true,true,true,true,true,true,true,true,true,true,true,true,false,false,false,false,false,false,false,false,false,false,false,false,false] rfl rfl (bp a1.out (by kernel_rfl)) (fun _ _ _ h=>h) (Or.inr ⟨by rfl,rfl⟩) ?_ ?_
          rotate_left
          ·simp only [Act.put,List.setIfInBounds_toArray,List.set_cons_zero,List.set_cons_succ,aM,b8]
           rfl
          refine cq (i:=24) (N:=some 125) (v:=undef) (a':=?_) #[true,true,true,true,true,true,true,true,true,true,true,true,true,true,true,true,true,true,true,true,true,true,true,true,true,false,false,false,false,false,false,false,false,false,false,false,false] rfl rfl (bp a1.out (by kernel_rfl)) (fun _ _ _ h=>h) (Or.inr ⟨by rfl,rfl⟩) ?_ ?_
          rotate_left
          ·simp only [Act.put,List.setIfInBounds_toArray,List.set_cons_zero,List.set_cons_succ,aM,b8]
           rfl
          refine cq (i:=25) (N:=some 126) (v:=undef) (a':=?_) #[true,true,true,true,true,true,true,true,true,true,true,true,true,true,true,true,true,true,true,true,true,true,true,true,true,true,false,false,false,false,false,false,false,false,false,false,false] rfl rfl (bp a1.out (by kernel_rfl)) (fun _ _ _ h=>h) (Or.inr ⟨by rfl,rfl⟩) ?_ ?_
          rotate_left
          ·simp only [Act.put,List.setIfInBounds_toArray,List.set_cons_zero,List.set_cons_succ,aM,b8]
           rfl
          refine cq (i:=26) (N:=some 127) (v:=undef) (a':=?_) #[true,true,true,true,true,true,true,true,true,true,true,true,true,true,true,true,true,true,true,true,true,true,true,true,true,true,true,false,false,false,false,false,false,false,false,false,false] rfl rfl (bp a1.out (by kernel_rfl)) (fun _ _ _ h=>h) (Or.inr ⟨by rfl,rfl⟩) ?_ ?_
          rotate_left
          ·simp only [Act.put,List.setIfInBounds_toArray,List.set_cons_zero,List.set_cons_succ,aM,b8]
           rfl
          refine cq (i:=27) (N:=some 128) (v:=undef) (a':=?_) #[true,true,true,true,true,true,true,true,true,true,true,true,true,true,true,true,true,true,true,true,true,true,true,true,true,true,true,true,false,false,false,false,false,false,false,false,false] rfl rfl (bp a1.out (by kernel_rfl)) (fun _ _ _ h=>h) (Or.inr ⟨by rfl,rfl⟩) ?_ ?_
          rotate_left
          ·simp only [Act.put,List.setIfInBounds_toArray,List.set_cons_zero,List.set_cons_succ,aM,b8]
           rfl
          refine cq (i:=28) (N:=some 129) (v:=undef) (a':=?_) #[true,true,true,true,true,true,true,true,true,true,true,true,true,true,true,true,true,true,true,true,true,true,true,true,true,true,true,true,true,false,false,false,false,false,false,false,false] rfl rfl (bp a1.out (by kernel_rfl)) (fun _ _ _ h=>h) (Or.inr ⟨by rfl,rfl⟩) ?_ ?_
          rotate_left
          ·simp only [Act.put,List.setIfInBounds_toArray,List.set_cons_zero,List.set_cons_succ,aM,b8]
           rfl
          refine cq (i:=29) (N:=some 130) (v:=undef) (a':=?_) #[true,true,true,true,true,true,true,true,true,true,true,true,true,true,true,true,true,true,true,true,true,true,true,true,true,true,true,true,true,true,false,false,false,false,false,false,false] rfl rfl (bp a1.out (by kernel_rfl)) (fun _ _ _ h=>h) (Or.inr ⟨by rfl,rfl⟩) ?_ ?_
          rotate_left
          ·simp only [Act.put,List.setIfInBounds_toArray,List.set_cons_zero,List.set_cons_succ,aM,b8]
           rfl
          refine cq (i:=30) (N:=some 131) (v:=undef) (a':=?_) #[true,true,true,true,true,true,true,true,true,true,true,true,true,true,true,true,true,true,true,true,true,true,true,true,true,true,true,true,true,true,true,false,false,false,false,false,false] rfl rfl (bp a1.out (by kernel_rfl)) (fun _ _ _ h=>h) (Or.inr ⟨by rfl,rfl⟩) ?_ ?_
          rotate_left
          ·simp only [Act.put,List.setIfInBounds_toArray,List.set_cons_zero,List.set_cons_succ,aM,b8]
           rfl
          refine cq (i:=31) (N:=some 132) (v:=undef) (a':=?_) #[true,true,true,true,true,true,true,true,true,true,true,true,true,true,true,true,true,true,true,true,true,true,true,true,true,true,true,true,true,true,true,true,false,false,false,false,false] rfl rfl (bp a1.out (by kernel_rfl)) (fun _ _ _ h=>h) (Or.inr ⟨by rfl,rfl⟩) ?_ ?_
          rotate_left
          ·simp only [Act.put,List.setIfInBounds_toArray,List.set_cons_zero,List.set_cons_succ,aM,b8]
           rfl
          refine cq (i:=32) (N:=some 133) (v:=undef) (a':=?_) #[true,true,true,true,true,true,true,true,true,true,true,true,true,true,true,true,true,true,true,true,true,true,true,true,true,true,true,true,true,true,true,true,true,false,false,false,false] rfl rfl (bp a1.out (by kernel_rfl)) (fun _ _ _ h=>h) (Or.inr ⟨by rfl,rfl⟩) ?_ ?_
          rotate_left
          ·simp only [Act.put,List.setIfInBounds_toArray,List.set_cons_zero,List.set_cons_succ,aM,b8]
           rfl
          refine cq (i:=33) (N:=some 134) (v:=undef) (a':=?_) #[true,true,true,true,true,true,true,true,true,true,true,true,true,true,true,true,true,true,true,true,true,true,true,true,true,true,true,true,true,true,true,true,true,true,false,false,false] rfl rfl (bp a1.out (by kernel_rfl)) (fun _ _ _ h=>h) (Or.inr ⟨by rfl,rfl⟩) ?_ ?_
          rotate_left
          ·simp only [Act.put,List.setIfInBounds_toArray,List.set_cons_zero,List.set_cons_succ,aM,b8]
           rfl
          refine cq (i:=34) (N:=some 135) (v:=undef) (a':=?_) #[true,true,true,true,true,true,true,true,true,true,true,true,true,true,true,true,true,true,true,true,true,true,true,true,true,true,true,true,true,true,true,true,true,true,true,false,false] rfl rfl (bp a1.out (by kernel_rfl)) (fun _ _ _ h=>h) (Or.inr ⟨by rfl,rfl⟩) ?_ ?_
          rotate_left
          ·simp only [Act.put,List.setIfInBounds_toArray,List.set_cons_zero,List.set_cons_succ,aM,b8]
           rfl
          refine af.pu 35 136 a1 ?_
          refine af.pu 36 137 a1 ?_
          refine fO (dU a1.out (by kernel_rfl)) ?_
          try go_wp2
          go_meet
          case rel=>exact ⟨_,(true),af.F,H',⟨by have:=dT.out;first | omega | exact Nat.le_refl _⟩,⟨af.Rw (Kd.aC aF.out (fun _ hk=>⟨hk.1.1,⟨hk.1.2.1,hk.1.2.2⟩⟩))⟩,⟨af.Rw (Kd.aC a0.out (fun _ hk=>⟨hk.1.1,⟨hk.1.2.1,hk.1.2.2⟩⟩))⟩,⟨af.Rw (Kd.aC y.out (fun _ hk=>⟨hk.1.1,⟨hk.1.2.1,hk.1.2.2⟩⟩))⟩,⟨af.Rw (Kd.aC j.out (fun _ hk=>⟨hk.1.1,⟨hk.1.2.1,hk.1.2.2⟩⟩))⟩,⟨af.Bw X.out⟩,⟨af.Bw Y.out⟩,⟨af.Bw z.out⟩,⟨af.L⟩⟩
        ·replace g0:=Bool.eq_false_iff.mpr g0
         subst g0
         replace H:(aq.j1 ap aO aP aB true aw aa ao a6) = some r:=by rw [if_neg (show ¬ (false = true) by decide)] at H;exact H
         have H':=ae.mk H
         clear H
         try go_wp2
         replace aF:=ae.mk (Kd.bl aF.out)
         replace a0:=ae.mk (Kd.bl a0.out)
         replace y:=ae.mk (Kd.bl y.out)
         replace j:=ae.mk (Kd.bl j.out)
         replace am:=ae.mk (Kd.bl am.out)
         replace X:=ae.mk (cO X.out)
         replace Y:=ae.mk (cO Y.out)
         replace z:=ae.mk (cO z.out)
         replace HB:=ae.mk (cn HB.out)
         obtain ⟨f9,fd,h7⟩:=Kd.aK am.out
         (first | subst h7 | (injection h7 with e1 eq e2;have es:=e1.symm;have et:=e2.symm;clear e1 eq e2;subst es;subst et))
         refine eM (n:=37) (S:=fun w'=>True) (ds:=[]) #[false,false,false,false,false,false,false,false,false,false,false,false,false,false,false,false,false,false,false,false,false,false,false,false,false,false,false,false,false,false,false,false,false,false,false,false,false] (by kernel_rfl) rfl rfl trivial (fun hHeld=>?_);refine dc aq.oy aq.mm (fun a1 f4=>?_)
         generalize f2.drew = yw at aF a0 y j am X Y z HB hHeld ⊢
         refine af.pu 0 101 a1 ?_
         refine af.pu 1 102 a1 ?_
         refine fN (i:=2) (N:=some 103) #[true,true,true,false,false,false,false,false,false,false,false,false,false,false,false,false,false,false,false,false,false,false,false,false,false,false,false,false,false,false,false,false,false,false,false,false,false] rfl rfl (da a1.out (by kernel_rfl)) (by decide) (fun K hK=>?_)
         refine fC Tryz.func44 (by kernel_rfl) rfl #[.slice f9 b0.length fd,.int .i64 b2] (by rfl) rfl rfl (by (try simp only [List.map_toArray,List.map_cons,List.map_nil]);first | done | rfl) ?_
         with_reducible refine (aI.calls ap _ _ b0 b2 true _ ?side1 ?side2 f3.out).mono ?_
         (case side1=>exact af.Cw ((Kd.ah am.out).2.2))
         (case side2=>exact (Kd.ah am.out).2.1)
         rintro e w' ⟨rfl,⟨nd,rfl⟩⟩
         refine ⟨_,rfl,?_⟩
         refine hK.out _ _ trivial (fun hHeld=>?_)
         clear hK K
         refine er (a':=?_) ?_ ?_
         rotate_left
         ·show Act.put _ (some 103) _ = _
          simp only [Act.put,List.setIfInBounds_toArray,List.set_cons_zero,List.set_cons_succ,aM,b8]
          rfl
         refine af.pu 3 104 a1 ?_
         refine af.pu 4 105 a1 ?_
         refine af.pu 5 106 a1 ?_
         refine fN (i:=6) (N:=some 107) #[true,true,true,true,true,true,true,false,false,false,false,false,false,false,false,false,false,false,false,false,false,false,false,false,false,false,false,false,false,false,false,false,false,false,false,false,false] rfl rfl (da a1.out (by kernel_rfl)) (by decide) (fun K hK=>?_)
         refine fC Tryz.func44 (by kernel_rfl) rfl #[.slice f9 b0.length fd,.int .i64 b3] (by rfl) rfl rfl (by (try simp only [List.map_toArray,List.map_cons,List.map_nil]);first | done | rfl) ?_
         with_reducible refine (aI.calls ap _ _ b0 b3 true _ ?side1 ?side2 ft.out).mono ?_
         (case side1=>exact af.Cw ((Kd.ah am.out).2.2))
         (case side2=>exact (Kd.ah am.out).2.1)
         rintro e w' ⟨rfl,⟨nd,rfl⟩⟩
         refine ⟨_,rfl,?_⟩
         refine hK.out _ _ trivial (fun hHeld=>?_)
         clear hK K
         refine er (a':=?_) ?_ ?_
         rotate_left
         ·show Act.put _ (some 107) _ = _
          simp only [Act.put,List.setIfInBounds_toArray,List.set_cons_zero,List.set_cons_succ,aM,b8]
          rfl
         refine af.pu 7 108 a1 ?_
         refine af.pu 8 109 a1 ?_
         refine af.pu 9 110 a1 ?_
         refine af.pu 10 111 a1 ?_
         refine fN (i:=11) (N:=some 112) #[true,true,true,true,true,true,true,true,true,true,true,true,false,false,false,false,false,false,false,false,false,false,false,false,false,false,false,false,false,false,false,false,false,false,false,false,false] rfl rfl (da a1.out (by kernel_rfl)) (by decide) (fun K hK=>?_)
         refine fC Tryz.func44 (by kernel_rfl) rfl #[.slice f9 b0.length fd,.int .i64 aS] (by rfl) rfl rfl (by (try simp only [List.map_toArray,List.map_cons,List.map_nil]);first | done | rfl) ?_
         with_reducible refine (aI.calls ap _ _ b0 aS false _ ?side1 ?side2 gt.out).mono ?_
         (case side1=>exact af.Cw ((Kd.ah am.out).2.2))
         (case side2=>exact (Kd.ah am.out).2.1)
         rintro e w' ⟨rfl,⟨nd,rfl⟩⟩
         refine ⟨_,rfl,?_⟩
         refine hK.out _ _ trivial (fun hHeld=>?_)
         clear hK K
         refine er (a':=?_) ?_ ?_
         rotate_left
         ·show Act.put _ (some 112) _ = _
          simp only [Act.put,List.setIfInBounds_toArray,List.set_cons_zero,List.set_cons_succ,aM,b8]
          rfl
         refine af.pu 12 113 a1 ?_
         refine af.pu 13 114 a1 ?_
         refine cq (i:=14) (N:=some 115) (v:=undef) (a':=?_) #[true,true,true,true,true,true,true,true,true,true,true,true,true,true,true,false,false,false,false,false,false,false,false,false,false,false,false,false,false,false,false,false,false,false,false,false,false] rfl rfl (bp a1.out (by kernel_rfl)) (fun _ _ _ h=>h) (Or.inr ⟨by rfl,rfl⟩) ?_ ?_
         rotate_left
         ·simp only [Act.put,List.setIfInBounds_toArray,List.set_cons_zero,List.set_cons_succ,aM,b8]
          rfl
         refine cq (i:=15) (N:=some 116) (v:=undef) (a':=?_) #[true,true,true,true,true,true,true,true,true,true,true,true,true,true,true,true,false,false,false,false,false,false,false,false,false,false,false,false,false,false,false,false,false,false,false,false,false] rfl rfl (bp a1.out (by kernel_rfl)) (fun _ _ _ h=>h) (Or.inr ⟨by rfl,rfl⟩) ?_ ?_
         rotate_left
         ·simp only [Act.put,List.setIfInBounds_toArray,List.set_cons_zero,List.set_cons_succ,aM,b8]
          rfl
         refine cq (i:=16) (N:=some 117) (v:=undef) (a':=?_) #[true,true,true,true,true,true,true,true,true,true,true,true,true,true,true,true,true,false,false,false,false,false,false,false,false,false,false,false,false,false,false,false,false,false,false,false,false] rfl rfl (bp a1.out (by kernel_rfl)) (fun _ _ _ h=>h) (Or.inr ⟨by rfl,rfl⟩) ?_ ?_
         rotate_left
         ·simp only [Act.put,List.setIfInBounds_toArray,List.set_cons_zero,List.set_cons_succ,aM,b8]
          rfl
         refine cq (i:=17) (N:=some 118) (v:=undef) (a':=?_) #[true,true,true,true,true,true,true,true,true,true,true,true,true,true,true,true,true,true,false,false,false,false,false,false,false,false,false,false,false,false,false,false,false,false,false,false,false] rfl rfl (bp a1.out (by kernel_rfl)) (fun _ _ _ h=>h) (Or.inr ⟨by rfl,rfl⟩) ?_ ?_
         rotate_left
         ·simp only [Act.put,List.setIfInBounds_toArray,List.set_cons_zero,List.set_cons_succ,aM,b8]
          rfl
         refine af.pu 18 119 a1 ?_
         refine af.pu 19 120 a1 ?_
         refine cq (i:=20) (N:=some 121) (v:=undef) (a':=?_) #[true,true,true,true,true,true,true,true,true,true,true,true,true,true,true,true,true,true,true,true,true,false,false,false,false,false,false,false,false,false,false,false,false,false,false,false,false] rfl rfl (bp a1.out (by kernel_rfl)) (fun _ _ _ h=>h) (Or.inr ⟨by rfl,rfl⟩) ?_ ?_
         rotate_left
         ·simp only [Act.put,List.setIfInBounds_toArray,List.set_cons_zero,List.set_cons_succ,aM,b8]
          rfl
         refine cq (i:=21) (N:=some 122) (v:=undef) (a':=?_) #[true,true,true,true,true,true,true,true,true,true,true,true,true,true,true,true,true,true,true,true,true,true,false,false,false,false,false,false,false,false,false,false,false,false,false,false,false] rfl rfl (bp a1.out (by kernel_rfl)) (fun _ _ _ h=>h) (Or.inr ⟨by rfl,rfl⟩) ?_ ?_
         rotate_left
         ·simp only [Act.put,List.setIfInBounds_toArray,List.set_cons_zero,List.set_cons_succ,aM,b8]
          rfl
         refine cq (i:=22) (N:=some 123) (v:=undef) (a':=?_) #[true,true,true,true,true,true,true,true,true,true,true,true,true,true,true,true,true,true,true,true,true,true,true,false,false,false,false,false,false,false,false,false,false,false,false,false,false] rfl rfl (bp a1.out (by kernel_rfl)) (fun _ _ _ h=>h) (Or.inr ⟨by rfl,rfl⟩) ?_ ?_
         rotate_left
         ·simp only [Act.put,List.setIfInBounds_toArray,List.set_cons_zero,List.set_cons_succ,aM,b8]
          rfl
         refine cq (i:=23) (N:=some 124) (v:=undef) (a':=?_) #[true,true,true,true,true,true,true,true,true,true,true,true,true,true,true,true,true,true,true,true,true,true,true,true,false,false,false,false,false,false,false,false,false,false,false,false,false] rfl rfl (bp a1.out (by kernel_rfl)) (fun _ _ _ h=>h) (Or.inr ⟨by rfl,rfl⟩) ?_ ?_
         rotate_left
         ·simp only [Act.put,List.setIfInBounds_toArray,List.set_cons_zero,List.set_cons_succ,aM,b8]
          rfl
         refine cq (i:=24) (N:=some 125) (v:=undef) (a':=?_) #[true,true,true,true,true,true,true,true,true,true,true,true,true,true,true,true,true,true,true,true,true,true,true,true,true,false,false,false,false,false,false,false,false,false,false,false,false] rfl rfl (bp a1.out (by kernel_rfl)) (fun _ _ _ h=>h) (Or.inr ⟨by rfl,rfl⟩) ?_ ?_
         rotate_left
         ·simp only [Act.put,List.setIfInBounds_toArray,List.set_cons_zero,List.set_cons_succ,aM,b8]
          rfl
         refine cq (i:=25) (N:=some 126) (v:=undef) (a':=?_) #[true,true,true,true,true,true,true,true,true,true,true,true,true,true,true,true,true,true,true,true,true,true,true,true,true,true,false,false,false,false,false,false,false,false,false,false,false] rfl rfl (bp a1.out (by kernel_rfl)) (fun _ _ _ h=>h) (Or.inr ⟨by rfl,rfl⟩) ?_ ?_
         rotate_left
         ·simp only [Act.put,List.setIfInBounds_toArray,List.set_cons_zero,List.set_cons_succ,aM,b8]
          rfl
         refine cq (i:=26) (N:=some 127) (v:=undef) (a':=?_) #[true,true,true,true,true,true,true,true,true,true,true,true,true,true,true,true,true,true,true,true,true,true,true,true,true,true,true,false,false,false,false,false,false,false,false,false,false] rfl rfl (bp a1.out (by kernel_rfl)) (fun _ _ _ h=>h) (Or.inr ⟨by rfl,rfl⟩) ?_ ?_
         rotate_left
         ·simp only [Act.put,List.setIfInBounds_toArray,List.set_cons_zero,List.set_cons_succ,aM,b8]
          rfl
         refine cq (i:=27) (N:=some 128) (v:=undef) (a':=?_) #[true,true,true,true,true,true,true,true,true,true,true,true,true,true,true,true,true,true,true,true,true,true,true,true,true,true,true,true,false,false,false,false,false,false,false,false,false] rfl rfl (bp a1.out (by kernel_rfl)) (fun _ _ _ h=>h) (Or.inr ⟨by rfl,rfl⟩) ?_ ?_
         rotate_left
         ·simp only [Act.put,List.setIfInBounds_toArray,List.set_cons_zero,List.set_cons_succ,aM,b8]
          rfl
         refine cq (i:=28) (N:=some 129) (v:=undef) (a':=?_) #[true,true,true,true,true,true,true,true,true,true,true,true,true,true,true,true,true,true,true,true,true,true,true,true,true,true,true,true,true,false,false,false,false,false,false,false,false] rfl rfl (bp a1.out (by kernel_rfl)) (fun _ _ _ h=>h) (Or.inr ⟨by rfl,rfl⟩) ?_ ?_
         rotate_left
         ·simp only [Act.put,List.setIfInBounds_toArray,List.set_cons_zero,List.set_cons_succ,aM,b8]
          rfl
         refine cq (i:=29) (N:=some 130) (v:=undef) (a':=?_) #[true,true,true,true,true,true,true,true,true,true,true,true,true,true,true,true,true,true,true,true,true,true,true,true,true,true,true,true,true,true,false,false,false,false,false,false,false] rfl rfl (bp a1.out (by kernel_rfl)) (fun _ _ _ h=>h) (Or.inr ⟨by rfl,rfl⟩) ?_ ?_
         rotate_left
         ·simp only [Act.put,List.setIfInBounds_toArray,List.set_cons_zero,List.set_cons_succ,aM,b8]
          rfl
         refine cq (i:=30) (N:=some 131) (v:=undef) (a':=?_) #[true,true,true,true,true,true,true,true,true,true,true,true,true,true,true,true,true,true,true,true,true,true,true,true,true,true,true,true,true,true,true,false,false,false,false,false,false] rfl rfl (bp a1.out (by kernel_rfl)) (fun _ _ _ h=>h) (Or.inr ⟨by rfl,rfl⟩) ?_ ?_
         rotate_left
         ·simp only [Act.put,List.setIfInBounds_toArray,List.set_cons_zero,List.set_cons_succ,aM,b8]
          rfl
         refine cq (i:=31) (N:=some 132) (v:=undef) (a':=?_) #[true,true,true,true,true,true,true,true,true,true,true,true,true,true,true,true,true,true,true,true,true,true,true,true,true,true,true,true,true,true,true,true,false,false,false,false,false] rfl rfl (bp a1.out (by kernel_rfl)) (fun _ _ _ h=>h) (Or.inr ⟨by rfl,rfl⟩) ?_ ?_
         rotate_left
         ·simp only [Act.put,List.setIfInBounds_toArray,List.set_cons_zero,List.set_cons_succ,aM,b8]
          rfl
         refine cq (i:=32) (N:=some 133) (v:=undef) (a':=?_) #[true,true,true,true,true,true,true,true,true,true,true,true,true,true,true,true,true,true,true,true,true,true,true,true,true,true,true,true,true,true,true,true,true,false,false,false,false] rfl rfl (bp a1.out (by kernel_rfl)) (fun _ _ _ h=>h) (Or.inr ⟨by rfl,rfl⟩) ?_ ?_
         rotate_left
         ·simp only [Act.put,List.setIfInBounds_toArray,List.set_cons_zero,List.set_cons_succ,aM,b8]
          rfl
         refine cq (i:=33) (N:=some 134) (v:=undef) (a':=?_) #[true,true,true,true,true,true,true,true,true,true,true,true,true,true,true,true,true,true,true,true,true,true,true,true,true,true,true,true,true,true,true,true,true,true,false,false,false] rfl rfl (bp a1.out (by kernel_rfl)) (fun _ _ _ h=>h) (Or.inr ⟨by rfl,rfl⟩) ?_ ?_
         rotate_left
         ·simp only [Act.put,List.setIfInBounds_toArray,List.set_cons_zero,List.set_cons_succ,aM,b8]
          rfl
         refine cq (i:=34) (N:=some 135) (v:=undef) (a':=?_) #[true,true,true,true,true,true,true,true,true,true,true,true,true,true,true,true,true,true,true,true,true,true,true,true,true,true,true,true,true,true,true,true,true,true,true,false,false] rfl rfl (bp a1.out (by kernel_rfl)) (fun _ _ _ h=>h) (Or.inr ⟨by rfl,rfl⟩) ?_ ?_
         rotate_left
         ·simp only [Act.put,List.setIfInBounds_toArray,List.set_cons_zero,List.set_cons_succ,aM,b8]
          rfl
         refine af.pu 35 136 a1 ?_
         refine af.pu 36 137 a1 ?_
         refine fO (dU a1.out (by kernel_rfl)) ?_
         try go_wp2
         go_meet
         case rel=>exact ⟨_,(true),af.F,H',⟨by have:=dT.out;first | omega | exact Nat.le_refl _⟩,⟨af.Rw (Kd.aC aF.out (fun _ hk=>⟨hk.1.1,⟨hk.1.2.1,hk.1.2.2⟩⟩))⟩,⟨af.Rw (Kd.aC a0.out (fun _ hk=>⟨hk.1.1,⟨hk.1.2.1,hk.1.2.2⟩⟩))⟩,⟨af.Rw (Kd.aC y.out (fun _ hk=>⟨hk.1.1,⟨hk.1.2.1,hk.1.2.2⟩⟩))⟩,⟨af.Rw (Kd.aC j.out (fun _ hk=>⟨hk.1.1,⟨hk.1.2.1,hk.1.2.2⟩⟩))⟩,⟨af.Bw X.out⟩,⟨af.Bw Y.out⟩,⟨af.Bw z.out⟩,⟨af.L⟩⟩
       ·replace fw:=Bool.eq_false_iff.mpr fw
        subst fw
        replace H:(aq.j1 ap aO aP aB false aw aa ao a6) = some r:=by rw [if_neg (show ¬ (false = true) by decide)] at H;exact H
        have H':=ae.mk H
        clear H
        try go_wp2
        replace aF:=ae.mk (Kd.bl aF.out)
        replace a0:=ae.mk (Kd.bl a0.out)
        replace y:=ae.mk (Kd.bl y.out)
        replace j:=ae.mk (Kd.bl j.out)
        replace am:=ae.mk (Kd.bl am.out)
        replace X:=ae.mk (cO X.out)
        replace Y:=ae.mk (cO Y.out)
        replace z:=ae.mk (cO z.out)
        replace HB:=ae.mk (cn HB.out)
        obtain ⟨h8,h9,hj⟩:=Kd.aK am.out
        (first | subst hj | (injection hj with e1 eq e2;have es:=e1.symm;have et:=e2.symm;clear e1 eq e2;subst es;subst et))
        refine eM (n:=37) (S:=fun w'=>True) (ds:=[]) #[false,false,false,false,false,false,false,false,false,false,false,false,false,false,false,false,false,false,false,false,false,false,false,false,false,false,false,false,false,false,false,false,false,false,false,false,false] (by kernel_rfl) rfl rfl trivial (fun hHeld=>?_);refine dc aq.oy aq.mm (fun a1 f4=>?_)
        generalize f2.drew = yx at aF a0 y j am X Y z HB hHeld ⊢
        refine af.pu 0 101 a1 ?_
        refine af.pu 1 102 a1 ?_
        refine fN (i:=2) (N:=some 103) #[true,true,true,false,false,false,false,false,false,false,false,false,false,false,false,false,false,false,false,false,false,false,false,false,false,false,false,false,false,false,false,false,false,false,false,false,false] rfl rfl (da a1.out (by kernel_rfl)) (by decide) (fun K hK=>?_)
        refine fC Tryz.func44 (by kernel_rfl) rfl #[.slice h8 b0.length h9,.int .i64 b2] (by rfl) rfl rfl (by (try simp only [List.map_toArray,List.map_cons,List.map_nil]);first | done | rfl) ?_
        with_reducible refine (aI.calls ap _ _ b0 b2 true _ ?side1 ?side2 f3.out).mono ?_
        (case side1=>exact af.Cw ((Kd.ah am.out).2.2))
        (case side2=>exact (Kd.ah am.out).2.1)
        rintro e w' ⟨rfl,⟨nd,rfl⟩⟩
        refine ⟨_,rfl,?_⟩
        refine hK.out _ _ trivial (fun hHeld=>?_)
        clear hK K
        refine er (a':=?_) ?_ ?_
        rotate_left
        ·show Act.put _ (some 103) _ = _
         simp only [Act.put,List.setIfInBounds_toArray,List.set_cons_zero,List.set_cons_succ,aM,b8]
         rfl
        refine af.pu 3 104 a1 ?_
        refine af.pu 4 105 a1 ?_
        refine af.pu 5 106 a1 ?_
        refine fN (i:=6) (N:=some 107) #[true,true,true,true,true,true,true,false,false,false,false,false,false,false,false,false,false,false,false,false,false,false,false,false,false,false,false,false,false,false,false,false,false,false,false,false,false] rfl rfl (da a1.out (by kernel_rfl)) (by decide) (fun K hK=>?_)
        refine fC Tryz.func44 (by kernel_rfl) rfl #[.slice h8 b0.length h9,.int .i64 b3] (by rfl) rfl rfl (by (try simp only [List.map_toArray,List.map_cons,List.map_nil]);first | done | rfl) ?_
        with_reducible refine (aI.calls ap _ _ b0 b3 false _ ?side1 ?side2 ft.out).mono ?_
        (case side1=>exact af.Cw ((Kd.ah am.out).2.2))
        (case side2=>exact (Kd.ah am.out).2.1)
        rintro e w' ⟨rfl,⟨nd,rfl⟩⟩
        refine ⟨_,rfl,?_⟩
        refine hK.out _ _ trivial (fun hHeld=>?_)
        clear hK K
        refine er (a':=?_) ?_ ?_
        rotate_left
        ·show Act.put _ (some 107) _ = _
         simp only [Act.put,List.setIfInBounds_toArray,List.set_cons_zero,List.set_cons_succ,aM,b8]
         rfl
        refine af.pu 7 108 a1 ?_
        refine af.pu 8 109 a1 ?_
        refine cq (i:=9) (N:=some 110) (v:=undef) (a':=?_) #[true,true,true,true,true,true,true,true,true,true,false,false,false,false,false,false,false,false,false,false,false,false,false,false,false,false,false,false,false,false,false,false,false,false,false,false,false] rfl rfl (bp a1.out (by kernel_rfl)) (fun _ _ _ h=>h) (Or.inr ⟨by rfl,rfl⟩) ?_ ?_
        rotate_left
        ·simp only [Act.put,List.setIfInBounds_toArray,List.set_cons_zero,List.set_cons_succ,aM,b8]
         rfl
        refine cq (i:=10) (N:=some 111) (v:=undef) (a':=?_) #[true,true,true,true,true,true,true,true,true,true,true,false,false,false,false,false,false,false,false,false,false,false,false,false,false,false,false,false,false,false,false,false,false,false,false,false,false] rfl rfl (bp a1.out (by kernel_rfl)) (fun _ _ _ h=>h) (Or.inr ⟨by rfl,rfl⟩) ?_ ?_
        rotate_left
        ·simp only [Act.put,List.setIfInBounds_toArray,List.set_cons_zero,List.set_cons_succ,aM,b8]
         rfl
        refine cq (i:=11) (N:=some 112) (v:=undef) (a':=?_) #[true,true,true,true,true,true,true,true,true,true,true,true,false,false,false,false,false,false,false,false,false,false,false,false,false,false,false,false,false,false,false,false,false,false,false,false,false] rfl rfl (bp a1.out (by kernel_rfl)) (fun _ _ _ h=>h) (Or.inr ⟨by rfl,rfl⟩) ?_ ?_
        rotate_left
        ·simp only [Act.put,List.setIfInBounds_toArray,List.set_cons_zero,List.set_cons_succ,aM,b8]
         rfl
        refine cq (i:=12) (N:=some 113) (v:=undef) (a':=?_) #[true,true,true,true,true,true,true,true,true,true,true,true,true,false,false,false,false,false,false,false,false,false,false,false,false,false,false,false,false,false,false,false,false,false,false,false,false] rfl rfl (bp a1.out (by kernel_rfl)) (fun _ _ _ h=>h) (Or.inr ⟨by rfl,rfl⟩) ?_ ?_
        rotate_left
        ·simp only [Act.put,List.setIfInBounds_toArray,List.set_cons_zero,List.set_cons_succ,aM,b8]
         rfl
        refine cq (i:=13) (N:=some 114) (v:=undef) (a':=?_) #[true,true,true,true,true,true,true,true,true,true,true,true,true,true,false,false,false,false,false,false,false,false,false,false,false,false,false,false,false,false,false,false,false,false,false,false,false] rfl rfl (bp a1.out (by kernel_rfl)) (fun _ _ _ h=>h) (Or.inr ⟨by rfl,rfl⟩) ?_ ?_
        rotate_left
        ·simp only [Act.put,List.setIfInBounds_toArray,List.set_cons_zero,List.set_cons_succ,aM,b8]
         rfl
        refine cq (i:=14) (N:=some 115) (v:=undef) (a':=?_) #[true,true,true,true,true,true,true,true,true,true,true,true,true,true,true,false,false,false,false,false,false,false,false,false,false,false,false,false,false,false,false,false,false,false,false,false,false] rfl rfl (bp a1.out (by kernel_rfl)) (fun _ _ _ h=>h) (Or.inr ⟨by rfl,rfl⟩) ?_ ?_
        rotate_left
        ·simp only [Act.put,List.setIfInBounds_toArray,List.set_cons_zero,List.set_cons_succ,aM,b8]
         rfl
        refine cq (i:=15) (N:=some 116) (v:=undef) (a':=?_) #[true,true,true,true,true,true,true,true,true,true,true,true,true,true,true,true,false,false,false,false,false,false,false,false,false,false,false,false,false,false,false,false,false,false,false,false,false] rfl rfl (bp a1.out (by kernel_rfl)) (fun _ _ _ h=>h) (Or.inr ⟨by rfl,rfl⟩) ?_ ?_
        rotate_left
        ·simp only [Act.put,List.setIfInBounds_toArray,List.set_cons_zero,List.set_cons_succ,aM,b8]
         rfl
        refine cq (i:=16) (N:=some 117) (v:=undef) (a':=?_) #[true,true,true,true,true,true,true,true,true,true,true,true,true,true,true,true,true,false,false,false,false,false,false,false,false,false,false,false,false,false,false,false,false,false,false,false,false] rfl rfl (bp a1.out (by kernel_rfl)) (fun _ _ _ h=>h) (Or.inr ⟨by rfl,rfl⟩) ?_ ?_
        rotate_left
        ·simp only [Act.put,List.setIfInBounds_toArray,List.set_cons_zero,List.set_cons_succ,aM,b8]
         rfl
        refine cq (i:=17) (N:=some 118) (v:=undef) (a':=?_) #[true,true,true,true,true,true,true,true,true,true,true,true,true,true,true,true,true,true,false,false,false,false,false,false,false,false,false,false,false,false,false,false,false,false,false,false,false] rfl rfl (bp a1.out (by kernel_rfl)) (fun _ _ _ h=>h) (Or.inr ⟨by rfl,rfl⟩) ?_ ?_
        rotate_left
        ·simp only [Act.put,List.setIfInBounds_toArray,List.set_cons_zero,List.set_cons_succ,aM,b8]
         rfl
        refine cq (i:=18) (N:=some 119) (v:=undef) (a':=?_) #[true,true,true,true,true,true,true,true,true,true,true,true,true,true,true,true,true,true,true,false,false,false,false,false,false,false,false,false,false,false,false,false,false,false,false,false,false] rfl rfl (bp a1.out (by kernel_rfl)) (fun _ _ _ h=>h) (Or.inr ⟨by rfl,rfl⟩) ?_ ?_
        rotate_left
        ·simp only [Act.put,List.setIfInBounds_toArray,List.set_cons_zero,List.set_cons_succ,aM,b8]
         rfl
        refine cq (i:=19) (N:=some 120) (v:=undef) (a':=?_) #[true,true,true,true,true,true,true,true,true,true,true,true,true,true,true,true,true,true,true,true,false,false,false,false,false,false,false,false,false,false,false,false,false,false,false,false,false] rfl rfl (bp a1.out (by kernel_rfl)) (fun _ _ _ h=>h) (Or.inr ⟨by rfl,rfl⟩) ?_ ?_
        rotate_left
        ·simp only [Act.put,List.setIfInBounds_toArray,List.set_cons_zero,List.set_cons_succ,aM,b8]
         rfl
        refine cq (i:=20) (N:=some 121) (v:=undef) (a':=?_) #[true,true,true,true,true,true,true,true,true,true,true,true,true,true,true,true,true,true,true,true,true,false,false,false,false,false,false,false,false,false,false,false,false,false,false,false,false] rfl rfl (bp a1.out (by kernel_rfl)) (fun _ _ _ h=>h) (Or.inr ⟨by rfl,rfl⟩) ?_ ?_
        rotate_left
        ·simp only [Act.put,List.setIfInBounds_toArray,List.set_cons_zero,List.set_cons_succ,aM,b8]
         rfl
        refine cq (i:=21) (N:=some 122) (v:=undef) (a':=?_) #[true,true,true,true,true,true,true,true,true,true,true,true,true,true,true,true,true,true,true,true,true,true,false,false,false,false,false,false,false,false,false,false,false,false,false,false,false] rfl rfl (bp a1.out (by kernel_rfl)) (fun _ _ _ h=>h) (Or.inr ⟨by rfl,rfl⟩) ?_ ?_
        rotate_left
        ·simp only [Act.put,List.setIfInBounds_toArray,List.set_cons_zero,List.set_cons_succ,aM,b8]
         rfl
        refine cq (i:=22) (N:=some 123) (v:=undef) (a':=?_) #[true,true,true,true,true,true,true,true,true,true,true,true,true,true,true,true,true,true,true,true,true,true,true,false,false,false,false,false,false,false,false,false,false,false,false,false,false] rfl rfl (bp a1.out (by kernel_rfl)) (fun _ _ _ h=>h) (Or.inr ⟨by rfl,rfl⟩) ?_ ?_
        rotate_left
        ·simp only [Act.put,List.setIfInBounds_toArray,List.set_cons_zero,List.set_cons_succ,aM,b8]
         rfl
        refine cq (i:=23) (N:=some 124) (v:=undef) (a':=?_) #[true,true,true,true,true,true,true,true,true,true,true,true,true,true,true,true,true,true,true,true,true,true,true,true,false,false,false,false,false,false,false,false,false,false,false,false,false] rfl rfl (bp a1.out (by kernel_rfl)) (fun _ _ _ h=>h) (Or.inr ⟨by rfl,rfl⟩) ?_ ?_
        rotate_left
        ·simp only [Act.put,List.setIfInBounds_toArray,List.set_cons_zero,List.set_cons_succ,aM,b8]
         rfl
        refine cq (i:=24) (N:=some 125) (v:=undef) (a':=?_) #[true,true,true,true,true,true,true,true,true,true,true,true,true,true,true,true,true,true,true,true,true,true,true,true,true,false,false,false,false,false,false,false,false,false,false,false,false] rfl rfl (bp a1.out (by kernel_rfl)) (fun _ _ _ h=>h) (Or.inr ⟨by rfl,rfl⟩) ?_ ?_
        rotate_left
        ·simp only [Act.put,List.setIfInBounds_toArray,List.set_cons_zero,List.set_cons_succ,aM,b8]
         rfl
        refine cq (i:=25) (N:=some 126) (v:=undef) (a':=?_) #[true,true,true,true,true,true,true,true,true,true,true,true,true,true,true,true,true,true,true,true,true,true,true,true,true,true,false,false,false,false,false,false,false,false,false,false,false] rfl rfl (bp a1.out (by kernel_rfl)) (fun _ _ _ h=>h) (Or.inr ⟨by rfl,rfl⟩) ?_ ?_
        rotate_left
        ·simp only [Act.put,List.setIfInBounds_toArray,List.set_cons_zero,List.set_cons_succ,aM,b8]
         rfl
        refine cq (i:=26) (N:=some 127) (v:=undef) (a':=?_) #[true,true,true,true,true,true,true,true,true,true,true,true,true,true,true,true,true,true,true,true,true,true,true,true,true,true,true,false,false,false,false,false,false,false,false,false,false] rfl rfl (bp a1.out (by kernel_rfl)) (fun _ _ _ h=>h) (Or.inr ⟨by rfl,rfl⟩) ?_ ?_
        rotate_left
        ·simp only [Act.put,List.setIfInBounds_toArray,List.set_cons_zero,List.set_cons_succ,aM,b8]
         rfl
        refine cq (i:=27) (N:=some 128) (v:=undef) (a':=?_) #[true,true,true,true,true,true,true,true,true,true,true,true,true,true,true,true,true,true,true,true,true,true,true,true,true,true,true,true,false,false,false,false,false,false,false,false,false] rfl rfl (bp a1.out (by kernel_rfl)) (fun _ _ _ h=>h) (Or.inr ⟨by rfl,rfl⟩) ?_ ?_
        rotate_left
        ·simp only [Act.put,List.setIfInBounds_toArray,List.set_cons_zero,List.set_cons_succ,aM,b8]
         rfl
        refine cq (i:=28) (N:=some 129) (v:=undef) (a':=?_) #[true,true,true,true,true,true,true,true,true,true,true,true,true,true,true,true,true,true,true,true,true,true,true,true,true,true,true,true,true,false,false,false,false,false,false,false,false] rfl rfl (bp a1.out (by kernel_rfl)) (fun _ _ _ h=>h) (Or.inr ⟨by rfl,rfl⟩) ?_ ?_
        rotate_left
        ·simp only [Act.put,List.setIfInBounds_toArray,List.set_cons_zero,List.set_cons_succ,aM,b8]
         rfl
        refine cq (i:=29) (N:=some 130) (v:=undef) (a':=?_) #[true,true,true,true,true,true,true,true,true,true,true,true,true,true,true,true,true,true,true,true,true,true,true,true,true,true,true,true,true,true,false,false,false,false,false,false,false] rfl rfl (bp a1.out (by kernel_rfl)) (fun _ _ _ h=>h) (Or.inr ⟨by rfl,rfl⟩) ?_ ?_
        rotate_left
        ·simp only [Act.put,List.setIfInBounds_toArray,List.set_cons_zero,List.set_cons_succ,aM,b8]
         rfl
        refine cq (i:=30) (N:=some 131) (v:=undef) (a':=?_) #[true,true,true,true,true,true,true,true,true,true,true,true,true,true,true,true,true,true,true,true,true,true,true,true,true,true,true,true,true,true,true,false,false,false,false,false,false] rfl rfl (bp a1.out (by kernel_rfl)) (fun _ _ _ h=>h) (Or.inr ⟨by rfl,rfl⟩) ?_ ?_
        rotate_left
        ·simp only [Act.put,List.setIfInBounds_toArray,List.set_cons_zero,List.set_cons_succ,aM,b8]
         rfl
        refine cq (i:=31) (N:=some 132) (v:=undef) (a':=?_) #[true,true,true,true,true,true,true,true,true,true,true,true,true,true,true,true,true,true,true,true,true,true,true,true,true,true,true,true,true,true,true,true,false,false,false,false,false] rfl rfl (bp a1.out (by kernel_rfl)) (fun _ _ _ h=>h) (Or.inr ⟨by rfl,rfl⟩) ?_ ?_
        rotate_left
        ·simp only [Act.put,List.setIfInBounds_toArray,List.set_cons_zero,List.set_cons_succ,aM,b8]
         rfl
        refine cq (i:=32) (N:=some 133) (v:=undef) (a':=?_) #[true,true,true,true,true,true,true,true,true,true,true,true,true,true,true,true,true,true,true,true,true,true,true,true,true,true,true,true,true,true,true,true,true,false,false,false,false] rfl rfl (bp a1.out (by kernel_rfl)) (fun _ _ _ h=>h) (Or.inr ⟨by rfl,rfl⟩) ?_ ?_
        rotate_left
        ·simp only [Act.put,List.setIfInBounds_toArray,List.set_cons_zero,List.set_cons_succ,aM,b8]
         rfl
        refine cq (i:=33) (N:=some 134) (v:=undef) (a':=?_) #[true,true,true,true,true,true,true,true,true,true,true,true,true,true,true,true,true,true,true,true,true,true,true,true,true,true,true,true,true,true,true,true,true,true,false,false,false] rfl rfl (bp a1.out (by kernel_rfl)) (fun _ _ _ h=>h) (Or.inr ⟨by rfl,rfl⟩) ?_ ?_
        rotate_left
        ·simp only [Act.put,List.setIfInBounds_toArray,List.set_cons_zero,List.set_cons_succ,aM,b8]
         rfl
        refine cq (i:=34) (N:=some 135) (v:=undef) (a':=?_) #[true,true,true,true,true,true,true,true,true,true,true,true,true,true,true,true,true,true,true,true,true,true,true,true,true,true,true,true,true,true,true,true,true,true,true,false,false] rfl rfl (bp a1.out (by kernel_rfl)) (fun _ _ _ h=>h) (Or.inr ⟨by rfl,rfl⟩) ?_ ?_
        rotate_left
        ·simp only [Act.put,List.setIfInBounds_toArray,List.set_cons_zero,List.set_cons_succ,aM,b8]
         rfl
        refine cq (i:=35) (N:=some 136) (v:=undef) (a':=?_) #[true,true,true,true,true,true,true,true,true,true,true,true,true,true,true,true,true,true,true,true,true,true,true,true,true,true,true,true,true,true,true,true,true,true,true,true,false] rfl rfl (bp a1.out (by kernel_rfl)) (fun _ _ _ h=>h) (Or.inr ⟨by rfl,rfl⟩) ?_ ?_
        rotate_left
        ·simp only [Act.put,List.setIfInBounds_toArray,List.set_cons_zero,List.set_cons_succ,aM,b8]
         rfl
        refine af.pu 36 137 a1 ?_
        refine fO (dU a1.out (by kernel_rfl)) ?_
        try go_wp2
        go_meet
        case rel=>exact ⟨_,(false),af.F,H',⟨by have:=dT.out;first | omega | exact Nat.le_refl _⟩,⟨af.Rw (Kd.aC aF.out (fun _ hk=>⟨hk.1.1,⟨hk.1.2.1,hk.1.2.2⟩⟩))⟩,⟨af.Rw (Kd.aC a0.out (fun _ hk=>⟨hk.1.1,⟨hk.1.2.1,hk.1.2.2⟩⟩))⟩,⟨af.Rw (Kd.aC y.out (fun _ hk=>⟨hk.1.1,⟨hk.1.2.1,hk.1.2.2⟩⟩))⟩,⟨af.Rw (Kd.aC j.out (fun _ hk=>⟨hk.1.1,⟨hk.1.2.1,hk.1.2.2⟩⟩))⟩,⟨af.Bw X.out⟩,⟨af.Bw Y.out⟩,⟨af.Bw z.out⟩,⟨af.L⟩⟩
      ·replace fs:=Bool.eq_false_iff.mpr fs
       subst fs
       replace H:(aq.j1 ap aO aP aB false aw aa ao a6) = some r:=by rw [if_neg (show ¬ (false = true) by decide)] at H;exact H
       have H':=ae.mk H
       clear H
       try go_wp2
       replace aF:=ae.mk (Kd.bl aF.out)
       replace a0:=ae.mk (Kd.bl a0.out)
       replace y:=ae.mk (Kd.bl y.out)
       replace j:=ae.mk (Kd.bl j.out)
       replace am:=ae.mk (Kd.bl am.out)
       replace X:=ae.mk (cO X.out)
       replace Y:=ae.mk (cO Y.out)
       replace z:=ae.mk (cO z.out)
       replace HB:=ae.mk (cn HB.out)
       obtain ⟨i2,i3,hl⟩:=Kd.aK am.out
       (first | subst hl | (injection hl with e1 eq e2;have es:=e1.symm;have et:=e2.symm;clear e1 eq e2;subst es;subst et))
       refine eM (n:=37) (S:=fun w'=>True) (ds:=[]) #[false,false,false,false,false,false,false,false,false,false,false,false,false,false,false,false,false,false,false,false,false,false,false,false,false,false,false,false,false,false,false,false,false,false,false,false,false] (by kernel_rfl) rfl rfl trivial (fun hHeld=>?_);refine dc aq.oy aq.mm (fun a1 f4=>?_)
       generalize f2.drew = yy at aF a0 y j am X Y z HB hHeld ⊢
       refine af.pu 0 101 a1 ?_
       refine af.pu 1 102 a1 ?_
       refine fN (i:=2) (N:=some 103) #[true,true,true,false,false,false,false,false,false,false,false,false,false,false,false,false,false,false,false,false,false,false,false,false,false,false,false,false,false,false,false,false,false,false,false,false,false] rfl rfl (da a1.out (by kernel_rfl)) (by decide) (fun K hK=>?_)
       refine fC Tryz.func44 (by kernel_rfl) rfl #[.slice i2 b0.length i3,.int .i64 b2] (by rfl) rfl rfl (by (try simp only [List.map_toArray,List.map_cons,List.map_nil]);first | done | rfl) ?_
       with_reducible refine (aI.calls ap _ _ b0 b2 false _ ?side1 ?side2 f3.out).mono ?_
       (case side1=>exact af.Cw ((Kd.ah am.out).2.2))
       (case side2=>exact (Kd.ah am.out).2.1)
       rintro e w' ⟨rfl,⟨nd,rfl⟩⟩
       refine ⟨_,rfl,?_⟩
       refine hK.out _ _ trivial (fun hHeld=>?_)
       clear hK K
       refine er (a':=?_) ?_ ?_
       rotate_left
       ·show Act.put _ (some 103) _ = _
        simp only [Act.put,List.setIfInBounds_toArray,List.set_cons_zero,List.set_cons_succ,aM,b8]
        rfl
       refine af.pu 3 104 a1 ?_
       refine cq (i:=4) (N:=some 105) (v:=undef) (a':=?_) #[true,true,true,true,true,false,false,false,false,false,false,false,false,false,false,false,false,false,false,false,false,false,false,false,false,false,false,false,false,false,false,false,false,false,false,false,false] rfl rfl (bp a1.out (by kernel_rfl)) (fun _ _ _ h=>h) (Or.inr ⟨by rfl,rfl⟩) ?_ ?_
       rotate_left
       ·simp only [Act.put,List.setIfInBounds_toArray,List.set_cons_zero,List.set_cons_succ,aM,b8]
        rfl
       refine cq (i:=5) (N:=some 106) (v:=undef) (a':=?_) #[true,true,true,true,true,true,false,false,false,false,false,false,false,false,false,false,false,false,false,false,false,false,false,false,false,false,false,false,false,false,false,false,false,false,false,false,false] rfl rfl (bp a1.out (by kernel_rfl)) (fun _ _ _ h=>h) (Or.inr ⟨by rfl,rfl⟩) ?_ ?_
       rotate_left
       ·simp only [Act.put,List.setIfInBounds_toArray,List.set_cons_zero,List.set_cons_succ,aM,b8]
        rfl
       refine cq (i:=6) (N:=some 107) (v:=undef) (a':=?_) #[true,true,true,true,true,true,true,false,false,false,false,false,false,false,false,false,false,false,false,false,false,false,false,false,false,false,false,false,false,false,false,false,false,false,false,false,false] rfl rfl (bp a1.out (by kernel_rfl)) (fun _ _ _ h=>h) (Or.inr ⟨by rfl,rfl⟩) ?_ ?_
       rotate_left
       ·simp only [Act.put,List.setIfInBounds_toArray,List.set_cons_zero,List.set_cons_succ,aM,b8]
        rfl
       refine af.pu 7 108 a1 ?_
       refine af.pu 8 109 a1 ?_
       refine cq (i:=9) (N:=some 110) (v:=undef) (a':=?_) #[true,true,true,true,true,true,true,true,true,true,false,false,false,false,false,false,false,false,false,false,false,false,false,false,false,false,false,false,false,false,false,false,false,false,false,false,false] rfl rfl (bp a1.out (by kernel_rfl)) (fun _ _ _ h=>h) (Or.inr ⟨by rfl,rfl⟩) ?_ ?_
       rotate_left
       ·simp only [Act.put,List.setIfInBounds_toArray,List.set_cons_zero,List.set_cons_succ,aM,b8]
        rfl
       refine cq (i:=10) (N:=some 111) (v:=undef) (a':=?_) #[true,true,true,true,true,true,true,true,true,true,true,false,false,false,false,false,false,false,false,false,false,false,false,false,false,false,false,false,false,false,false,false,false,false,false,false,false] rfl rfl (bp a1.out (by kernel_rfl)) (fun _ _ _ h=>h) (Or.inr ⟨by rfl,rfl⟩) ?_ ?_
       rotate_left
       ·simp only [Act.put,List.setIfInBounds_toArray,List.set_cons_zero,List.set_cons_succ,aM,b8]
        rfl
       refine cq (i:=11) (N:=some 112) (v:=undef) (a':=?_) #[true,true,true,true,true,true,true,true,true,true,true,true,false,false,false,false,false,false,false,false,false,false,false,false,false,false,false,false,false,false,false,false,false,false,false,false,false] rfl rfl (bp a1.out (by kernel_rfl)) (fun _ _ _ h=>h) (Or.inr ⟨by rfl,rfl⟩) ?_ ?_
       rotate_left
       ·simp only [Act.put,List.setIfInBounds_toArray,List.set_cons_zero,List.set_cons_succ,aM,b8]
        rfl
       refine cq (i:=12) (N:=some 113) (v:=undef) (a':=?_) #[true,true,true,true,true,true,true,true,true,true,true,true,true,false,false,false,false,false,false,false,false,false,false,false,false,false,false,false,false,false,false,false,false,false,false,false,false] rfl rfl (bp a1.out (by kernel_rfl)) (fun _ _ _ h=>h) (Or.inr ⟨by rfl,rfl⟩) ?_ ?_
       rotate_left
       ·simp only [Act.put,List.setIfInBounds_toArray,List.set_cons_zero,List.set_cons_succ,aM,b8]
        rfl
       refine cq (i:=13) (N:=some 114) (v:=undef) (a':=?_) #[true,true,true,true,true,true,true,true,true,true,true,true,true,true,false,false,false,false,false,false,false,false,false,false,false,false,false,false,false,false,false,false,false,false,false,false,false] rfl rfl (bp a1.out (by kernel_rfl)) (fun _ _ _ h=>h) (Or.inr ⟨by rfl,rfl⟩) ?_ ?_
       rotate_left
       ·simp only [Act.put,List.setIfInBounds_toArray,List.set_cons_zero,List.set_cons_succ,aM,b8]
        rfl
       refine cq (i:=14) (N:=some 115) (v:=undef) (a':=?_) #[true,true,true,true,true,true,true,true,true,true,true,true,true,true,true,false,false,false,false,false,false,false,false,false,false,false,false,false,false,false,false,false,false,false,false,false,false] rfl rfl (bp a1.out (by kernel_rfl)) (fun _ _ _ h=>h) (Or.inr ⟨by rfl,rfl⟩) ?_ ?_
       rotate_left
       ·simp only [Act.put,List.setIfInBounds_toArray,List.set_cons_zero,List.set_cons_succ,aM,b8]
        rfl
       refine cq (i:=15) (N:=some 116) (v:=undef) (a':=?_) #[true,true,true,true,true,true,true,true,true,true,true,true,true,true,true,true,false,false,false,false,false,false,false,false,false,false,false,false,false,false,false,false,false,false,false,false,false] rfl rfl (bp a1.out (by kernel_rfl)) (fun _ _ _ h=>h) (Or.inr ⟨by rfl,rfl⟩) ?_ ?_
       rotate_left
       ·simp only [Act.put,List.setIfInBounds_toArray,List.set_cons_zero,List.set_cons_succ,aM,b8]
        rfl
       refine cq (i:=16) (N:=some 117) (v:=undef) (a':=?_) #[true,true,true,true,true,true,true,true,true,true,true,true,true,true,true,true,true,false,false,false,false,false,false,false,false,false,false,false,false,false,false,false,false,false,false,false,false] rfl rfl (bp a1.out (by kernel_rfl)) (fun _ _ _ h=>h) (Or.inr ⟨by rfl,rfl⟩) ?_ ?_
       rotate_left
       ·simp only [Act.put,List.setIfInBounds_toArray,List.set_cons_zero,List.set_cons_succ,aM,b8]
        rfl
       refine cq (i:=17) (N:=some 118) (v:=undef) (a':=?_) #[true,true,true,true,true,true,true,true,true,true,true,true,true,true,true,true,true,true,false,false,false,false,false,false,false,false,false,false,false,false,false,false,false,false,false,false,false] rfl rfl (bp a1.out (by kernel_rfl)) (fun _ _ _ h=>h) (Or.inr ⟨by rfl,rfl⟩) ?_ ?_
       rotate_left
       ·simp only [Act.put,List.setIfInBounds_toArray,List.set_cons_zero,List.set_cons_succ,aM,b8]
        rfl
       refine cq (i:=18) (N:=some 119) (v:=undef) (a':=?_) #[true,true,true,true,true,true,true,true,true,true,true,true,true,true,true,true,true,true,true,false,false,false,false,false,false,false,false,false,false,false,false,false,false,false,false,false,false] rfl rfl (bp a1.out (by kernel_rfl)) (fun _ _ _ h=>h) (Or.inr ⟨by rfl,rfl⟩) ?_ ?_
       rotate_left
       ·simp only [Act.put,List.setIfInBounds_toArray,List.set_cons_zero,List.set_cons_succ,aM,b8]
        rfl
       refine cq (i:=19) (N:=some 120) (v:=undef) (a':=?_) #[true,true,true,true,true,true,true,true,true,true,true,true,true,true,true,true,true,true,true,true,false,false,false,false,false,false,false,false,false,false,false,false,false,false,false,false,false] rfl rfl (bp a1.out (by kernel_rfl)) (fun _ _ _ h=>h) (Or.inr ⟨by rfl,rfl⟩) ?_ ?_
       rotate_left
       ·simp only [Act.put,List.setIfInBounds_toArray,List.set_cons_zero,List.set_cons_succ,aM,b8]
        rfl
       refine cq (i:=20) (N:=some 121) (v:=undef) (a':=?_) #[true,true,true,true,true,true,true,true,true,true,true,true,true,true,true,true,true,true,true,true,true,false,false,false,false,false,false,false,false,false,false,false,false,false,false,false,false] rfl rfl (bp a1.out (by kernel_rfl)) (fun _ _ _ h=>h) (Or.inr ⟨by rfl,rfl⟩) ?_ ?_
       rotate_left
       ·simp only [Act.put,List.setIfInBounds_toArray,List.set_cons_zero,List.set_cons_succ,aM,b8]
        rfl
       refine cq (i:=21) (N:=some 122) (v:=undef) (a':=?_) #[true,true,true,true,true,true,true,true,true,true,true,true,true,true,true,true,true,true,true,true,true,true,false,false,false,false,false,false,false,false,false,false,false,false,false,false,false] rfl rfl (bp a1.out (by kernel_rfl)) (fun _ _ _ h=>h) (Or.inr ⟨by rfl,rfl⟩) ?_ ?_
       rotate_left
       ·simp only [Act.put,List.setIfInBounds_toArray,List.set_cons_zero,List.set_cons_succ,aM,b8]
        rfl
       refine cq (i:=22) (N:=some 123) (v:=undef) (a':=?_) #[true,true,true,true,true,true,true,true,true,true,true,true,true,true,true,true,true,true,true,true,true,true,true,false,false,false,false,false,false,false,false,false,false,false,false,false,false] rfl rfl (bp a1.out (by kernel_rfl)) (fun _ _ _ h=>h) (Or.inr ⟨by rfl,rfl⟩) ?_ ?_
       rotate_left
       ·simp only [Act.put,List.setIfInBounds_toArray,List.set_cons_zero,List.set_cons_succ,aM,b8]
        rfl
       refine cq (i:=23) (N:=some 124) (v:=undef) (a':=?_) #[true,true,true,true,true,true,true,true,true,true,true,true,true,true,true,true,true,true,true,true,true,true,true,true,false,false,false,false,false,false,false,false,false,false,false,false,false] rfl rfl (bp a1.out (by kernel_rfl)) (fun _ _ _ h=>h) (Or.inr ⟨by rfl,rfl⟩) ?_ ?_
       rotate_left
       ·simp only [Act.put,List.setIfInBounds_toArray,List.set_cons_zero,List.set_cons_succ,aM,b8]
        rfl
       refine cq (i:=24) (N:=some 125) (v:=undef) (a':=?_) #[true,true,true,true,true,true,true,true,true,true,true,true,true,true,true,true,true,true,true,true,true,true,true,true,true,false,false,false,false,false,false,false,false,false,false,false,false] rfl rfl (bp a1.out (by kernel_rfl)) (fun _ _ _ h=>h) (Or.inr ⟨by rfl,rfl⟩) ?_ ?_
       rotate_left
       ·simp only [Act.put,List.setIfInBounds_toArray,List.set_cons_zero,List.set_cons_succ,aM,b8]
        rfl
       refine cq (i:=25) (N:=some 126) (v:=undef) (a':=?_) #[true,true,true,true,true,true,true,true,true,true,true,true,true,true,true,true,true,true,true,true,true,true,true,true,true,true,false,false,false,false,false,false,false,false,false,false,false] rfl rfl (bp a1.out (by kernel_rfl)) (fun _ _ _ h=>h) (Or.inr ⟨by rfl,rfl⟩) ?_ ?_
       rotate_left
       ·simp only [Act.put,List.setIfInBounds_toArray,List.set_cons_zero,List.set_cons_succ,aM,b8]
        rfl
       refine cq (i:=26) (N:=some 127) (v:=undef) (a':=?_) #[true,true,true,true,true,true,true,true,true,true,true,true,true,true,true,true,true,true,true,true,true,true,true,true,true,true,true,false,false,false,false,false,false,false,false,false,false] rfl rfl (bp a1.out (by kernel_rfl)) (fun _ _ _ h=>h) (Or.inr ⟨by rfl,rfl⟩) ?_ ?_
       rotate_left
       ·simp only [Act.put,List.setIfInBounds_toArray,List.set_cons_zero,List.set_cons_succ,aM,b8]
        rfl
       refine cq (i:=27) (N:=some 128) (v:=undef) (a':=?_) #[true,true,true,true,true,true,true,true,true,true,true,true,true,true,true,true,true,true,true,true,true,true,true,true,true,true,true,true,false,false,false,false,false,false,false,false,false] rfl rfl (bp a1.out (by kernel_rfl)) (fun _ _ _ h=>h) (Or.inr ⟨by rfl,rfl⟩) ?_ ?_
       rotate_left
       ·simp only [Act.put,List.setIfInBounds_toArray,List.set_cons_zero,List.set_cons_succ,aM,b8]
        rfl
       refine cq (i:=28) (N:=some 129) (v:=undef) (a':=?_) #[true,true,true,true,true,true,true,true,true,true,true,true,true,true,true,true,true,true,true,true,true,true,true,true,true,true,true,true,true,false,false,false,false,false,false,false,false] rfl rfl (bp a1.out (by kernel_rfl)) (fun _ _ _ h=>h) (Or.inr ⟨by rfl,rfl⟩) ?_ ?_
       rotate_left
       ·simp only [Act.put,List.setIfInBounds_toArray,List.set_cons_zero,List.set_cons_succ,aM,b8]
        rfl
       refine cq (i:=29) (N:=some 130) (v:=undef) (a':=?_) #[true,true,true,true,true,true,true,true,true,true,true,true,true,true,true,true,true,true,true,true,true,true,true,true,true,true,true,true,true,true,false,false,false,false,false,false,false] rfl rfl (bp a1.out (by kernel_rfl)) (fun _ _ _ h=>h) (Or.inr ⟨by rfl,rfl⟩) ?_ ?_
       rotate_left
       ·simp only [Act.put,List.setIfInBounds_toArray,List.set_cons_zero,List.set_cons_succ,aM,b8]
        rfl
       refine cq (i:=30) (N:=some 131) (v:=undef) (a':=?_) #[true,true,true,true,true,true,true,true,true,true,true,true,true,true,true,true,true,true,true,true,true,true,true,true,true,true,true,true,true,true,true,false,false,false,false,false,false] rfl rfl (bp a1.out (by kernel_rfl)) (fun _ _ _ h=>h) (Or.inr ⟨by rfl,rfl⟩) ?_ ?_
       rotate_left
       ·simp only [Act.put,List.setIfInBounds_toArray,List.set_cons_zero,List.set_cons_succ,aM,b8]
        rfl
       refine cq (i:=31) (N:=some 132) (v:=undef) (a':=?_) #[true,true,true,true,true,true,true,true,true,true,true,true,true,true,true,true,true,true,true,true,true,true,true,true,true,true,true,true,true,true,true,true,false,false,false,false,false] rfl rfl (bp a1.out (by kernel_rfl)) (fun _ _ _ h=>h) (Or.inr ⟨by rfl,rfl⟩) ?_ ?_
       rotate_left
       ·simp only [Act.put,List.setIfInBounds_toArray,List.set_cons_zero,List.set_cons_succ,aM,b8]
        rfl
       refine cq (i:=32) (N:=some 133) (v:=undef) (a':=?_) #[true,true,true,true,true,true,true,true,true,true,true,true,true,true,true,true,true,true,true,true,true,true,true,true,true,true,true,true,true,true,true,true,true,false,false,false,false] rfl rfl (bp a1.out (by kernel_rfl)) (fun _ _ _ h=>h) (Or.inr ⟨by rfl,rfl⟩) ?_ ?_
       rotate_left
       ·simp only [Act.put,List.setIfInBounds_toArray,List.set_cons_zero,List.set_cons_succ,aM,b8]
        rfl
       refine cq (i:=33) (N:=some 134) (v:=undef) (a':=?_) #[true,true,true,true,true,true,true,true,true,true,true,true,true,true,true,true,true,true,true,true,true,true,true,true,true,true,true,true,true,true,true,true,true,true,false,false,false] rfl rfl (bp a1.out (by kernel_rfl)) (fun _ _ _ h=>h) (Or.inr ⟨by rfl,rfl⟩) ?_ ?_
       rotate_left
       ·simp only [Act.put,List.setIfInBounds_toArray,List.set_cons_zero,List.set_cons_succ,aM,b8]
        rfl
       refine cq (i:=34) (N:=some 135) (v:=undef) (a':=?_) #[true,true,true,true,true,true,true,true,true,true,true,true,true,true,true,true,true,true,true,true,true,true,true,true,true,true,true,true,true,true,true,true,true,true,true,false,false] rfl rfl (bp a1.out (by kernel_rfl)) (fun _ _ _ h=>h) (Or.inr ⟨by rfl,rfl⟩) ?_ ?_
       rotate_left
       ·simp only [Act.put,List.setIfInBounds_toArray,List.set_cons_zero,List.set_cons_succ,aM,b8]
        rfl
       refine cq (i:=35) (N:=some 136) (v:=undef) (a':=?_) #[true,true,true,true,true,true,true,true,true,true,true,true,true,true,true,true,true,true,true,true,true,true,true,true,true,true,true,true,true,true,true,true,true,true,true,true,false] rfl rfl (bp a1.out (by kernel_rfl)) (fun _ _ _ h=>h) (Or.inr ⟨by rfl,rfl⟩) ?_ ?_
       rotate_left
       ·simp only [Act.put,List.setIfInBounds_toArray,List.set_cons_zero,List.set_cons_succ,aM,b8]
        rfl
       refine af.pu 36 137 a1 ?_
       refine fO (dU a1.out (by kernel_rfl)) ?_
       try go_wp2
       go_meet
       case rel=>exact ⟨_,(false),af.F,H',⟨by have:=dT.out;first | omega | exact Nat.le_refl _⟩,⟨af.Rw (Kd.aC aF.out (fun _ hk=>⟨hk.1.1,⟨hk.1.2.1,hk.1.2.2⟩⟩))⟩,⟨af.Rw (Kd.aC a0.out (fun _ hk=>⟨hk.1.1,⟨hk.1.2.1,hk.1.2.2⟩⟩))⟩,⟨af.Rw (Kd.aC y.out (fun _ hk=>⟨hk.1.1,⟨hk.1.2.1,hk.1.2.2⟩⟩))⟩,⟨af.Rw (Kd.aC j.out (fun _ hk=>⟨hk.1.1,⟨hk.1.2.1,hk.1.2.2⟩⟩))⟩,⟨af.Bw X.out⟩,⟨af.Bw Y.out⟩,⟨af.Bw z.out⟩,⟨af.L⟩⟩
     case rest =>
      clear f8
      obtain ⟨kq,dv,rfl,HA,ex,aF,a0,y,j,X,Y,z,HB⟩:=hcut
      cases kq with
      | zero=>exact absurd HA.out (by simp [aq.j1])
      | succ d1 =>
       have H:=HA.out
       clear HA
       simp only [aq.j1] at H
       by_cases g2:dv = true
       ·subst g2
        replace H:(some false) = some r:=by rw [if_pos rfl] at H;exact H
        obtain rfl:=Option.some.inj H
        exact absurd hT.out (by decide)
       ·replace g2:=Bool.eq_false_iff.mpr g2
        subst g2
        replace H:((cL.f d1 aw aa).bind fun e5=>((aI.f d1 e5 aO).bind fun hm=>(if hm = true then ((bK.f d1 aw aa aO).bind fun ed=>((dD.f d1 (-1) ed).bind fun ee=>(aq.j2 d1 aB (decide ((wrap64 (aP * ee))≤0)) ao a6))) else (aq.j2 d1 aB false ao a6)))) = some r:=by rw [if_neg (show ¬ (false = true) by decide)] at H;exact H
        have fi:=ae.mk H
        clear H
        go_upto_region 17 with (fail)
        go_cut [150] (fun tt wc=>∃ (kq:Nat) (dC:Bool),tt = .bool dC∧ae (aq.j2 kq aB dC ao a6 = some r)∧ae (kq≤d1)∧ae (Kd.R (Kd.int .i64) 3 wc w.heap.size (fun k_=>some k_≠((.slice ba aa.length b4):Value).ownBlock∧some k_≠((.slice bo a6.length bm):Value).ownBlock∧some k_≠((.slice bc a7.length b5):Value).ownBlock) d3 aB)∧ae (Kd.R (Kd.int .i64) 3 wc w.heap.size (fun k_=>some k_≠(d3:Value).ownBlock∧some k_≠((.slice bo a6.length bm):Value).ownBlock∧some k_≠((.slice bc a7.length b5):Value).ownBlock) (.slice ba aa.length b4) aa)∧ae (Kd.R (Kd.int .i64) 3 wc w.heap.size (fun k_=>some k_≠(d3:Value).ownBlock∧some k_≠((.slice ba aa.length b4):Value).ownBlock∧some k_≠((.slice bc a7.length b5):Value).ownBlock) (.slice bo a6.length bm) a6)∧ae (Kd.R (Kd.int .i64) 3 wc w.heap.size (fun k_=>some k_≠(d3:Value).ownBlock∧some k_≠((.slice ba aa.length b4):Value).ownBlock∧some k_≠((.slice bo a6.length bm):Value).ownBlock) (.slice bc a7.length b5) a7)∧ae (wc.heap[d5]? = some (.cells #[.int .i64 aw,(.slice ba aa.length b4)] 30 (0,0)))∧ae (wc.heap[d2]? = some (.cells #[.int .i64 ao,(.slice bo a6.length bm)] 30 (0,0)))∧ae (wc.heap[ca]? = some (.cells #[.int .i64 ar,(.slice bc a7.length b5)] 30 (0,0)))∧ae (Below w.heap.size w wc))
        case first =>
         have H:=fi.out
         clear fi
         obtain ⟨e5,hE,H⟩:=af.be H
         (try dsimp only at H)
         obtain ⟨hm,hG,H⟩:=af.be H
         (try dsimp only at H)
         by_cases g3:hm = true
         ·subst g3
          replace H:((bK.f d1 aw aa aO).bind fun ed=>((dD.f d1 (-1) ed).bind fun ee=>(aq.j2 d1 aB (decide ((wrap64 (aP * ee))≤0)) ao a6))) = some r:=by rw [if_pos rfl] at H;exact H
          obtain ⟨ed,ty,H⟩:=af.be H
          (try dsimp only at H)
          obtain ⟨ee,tz,H⟩:=af.be H
          (try dsimp only at H)
          have H':=ae.mk H
          clear H
          have ve:=bv.out
          have vf:=c1.out
          have vg:=cb.out
          have vh:=cc.out
          obtain ⟨ll,lm,ln,lo⟩:=af.bw X.out
          go_wp2_with (first | ((with_reducible refine aA (f:=43) rfl ?_);refine af.gl (some 139) Tryz.func43 #[.agg #[.int .i64 aw,.slice ba aa.length b4]] ?_;(with_reducible refine (cL.calls d1 aw _ _ aa e5 _ ?side1 ?side2 hE.out).mono ?_);(case side1=>exact af.Cw ((Kd.ah a0.out).2.2));(case side2=>exact (Kd.ah a0.out).2.1);rintro e yz ⟨u1,rfl,a8,hb⟩;refine ⟨_,rfl,?_⟩;have dd:=ae.mk (Kd.aV (Kd.br (Kd.br (Kd.br (Kd.br a8 (Kd.cK (af.Rw aF.out))) (Kd.cK (af.Rw a0.out))) (Kd.cK (af.Rw y.out))) (Kd.cK (af.Rw j.out))) (av af.L));replace aF:=ae.mk (Kd.aQ (af.Rw aF.out) (Kd.bn a8) hb);replace a0:=ae.mk (Kd.aQ (af.Rw a0.out) (Kd.bn a8) hb);replace y:=ae.mk (Kd.aQ (af.Rw y.out) (Kd.bn a8) hb);replace j:=ae.mk (Kd.aQ (af.Rw j.out) (Kd.bn a8) hb);replace X:=af.bb X hb;replace Y:=af.bb Y hb;replace z:=af.bb z hb;replace HB:=ae.mk (ax af.L hb);(try clear hb);(try clear cp);(try clear hk);(try clear hi);(try clear a8);obtain ⟨i4,i5,i6⟩:=Kd.aK dd.out;subst i6) | ((with_reducible refine aA (f:=44) rfl ?_);refine af.gl (some 141) Tryz.func44 #[.slice i4 e5.length i5,.int .i64 aO] ?_;(with_reducible refine (aI.calls d1 _ _ e5 aO true _ ?side1 ?side2 hG.out).mono ?_);(case side1=>exact af.Cw ((Kd.ah dd.out).2.2));(case side2=>exact (Kd.ah dd.out).2.1);rintro e w' ⟨rfl,⟨nd,rfl⟩⟩;refine ⟨_,rfl,?_⟩;obtain ⟨lr,ls,lv,lw⟩:=af.bw X.out) | (go_at_call 45;(with_reducible refine (bK.calls d1 aw _ _ aa aO ed _ ?side1 ?side2 ty.out).mono ?_);(case side1=>exact af.Cw ((Kd.ah a0.out).2.2));(case side2=>exact (Kd.ah a0.out).2.1);rintro e yA ⟨rfl,hb⟩;replace aF:=af.rb aF hb;replace a0:=af.rb a0 hb;replace y:=af.rb y hb;replace j:=af.rb j hb;replace dd:=af.rb dd hb;replace X:=af.bb X hb;replace Y:=af.bb Y hb;replace z:=af.bb z hb;replace HB:=ae.mk (ax af.L hb);(try clear hb);(try clear cp);(try clear hk);(try clear hi)) | (go_at_call 46;(with_reducible refine (dD.calls d1 (-1) ed ee _ tz.out).mono ?_);rintro e w' ⟨rfl,⟨nd,rfl⟩⟩))
          go_meet
          case rel=>exact ⟨_,(decide ((wrap64 (aP * ee))≤0)),af.F,H',⟨by have:=dT.out;have:=ex.out;first | omega | exact Nat.le_refl _⟩,⟨af.Rw (Kd.aC aF.out (fun _ hk=>⟨hk.1.1,⟨hk.1.2.1,hk.1.2.2⟩⟩))⟩,⟨af.Rw (Kd.aC a0.out (fun _ hk=>⟨hk.1.1,⟨hk.1.2.1,hk.1.2.2⟩⟩))⟩,⟨af.Rw (Kd.aC y.out (fun _ hk=>⟨hk.1.1,⟨hk.1.2.1,hk.1.2.2⟩⟩))⟩,⟨af.Rw (Kd.aC j.out (fun _ hk=>⟨hk.1.1,⟨hk.1.2.1,hk.1.2.2⟩⟩))⟩,⟨af.Bw X.out⟩,⟨af.Bw Y.out⟩,⟨af.Bw z.out⟩,⟨af.L⟩⟩
         ·replace g3:=Bool.eq_false_iff.mpr g3
          subst g3
          replace H:(aq.j2 d1 aB false ao a6) = some r:=by rw [if_neg (show ¬ (false = true) by decide)] at H;exact H
          have H':=ae.mk H
          clear H
          have vi:=bv.out
          have vj:=c1.out
          have w0:=cb.out
          have w2:=cc.out
          obtain ⟨lx,ly,lL,lN⟩:=af.bw X.out
          go_wp2_with (first | ((with_reducible refine aA (f:=43) rfl ?_);refine af.gl (some 139) Tryz.func43 #[.agg #[.int .i64 aw,.slice ba aa.length b4]] ?_;(with_reducible refine (cL.calls d1 aw _ _ aa e5 _ ?side1 ?side2 hE.out).mono ?_);(case side1=>exact af.Cw ((Kd.ah a0.out).2.2));(case side2=>exact (Kd.ah a0.out).2.1);rintro e yB ⟨u1,rfl,a8,hb⟩;refine ⟨_,rfl,?_⟩;have dd:=ae.mk (Kd.aV (Kd.br (Kd.br (Kd.br (Kd.br a8 (Kd.cK (af.Rw aF.out))) (Kd.cK (af.Rw a0.out))) (Kd.cK (af.Rw y.out))) (Kd.cK (af.Rw j.out))) (av af.L));replace aF:=ae.mk (Kd.aQ (af.Rw aF.out) (Kd.bn a8) hb);replace a0:=ae.mk (Kd.aQ (af.Rw a0.out) (Kd.bn a8) hb);replace y:=ae.mk (Kd.aQ (af.Rw y.out) (Kd.bn a8) hb);replace j:=ae.mk (Kd.aQ (af.Rw j.out) (Kd.bn a8) hb);replace X:=af.bb X hb;replace Y:=af.bb Y hb;replace z:=af.bb z hb;replace HB:=ae.mk (ax af.L hb);(try clear hb);(try clear cp);(try clear hk);(try clear hi);(try clear a8);obtain ⟨i7,i8,i9⟩:=Kd.aK dd.out;subst i9) | ((with_reducible refine aA (f:=44) rfl ?_);refine af.gl (some 141) Tryz.func44 #[.slice i7 e5.length i8,.int .i64 aO] ?_;(with_reducible refine (aI.calls d1 _ _ e5 aO false _ ?side1 ?side2 hG.out).mono ?_);(case side1=>exact af.Cw ((Kd.ah dd.out).2.2));(case side2=>exact (Kd.ah dd.out).2.1);rintro e w' ⟨rfl,⟨nd,rfl⟩⟩;refine ⟨_,rfl,?_⟩))
          go_meet
          case rel=>exact ⟨_,(false),af.F,H',⟨by have:=dT.out;have:=ex.out;first | omega | exact Nat.le_refl _⟩,⟨af.Rw (Kd.aC aF.out (fun _ hk=>⟨hk.1.1,⟨hk.1.2.1,hk.1.2.2⟩⟩))⟩,⟨af.Rw (Kd.aC a0.out (fun _ hk=>⟨hk.1.1,⟨hk.1.2.1,hk.1.2.2⟩⟩))⟩,⟨af.Rw (Kd.aC y.out (fun _ hk=>⟨hk.1.1,⟨hk.1.2.1,hk.1.2.2⟩⟩))⟩,⟨af.Rw (Kd.aC j.out (fun _ hk=>⟨hk.1.1,⟨hk.1.2.1,hk.1.2.2⟩⟩))⟩,⟨af.Bw X.out⟩,⟨af.Bw Y.out⟩,⟨af.Bw z.out⟩,⟨af.L⟩⟩
        case rest =>
         clear fi
         obtain ⟨kq,dC,rfl,HA,hn,aF,a0,y,j,X,Y,z,HB⟩:=hcut
         cases kq with
         | zero=>exact absurd HA.out (by simp [aq.j2])
         | succ d4 =>
          have H:=HA.out
          clear HA
          simp only [aq.j2] at H
          by_cases g4:dC = true
          ·subst g4
           replace H:(some false) = some r:=by rw [if_pos rfl] at H;exact H
           obtain rfl:=Option.some.inj H
           exact absurd hT.out (by decide)
          ·replace g4:=Bool.eq_false_iff.mpr g4
           subst g4
           replace H:((bI.f d4 ao a6).bind fun ho=>(if ho = true then ((cm.f d4 ao a6).bind fun e6=>((bZ.f d4 ao a6).bind fun e3=>(aq.l0 d4 aB e6 e3 0))) else (some ((aB.length:Int) == 0)))) = some r:=by rw [if_neg (show ¬ (false = true) by decide)] at H;exact H
           obtain ⟨ho,hH,H⟩:=af.be H
           (try dsimp only at H)
           by_cases g5:ho = true
           ·subst g5
            replace H:((cm.f d4 ao a6).bind fun e6=>((bZ.f d4 ao a6).bind fun e3=>(aq.l0 d4 aB e6 e3 0))) = some r:=by rw [if_pos rfl] at H;exact H
            obtain ⟨e6,u2,H⟩:=af.be H
            (try dsimp only at H)
            obtain ⟨e3,u3,H⟩:=af.be H
            (try dsimp only at H)
            have H':=ae.mk H
            clear H
            have w3:=c1.out
            have w4:=bv.out
            have w5:=cf.out
            have w6:=ci.out
            obtain ⟨m1,m2,m5,ma⟩:=af.bw Y.out
            go_wp2_with (first | ((with_reducible refine aA (f:=26) rfl ?_);refine af.gl (some 152) Tryz.func26 #[.agg #[.int .i64 ao,.slice bo a6.length bm]] ?_;(with_reducible refine (bI.calls d4 ao _ _ a6 true _ ?side1 ?side2 hH.out).mono ?_);(case side1=>exact af.Cw ((Kd.ah y.out).2.2));(case side2=>exact (Kd.ah y.out).2.1);rintro e yC ⟨rfl,hb⟩;refine ⟨_,rfl,?_⟩;replace aF:=af.rb aF hb;replace a0:=af.rb a0 hb;replace y:=af.rb y hb;replace j:=af.rb j hb;replace X:=af.bb X hb;replace Y:=af.bb Y hb;replace z:=af.bb z hb;replace HB:=ae.mk (ax af.L hb);(try clear hb);(try clear cp);(try clear hk);(try clear hi);obtain ⟨mf,mi,ml,mn⟩:=af.bw Y.out) | ((with_reducible refine aA (f:=47) rfl ?_);refine af.gl (some 158) Tryz.func47 #[.agg #[.int .i64 ao,.slice bo a6.length bm]] ?_;(with_reducible refine (cm.calls d4 ao _ _ a6 e6 _ ?side1 ?side2 u2.out).mono ?_);(case side1=>exact af.Cw ((Kd.ah y.out).2.2));(case side2=>exact (Kd.ah y.out).2.1);rintro e yD ⟨rfl,hb⟩;refine ⟨_,rfl,?_⟩;replace aF:=af.rb aF hb;replace a0:=af.rb a0 hb;replace y:=af.rb y hb;replace j:=af.rb j hb;replace X:=af.bb X hb;replace Y:=af.bb Y hb;replace z:=af.bb z hb;replace HB:=ae.mk (ax af.L hb);(try clear hb);(try clear cp);(try clear hk);(try clear hi);obtain ⟨mr,ms,mv,n0⟩:=af.bw Y.out) | ((with_reducible refine aA (f:=48) rfl ?_);refine af.gl (some 160) Tryz.func48 #[.agg #[.int .i64 ao,.slice bo a6.length bm]] ?_;(with_reducible refine (bZ.calls d4 ao _ _ a6 e3 _ ?side1 ?side2 u3.out).mono ?_);(case side1=>exact af.Cw ((Kd.ah y.out).2.2));(case side2=>exact (Kd.ah y.out).2.1);rintro e yE ⟨u5,rfl,a8,hb⟩;refine ⟨_,rfl,?_⟩;have ib:=ae.mk (Kd.nK (Kd.nL (Kd.nL (Kd.nL (Kd.nL a8 (Kd.cK (af.Rw aF.out))) (Kd.cK (af.Rw a0.out))) (Kd.cK (af.Rw y.out))) (Kd.cK (af.Rw j.out))) (av af.L));replace aF:=af.rb aF hb;replace a0:=af.rb a0 hb;replace y:=af.rb y hb;replace j:=af.rb j hb;replace X:=af.bb X hb;replace Y:=af.bb Y hb;replace z:=af.bb z hb;replace HB:=ae.mk (ax af.L hb);(try clear hb);(try clear cp);(try clear hk);(try clear hi);(try clear a8)))
            go_loopg [19] d4 (fun kq xD w'=>∃ (d6:Int),xD = .int .i64 d6∧ae (aq.l0 kq aB e6 e3 d6 = some r)∧ae (kq≤d4)∧ae (Kd.R (Kd.int .i64) 3 w' w.heap.size (fun k_=>some k_≠((.slice ba aa.length b4):Value).ownBlock∧some k_≠((.slice bo a6.length bm):Value).ownBlock∧some k_≠((.slice bc a7.length b5):Value).ownBlock) d3 aB)∧ae (Kd.S (Kd.slice 3 (Kd.int .i64)) 28 w' w.heap.size (fun k_=>some k_≠(d3:Value).ownBlock∧some k_≠((.slice ba aa.length b4):Value).ownBlock∧some k_≠((.slice bo a6.length bm):Value).ownBlock∧some k_≠((.slice bc a7.length b5):Value).ownBlock) u5 e3)∧ae (Kd.R (Kd.int .i64) 3 w' w.heap.size (fun k_=>some k_≠(d3:Value).ownBlock∧some k_≠((.slice bo a6.length bm):Value).ownBlock∧some k_≠((.slice bc a7.length b5):Value).ownBlock) (.slice ba aa.length b4) aa)∧ae (Kd.R (Kd.int .i64) 3 w' w.heap.size (fun k_=>some k_≠(d3:Value).ownBlock∧some k_≠((.slice ba aa.length b4):Value).ownBlock∧some k_≠((.slice bc a7.length b5):Value).ownBlock) (.slice bo a6.length bm) a6)∧ae (Kd.R (Kd.int .i64) 3 w' w.heap.size (fun k_=>some k_≠(d3:Value).ownBlock∧some k_≠((.slice ba aa.length b4):Value).ownBlock∧some k_≠((.slice bo a6.length bm):Value).ownBlock) (.slice bc a7.length b5) a7)∧ae (w'.heap[d5]? = some (.cells #[.int .i64 aw,(.slice ba aa.length b4)] 30 (0,0)))∧ae (w'.heap[d2]? = some (.cells #[.int .i64 ao,(.slice bo a6.length bm)] 30 (0,0)))∧ae (w'.heap[ca]? = some (.cells #[.int .i64 ar,(.slice bc a7.length b5)] 30 (0,0)))∧ae (Below w.heap.size w w'))
            case atStart=>exact ⟨(0),af.F,H',⟨Nat.le_refl _⟩,⟨af.Rw aF.out⟩,⟨af.Sw (Kd.jI ib.out (fun _ hk=>⟨hk.1.1.1.2,⟨hk.1.1.2,⟨hk.1.2,hk.2⟩⟩⟩))⟩,⟨af.Rw a0.out⟩,⟨af.Rw y.out⟩,⟨af.Rw j.out⟩,⟨af.Bw X.out⟩,⟨af.Bw Y.out⟩,⟨af.Bw z.out⟩,⟨af.L⟩⟩
            case round =>
             clear H'
             obtain ⟨d6,rfl,HA,u6,aF,eQ,a0,y,j,X,Y,z,HB⟩:=hrel
             cases gk with
             | zero=>exact absurd HA.out (by simp [aq.l0])
             | succ k4 =>
              have H:=HA.out
              clear HA
              simp only [aq.l0] at H
              by_cases ef:d6 < 4
              ·rw [if_pos ef] at H
               have hx:=decide_eq_true ef
               clear ef
               obtain ⟨eh,u7,H⟩:=af.be H
               (try dsimp only at H)
               obtain ⟨ei,ub,H⟩:=af.be H
               (try dsimp only at H)
               obtain ⟨ej,ui,H⟩:=af.be H
               (try dsimp only at H)
               by_cases ec:eh = (wrap64 (ei * ej))
               ·rw [if_pos ec] at H
                have hz:(eh == (wrap64 (ei * ej))) = true:=beq_iff_eq.mpr ec
                have hA:(eh != (wrap64 (ei * ej))) = false:=bne_eq_false_iff_eq.mpr ec
                clear ec
                have H':=ae.mk H
                clear H
                obtain ⟨ih,ii,il⟩:=Kd.aK aF.out
                subst il
                go_wp2_with (first | ((with_reducible refine aA (f:=38) rfl ?_);refine af.gl (some 167) Tryz.func38 #[.slice ih aB.length ii,.int .i64 d6] ?_;(with_reducible refine (bT.calls k4 _ _ aB d6 eh _ ?side1 ?side2 u7.out).mono ?_);(case side1=>exact af.Cw ((Kd.ah aF.out).2.2));(case side2=>exact (Kd.ah aF.out).2.1);rintro e w' ⟨rfl,⟨nd,rfl⟩⟩;refine ⟨_,rfl,?_⟩) | ((with_reducible refine aA (f:=46) rfl ?_);refine af.gl (some 169) Tryz.func46 #[.int .i64 (-1),.int .i64 e6] ?_;(with_reducible refine (dD.calls k4 (-1) e6 ei _ ub.out).mono ?_);rintro e w' ⟨rfl,⟨nd,rfl⟩⟩;refine ⟨_,rfl,?_⟩;obtain ⟨im,io,it⟩:=Kd.qa eQ.out;subst it) | ((with_reducible refine aA (f:=49) rfl ?_);refine af.gl (some 173) Tryz.func49 #[.slice im e3.length io,.int .i64 (wrap64 (1 - d6)),.int .i64 0] ?_;(with_reducible refine (bB.calls k4 _ _ e3 (wrap64 (1 - d6)) 0 ej _ ?side1 ?side2 ui.out).mono ?_);(case side1=>exact af.Cw ((Kd.iN eQ.out).2.2));(case side2=>exact (Kd.iN eQ.out).2.1);rintro e w' ⟨rfl,⟨nd,rfl⟩⟩;refine ⟨_,rfl,?_⟩))
                go_roundg k4
                case measure=>have:=dT.out;have:=ex.out;have:=hn.out;have:=u6.out;omega
                case rel=>exact ⟨(wrap64 (d6+1)),af.F,H',⟨by have:=dT.out;have:=ex.out;have:=hn.out;have:=u6.out;omega⟩,⟨af.Rw aF.out⟩,⟨af.Sw eQ.out⟩,⟨af.Rw a0.out⟩,⟨af.Rw y.out⟩,⟨af.Rw j.out⟩,⟨af.Bw X.out⟩,⟨af.Bw Y.out⟩,⟨af.Bw z.out⟩,⟨af.L⟩⟩
               ·rw [if_neg ec] at H
                have hz:(eh == (wrap64 (ei * ej))) = false:=beq_eq_false_iff_ne.mpr ec
                have hA:(eh != (wrap64 (ei * ej))) = true:=bne_iff_ne.mpr ec
                obtain rfl:=Option.some.inj H
                exact absurd hT.out (by decide)
              ·rw [if_neg ef] at H
               have hx:decide (d6 < 4) = false:=decide_eq_false ef
               clear ef
               obtain rfl:=Option.some.inj H
               go_wp2
               go_ret
               exact ⟨af.E,af.L⟩
           ·replace g5:=Bool.eq_false_iff.mpr g5
            subst g5
            replace H:(some ((aB.length:Int) == 0)) = some r:=by rw [if_neg (show ¬ (false = true) by decide)] at H;exact H
            obtain rfl:=Option.some.inj H
            have w7:=c1.out
            have w8:=bv.out
            have w9:=cf.out
            have wa:=ci.out
            obtain ⟨n1,n3,n6,na⟩:=af.bw Y.out
            go_wp2_with (first | ((with_reducible refine aA (f:=26) rfl ?_);refine af.gl (some 152) Tryz.func26 #[.agg #[.int .i64 ao,.slice bo a6.length bm]] ?_;(with_reducible refine (bI.calls d4 ao _ _ a6 false _ ?side1 ?side2 hH.out).mono ?_);(case side1=>exact af.Cw ((Kd.ah y.out).2.2));(case side2=>exact (Kd.ah y.out).2.1);rintro e yF ⟨rfl,hb⟩;refine ⟨_,rfl,?_⟩;replace aF:=af.rb aF hb;replace a0:=af.rb a0 hb;replace y:=af.rb y hb;replace j:=af.rb j hb;replace X:=af.bb X hb;replace Y:=af.bb Y hb;replace z:=af.bb z hb;replace HB:=ae.mk (ax af.L hb);(try clear hb);(try clear cp);(try clear hk);(try clear hi);obtain ⟨xE,xF,jp⟩:=Kd.aK aF.out;subst jp))
            go_ret
            exact ⟨af.E,af.L⟩
end Go.Proofs.YtmpodackojmojaaGreat.Pr
end
section
namespace Go.Proofs.YtmpodackojmojaaGreat.cZ
open Go.RowKit Go.Proofs.ag.aX Go.Proofs.ag.bQ
theorem jo {i:Int} (h0:-9223372036854775808≤i) (h1:i≤9223372036854775807):wrap64 i = i:=by
 unfold wrap64
 omega
theorem dH (i:Nat) (h1:i < 9223372036854775807):wrap64 ((i:Int)+1) = ((i+1:Nat):Int):=by
 unfold wrap64
 omega
theorem eD (xs:List Int) (i:Nat):rd xs (i:Int) = xs.getD i 0:=rfl
theorem rU {α β:Type} (xs:List α) (d:α) (g:α→β):(List.range xs.length).map (fun i=>g (xs.getD i d)) = xs.map g:=by
 apply List.ext_getElem?
 intro j
 by_cases hj:j < xs.length
 ·simp [hj,List.getD]
 ·simp [hj]
theorem n9 {α:Type} (xs:List α) (d:α):(List.range xs.length).map (fun i=>xs.getD i d) = xs:=by
 have:=rU xs d id
 simpa using this
theorem oz (L:Nat→Int→Option Bool) (n:Nat) (p:Nat→Bool) (K:Nat) (last:Bool)
  (hstep:∀ k i,K≤k→i < n→L (k+1) (i:Int) = if p i = true then L k ((i+1:Nat):Int) else some false)
  (hend:∀ k,K≤k→L (k+1) (n:Int) = some last) :
  ∀ (d i k:Nat),i+d = n→K+d < k→L k (i:Int) = some ((List.range' i d).all p && last):=by
 intro d
 induction d with
 | zero =>
  intro i k hi hk
  obtain rfl:i = n:=by omega
  obtain ⟨k,rfl⟩:∃ m,k = m+1:=⟨k - 1,by omega⟩
  simp [hend k (by omega)]
 | succ d ih =>
  intro i k hi hk
  obtain ⟨k,rfl⟩:∃ m,k = m+1:=⟨k - 1,by omega⟩
  rw [hstep k i (by omega) (by omega),List.range'_succ]
  by_cases h:p i = true
  ·rw [if_pos h,ih (i+1) k (by omega) (by omega)]
   simp [h]
  ·rw [if_neg h]
   simp [h]
theorem fc {σ γ:Type} (L:Nat→σ→Int→Option γ) (n:Nat) (step:Nat→σ→σ) (P:Nat→σ→Prop) (r:γ)
  (y:∀ i s,i < n→P i s→P (i+1) (step i s)∧(Ev (fun k=>L k (step i s) ((i+1:Nat):Int)) r→Ev (fun k=>L k s (i:Int)) r)) :
  ∀ (d i:Nat) (s:σ),i+d = n→P i s→(P n ((List.range' i d).foldl (fun s j=>step j s) s)→Ev (fun k=>L k ((List.range' i d).foldl (fun s j=>step j s) s) (n:Int)) r)→Ev (fun k=>L k s (i:Int)) r:=by
 intro d
 induction d with
 | zero =>
  intro i s hi hP h
  obtain rfl:i = n:=by omega
  exact h (by simpa using hP)
 | succ d ih =>
  intro i s hi hP h
  obtain ⟨h1,h2⟩:=y i s (by omega) hP
  refine h2 (ih (i+1) (step i s) (by omega) h1 ?_)
  rw [List.range'_succ] at h
  exact h
theorem eG {γ:Type} {g:Nat→Option γ} {r:γ} (K:Nat) (h:∀ k,K≤k→g k = some r):Ev g r:=⟨K,h⟩
theorem foldl_append (p:Nat→Bool) (l:List Nat) (acc:List Int):l.foldl (fun s j=>if p j = true then s ++ [(j:Int)] else s) acc = acc ++ (l.filter p).map (fun j:Nat=>(j:Int)):=by
 induction l generalizing acc with
 | nil=>simp
 | cons a l ih =>
  rw [List.foldl_cons,ih]
  by_cases h:p a = true
  ·simp [h]
  ·simp [h]
end Go.Proofs.YtmpodackojmojaaGreat.cZ
end
section
namespace Go.Proofs.YtmpodackojmojaaGreat.Sets
open Go.RowKit Go.Proofs.ag.aX Go.Proofs.ag.bQ
theorem hY {γ:Type} (L:Nat→Int→Option γ) (n:Nat) (p:Nat→Bool) (S:γ→Prop)
  (hyes:∀ i,i < n→p i = true→∃ r,S r∧Ev (fun k=>L k (i:Int)) r)
  (hno:∀ i,i < n→p i = false→∀ r,Ev (fun k=>L k ((i+1:Nat):Int)) r→Ev (fun k=>L k (i:Int)) r) :
  ∀ d i:Nat,i+d = n→((List.range' i d).any p = true→∃ r,S r∧Ev (fun k=>L k (i:Int)) r)∧((List.range' i d).any p = false→∀ r,Ev (fun k=>L k (n:Int)) r→Ev (fun k=>L k (i:Int)) r):=by
 intro d
 induction d with
 | zero =>
  intro i hi
  obtain rfl:i = n:=by omega
  exact ⟨fun h=>by simp at h,fun _ r h=>h⟩
 | succ d ih =>
  intro i hi
  obtain ⟨h1,h2⟩:=ih (i+1) (by omega)
  rw [List.range'_succ,List.any_cons]
  cases hp:p i with
  | true=>exact ⟨fun _=>hyes i (by omega) hp,fun h=>by simp at h⟩
  | false =>
   refine ⟨fun h=>?_,fun h r hr=>hno i (by omega) hp r (h2 (by simpa using h) r hr)⟩
   obtain ⟨r,hr,hE⟩:=h1 (by simpa using h)
   exact ⟨r,hr,hno i (by omega) hp r hE⟩
theorem k7 (n:Int) (h0:0≤n) (h1:n < 2 ^ 62):IntKind.i64.wrap n = n:=by
 rw [IntKind.wrap_i64]
 omega
theorem k8 (a b:Nat) (ha:a < 2 ^ 62) (hb:b < 2 ^ 62):Go.bits .and .i64 (a:Int) (b:Int) = ((a &&& b:Nat):Int):=(bits_nat .i64 62 (by decide) k7 a b ha hb).1
theorem kG (a b:Nat) (ha:a < 2 ^ 62) (hb:b < 2 ^ 62):Go.bits .or .i64 (a:Int) (b:Int) = ((a ||| b:Nat):Int):=(bits_nat .i64 62 (by decide) k7 a b ha hb).2
def diff (a b:Nat):Nat:=a ^^^ (a &&& b)
theorem dz (a b i:Nat):(diff a b).testBit i = (a.testBit i && !b.testBit i):=by
 unfold diff
 rw [Nat.testBit_xor,Nat.testBit_and]
 cases a.testBit i <;> cases b.testBit i <;> rfl
theorem fG {a b:Nat} {n:Nat} (ha:a < 2 ^ n):diff a b < 2 ^ n:=by
 apply Nat.lt_pow_two_of_testBit
 intro i hi
 rw [dz,Nat.testBit_lt_two_pow (Nat.lt_of_lt_of_le ha (Nat.pow_le_pow_right (by decide) hi))]
 rfl
theorem gM (a b:Nat) (ha:a < 2 ^ 62):Go.bits .andNot .i64 (a:Int) (b:Int) = ((diff a b:Nat):Int):=by
 have j:(2:Nat) ^ 62≤2 ^ 64:=by decide
 have key:(BitVec.ofNat 64 a &&& ~~~(BitVec.ofNat 64 b)).toNat = diff a b:=by
  apply Nat.eq_of_testBit_eq
  intro i
  rw [dz,BitVec.testBit_toNat,BitVec.getLsbD_and,BitVec.getLsbD_not,BitVec.getLsbD_ofNat,BitVec.getLsbD_ofNat]
  by_cases hi:i < 64
  ·simp [hi]
  ·have:a.testBit i = false:=Nat.testBit_lt_two_pow (Nat.lt_of_lt_of_le ha (Nat.pow_le_pow_right (by decide) (by omega)))
   simp [hi,this]
 show IntKind.i64.wrap ((BitVec.ofInt 64 (a:Int) &&& ~~~(BitVec.ofInt 64 (b:Int))).toNat:Int) = _
 have y:BitVec.ofInt 64 (a:Int) = BitVec.ofNat 64 a:=by simp
 have z:BitVec.ofInt 64 (b:Int) = BitVec.ofNat 64 b:=by simp
 rw [y,z,key]
 have:=fG (b:=b) ha
 exact k7 _ (by omega) (by exact_mod_cast this)
theorem ig (e:Nat) (he:e < 62):shl .i64 1 (e:Int) = ((2 ^ e:Nat):Int):=by
 unfold shl
 have h1:min ((e:Int)).toNat IntKind.i64.bits = e:=by
  show min e 64 = e
  omega
 rw [h1,Int.one_mul]
 have h2:(2:Nat) ^ e < 2 ^ 62:=Nat.pow_lt_pow_right (by decide) he
 rw [k7 _ (by exact_mod_cast Nat.zero_le _) (by exact_mod_cast h2)]
 push_cast
 rfl
theorem qe (a e:Nat) (he:e < 62) (ha:a < 2 ^ 62):((Go.bits .and .i64 (shr .i64 (a:Int) (e:Int)) 1) == 1) = a.testBit e:=by
 unfold shr
 have h1:min ((e:Int)).toNat IntKind.i64.bits = e:=by
  show min e 64 = e
  omega
 rw [h1]
 have h2:((a:Int) / 2 ^ e) = ((a / 2 ^ e:Nat):Int):=by push_cast;rfl
 have h3:a / 2 ^ e < 2 ^ 62:=Nat.lt_of_le_of_lt (Nat.div_le_self _ _) ha
 rw [h2,show (1:Int) = ((1:Nat):Int) from rfl,k8 _ 1 h3 (by decide),Nat.testBit_eq_decide_div_mod_eq,Nat.and_one_is_mod]
 by_cases h:a / 2 ^ e % 2 = 1
 ·simp [h]
 ·have h4:a / 2 ^ e % 2 = 0:=by omega
  simp [h4]
theorem iX {a n e:Nat} (ha:a < 2 ^ n) (he:n≤e):a.testBit e = false:=Nat.testBit_lt_two_pow (Nat.lt_of_lt_of_le ha (Nat.pow_le_pow_right (by decide) he))
theorem swap_eq:∀ a,a < 256→∀ e,e < 8→∀ f,f < 8→a.testBit e = true→a.testBit f = false→diff a (2 ^ e) ||| 2 ^ f = a - 2 ^ e+2 ^ f:=by decide +kernel
theorem uM:∀ a,a < 256→∀ e,e < 8→a.testBit e = true→2 ^ e≤a:=by decide +kernel
def elems (s:Nat):List Nat:=(List.range' 0 8).filter fun j=>s.testBit j
def fT (l:List Nat) (a b e:Nat):Bool:=(List.range' 0 8).any fun f=>b.testBit f && !a.testBit f && l.contains (a - 2 ^ e+2 ^ f)
def fZ (l:List Nat):Bool:=l.any fun a=>l.any fun b=>(List.range' 0 8).any fun e=>a.testBit e && !b.testBit e && !fT l a b e
def ints (l:List Nat):List Int:=l.map fun j:Nat=>(j:Int)
theorem aG (l:List Nat):(ints l).length = l.length:=by simp [ints]
theorem jj (l:List Nat) (i:Nat):(ints l).getD i 0 = ((l.getD i 0:Nat):Int):=by
 by_cases h:i < l.length
 ·simp [ints,List.getD,h]
 ·simp [ints,List.getD,h]
theorem eB (l:List Nat) (i:Nat):rd (ints l) (i:Int) = ((l.getD i 0:Nat):Int):=by rw [cZ.eD,jj]
theorem mX (l:List Nat) (x:Nat):(ints l).contains (x:Int) = l.contains x:=by
 rw [Bool.eq_iff_iff]
 simp only [ints,List.contains_eq_mem,List.mem_map,decide_eq_true_eq]
 constructor
 ·rintro ⟨a,h,e⟩
  obtain rfl:a = x:=by omega
  exact h
 ·exact fun h=>⟨x,h,rfl⟩
theorem jk {α:Type} (l:List α) (d:α) (p:α→Bool):((List.range' 0 l.length).any fun i=>p (l.getD i d)) = l.any p:=by
 rw [Bool.eq_iff_iff]
 simp only [List.any_eq_true]
 constructor
 ·rintro ⟨i,hi,hp⟩
  have hlt:i < l.length:=by have:=List.mem_range'_1.1 hi;omega
  refine ⟨l[i],List.getElem_mem hlt,?_⟩
  simpa [List.getD,hlt] using hp
 ·rintro ⟨x,hx,hp⟩
  obtain ⟨i,hi,rfl⟩:=List.getElem_of_mem hx
  exact ⟨i,List.mem_range'_1.2 (by omega),by simpa [List.getD,hi] using hp⟩
theorem rV (p:Nat→Bool) (m d:Nat) (h:∀ j,m≤j→p j = false):(List.range' 0 (m+d)).any p = (List.range' 0 m).any p:=by
 rw [← List.range'_append_1,List.any_append]
 have:(List.range' (0+m) d).any p = false:=by
  rw [List.any_eq_false]
  intro j hj
  have:=List.mem_range'_1.1 hj
  rw [h j (by omega)]
  decide
 rw [this,Bool.or_false]
theorem rW (m:Nat) (hm:m≤8) (p:Nat→Bool) (h:∀ j,m≤j→p j = false):(List.range' 0 m).any p = (List.range' 0 8).any p:=by
 have:=rV p m (8 - m) h
 rw [show m+(8 - m) = 8 by omega] at this
 exact this.symm
theorem nc (s:Nat) (q:Nat→Bool):(elems s).any q = (List.range' 0 8).any fun j=>s.testBit j && q j:=by
 unfold elems
 rw [List.any_filter]
theorem kU {s j:Nat} (h:j∈elems s):j < 8∧s.testBit j = true:=by
 unfold elems at h
 obtain ⟨h1,h2⟩:=List.mem_filter.1 h
 have:=List.mem_range'_1.1 h1
 exact ⟨by omega,h2⟩
theorem gj (s:Nat):(elems s).length≤8:=by
 unfold elems
 exact Nat.le_trans (List.length_filter_le _ _) (by simp)
theorem cr {m:Nat} (hm:m≤8):(2:Nat) ^ m≤256:=Nat.pow_le_pow_right (n:=2) (by decide) hm
theorem tw:∀ a,a < 256→∀ e,e < 8→∀ f,f < 8→a.testBit e = true→a.testBit f = false→a - 2 ^ e+2 ^ f < 256:=by decide +kernel
theorem dM {α:Type} (l:List α) (d:α) (i:Nat) (h:i < l.length):l.getD i d∈l:=by
 have:l.getD i d = l[i]:=by simp [List.getD,h]
 rw [this]
 exact List.getElem_mem h
end Go.Proofs.YtmpodackojmojaaGreat.Sets
end
section
namespace Go.Proofs.YtmpodackojmojaaGreat.mS
open Go.RowKit Go.Proofs.YtmpodackojmojaaGreat.Pr Go.Proofs.YtmpodackojmojaaGreat.Sets Go.Proofs.ag.aX Go.Proofs.ag.bU Go.Proofs.ag.bQ
set_option linter.unusedVariables false
theorem nR (x:Int):0≤Go.bits .and .i64 x 255∧Go.bits .and .i64 x 255≤255:=by
 have h:(BitVec.ofInt 64 x &&& BitVec.ofInt 64 255).toNat≤255:=by
  rw [BitVec.toNat_and]
  exact Nat.and_le_right
 have e:Go.bits .and .i64 x 255 = IntKind.i64.wrap ((BitVec.ofInt 64 x &&& BitVec.ofInt 64 255).toNat:Int):=rfl
 rw [e,IntKind.wrap_i64]
 omega
theorem byte (b:List Int) (hb:b.length≤1048576) (i:Nat) (hi:i≤b.length) (h:Int):∃ (x:Int) (i':Nat) (h':Int),dZ.f b (i:Int) h = some (x,(i':Int),h')∧0≤x∧x≤255∧i'≤b.length:=by
 unfold dZ.f
 by_cases e:(i:Int) < (b.length:Int)
 ·rw [if_pos e,if_pos (by omega),cZ.dH i (by omega)]
  refine ⟨_,i+1,_,rfl,(nR _).1,(nR _).2,by omega⟩
 ·rw [if_neg e]
  exact ⟨_,i,_,rfl,(nR _).1,(nR _).2,hi⟩
theorem tx {x n:Int} (hx:0≤x) (hn:0 < n):0≤Int.tmod x n∧Int.tmod x n < n:=by
 rw [Int.tmod_eq_emod_of_nonneg hx]
 exact ⟨Int.emod_nonneg _ (by omega),Int.emod_lt_of_pos _ hn⟩
theorem below (b:List Int) (hb:b.length≤1048576) (i:Nat) (hi:i≤b.length) (h n:Int) (hn:0 < n):∃ (x:Int) (i':Nat) (h':Int),aH.f b (i:Int) h n = some (x,(i':Int),h')∧(n≤256→0≤x∧x < n)∧i'≤b.length:=by
 unfold aH.f
 rw [if_neg (by omega)]
 by_cases e:n≤256
 ·obtain ⟨x,i1,h1,y,hx,_,j⟩:=byte b hb i hi h
  rw [if_pos e,y,Option.bind_some,if_neg (by omega)]
  exact ⟨_,i1,h1,rfl,fun _=>tx hx hn,j⟩
 ·obtain ⟨x1,i1,h1,y,_,_,j⟩:=byte b hb i hi h
  obtain ⟨x2,i2,h2,e2,_,_,z⟩:=byte b hb i1 j h1
  obtain ⟨x3,i3,h3,e3,_,_,X⟩:=byte b hb i2 z h2
  obtain ⟨x4,i4,h4,e4,_,_,Y⟩:=byte b hb i3 X h3
  rw [if_neg e,y,Option.bind_some,e2,Option.bind_some,e3,Option.bind_some,e4,Option.bind_some,if_neg (by omega)]
  exact ⟨_,i4,h4,rfl,fun h=>absurd h e,Y⟩
theorem pick (b:List Int) (hb:b.length≤1048576) (i:Nat) (hi:i≤b.length) (h:Int) (l:List Int) (hl:0 < l.length) (y:l.length≤256):∃ (x:Int) (i':Nat) (h':Int),cQ.f b (i:Int) h l = some (x,(i':Int),h')∧i'≤b.length:=by
 obtain ⟨x,i1,h1,z,hx,j⟩:=below b hb i hi h (l.length:Int) (by omega)
 have hx:=hx (by omega)
 unfold cQ.f
 rw [z,Option.bind_some,if_pos hx.1,if_pos hx.2]
 exact ⟨_,i1,h1,rfl,j⟩
theorem new (b:List Int) (hb:b.length≤1048576):∃ h,Ev (fun k=>dj.f k b) (b,0,h):=by
 unfold dj.f
 have key:∀ (d i:Nat) (h:Int),i+d = b.length→∃ h',Ev (fun k=>dj.l0 k b h (i:Int)) (b,0,h'):=by
  intro d
  induction d with
  | zero =>
   intro i h hi
   refine ⟨h,Ev.step (f:=fun _=>some (b,0,h)) (fun k=>?_) (Ev.now _)⟩
   rw [dj.l0,if_neg (by omega)]
  | succ d ih =>
   intro i h hi
   by_cases e:(i:Int) < 4000
   ·obtain ⟨h',hh⟩:=ih (i+1) (Go.bits .and .i64 (wrap64 ((wrap64 ((wrap64 (h * 131))+(wrap64 (rd b (i:Int)))))+7)) 1073741823) (by omega)
    refine ⟨h',Ev.step (fun k=>?_) hh⟩
    rw [dj.l0,if_pos (by omega),if_pos e,if_pos (by omega),cZ.dH i (by omega)]
   ·refine ⟨h,Ev.step (f:=fun _=>some (b,0,h)) (fun k=>?_) (Ev.now _)⟩
    rw [dj.l0,if_pos (by omega),if_neg e]
 exact key b.length 0 _ (by omega)
end Go.Proofs.YtmpodackojmojaaGreat.mS
end
section
namespace Go.Proofs.YtmpodackojmojaaGreat.Sort
open Go.RowKit Go.Proofs.YtmpodackojmojaaGreat.Pr Go.Proofs.YtmpodackojmojaaGreat.Sets Go.Proofs.ag.aX Go.Proofs.ag.bU Go.Proofs.ag.bQ
set_option linter.unusedVariables false
def ins (x:Int):List Int→List Int
 | []=>[x]
 | a :: l=>if a < x then a :: ins x l else if a = x then a :: l else x :: a :: l
def sset (l:List Int):List Int:=l.foldl (fun out x=>ins x out) []
theorem qf (x y:Int) (l:List Int):y∈ins x l↔y = x∨y∈l:=by
 induction l with
 | nil=>simp [ins]
 | cons a l ih =>
  unfold ins
  split
  ·simp only [List.mem_cons,ih]
   constructor
   ·rintro (h | h | h) <;> simp [h]
   ·rintro (h | h | h) <;> simp [h]
  ·split
   ·rename_i h
    subst h
    simp
   ·simp
theorem pz (x:Int) (l:List Int) (h:l.Pairwise (· < ·)):(ins x l).Pairwise (· < ·):=by
 induction l with
 | nil=>simp [ins]
 | cons a l ih =>
  obtain ⟨h1,h2⟩:=List.pairwise_cons.1 h
  unfold ins
  split
  ·rename_i hlt
   refine List.pairwise_cons.2 ⟨fun y hy=>?_,ih h2⟩
   rcases (qf x y l).1 hy with rfl | hy
   ·exact hlt
   ·exact h1 y hy
  ·split
   ·exact h
   ·rename_i ha hb
    refine List.pairwise_cons.2 ⟨fun y hy=>?_,h⟩
    rcases List.mem_cons.1 hy with rfl | hy
    ·omega
    ·have:=h1 y hy
     omega
theorem mo (x:Int) (l:List Int):(ins x l).length≤l.length+1:=by
 induction l with
 | nil=>simp [ins]
 | cons a l ih =>
  unfold ins
  split
  ·simp only [List.length_cons];omega
  ·split <;> simp
theorem qL (l out:List Int) (ho:out.Pairwise (· < ·)):(l.foldl (fun out x=>ins x out) out).Pairwise (· < ·)∧(∀ y,y∈l.foldl (fun out x=>ins x out) out↔y∈out∨y∈l)∧(l.foldl (fun out x=>ins x out) out).length≤out.length+l.length:=by
 induction l generalizing out with
 | nil=>exact ⟨ho,fun y=>by simp,by simp⟩
 | cons a l ih =>
  rw [List.foldl_cons]
  obtain ⟨h1,h2,h3⟩:=ih (ins a out) (pz a out ho)
  refine ⟨h1,fun y=>?_,?_⟩
  ·rw [h2 y,qf,List.mem_cons]
   constructor
   ·rintro ((h | h) | h) <;> simp [h]
   ·rintro (h | h | h) <;> simp [h]
  ·have:=mo a out
   simp only [List.length_cons]
   omega
theorem oA (l:List Int):(sset l).length≤l.length:=by
 have:=(qL l [] List.Pairwise.nil).2.2
 simpa [sset] using this
theorem drop_cons (l:List Int) (i:Nat) (h:i < l.length):l.drop i = l.getD i 0 :: l.drop (i+1):=by
 rw [List.drop_eq_getElem_cons h]
 simp [List.getD,h]
theorem rX (x:Int) (out:List Int):∀ i,i≤out.length→(∀ j,j < i→out.getD j 0 < x)→ins x out = out.take i ++ ins x (out.drop i):=by
 intro i
 induction i with
 | zero=>intro _ _;simp
 | succ i ih =>
  intro hi h
  rw [ih (by omega) fun j hj=>h j (by omega),drop_cons out i (by omega)]
  have:=h i (by omega)
  rw [ins,if_pos this,List.take_succ_eq_append_getElem (by omega),List.append_assoc]
  simp [List.getD,show i < out.length by omega]
theorem rY (l:List Int) (hn:l.length≤1048576):Ev (fun k=>aD.f k l) (sset l):=by
 unfold aD.f sset
 have e:l.foldl (fun out x=>ins x out) [] = (List.range' 0 l.length).foldl (fun out i=>ins (l.getD i 0) out) []:=by
  have y:l = (List.range' 0 l.length).map fun i=>l.getD i 0:=by rw [← List.range_eq_range',cZ.n9]
  conv=>lhs;rw [y]
  rw [List.foldl_map]
 rw [e]
 refine cZ.fc (fun k (out:List Int) i=>aD.l0 k l out i) l.length (fun i out=>ins (l.getD i 0) out) (fun i out=>out.length≤i) _ (fun i out hi hP=>⟨?_,fun h=>?_⟩) l.length 0 [] (by omega) (by simp) (fun _=>cZ.eG 1 (fun k hk=>?_))
 ·have:=mo (l.getD i 0) out
  show (ins _ _).length≤_
  omega
 ·refine Ev.step (f:=fun k=>aD.l1 k l out (i:Int) 0) (fun k=>?_) ?_
  ·simp only [aD.l0]
   rw [if_pos (by omega)]
  ·have key:∀ d a:Nat,a+d = out.length→(∀ j,j < a→out.getD j 0 < l.getD i 0)→Ev (fun k=>aD.l1 k l out (i:Int) (a:Int)) ((List.range' 0 l.length).foldl (fun out i=>ins (l.getD i 0) out) []):=by
    intro d
    induction d with
    | zero =>
     intro a ha hlt
     obtain rfl:a = out.length:=by omega
     have hins:ins (l.getD i 0) out = out.take out.length ++ [l.getD i 0] ++ out.drop out.length:=by
      rw [rX _ _ out.length (Nat.le_refl _) hlt,List.drop_length,ins]
      simp
     rw [hins] at h
     refine Ev.step (fun k=>?_) h
     simp only [aD.l1]
     rw [if_neg (by omega)]
     simp only [Option.bind_some,Int.toNat_natCast,cZ.eD,List.nil_append,List.length_nil,Nat.zero_add]
     rw [if_pos (by omega),if_pos (by omega),if_pos (by simp),if_pos (by omega),if_pos (by omega),if_pos (by rw [List.length_take];omega),if_pos (by simp;omega),cZ.dH i (by omega)]
    | succ d ih =>
     intro a ha hlt
     have hlen:a < out.length:=by omega
     by_cases h1:out.getD a 0 < l.getD i 0
     ·refine Ev.step (fun k=>?_) (ih (a+1) (by omega) fun j hj=>?_)
      ·simp only [aD.l1]
       rw [if_pos (by omega),if_pos (by omega),if_pos (by omega),if_pos (by omega),cZ.eD,cZ.eD,if_pos h1,cZ.dH a (by omega)]
      ·by_cases e:j = a
       ·subst e;exact h1
       ·exact hlt j (by omega)
     ·have hat:=rX (l.getD i 0) out a (by omega) hlt
      rw [drop_cons out a hlen,ins,if_neg h1] at hat
      by_cases h2:out.getD a 0 = l.getD i 0
      ·have hins:ins (l.getD i 0) out = out:=by
        rw [hat,if_pos h2,← drop_cons out a hlen,List.take_append_drop]
       rw [hins] at h
       refine Ev.step (fun k=>?_) h
       simp only [aD.l1]
       rw [if_pos (by omega),if_pos (by omega),if_pos (by omega),if_pos (by omega),cZ.eD,cZ.eD,if_neg h1,if_pos h2,cZ.dH i (by omega)]
      ·have hins:ins (l.getD i 0) out = out.take a ++ [l.getD i 0] ++ out.drop a:=by
        rw [hat,if_neg h2,← drop_cons out a hlen,List.append_assoc]
        rfl
       rw [hins] at h
       refine Ev.step (fun k=>?_) h
       simp only [aD.l1]
       rw [if_pos (by omega),if_pos (by omega),if_pos (by omega),if_pos (by omega),cZ.eD,cZ.eD,if_neg h1,if_neg h2]
       simp only [Option.bind_some,Int.toNat_natCast,List.nil_append,List.length_nil,Nat.zero_add]
       rw [if_pos (by omega),if_pos (by simp;omega),if_pos (by rw [List.length_take];omega),if_pos (by simp;omega),cZ.dH i (by omega)]
   exact key out.length 0 (by omega) (fun j hj=>by omega)
 ·obtain ⟨q,rfl⟩:∃ q,k = q+1:=⟨k - 1,by omega⟩
  simp only [aD.l0]
  rw [if_neg (by omega)]
end Go.Proofs.YtmpodackojmojaaGreat.Sort
end
section
namespace Go.Proofs.YtmpodackojmojaaGreat.jD
open Go.RowKit Go.Proofs.YtmpodackojmojaaGreat.Pr Go.Proofs.YtmpodackojmojaaGreat.Sets Go.Proofs.ag.aX Go.Proofs.ag.bU Go.Proofs.ag.bQ
set_option linter.unusedVariables false
def isSet (n s:Int):Bool:=decide (0≤n∧n≤8∧0≤s∧s < 2 ^ n.toNat)
theorem lC (n s:Int):eR.f n s = some (isSet n s):=by
 unfold eR.f eu.f isSet
 by_cases h0:n≥0
 ·rw [if_pos h0]
  simp only [Option.bind_some]
  by_cases h1:n≤8
  ·rw [if_pos (decide_eq_true h1)]
   obtain ⟨m,rfl⟩:∃ m:Nat,n = m:=⟨n.toNat,by omega⟩
   by_cases h2:s≥0
   ·rw [if_pos h2,if_pos h0,ig m (by omega)]
    congr 1
    rw [decide_eq_decide]
    simp only [Int.toNat_natCast]
    push_cast
    omega
   ·rw [if_neg h2,decide_eq_false (by omega)]
  ·rw [if_neg (by rw [decide_eq_true_eq];exact h1),decide_eq_false (by omega)]
 ·rw [if_neg h0]
  simp only [Option.bind_some]
  rw [if_neg (by decide),decide_eq_false (by omega)]
theorem nf (n s:Int):bN.f n s = some (isSet n s):=by
 unfold bN.f cC.f isSet
 by_cases h0:n≥0
 ·rw [if_pos h0]
  simp only [Option.bind_some]
  by_cases h1:n≤8
  ·rw [if_pos (decide_eq_true h1)]
   obtain ⟨m,rfl⟩:∃ m:Nat,n = m:=⟨n.toNat,by omega⟩
   have hu:IntKind.u64.wrap (m:Int) = m:=by
    have:m = 0∨m = 1∨m = 2∨m = 3∨m = 4∨m = 5∨m = 6∨m = 7∨m = 8:=by omega
    rcases this with rfl | rfl | rfl | rfl | rfl | rfl | rfl | rfl | rfl <;> decide +kernel
   have hp:=cr (m:=m) (by omega)
   have j:1≤2 ^ m:=Nat.one_le_two_pow
   rw [hu,if_pos h0,ig m (by omega),cZ.jo (by omega) (by omega)]
   by_cases h2:s≥0
   ·rw [if_pos h2]
    simp only [Option.bind_some]
    congr 1
    rw [decide_eq_decide]
    simp only [Int.toNat_natCast]
    have:((2:Int) ^ m) = ((2 ^ m:Nat):Int):=by push_cast;rfl
    rw [this]
    omega
   ·rw [if_neg h2]
    simp only [Option.bind_some]
    rw [decide_eq_false (by omega)]
  ·rw [if_neg (by rw [decide_eq_true_eq];exact h1),decide_eq_false (by omega)]
 ·rw [if_neg h0]
  simp only [Option.bind_some]
  rw [if_neg (by decide),decide_eq_false (by omega)]
def oZ (n:Int) (l:List Int):Bool:=((List.range' 0 l.length).all fun i=>isSet n (l.getD i 0) && (decide (i = 0) || decide (l.getD (i - 1) 0 < l.getD i 0))) && decide (0≤n∧n≤8)
theorem mq (n:Int) (l:List Int) (hn:l.length≤1048576) (k:Nat) (hk:l.length < k):cv.f k n l = some (oZ n l):=by
 unfold cv.f oZ
 refine cZ.oz (fun k i=>cv.l0 k n l l (l.length:Int) i) l.length (fun i=>isSet n (l.getD i 0) && (decide (i = 0) || decide (l.getD (i - 1) 0 < l.getD i 0))) 0 (decide (0≤n∧n≤8)) (fun k i _ hi=>?_) (fun k _=>?_) l.length 0 k (by omega) (by omega)
 ·simp only [cv.l0]
  rw [if_pos (by omega),if_pos (by omega),if_pos (by omega),lC,cZ.eD]
  simp only [Option.bind_some]
  cases isSet n (l.getD i 0) with
  | false=>rfl
  | true =>
   rw [if_pos rfl,cZ.dH i (by omega)]
   by_cases h0:i = 0
   ·subst h0
    rw [if_neg (by decide),if_pos (by rfl)]
   ·rw [if_pos (by omega),cZ.jo (by omega) (by omega),show (i:Int) - 1 = ((i - 1:Nat):Int) by omega,if_pos (by omega),if_pos (by omega),cZ.eD]
    by_cases h1:l.getD i 0≤l.getD (i - 1) 0
    ·rw [if_pos h1,decide_eq_false h0,decide_eq_false (by omega)]
     rfl
    ·rw [if_neg h1,decide_eq_false h0,decide_eq_true (by omega)]
     rfl
 ·simp only [cv.l0]
  rw [if_neg (by omega)]
  unfold eu.f
  by_cases h0:n≥0
  ·rw [if_pos h0]
   simp only [Option.bind_some]
   congr 1
   rw [decide_eq_decide]
   omega
  ·rw [if_neg h0,decide_eq_false (by omega)]
   rfl
theorem mw (n:Int) (l:List Int) (hn:l.length≤1048576) (k:Nat) (hk:l.length < k):bf.f k n l = some (oZ n l):=by
 unfold bf.f oZ
 refine cZ.oz (fun k i=>bf.l0 k n l i) l.length (fun i=>isSet n (l.getD i 0) && (decide (i = 0) || decide (l.getD (i - 1) 0 < l.getD i 0))) 0 (decide (0≤n∧n≤8)) (fun k i _ hi=>?_) (fun k _=>?_) l.length 0 k (by omega) (by omega)
 ·simp only [bf.l0]
  rw [if_pos (by omega),if_pos (by omega),nf,cZ.eD]
  simp only [Option.bind_some]
  cases isSet n (l.getD i 0) with
  | false=>rfl
  | true =>
   rw [if_pos rfl,cZ.dH i (by omega)]
   by_cases h0:i = 0
   ·subst h0
    rw [if_neg (by decide),if_pos (by rfl)]
   ·rw [if_pos (by omega),cZ.jo (by omega) (by omega),show (i:Int) - 1 = ((i - 1:Nat):Int) by omega,if_pos (by omega),if_pos (by omega),cZ.eD]
    by_cases h1:l.getD (i - 1) 0≥l.getD i 0
    ·rw [if_pos h1,decide_eq_false h0,decide_eq_false (by omega)]
     rfl
    ·rw [if_neg h1,decide_eq_false h0,decide_eq_true (by omega)]
     rfl
 ·simp only [bf.l0]
  rw [if_neg (by omega)]
  unfold cC.f
  by_cases h0:n≥0
  ·rw [if_pos h0]
   simp only [Option.bind_some]
   congr 1
   rw [decide_eq_decide]
   omega
  ·rw [if_neg h0,decide_eq_false (by omega)]
   rfl
theorem nS {n:Int} {l:List Int} (h:oZ n l = true):∃ (m:Nat) (j:List Nat),n = m∧m≤8∧l = ints j∧∀ s∈j,s < 2 ^ m:=by
 unfold oZ at h
 rw [Bool.and_eq_true,decide_eq_true_eq] at h
 obtain ⟨hl,h0,y⟩:=h
 have key:∀ s∈l,0≤s∧s < 2 ^ n.toNat:=fun s hs=>by
  obtain ⟨i,hi,rfl⟩:=List.getElem_of_mem hs
  have:=List.all_eq_true.1 hl i (List.mem_range'_1.2 (by omega))
  rw [Bool.and_eq_true] at this
  have h1:=this.1
  unfold isSet at h1
  rw [decide_eq_true_eq] at h1
  have e:l.getD i 0 = l[i]:=by simp [List.getD,hi]
  rw [e] at h1
  exact ⟨h1.2.2.1,h1.2.2.2⟩
 refine ⟨n.toNat,l.map Int.toNat,by omega,by omega,?_,fun s hs=>?_⟩
 ·unfold ints
  rw [List.map_map]
  conv=>lhs;rw [← List.map_id l]
  refine List.map_congr_left fun s hs=>?_
  have:=(key s hs).1
  show s = ((s.toNat:Nat):Int)
  omega
 ·obtain ⟨x,hx,rfl⟩:=List.mem_map.1 hs
  obtain ⟨h1,h2⟩:=key x hx
  have e:((2:Int) ^ n.toNat) = ((2 ^ n.toNat:Nat):Int):=by push_cast;rfl
  rw [e] at h2
  omega
theorem index (l:List Nat) (x:Nat) (hn:l.length≤1048576):∀ (d i k:Nat),i+d = l.length→d < k→∃ r,cx.l0 k (ints l) (x:Int) ((ints l).length:Int) (i:Int) = some r∧decide (r≥0) = (l.drop i).contains x:=by
 intro d
 induction d with
 | zero =>
  intro i k hi hk
  obtain ⟨k,rfl⟩:∃ m,k = m+1:=⟨k - 1,by omega⟩
  refine ⟨-1,?_,?_⟩
  ·simp only [cx.l0]
   rw [if_neg (by rw [aG];omega)]
  ·rw [List.drop_of_length_le (by omega)]
   rfl
 | succ d ih =>
  intro i k hi hk
  obtain ⟨k,rfl⟩:∃ m,k = m+1:=⟨k - 1,by omega⟩
  have hlt:i < l.length:=by omega
  simp only [cx.l0]
  rw [if_pos (by rw [aG];omega),if_pos (by omega),if_pos (by rw [aG];omega),eB,cZ.dH i (by omega)]
  have hd:l.drop i = l.getD i 0 :: l.drop (i+1):=by
   rw [List.drop_eq_getElem_cons hlt]
   simp [List.getD,hlt]
  rw [hd]
  by_cases h:x = l.getD i 0
  ·refine ⟨i,by rw [if_pos (by omega)],?_⟩
   rw [← h,List.contains_cons,beq_self_eq_true,Bool.true_or,decide_eq_true (by omega)]
  ·obtain ⟨r,h1,h2⟩:=ih (i+1) k (by omega) (by omega)
   refine ⟨r,by rw [if_neg (by omega)];exact h1,?_⟩
   rw [h2,List.contains_cons,beq_eq_false_iff_ne.2 h,Bool.false_or]
theorem tA (l:List Nat) (x:Nat) (hn:l.length≤1048576) (k:Nat) (hk:l.length < k):gr.f k (ints l) (x:Int) = some (l.contains x):=by
 unfold gr.f dV.f cx.f
 obtain ⟨r,h1,h2⟩:=index l x hn l.length 0 k (by omega) hk
 rw [show (0:Int) = ((0:Nat):Int) from rfl,h1]
 simp only [Option.bind_some]
 rw [show ((0:Nat):Int) = (0:Int) from rfl,h2,List.drop_zero]
theorem qg (l:List Nat) (x:Nat) (hn:l.length≤1048576) (k:Nat) (hk:l.length < k):aI.f k (ints l) (x:Int) = some (l.contains x):=by
 unfold aI.f
 have key:∀ (d i k:Nat),i+d = l.length→d < k→aI.l0 k (ints l) (x:Int) (i:Int) = some ((l.drop i).contains x):=by
  intro d
  induction d with
  | zero =>
   intro i k hi hk
   obtain ⟨k,rfl⟩:∃ m,k = m+1:=⟨k - 1,by omega⟩
   simp only [aI.l0]
   rw [if_neg (by rw [aG];omega),List.drop_of_length_le (by omega)]
   rfl
  | succ d ih =>
   intro i k hi hk
   obtain ⟨k,rfl⟩:∃ m,k = m+1:=⟨k - 1,by omega⟩
   have hlt:i < l.length:=by omega
   simp only [aI.l0]
   rw [if_pos (by rw [aG];omega),if_pos (by omega),eB,cZ.dH i (by omega)]
   have hd:l.drop i = l.getD i 0 :: l.drop (i+1):=by
    rw [List.drop_eq_getElem_cons hlt]
    simp [List.getD,hlt]
   rw [hd,List.contains_cons]
   by_cases h:l.getD i 0 = x
   ·rw [if_pos (by omega),← h,beq_self_eq_true,Bool.true_or]
   ·rw [if_neg (by omega),ih (i+1) k (by omega) (by omega),beq_eq_false_iff_ne.2 (Ne.symm h),Bool.false_or]
 have:=key l.length 0 k (by omega) hk
 rw [List.drop_zero] at this
 exact this
theorem rZ (s:Nat) (j:Nat) (hs:s < 256) (hj:j < 8):eO.f (s:Int) (j:Int) = some (s.testBit j):=by
 unfold eO.f dB.f
 rw [if_pos (by omega)]
 simp only [Option.bind_some]
 rw [if_pos (decide_eq_true (by omega)),if_pos (by omega),if_pos (by omega),if_pos (by omega),qe s j (by omega) (by omega)]
theorem oB (s:Nat):((List.range' 0 8).foldl (fun (acc:List Int) (j:Nat)=>if s.testBit j = true then acc ++ [(j:Int)] else acc) []) = ints (elems s):=by
 rw [cZ.foldl_append (fun j=>s.testBit j)]
 rfl
theorem iB (s:Nat) (hs:s < 256):Ev (fun k=>bM.f k (s:Int)) (ints (elems s)):=by
 unfold bM.f
 refine cZ.fc (fun k y i=>bM.l0 k (s:Int) y i) 8 (fun j y=>if s.testBit j = true then y ++ [(j:Int)] else y) (fun i y=>y.length≤i) _ (fun i y hi hP=>⟨?_,fun h=>Ev.step (fun k=>?_) h⟩) 8 0 [] rfl (by simp) (fun _=>cZ.eG 1 (fun k hk=>?_))
 ·by_cases hh:s.testBit i = true
  ·rw [if_pos hh];simp;omega
  ·rw [if_neg hh];omega
 ·simp only [bM.l0]
  rw [if_pos (by omega),rZ s i hs hi]
  simp only [Option.bind_some]
  rw [cZ.dH i (by omega)]
  by_cases hh:s.testBit i = true
  ·rw [if_pos hh,if_pos (by omega),if_pos hh]
  ·rw [if_neg hh,if_neg hh]
 ·obtain ⟨m,rfl⟩:∃ m,k = m+1:=⟨k - 1,by omega⟩
  simp only [bM.l0]
  rw [if_neg (by omega),oB]
theorem qM (g:Int→Option Bool) (fs:List Nat) (v:Nat→Bool) (hn:fs.length≤1048576) (hg:∀ f∈fs,g (f:Int) = some (v f)) :
  ∀ (d i k:Nat),i+d = fs.length→d < k→∃ r,bO.l0 g k (ints fs) (i:Int) = some r∧decide (r≥0) = (fs.drop i).any v:=by
 intro d
 induction d with
 | zero =>
  intro i k hi hk
  obtain ⟨k,rfl⟩:∃ m,k = m+1:=⟨k - 1,by omega⟩
  refine ⟨-1,?_,?_⟩
  ·simp only [bO.l0]
   rw [if_neg (by rw [aG];omega)]
  ·rw [List.drop_of_length_le (by omega)]
   rfl
 | succ d ih =>
  intro i k hi hk
  obtain ⟨k,rfl⟩:∃ m,k = m+1:=⟨k - 1,by omega⟩
  have hlt:i < fs.length:=by omega
  simp only [bO.l0]
  rw [if_pos (by rw [aG];omega),if_pos (by omega),eB,hg _ (dM fs 0 i hlt),cZ.dH i (by omega)]
  simp only [Option.bind_some]
  have hd:fs.drop i = fs.getD i 0 :: fs.drop (i+1):=by
   rw [List.drop_eq_getElem_cons hlt]
   simp [List.getD,hlt]
  rw [hd,List.any_cons]
  cases hv:v (fs.getD i 0) with
  | true=>exact ⟨i,by rw [if_pos rfl],by rw [decide_eq_true (by omega),Bool.true_or]⟩
  | false =>
   obtain ⟨r,h1,h2⟩:=ih (i+1) k (by omega) (by omega)
   exact ⟨r,by rw [if_neg (by decide)];exact h1,by rw [h2,Bool.false_or]⟩
theorem kV (g:Int→Option Bool) (fs:List Nat) (v:Nat→Bool) (hn:fs.length≤1048576) (hg:∀ f∈fs,g (f:Int) = some (v f)) (k:Nat) (hk:fs.length < k) :
  cB.f k (ints fs) g = some (fs.any v):=by
 unfold cB.f bO.f
 obtain ⟨r,h1,h2⟩:=qM g fs v hn hg fs.length 0 k (by omega) hk
 rw [show (0:Int) = ((0:Nat):Int) from rfl,h1]
 simp only [Option.bind_some]
 rw [show ((0:Nat):Int) = (0:Int) from rfl,h2,List.drop_zero]
theorem oC (l:List Nat) (a e f:Nat) (hn:l.length≤1048576) (ha:a < 256) (he:e < 8) (hf:f < 8) (hae:a.testBit e = true) (j:a.testBit f = false) (k:Nat) (hk:l.length < k) :
  cE.f k (ints l) (a:Int) (e:Int) (f:Int) = some (l.contains (a - 2 ^ e+2 ^ f)):=by
 unfold cE.f
 have h1:(2:Nat) ^ e < 2 ^ 62:=Nat.pow_lt_pow_right (by decide) (by omega)
 have h2:(2:Nat) ^ f < 2 ^ 62:=Nat.pow_lt_pow_right (by decide) (by omega)
 have h3:diff a (2 ^ e) < 2 ^ 8:=fG (n:=8) (by omega)
 rw [if_pos (by omega),if_pos (by omega),ig e (by omega),ig f (by omega),gM a _ (by omega),kG _ _ (by omega) h2,swap_eq a ha e he f hf hae j]
 exact tA l _ hn k hk
theorem my (l:List Nat) (a b e:Nat):fT l a b e = (elems (diff b a)).any fun f=>l.contains (a - 2 ^ e+2 ^ f):=by
 rw [nc]
 unfold fT
 congr 1
 funext f
 rw [dz]
theorem oD (l:List Nat):fZ l = l.any fun a=>l.any fun b=>(elems (diff a b)).any fun e=>!fT l a b e:=by
 unfold fZ
 congr 1
 funext a
 congr 1
 funext b
 rw [nc]
 congr 1
 funext e
 rw [dz]
theorem qN (m:Nat) (hm:m≤8) (l:List Nat) (hl:∀ s∈l,s < 2 ^ m) (hn:l.length≤1048576) (hf:oZ (m:Int) (ints l) = true) :
  ∃ x y z,Ev (fun k=>aJ.f k (m:Int) (ints l)) (x,y,z,fZ l):=by
 have a1:=cr hm
 have hlt:∀ i,i < l.length→l.getD i 0 < 256:=fun i hi=>Nat.lt_of_lt_of_le (hl _ (dM l 0 i hi)) a1
 have inner:∀ x y:Nat,x < l.length→y < l.length→∀ d i:Nat,i+d = (elems (diff (l.getD x 0) (l.getD y 0))).length→_:=fun x y hx hy =>
  hY (fun k z=>aJ.l2 k (m:Int) (ints l) (x:Int) ((l.getD x 0:Nat):Int) (y:Int) ((l.getD y 0:Nat):Int) (ints (elems (diff (l.getD x 0) (l.getD y 0)))) z) (elems (diff (l.getD x 0) (l.getD y 0))).length
   (fun z=>!fT l (l.getD x 0) (l.getD y 0) ((elems (diff (l.getD x 0) (l.getD y 0))).getD z 0)) (fun r=>r.2.2.2 = true)
   (by
    intro z hz hp
    have ha:=hlt x hx
    have hb:=hlt y hy
    obtain ⟨he,hbit⟩:=kU (dM _ 0 z hz)
    rw [dz,Bool.and_eq_true] at hbit
    have a2:=gj (diff (l.getD x 0) (l.getD y 0))
    have hd:diff (l.getD y 0) (l.getD x 0) < 2 ^ 8:=fG (n:=8) (by omega)
    refine ⟨(((l.getD x 0:Nat):Int),((l.getD y 0:Nat):Int),(((elems (diff (l.getD x 0) (l.getD y 0))).getD z 0:Nat):Int),true),rfl,?_⟩
    refine Ev.step (f:=fun k=>(bM.f k (Go.bits .andNot .i64 ((l.getD y 0:Nat):Int) ((l.getD x 0:Nat):Int))).bind fun fs=>((cB.f k fs (fun f=>cE.f k (ints l) ((l.getD x 0:Nat):Int) (((elems (diff (l.getD x 0) (l.getD y 0))).getD z 0:Nat):Int) f)).bind fun t=>(if t = true then (aJ.l2 k (m:Int) (ints l) (x:Int) ((l.getD x 0:Nat):Int) (y:Int) ((l.getD y 0:Nat):Int) (ints (elems (diff (l.getD x 0) (l.getD y 0)))) ((z+1:Nat):Int)) else (some (((l.getD x 0:Nat):Int),((l.getD y 0:Nat):Int),(((elems (diff (l.getD x 0) (l.getD y 0))).getD z 0:Nat):Int),true))))) (fun k=>?_) ?_
    ·simp only [aJ.l2]
     rw [if_pos (by rw [aG];omega),if_pos (by omega),eB,cZ.dH z (by omega)]
    ·rw [gM _ _ (by omega)]
     refine Ev.bind (iB _ (by omega)) ?_
     refine Ev.bind (a:=fT l (l.getD x 0) (l.getD y 0) ((elems (diff (l.getD x 0) (l.getD y 0))).getD z 0)) (cZ.eG (1048577+8) (fun k hk=>?_)) ?_
     ·rw [my]
      refine kV _ _ _ (by have:=gj (diff (l.getD y 0) (l.getD x 0));omega) (fun f hf=>?_) k (by have:=gj (diff (l.getD y 0) (l.getD x 0));omega)
      obtain ⟨a0,hfb⟩:=kU hf
      rw [dz,Bool.and_eq_true] at hfb
      exact oC l _ _ _ hn ha he a0 hbit.1 (by simpa using hfb.2) k (by omega)
     ·have hp':fT l (l.getD x 0) (l.getD y 0) ((elems (diff (l.getD x 0) (l.getD y 0))).getD z 0) = false:=by simpa using hp
      rw [hp']
      exact Ev.now _)
   (by
    intro z hz hp r hr
    have ha:=hlt x hx
    have hb:=hlt y hy
    obtain ⟨he,hbit⟩:=kU (dM _ 0 z hz)
    rw [dz,Bool.and_eq_true] at hbit
    have a2:=gj (diff (l.getD x 0) (l.getD y 0))
    have hd:diff (l.getD y 0) (l.getD x 0) < 2 ^ 8:=fG (n:=8) (by omega)
    refine Ev.step (f:=fun k=>(bM.f k (Go.bits .andNot .i64 ((l.getD y 0:Nat):Int) ((l.getD x 0:Nat):Int))).bind fun fs=>((cB.f k fs (fun f=>cE.f k (ints l) ((l.getD x 0:Nat):Int) (((elems (diff (l.getD x 0) (l.getD y 0))).getD z 0:Nat):Int) f)).bind fun t=>(if t = true then (aJ.l2 k (m:Int) (ints l) (x:Int) ((l.getD x 0:Nat):Int) (y:Int) ((l.getD y 0:Nat):Int) (ints (elems (diff (l.getD x 0) (l.getD y 0)))) ((z+1:Nat):Int)) else (some (((l.getD x 0:Nat):Int),((l.getD y 0:Nat):Int),(((elems (diff (l.getD x 0) (l.getD y 0))).getD z 0:Nat):Int),true))))) (fun k=>?_) ?_
    ·simp only [aJ.l2]
     rw [if_pos (by rw [aG];omega),if_pos (by omega),eB,cZ.dH z (by omega)]
    ·rw [gM _ _ (by omega)]
     refine Ev.bind (iB _ (by omega)) ?_
     refine Ev.bind (a:=fT l (l.getD x 0) (l.getD y 0) ((elems (diff (l.getD x 0) (l.getD y 0))).getD z 0)) (cZ.eG (1048577+8) (fun k hk=>?_)) ?_
     ·rw [my]
      refine kV _ _ _ (by have:=gj (diff (l.getD y 0) (l.getD x 0));omega) (fun f hf=>?_) k (by have:=gj (diff (l.getD y 0) (l.getD x 0));omega)
      obtain ⟨a0,hfb⟩:=kU hf
      rw [dz,Bool.and_eq_true] at hfb
      exact oC l _ _ _ hn ha he a0 hbit.1 (by simpa using hfb.2) k (by omega)
     ·have hp':fT l (l.getD x 0) (l.getD y 0) ((elems (diff (l.getD x 0) (l.getD y 0))).getD z 0) = true:=by simpa using hp
      rw [hp']
      simp only [if_true]
      exact hr)
 have X:∀ x y:Nat,((List.range' 0 (elems (diff (l.getD x 0) (l.getD y 0))).length).any fun z=>!fT l (l.getD x 0) (l.getD y 0) ((elems (diff (l.getD x 0) (l.getD y 0))).getD z 0)) = (elems (diff (l.getD x 0) (l.getD y 0))).any fun e=>!fT l (l.getD x 0) (l.getD y 0) e:=fun x y=>jk (elems (diff (l.getD x 0) (l.getD y 0))) 0 (fun e=>!fT l (l.getD x 0) (l.getD y 0) e)
 have middle:∀ x:Nat,x < l.length→∀ d i:Nat,i+d = l.length→_:=fun x hx =>
  hY (fun k y=>aJ.l1 k (m:Int) (ints l) (x:Int) ((l.getD x 0:Nat):Int) y) l.length
   (fun y=>(elems (diff (l.getD x 0) (l.getD y 0))).any fun e=>!fT l (l.getD x 0) (l.getD y 0) e) (fun r=>r.2.2.2 = true)
   (by
    intro y hy hp
    have ha:=hlt x hx
    obtain ⟨h1,_⟩:=inner x y hx hy (elems (diff (l.getD x 0) (l.getD y 0))).length 0 (by omega)
    rw [X] at h1
    obtain ⟨r,hr,hE⟩:=h1 hp
    refine ⟨r,hr,Ev.step (f:=fun k=>(bM.f k (Go.bits .andNot .i64 ((l.getD x 0:Nat):Int) ((l.getD y 0:Nat):Int))).bind fun es=>(aJ.l2 k (m:Int) (ints l) (x:Int) ((l.getD x 0:Nat):Int) (y:Int) ((l.getD y 0:Nat):Int) es 0)) (fun k=>?_) ?_⟩
    ·simp only [aJ.l1]
     rw [if_pos (by rw [aG];omega),if_pos (by omega),eB]
    ·rw [gM _ _ (by omega)]
     have hd:diff (l.getD x 0) (l.getD y 0) < 2 ^ 8:=fG (n:=8) (by omega)
     exact Ev.bind (iB _ (by omega)) hE)
   (by
    intro y hy hp r hr
    have ha:=hlt x hx
    obtain ⟨_,h2⟩:=inner x y hx hy (elems (diff (l.getD x 0) (l.getD y 0))).length 0 (by omega)
    rw [X] at h2
    refine Ev.step (f:=fun k=>(bM.f k (Go.bits .andNot .i64 ((l.getD x 0:Nat):Int) ((l.getD y 0:Nat):Int))).bind fun es=>(aJ.l2 k (m:Int) (ints l) (x:Int) ((l.getD x 0:Nat):Int) (y:Int) ((l.getD y 0:Nat):Int) es 0)) (fun k=>?_) ?_
    ·simp only [aJ.l1]
     rw [if_pos (by rw [aG];omega),if_pos (by omega),eB]
    ·rw [gM _ _ (by omega)]
     have hd:diff (l.getD x 0) (l.getD y 0) < 2 ^ 8:=fG (n:=8) (by omega)
     refine Ev.bind (iB _ (by omega)) (h2 hp r (Ev.step (fun k=>?_) hr))
     simp only [aJ.l2]
     rw [if_neg (by rw [aG];omega),cZ.dH y (by omega)])
 have j:∀ x:Nat,((List.range' 0 l.length).any fun y=>(elems (diff (l.getD x 0) (l.getD y 0))).any fun e=>!fT l (l.getD x 0) (l.getD y 0) e) = l.any fun b=>(elems (diff (l.getD x 0) b)).any fun e=>!fT l (l.getD x 0) b e:=fun x=>jk l 0 (fun b=>(elems (diff (l.getD x 0) b)).any fun e=>!fT l (l.getD x 0) b e)
 obtain ⟨o1,o2⟩:=hY (fun k x=>aJ.l0 k (m:Int) (ints l) x) l.length
   (fun x=>l.any fun b=>(elems (diff (l.getD x 0) b)).any fun e=>!fT l (l.getD x 0) b e) (fun r=>r.2.2.2 = true)
   (by
    intro x hx hp
    obtain ⟨h1,_⟩:=middle x hx l.length 0 (by omega)
    rw [j] at h1
    obtain ⟨r,hr,hE⟩:=h1 hp
    refine ⟨r,hr,Ev.step (fun k=>?_) hE⟩
    simp only [aJ.l0]
    rw [if_pos (by rw [aG];omega),if_pos (by omega),eB]
    rfl)
   (by
    intro x hx hp r hr
    obtain ⟨_,h2⟩:=middle x hx l.length 0 (by omega)
    rw [j] at h2
    have h3:=h2 hp r (Ev.step (fun k=>by
     simp only [aJ.l1]
     rw [if_neg (by rw [aG];omega),cZ.dH x (by omega)]) hr)
    refine Ev.step (fun k=>?_) h3
    simp only [aJ.l0]
    rw [if_pos (by rw [aG];omega),if_pos (by omega),eB]
    rfl) l.length 0 (by omega)
 have Y:((List.range' 0 l.length).any fun x=>l.any fun b=>(elems (diff (l.getD x 0) b)).any fun e=>!fT l (l.getD x 0) b e) = fZ l:=by
  rw [oD]
  exact jk l 0 (fun a=>l.any fun b=>(elems (diff a b)).any fun e=>!fT l a b e)
 rw [Y] at o1 o2
 have start:∀ r,Ev (fun k=>aJ.l0 k (m:Int) (ints l) 0) r→Ev (fun k=>aJ.f k (m:Int) (ints l)) r:=fun r hr=>by
  unfold aJ.f
  refine Ev.bind (cZ.eG (l.length+1) (fun k hk=>mq (m:Int) (ints l) (by rw [aG];exact hn) k (by rw [aG];omega))) ?_
  rw [hf]
  simp only [if_true]
  exact hr
 cases hfl:fZ l with
 | true =>
  obtain ⟨⟨x,y,z,b⟩,hb,hE⟩:=o1 hfl
  simp only at hb
  subst hb
  exact ⟨x,y,z,start _ hE⟩
 | false =>
  refine ⟨0,0,0,start _ (o2 hfl _ (cZ.eG 1 (fun k hk=>?_)))⟩
  obtain ⟨q,rfl⟩:∃ q,k = q+1:=⟨k - 1,by omega⟩
  simp only [aJ.l0]
  rw [if_neg (by rw [aG];omega)]
theorem jl (e:Nat) (he:e < 62):IntKind.u64.wrap (e:Int) = e:=by
 unfold IntKind.wrap
 simp only [IntKind.bits,IntKind.signed,Bool.false_and,Bool.false_eq_true,if_false]
 omega
theorem jJ (s e:Nat) (hs:s < 256) (he:e < 8):cz.f (s:Int) (e:Int) = some (s.testBit e):=by
 unfold cz.f
 rw [jl e (by omega),if_pos (by omega),qe s e (by omega) (by omega)]
theorem nT (m:Nat) (hm:m≤8) (l:List Nat) (hn:l.length≤1048576) (a b e:Nat) (ha:a < 256) (hb:b < 2 ^ m) (he:e < 8) (hae:a.testBit e = true):Ev (fun k=>aN.f k (m:Int) (ints l) (a:Int) (b:Int) (e:Int)) (fT l a b e):=by
 have z:=cr hm
 unfold aN.f
 have hle:=uM a ha e he hae
 have key:∀ f:Nat,f < m→a.testBit f = false→wrap64 ((wrap64 ((a:Int) - ((2 ^ e:Nat):Int)))+((2 ^ f:Nat):Int)) = ((a - 2 ^ e+2 ^ f:Nat):Int):=fun f hf y=>by
  have h1:=tw a ha e he f (by omega) hae y
  have h2:2 ^ f≤256:=cr (by omega)
  clear hae
  generalize (2:Nat) ^ e = P at *
  generalize (2:Nat) ^ f = Q at *
  rw [cZ.jo (i:=(a:Int) - (P:Int)) (by omega) (by omega),cZ.jo (by omega) (by omega)]
  omega
 obtain ⟨X,Y⟩:=hY (fun k f=>aN.l0 k (a:Int) (b:Int) (e:Int) f (m:Int) (ints l)) m (fun f=>b.testBit f && !a.testBit f && l.contains (a - 2 ^ e+2 ^ f)) (fun r=>r = true)
  (by
   intro f hf hp
   rw [Bool.and_eq_true,Bool.and_eq_true] at hp
   obtain ⟨⟨h1,h2⟩,h3⟩:=hp
   have h2':a.testBit f = false:=by simpa using h2
   refine ⟨true,rfl,cZ.eG (l.length+2) (fun k hk=>?_)⟩
   obtain ⟨q,rfl⟩:∃ q,k = q+1:=⟨k - 1,by omega⟩
   simp only [aN.l0]
   rw [if_pos (by omega),jJ b f (by omega) (by omega),h1]
   simp only [Option.bind_some,if_true]
   rw [jJ a f ha (by omega),h2']
   simp only [Option.bind_some,Bool.false_eq_true,if_false]
   rw [jl e (by omega),jl f (by omega),if_pos (by omega),if_pos (by omega),ig e (by omega),ig f (by omega),key f hf h2',qg l _ hn q (by omega),h3]
   rfl)
  (by
   intro f hf hp r hr
   by_cases h1:b.testBit f = true
   ·by_cases h2:a.testBit f = true
    ·refine Ev.step (fun k=>?_) hr
     simp only [aN.l0]
     rw [if_pos (by omega),jJ b f (by omega) (by omega),h1]
     simp only [Option.bind_some,if_true]
     rw [jJ a f ha (by omega),h2]
     simp only [Option.bind_some,if_true]
     rw [cZ.dH f (by omega)]
    ·have h2':a.testBit f = false:=by simpa using h2
     have h3:l.contains (a - 2 ^ e+2 ^ f) = false:=by
      rw [h1,h2'] at hp
      simpa using hp
     refine Ev.step (f:=fun k=>(aI.f k (ints l) ((a - 2 ^ e+2 ^ f:Nat):Int)).bind fun t=>(if t = true then (some true) else (aN.l0 k (a:Int) (b:Int) (e:Int) ((f+1:Nat):Int) (m:Int) (ints l)))) (fun k=>?_) ?_
     ·simp only [aN.l0]
      rw [if_pos (by omega),jJ b f (by omega) (by omega),h1]
      simp only [Option.bind_some,if_true]
      rw [jJ a f ha (by omega),h2']
      simp only [Option.bind_some,Bool.false_eq_true,if_false]
      rw [jl e (by omega),jl f (by omega),if_pos (by omega),if_pos (by omega),ig e (by omega),ig f (by omega),key f hf h2',cZ.dH f (by omega)]
     ·refine Ev.bind (cZ.eG (l.length+1) (fun k hk=>qg l _ hn k (by omega))) ?_
      rw [h3]
      exact hr
   ·have h1':b.testBit f = false:=by simpa using h1
    refine Ev.step (fun k=>?_) hr
    simp only [aN.l0]
    rw [if_pos (by omega),jJ b f (by omega) (by omega),h1']
    simp only [Option.bind_some,Bool.false_eq_true,if_false]
    rw [cZ.dH f (by omega)]) m 0 (by omega)
 have e8:((List.range' 0 m).any fun f=>b.testBit f && !a.testBit f && l.contains (a - 2 ^ e+2 ^ f)) = fT l a b e:=rW m hm _ (fun j hj=>by rw [iX hb hj];rfl)
 rw [e8] at X Y
 cases hx:fT l a b e with
 | true =>
  obtain ⟨r,rfl,hE⟩:=X hx
  exact hE
 | false =>
  refine Y hx _ (cZ.eG 1 (fun k hk=>?_))
  obtain ⟨q,rfl⟩:∃ q,k = q+1:=⟨k - 1,by omega⟩
  simp only [aN.l0]
  rw [if_neg (by omega)]
theorem qO (m:Nat) (hm:m≤8) (l:List Nat) (hl:∀ s∈l,s < 2 ^ m) (hn:l.length≤1048576) (hf:oZ (m:Int) (ints l) = true) :
  ∃ x y z,Ev (fun k=>ay.f k (m:Int) (ints l)) (x,y,z,fZ l):=by
 have a3:=cr hm
 have hlt:∀ i,i < l.length→l.getD i 0 < 256:=fun i hi=>Nat.lt_of_lt_of_le (hl _ (dM l 0 i hi)) a3
 have a2:∀ i,i < l.length→l.getD i 0 < 2 ^ m:=fun i hi=>hl _ (dM l 0 i hi)
 have round:∀ x y z:Nat,x < l.length→y < l.length→z < m→∀ r,(((l.getD x 0).testBit z && !(l.getD y 0).testBit z && !fT l (l.getD x 0) (l.getD y 0) z) = true→r.2.2.2 = true→r = (((l.getD x 0:Nat):Int),((l.getD y 0:Nat):Int),(z:Int),true)→Ev (fun k=>ay.l2 k (x:Int) (y:Int) (z:Int) (m:Int) (ints l)) r) ∧
   (((l.getD x 0).testBit z && !(l.getD y 0).testBit z && !fT l (l.getD x 0) (l.getD y 0) z) = false→Ev (fun k=>ay.l2 k (x:Int) (y:Int) ((z+1:Nat):Int) (m:Int) (ints l)) r→Ev (fun k=>ay.l2 k (x:Int) (y:Int) (z:Int) (m:Int) (ints l)) r):=by
  intro x y z hx hy hz r
  have ha:=hlt x hx
  have hb:=hlt y hy
  have a1:∀ k,ay.l2 (k+1) (x:Int) (y:Int) (z:Int) (m:Int) (ints l) = (if (l.getD x 0).testBit z = true then (if (l.getD y 0).testBit z = true then ay.l2 k (x:Int) (y:Int) ((z+1:Nat):Int) (m:Int) (ints l) else ((aN.f k (m:Int) (ints l) ((l.getD x 0:Nat):Int) ((l.getD y 0:Nat):Int) (z:Int)).bind fun t=>(if t = true then ay.l2 k (x:Int) (y:Int) ((z+1:Nat):Int) (m:Int) (ints l) else some (((l.getD x 0:Nat):Int),((l.getD y 0:Nat):Int),(z:Int),true)))) else ay.l2 k (x:Int) (y:Int) ((z+1:Nat):Int) (m:Int) (ints l)):=fun k=>by
   simp only [ay.l2]
   rw [if_pos (by omega),if_pos (by omega),if_pos (by rw [aG];omega),if_pos (by omega),if_pos (by rw [aG];omega),eB,eB,jJ _ z ha (by omega)]
   simp only [Option.bind_some]
   rw [jJ _ z hb (by omega)]
   simp only [Option.bind_some]
   rw [cZ.dH z (by omega)]
  cases h1:(l.getD x 0).testBit z with
  | false =>
   refine ⟨fun h=>by simp at h,fun _ hr=>Ev.step (fun k=>?_) hr⟩
   rw [a1,h1,if_neg (by decide)]
  | true =>
   cases h2:(l.getD y 0).testBit z with
   | true =>
    refine ⟨fun h=>by simp at h,fun _ hr=>Ev.step (fun k=>?_) hr⟩
    rw [a1,h1,h2,if_pos rfl,if_pos rfl]
   | false =>
    have hE:=nT m hm l hn (l.getD x 0) (l.getD y 0) z ha (a2 y hy) (by omega) h1
    cases h3:fT l (l.getD x 0) (l.getD y 0) z with
    | true =>
     rw [h3] at hE
     refine ⟨fun h=>by simp at h,fun _ hr=>Ev.step (fun k=>?_) (Ev.bind hE (f:=fun k t=>(if t = true then ay.l2 k (x:Int) (y:Int) ((z+1:Nat):Int) (m:Int) (ints l) else some (((l.getD x 0:Nat):Int),((l.getD y 0:Nat):Int),(z:Int),true))) (by simp only [if_true];exact hr))⟩
     rw [a1,h1,h2,if_pos rfl,if_neg (by decide)]
    | false =>
     rw [h3] at hE
     refine ⟨fun _ _ e=>?_,fun h=>by simp at h⟩
     subst e
     refine Ev.step (fun k=>?_) (Ev.bind hE (f:=fun k t=>(if t = true then ay.l2 k (x:Int) (y:Int) ((z+1:Nat):Int) (m:Int) (ints l) else some (((l.getD x 0:Nat):Int),((l.getD y 0:Nat):Int),(z:Int),true))) (by simp only [Bool.false_eq_true,if_false];exact Ev.now _))
     rw [a1,h1,h2,if_pos rfl,if_neg (by decide)]
 have inner:∀ x y:Nat,x < l.length→y < l.length→∀ d i:Nat,i+d = m→_:=fun x y hx hy =>
  hY (fun k z=>ay.l2 k (x:Int) (y:Int) z (m:Int) (ints l)) m
   (fun z=>(l.getD x 0).testBit z && !(l.getD y 0).testBit z && !fT l (l.getD x 0) (l.getD y 0) z) (fun r=>r.2.2.2 = true)
   (fun z hz hp=>⟨_,rfl,(round x y z hx hy hz (((l.getD x 0:Nat):Int),((l.getD y 0:Nat):Int),(z:Int),true)).1 hp rfl rfl⟩)
   (fun z hz hp r hr=>(round x y z hx hy hz r).2 hp hr)
 have Y:∀ x y:Nat,x < l.length→((List.range' 0 m).any fun z=>(l.getD x 0).testBit z && !(l.getD y 0).testBit z && !fT l (l.getD x 0) (l.getD y 0) z) = (List.range' 0 8).any fun e=>(l.getD x 0).testBit e && !(l.getD y 0).testBit e && !fT l (l.getD x 0) (l.getD y 0) e:=fun x y hx=>rW m hm _ (fun j hj=>by rw [iX (a2 x hx) hj];rfl)
 have middle:∀ x:Nat,x < l.length→∀ d i:Nat,i+d = l.length→_:=fun x hx =>
  hY (fun k y=>ay.l1 k (x:Int) y (m:Int) (ints l)) l.length
   (fun y=>(List.range' 0 8).any fun e=>(l.getD x 0).testBit e && !(l.getD y 0).testBit e && !fT l (l.getD x 0) (l.getD y 0) e) (fun r=>r.2.2.2 = true)
   (by
    intro y hy hp
    obtain ⟨h1,_⟩:=inner x y hx hy m 0 (by omega)
    rw [Y x y hx] at h1
    obtain ⟨r,hr,hE⟩:=h1 hp
    refine ⟨r,hr,Ev.step (fun k=>?_) hE⟩
    simp only [ay.l1]
    rw [if_pos (by rw [aG];omega)]
    rfl)
   (by
    intro y hy hp r hr
    obtain ⟨_,h2⟩:=inner x y hx hy m 0 (by omega)
    rw [Y x y hx] at h2
    refine Ev.step (fun k=>?_) (h2 hp r (Ev.step (fun k=>by
     simp only [ay.l2]
     rw [if_neg (by omega),cZ.dH y (by omega)]) hr))
    simp only [ay.l1]
    rw [if_pos (by rw [aG];omega)]
    rfl)
 have X:∀ x:Nat,((List.range' 0 l.length).any fun y=>(List.range' 0 8).any fun e=>(l.getD x 0).testBit e && !(l.getD y 0).testBit e && !fT l (l.getD x 0) (l.getD y 0) e) = l.any fun b=>(List.range' 0 8).any fun e=>(l.getD x 0).testBit e && !b.testBit e && !fT l (l.getD x 0) b e:=fun x=>jk l 0 (fun b=>(List.range' 0 8).any fun e=>(l.getD x 0).testBit e && !b.testBit e && !fT l (l.getD x 0) b e)
 obtain ⟨o1,o2⟩:=hY (fun k x=>ay.l0 k x (m:Int) (ints l)) l.length
   (fun x=>l.any fun b=>(List.range' 0 8).any fun e=>(l.getD x 0).testBit e && !b.testBit e && !fT l (l.getD x 0) b e) (fun r=>r.2.2.2 = true)
   (by
    intro x hx hp
    obtain ⟨h1,_⟩:=middle x hx l.length 0 (by omega)
    rw [X] at h1
    obtain ⟨r,hr,hE⟩:=h1 hp
    refine ⟨r,hr,Ev.step (fun k=>?_) hE⟩
    simp only [ay.l0]
    rw [if_pos (by rw [aG];omega)]
    rfl)
   (by
    intro x hx hp r hr
    obtain ⟨_,h2⟩:=middle x hx l.length 0 (by omega)
    rw [X] at h2
    refine Ev.step (fun k=>?_) (h2 hp r (Ev.step (fun k=>by
     simp only [ay.l1]
     rw [if_neg (by rw [aG];omega),cZ.dH x (by omega)]) hr))
    simp only [ay.l0]
    rw [if_pos (by rw [aG];omega)]
    rfl) l.length 0 (by omega)
 have a0:((List.range' 0 l.length).any fun x=>l.any fun b=>(List.range' 0 8).any fun e=>(l.getD x 0).testBit e && !b.testBit e && !fT l (l.getD x 0) b e) = fZ l:=by
  unfold fZ
  exact jk l 0 (fun a=>l.any fun b=>(List.range' 0 8).any fun e=>a.testBit e && !b.testBit e && !fT l a b e)
 rw [a0] at o1 o2
 have start:∀ r,Ev (fun k=>ay.l0 k 0 (m:Int) (ints l)) r→Ev (fun k=>ay.f k (m:Int) (ints l)) r:=fun r hr=>by
  unfold ay.f
  refine Ev.bind (cZ.eG (l.length+1) (fun k hk=>mw (m:Int) (ints l) (by rw [aG];exact hn) k (by rw [aG];omega))) ?_
  rw [hf]
  simp only [if_true]
  exact hr
 cases hfl:fZ l with
 | true =>
  obtain ⟨⟨x,y,z,b⟩,hb,hE⟩:=o1 hfl
  simp only at hb
  subst hb
  exact ⟨x,y,z,start _ hE⟩
 | false =>
  refine ⟨0,0,0,start _ (o2 hfl _ (cZ.eG 1 (fun k hk=>?_)))⟩
  obtain ⟨q,rfl⟩:∃ q,k = q+1:=⟨k - 1,by omega⟩
  simp only [ay.l0]
  rw [if_neg (by rw [aG];omega)]
def dN (n:Int) (l:List Int):Bool:=oZ n l && decide (0 < l.length) && !fZ (l.map Int.toNat)
theorem cu (l:List Nat):(ints l).map Int.toNat = l:=by
 unfold ints
 rw [List.map_map]
 conv=>rhs;rw [← List.map_id l]
 exact List.map_congr_left fun x _=>by simp
theorem lW (n:Int) (l:List Int) (hn:l.length≤1048576):Ev (fun k=>dF.f k n l) (dN n l):=by
 unfold dF.f dN
 have hF:Ev (fun k=>cv.f k n l) (oZ n l):=cZ.eG (l.length+1) (fun k hk=>mq n l hn k (by omega))
 cases hf:oZ n l with
 | false =>
  rw [hf] at hF
  refine Ev.bind (a:=(0,0,0,false)) ?_ (Ev.bind hF (by simp only [Bool.false_eq_true,if_false];exact Ev.now _))
  unfold aJ.f
  exact Ev.bind hF (by simp only [Bool.false_eq_true,if_false];exact Ev.now _)
 | true =>
  rw [hf] at hF
  obtain ⟨m,j,rfl,hm,rfl,hl⟩:=nS hf
  rw [cu]
  rw [aG] at hn
  obtain ⟨x,y,z,hE⟩:=qN m hm j hl hn hf
  refine Ev.bind hE (Ev.bind hF ?_)
  simp only [if_true,aG]
  by_cases h0:0 < j.length
  ·simp only [if_pos (show (j.length:Int) > 0 by omega),decide_eq_true h0,Bool.true_and]
   exact Ev.now _
  ·simp only [if_neg (show ¬ (j.length:Int) > 0 by omega),decide_eq_false h0,Bool.true_and,Bool.false_and]
   exact Ev.now _
theorem kW (n:Int) (l:List Int) (hn:l.length≤1048576):Ev (fun k=>bI.f k n l) (dN n l):=by
 unfold bI.f dN
 have hF:Ev (fun k=>bf.f k n l) (oZ n l):=cZ.eG (l.length+1) (fun k hk=>mw n l hn k (by omega))
 cases hf:oZ n l with
 | false =>
  rw [hf] at hF
  refine Ev.bind (a:=(0,0,0,false)) ?_ (Ev.bind hF (by simp only [Bool.false_eq_true,if_false];exact Ev.now _))
  unfold ay.f
  exact Ev.bind hF (by simp only [Bool.false_eq_true,if_false];exact Ev.now _)
 | true =>
  rw [hf] at hF
  obtain ⟨m,j,rfl,hm,rfl,hl⟩:=nS hf
  rw [cu]
  rw [aG] at hn
  obtain ⟨x,y,z,hE⟩:=qO m hm j hl hn hf
  refine Ev.bind hE (Ev.bind hF ?_)
  simp only [if_true,aG]
  by_cases h0:0 < j.length
  ·simp only [if_pos (show (j.length:Int) > 0 by omega),decide_eq_true h0,Bool.true_and]
   exact Ev.now _
  ·simp only [if_neg (show ¬ (j.length:Int) > 0 by omega),decide_eq_false h0,Bool.true_and,Bool.false_and]
   exact Ev.now _
end Go.Proofs.YtmpodackojmojaaGreat.jD
end
section
namespace Go.Proofs.YtmpodackojmojaaGreat.fH
open Go.RowKit Go.Proofs.YtmpodackojmojaaGreat.Pr Go.Proofs.YtmpodackojmojaaGreat.Sets Go.Proofs.YtmpodackojmojaaGreat.jD Go.Proofs.ag.aX Go.Proofs.ag.bU Go.Proofs.ag.bQ
set_option linter.unusedVariables false
def cnt (s:Nat):Nat:=(elems s).length
theorem jb (s:Nat):cnt s≤8:=gj s
set_option maxRecDepth 100000 in
theorem pA:∀ s:Nat,s < 256→eU.f (s:Int) = some (cnt s:Int):=by decide +kernel
theorem nh (s:Nat) (h:s < 256):eU.f (s:Int) = some (cnt s:Int):=pA s h
set_option maxRecDepth 100000 in
theorem pB:∀ s:Nat,s < 256→bC.f 10 (s:Int) = some (cnt s:Int):=by decide +kernel
theorem qP (s:Nat) (h:s < 256) (k:Nat) (hk:10≤k):bC.f k (s:Int) = some (cnt s:Int):=by
 induction k with
 | zero=>omega
 | succ k ih =>
  by_cases e:10≤k
  ·exact bC.mono _ _ _ (ih e)
  ·obtain rfl:k = 9:=by omega
   exact pB s h
theorem gu (s:Nat) (h:s < 256):Ev (fun k=>bC.f k (s:Int)) (cnt s:Int):=cZ.eG 10 (fun k hk=>qP s h k hk)
def bu (l:List Nat) (s:Nat):Nat:=l.foldl (fun m b=>max m (cnt (s &&& b))) 0
theorem iw {σ:Type} (l:List Nat) (f:σ→Nat→σ) (s:σ):(List.range' 0 l.length).foldl (fun s i=>f s (l.getD i 0)) s = l.foldl f s:=by
 have e:l = (List.range' 0 l.length).map fun i=>l.getD i 0:=by
  rw [← List.range_eq_range',cZ.n9]
 conv=>rhs;rw [e]
 rw [List.foldl_map]
theorem kH {a b n:Nat} (ha:a < 2 ^ n):a &&& b < 2 ^ n:=Nat.lt_of_le_of_lt Nat.and_le_left ha
theorem kX (m:Nat) (l:List Nat) (s:Nat) (hs:s < 256) (hl:∀ b∈l,b < 256) (hn:l.length≤1048576):Ev (fun k=>bR.f k (m:Int) (ints l) (s:Int)) (bu l s:Int):=by
 unfold bR.f
 have e:bu l s = (List.range' 0 l.length).foldl (fun o i=>max o (cnt (s &&& l.getD i 0))) 0:=(iw l (fun o b=>max o (cnt (s &&& b))) 0).symm
 rw [e]
 have key:=cZ.fc (fun k (o:Nat) i=>bR.l0 k (s:Int) (o:Int) (ints l) ((ints l).length:Int) i) l.length (fun i o=>max o (cnt (s &&& l.getD i 0))) (fun _ _=>True) (((List.range' 0 l.length).foldl (fun o i=>max o (cnt (s &&& l.getD i 0))) 0:Nat):Int) (fun i o hi _=>⟨trivial,fun h=>Ev.step (fun k=>?_) h⟩) l.length 0 0 (by omega) trivial (fun _=>cZ.eG 1 (fun k hk=>?_))
 ·exact key
 ·simp only [bR.l0]
  have hb:=hl _ (dM l 0 i hi)
  rw [if_pos (by rw [aG];omega),if_pos (by omega),if_pos (by rw [aG];omega),eB,k8 s _ (by omega) (by omega),nh _ (kH (n:=8) hs)]
  simp only [Option.bind_some]
  rw [cZ.dH i (by omega)]
  congr 1
  unfold mx
  split <;> omega
 ·obtain ⟨q,rfl⟩:∃ q,k = q+1:=⟨k - 1,by omega⟩
  simp only [bR.l0]
  rw [if_neg (by rw [aG];omega)]
theorem gQ (m:Nat) (l:List Nat) (s:Nat) (hs:s < 256) (hl:∀ b∈l,b < 256) (hn:l.length≤1048576):Ev (fun k=>bW.f k (m:Int) (ints l) (s:Int)) (bu l s:Int):=by
 unfold bW.f
 have e:bu l s = (List.range' 0 l.length).foldl (fun o i=>max o (cnt (s &&& l.getD i 0))) 0:=(iw l (fun o b=>max o (cnt (s &&& b))) 0).symm
 rw [e]
 have key:=cZ.fc (fun k (o:Nat) i=>bW.l0 k (s:Int) (o:Int) i (m:Int) (ints l)) l.length (fun i o=>max o (cnt (s &&& l.getD i 0))) (fun _ _=>True) (((List.range' 0 l.length).foldl (fun o i=>max o (cnt (s &&& l.getD i 0))) 0:Nat):Int) (fun i o hi _=>⟨trivial,fun h=>?_⟩) l.length 0 0 (by omega) trivial (fun _=>cZ.eG 1 (fun k hk=>?_))
 ·exact key
 ·have hb:=hl _ (dM l 0 i hi)
  refine Ev.step (f:=fun k=>(bC.f k (Go.bits .and .i64 (rd (ints l) (i:Int)) (s:Int))).bind fun j=>((fg.f (o:Int) j).bind fun y=>(bW.l0 k (s:Int) y (wrap64 ((i:Int)+1)) (m:Int) (ints l)))) (fun k=>?_) ?_
  ·simp only [bW.l0]
   rw [if_pos (by rw [aG];omega),if_pos (by omega)]
  ·rw [eB,k8 _ s (by omega) (by omega),Nat.and_comm,cZ.dH i (by omega)]
   refine Ev.bind (gu _ (kH (n:=8) hs)) ?_
   have hx:fg.f (o:Int) (cnt (s &&& l.getD i 0):Int) = some ((max o (cnt (s &&& l.getD i 0)):Nat):Int):=by
    unfold fg.f
    split <;> · congr 1;omega
   rw [hx]
   exact h
 ·obtain ⟨q,rfl⟩:∃ q,k = q+1:=⟨k - 1,by omega⟩
  simp only [bW.l0]
  rw [if_neg (by rw [aG];omega)]
theorem s4 (p:Nat→Bool) (q:List Nat) (o:Nat) (j:Nat):(q.foldl (fun o e=>if p e = true then o ||| 2 ^ e else o) o).testBit j = (o.testBit j || q.any fun e=>p e && decide (e = j)):=by
 induction q generalizing o with
 | nil=>simp
 | cons a q ih =>
  rw [List.foldl_cons,ih,List.any_cons]
  cases h:p a with
  | false=>simp
  | true =>
   simp only [if_true,Nat.testBit_or,Nat.testBit_two_pow,Bool.true_and]
   rw [Bool.or_assoc]
theorem nU {s j:Nat} (h:s.testBit j = true):s ||| 2 ^ j = s:=by
 apply Nat.eq_of_testBit_eq
 intro i
 rw [Nat.testBit_or,Nat.testBit_two_pow]
 by_cases e:j = i
 ·subst e;rw [h];rfl
 ·rw [decide_eq_false e,Bool.or_false]
theorem gY {a b n:Nat} (ha:a < 2 ^ n) (hb:b < 2 ^ n):a ||| b < 2 ^ n:=Nat.or_lt_two_pow ha hb
theorem gN {e m:Nat} (h:e < m):2 ^ e < 2 ^ m:=Nat.pow_lt_pow_right (by decide) h
theorem tB (m:Nat) (h:m < 2 ^ 62):IntKind.u64.wrap (m:Int) = m:=by
 rw [IntKind.wrap_u64]
 omega
end Go.Proofs.YtmpodackojmojaaGreat.fH
end
section
namespace Go.Proofs.YtmpodackojmojaaGreat.Flat
open Go.RowKit Go.Proofs.YtmpodackojmojaaGreat.Pr Go.Proofs.YtmpodackojmojaaGreat.Sets Go.Proofs.YtmpodackojmojaaGreat.jD Go.Proofs.YtmpodackojmojaaGreat.fH Go.Proofs.ag.aX Go.Proofs.ag.bU Go.Proofs.ag.bQ
set_option linter.unusedVariables false
theorem pC {γ:Type} (l:List Int) (x:Int) (L:Nat→Int→Option γ) (yes no:γ) (hn:l.length≤1048576)
  (hstep:∀ k i,i < l.length→L (k+1) (i:Int) = if l.getD i 0 = x then some yes else L k ((i+1:Nat):Int))
  (hend:∀ k,L (k+1) (l.length:Int) = some no):Ev (fun k=>L k 0) (if l.contains x = true then yes else no):=by
 have key:∀ d i:Nat,i+d = l.length→Ev (fun k=>L k (i:Int)) (if (l.drop i).contains x = true then yes else no):=by
  intro d
  induction d with
  | zero =>
   intro i hi
   obtain rfl:i = l.length:=by omega
   rw [List.drop_length]
   refine cZ.eG 1 (fun k hk=>?_)
   obtain ⟨q,rfl⟩:∃ q,k = q+1:=⟨k - 1,by omega⟩
   rw [hend]
   rfl
  | succ d ih =>
   intro i hi
   have hlt:i < l.length:=by omega
   have hd:l.drop i = l.getD i 0 :: l.drop (i+1):=by
    rw [List.drop_eq_getElem_cons hlt]
    simp [List.getD,hlt]
   rw [hd,List.contains_cons]
   by_cases e:l.getD i 0 = x
   ·refine cZ.eG 1 (fun k hk=>?_)
    obtain ⟨q,rfl⟩:∃ q,k = q+1:=⟨k - 1,by omega⟩
    rw [hstep q i hlt,if_pos e,e]
    simp
   ·have e':(x == l.getD i 0) = false:=by
     rw [beq_eq_false_iff_ne]
     exact fun h=>e h.symm
    rw [e',Bool.false_or]
    exact Ev.step (fun k=>by rw [hstep k i hlt,if_neg e]) (ih (i+1) (by omega))
 have:=key l.length 0 (by omega)
 rw [List.drop_zero] at this
 exact this
theorem kY (l:List Int) (x:Int) (hn:l.length≤1048576):Ev (fun k=>aI.f k l x) (l.contains x):=by
 unfold aI.f
 have:=pC l x (fun k i=>aI.l0 k l x i) true false hn (fun k i hi=>by
  simp only [aI.l0]
  rw [if_pos (by omega),if_pos (by omega),cZ.eD,cZ.dH i (by omega)]) (fun k=>by
  simp only [aI.l0]
  rw [if_neg (by omega)])
 cases h:l.contains x <;> rw [h] at this <;> exact this
theorem eW {n:Int} {l:List Int} (h:dN n l = true):∃ (m:Nat) (j:List Nat),n = m∧m≤8∧l = ints j∧(∀ s∈j,s < 2 ^ m)∧0 < j.length∧fZ j = false:=by
 unfold dN at h
 rw [Bool.and_eq_true,Bool.and_eq_true,decide_eq_true_eq] at h
 obtain ⟨⟨h1,h2⟩,h3⟩:=h
 obtain ⟨m,j,rfl,hm,rfl,hl⟩:=nS h1
 rw [cu] at h3
 rw [aG] at h2
 exact ⟨m,j,rfl,hm,rfl,hl,h2,by simpa using h3⟩
theorem iH {m:Nat} {s:Int} (h:isSet (m:Int) s = true):∃ x:Nat,s = x∧x < 2 ^ m:=by
 unfold isSet at h
 rw [decide_eq_true_eq] at h
 obtain ⟨_,_,h1,h2⟩:=h
 rw [Int.toNat_natCast] at h2
 refine ⟨s.toNat,by omega,?_⟩
 have:((s.toNat:Nat):Int) < ((2 ^ m:Nat):Int):=by push_cast;omega
 exact_mod_cast this
theorem jK {m:Nat} {x:Nat} (hm:m≤8) (h:x < 2 ^ m):isSet (m:Int) (x:Int) = true:=by
 unfold isSet
 rw [decide_eq_true_eq,Int.toNat_natCast]
 refine ⟨by omega,by omega,by omega,?_⟩
 exact_mod_cast h
theorem ia (m:Nat) (hm:m≤8):eA.f (m:Int) = some ((2 ^ m - 1:Nat):Int):=by
 have:∀ m:Nat,m < 9→eA.f (m:Int) = some ((2 ^ m - 1:Nat):Int):=by decide +kernel
 exact this m (by omega)
theorem fB (m:Nat) (hm:m≤8):cF.f (m:Int) = some ((2 ^ m - 1:Nat):Int):=by
 have:∀ m:Nat,m < 9→cF.f (m:Int) = some ((2 ^ m - 1:Nat):Int):=by decide +kernel
 exact this m (by omega)
theorem foldl_filter (p:Nat→Bool) (q:List Nat):(q.foldl (fun (s:List Int) j=>if p j = true then s ++ [(j:Int)] else s) []) = ints (q.filter p):=by
 rw [cZ.foldl_append,List.nil_append]
 rfl
theorem ni (L:Nat→List Int→Int→Option (List Int)) (n:Nat) (p:Nat→Bool)
  (j:∀ i s,i < n→s.length≤i→∀ r,Ev (fun k=>L k (if p i = true then s ++ [(i:Int)] else s) ((i+1:Nat):Int)) r→Ev (fun k=>L k s (i:Int)) r)
  (hend:∀ k s,L (k+1) s (n:Int) = some s):Ev (fun k=>L k [] 0) (ints ((List.range' 0 n).filter p)):=by
 rw [← foldl_filter]
 refine cZ.fc L n (fun i s=>if p i = true then s ++ [(i:Int)] else s) (fun i s=>s.length≤i) _ (fun i s hi hP=>⟨?_,j i s hi hP _⟩) n 0 [] (by omega) (by simp) (fun _=>cZ.eG 1 (fun k hk=>?_))
 ·show (if _ then _ else _:List Int).length≤_
  split
  ·simp;omega
  ·omega
 ·obtain ⟨q,rfl⟩:∃ q,k = q+1:=⟨k - 1,by omega⟩
  exact hend _ _
theorem pD (m:Nat) (hm:m≤8) (g:Nat→Int→Option Bool) (p:Nat→Bool) (hg:∀ s:Nat,s < 2 ^ m→Ev (fun k=>g k (s:Int)) (p s)) (hmono:∀ k s,ic (g k s) (g (k+1) s)):Ev (fun k=>cA.f k (m:Int) (g k)) (ints ((List.range' 0 (2 ^ m)).filter p)):=by
 have X:=cr hm
 have hpos:0 < 2 ^ m:=Nat.pow_pos (by decide)
 have hup:∀ s:Int,∀ a d r,g a s = some r→g (a+d) s = some r:=by
  intro s a d r h
  induction d with
  | zero=>exact h
  | succ d ih=>exact hmono _ _ _ ih
 have all:∀ n:Nat,n≤2 ^ m→∃ K,∀ k,K≤k→∀ s:Nat,s < n→g k (s:Int) = some (p s):=by
  intro n
  induction n with
  | zero=>exact fun _=>⟨0,fun k _ s hs=>by omega⟩
  | succ n ih =>
   intro hn
   obtain ⟨K,hK⟩:=ih (by omega)
   obtain ⟨K',hK'⟩:=hg n (by omega)
   refine ⟨max K K',fun k hk s hs=>?_⟩
   by_cases e:s = n
   ·subst e
    exact hK' k (by omega)
   ·exact hK k (by omega) s (by omega)
 obtain ⟨K,hK⟩:=all (2 ^ m) (Nat.le_refl _)
 have fixed:∀ j,K≤j→Ev (fun k=>cA.l0 (g j) k (m:Int) [] 0) (ints ((List.range' 0 (2 ^ m)).filter p)):=fun j y=>by
  refine ni (fun k s i=>cA.l0 (g j) k (m:Int) s i) (2 ^ m) p (fun i s hi hs r h=>Ev.step (fun k=>?_) h) (fun k s=>?_)
  ·simp only [cA.l0]
   rw [ia m hm]
   simp only [Option.bind_some]
   rw [if_pos (by omega),hK j y i hi]
   simp only [Option.bind_some]
   rw [cZ.dH i (by omega)]
   cases p i with
   | false=>rfl
   | true=>rw [if_pos rfl,if_pos (by omega),if_pos rfl]
  ·simp only [cA.l0]
   rw [ia m hm]
   simp only [Option.bind_some]
   rw [if_neg (by omega)]
 have count:∀ j,K≤j→∀ (d i:Nat) (s:List Int) (k:Nat),i+d = 2 ^ m→d < k→s.length≤i→cA.l0 (g j) k (m:Int) s (i:Int) = cA.l0 (g K) k (m:Int) s (i:Int)∧∀ e,cA.l0 (g j) (k+e) (m:Int) s (i:Int) = cA.l0 (g j) k (m:Int) s (i:Int):=by
  intro j y d
  induction d with
  | zero =>
   intro i s k hi hk hs
   obtain rfl:i = 2 ^ m:=by omega
   obtain ⟨k,rfl⟩:∃ q,k = q+1:=⟨k - 1,by omega⟩
   refine ⟨?_,fun e=>?_⟩
   ·simp only [cA.l0]
    rw [ia m hm]
    simp only [Option.bind_some]
    rw [if_neg (by omega),if_neg (by omega)]
   ·rw [show k+1+e = (k+e)+1 by omega]
    simp only [cA.l0]
    rw [ia m hm]
    simp only [Option.bind_some]
    rw [if_neg (by omega),if_neg (by omega)]
  | succ d ih =>
   intro i s k hi hk hs
   obtain ⟨k,rfl⟩:∃ q,k = q+1:=⟨k - 1,by omega⟩
   obtain ⟨Y,a2⟩:=ih (i+1) (s ++ [(i:Int)]) k (by omega) (by omega) (by simp;omega)
   obtain ⟨b1,b2⟩:=ih (i+1) s k (by omega) (by omega) (by omega)
   refine ⟨?_,fun e=>?_⟩
   ·simp only [cA.l0]
    rw [ia m hm]
    simp only [Option.bind_some]
    simp only [if_pos (show (i:Int)≤((2 ^ m - 1:Nat):Int) by omega),if_pos (show s.length < 17592186044416 by omega),hK j y i (by omega),hK K (Nat.le_refl _) i (by omega),cZ.dH i (by omega),Option.bind_some,Y,b1]
   ·rw [show k+1+e = (k+e)+1 by omega]
    simp only [cA.l0]
    rw [ia m hm]
    simp only [Option.bind_some]
    simp only [if_pos (show (i:Int)≤((2 ^ m - 1:Nat):Int) by omega),if_pos (show s.length < 17592186044416 by omega),hK j y i (by omega),cZ.dH i (by omega),Option.bind_some,a2,b2]
 obtain ⟨K2,z⟩:=fixed K (Nat.le_refl _)
 refine ⟨max (max K K2) (2 ^ m+1),fun k hk=>?_⟩
 show cA.l0 (g k) k (m:Int) [] ((0:Nat):Int) = _
 rw [(count k (by omega) (2 ^ m) 0 [] k (by omega) (by omega) (by simp)).1]
 exact z k (by omega)
end Go.Proofs.YtmpodackojmojaaGreat.Flat
end
section
namespace Go.Proofs.YtmpodackojmojaaGreat.Count
open Go.RowKit Go.Proofs.YtmpodackojmojaaGreat.Pr Go.Proofs.YtmpodackojmojaaGreat.Sets Go.Proofs.YtmpodackojmojaaGreat.jD Go.Proofs.YtmpodackojmojaaGreat.fH Go.Proofs.YtmpodackojmojaaGreat.Flat Go.Proofs.ag.aX Go.Proofs.ag.bU Go.Proofs.ag.bQ
set_option linter.unusedVariables false
def jL (m:Nat) (r:Int):List Nat:=(List.range' 0 (2 ^ m)).filter fun s=>decide ((cnt s:Int) = r)
theorem kx (m:Nat) (r:Int):(jL m r).length≤2 ^ m:=by
 refine Nat.le_trans (List.length_filter_le _ _) ?_
 rw [List.length_range']
 exact Nat.le_refl _
theorem oE (m:Nat) (hm:m≤8) (r:Int) (h0:0≤r) (h1:r≤m):Ev (fun k=>bV.f k r (m:Int)) ((m:Int),ints (jL m r)):=by
 have y:=cr hm
 have hpos:0 < 2 ^ m:=Nat.pow_pos (by decide)
 have i1:cC.f (m:Int) 0 8 = some true:=by
  unfold cC.f
  rw [if_pos (by omega),decide_eq_true (by omega)]
 have i2:cC.f r 0 (m:Int) = some true:=by
  unfold cC.f
  rw [if_pos (by omega),decide_eq_true (by omega)]
 unfold bV.f
 simp only [i1,i2,Option.bind_some,if_true,Bool.not_true]
 refine Ev.step (f:=fun k=>bV.l0 k r (m:Int) 0 (m:Int) []) (fun k=>?_) ?_
 ·simp only [bV.j0]
  rw [if_neg (by decide)]
 ·have e:ints (jL m r) = (List.range' 0 (2 ^ m)).foldl (fun (s:List Int) j=>if decide ((cnt j:Int) = r) = true then s ++ [(j:Int)] else s) []:=(foldl_filter _ _).symm
  rw [e]
  refine cZ.fc (fun k (s:List Int) i=>bV.l0 k r (m:Int) i (m:Int) s) (2 ^ m) (fun i s=>if decide ((cnt i:Int) = r) = true then s ++ [(i:Int)] else s) (fun i s=>s.length≤i) _ (fun i s hi hP=>⟨?_,fun h=>?_⟩) (2 ^ m) 0 [] (by omega) (by simp) (fun _=>cZ.eG 1 (fun k hk=>?_))
  ·split
   ·simp;omega
   ·omega
  ·refine Ev.step (f:=fun k=>(bC.f k (i:Int)).bind fun t226=>(if t226 = r then (bV.l0 k r (m:Int) ((i+1:Nat):Int) (m:Int) (s ++ [(i:Int)])) else (bV.l0 k r (m:Int) ((i+1:Nat):Int) (m:Int) s))) (fun k=>?_) ?_
   ·simp only [bV.l0]
    rw [fB m hm]
    simp only [Option.bind_some]
    rw [if_pos (by omega),cZ.dH i (by omega)]
    simp only [if_pos (show s.length < 17592186044416 by omega)]
   ·refine Ev.bind (gu i (by omega)) ?_
    by_cases hx:(cnt i:Int) = r
    ·rw [if_pos (decide_eq_true hx)] at h
     simp only [if_pos hx]
     exact h
    ·rw [if_neg (by rw [decide_eq_true_eq];exact hx)] at h
     simp only [if_neg hx]
     exact h
  ·obtain ⟨q,rfl⟩:∃ q,k = q+1:=⟨k - 1,by omega⟩
   simp only [bV.l0]
   rw [fB m hm]
   simp only [Option.bind_some]
   rw [if_neg (by omega)]
end Go.Proofs.YtmpodackojmojaaGreat.Count
end
