/- The claim FnPolynomial: every text that its row comes to, laid together by slim.py (the words of the kit's print, the printed walks, the pure law, the row). -/
import Derived.Test.YtmpodackojmojaaGreatYFnPolynomial4
section
namespace Go.Proofs.YtmpodackojmojaaGreat.Pr
open Go.RowKit Go.Proofs.ag.bl Go.Proofs.ag.cj Go.Proofs.ag.ck
attribute [local go_sem] j5 j6 jG jH iy iz j7 j8
set_option linter.unusedVariables false
set_option linter.unusedSimpArgs false
mutual
def ah.j0:Nat→List (List Int)→List Int→Bool→Int→List Int→Option (Bool)
 | 0,_,_,_,_,_=>none
 | k+1,X,z,b0,j,y=>if b0 = true then (some false) else ((bf.f k j y).bind fun a7=>(if a7 = true then ((dx.f k j y).bind fun a0=>((aZ.f k a0.1 a0.2).bind fun a8=>(ah.l0 k X z a8 0 j y))) else (if (X.length:Int) = 0 then (some ((z.length:Int) == 0)) else (some false))))
def ah.l0:Nat→List (List Int)→List Int→List (List Int)→Int→Int→List Int→Option (Bool)
 | 0,_,_,_,_,_,_=>none
 | k+1,X,z,a3,M,j,y=>if M < (X.length:Int) then (ah.l1 k X z a3 M 0 j y) else (if 0 < (z.length:Int) then (if (rd z 0) = (y.length:Int) then (if 1 < (z.length:Int) then ((b7.f k j y).bind fun a9=>(if (rd z 1) = (a9.length:Int) then (if 3 < (z.length:Int) then ((br.f j).bind fun aa=>(if (rd z 3) = (wrap64 (aa+1)) then (ah.j3 k X z (j == 0) j y) else (ah.j3 k X z true j y))) else (none)) else (ah.j3 k X z true j y))) else (none)) else (ah.j3 k X z true j y)) else (none))
def ah.l1:Nat→List (List Int)→List Int→List (List Int)→Int→Int→Int→List Int→Option (Bool)
 | 0,_,_,_,_,_,_,_=>none
 | k+1,X,z,a3,M,a4,j,y=>if 0≤M then (if M < (X.length:Int) then (if a4 < ((cw X M).length:Int) then (if 0≤a4 then ((ey.f a3 a4 M).bind fun ab=>(if (rd (cw X M) a4) = ab then (ah.l1 k X z a3 M (wrap64 (a4+1)) j y) else (some false))) else (none)) else (ah.l0 k X z a3 (wrap64 (M+1)) j y)) else (none)) else (none)
def ah.j3:Nat→List (List Int)→List Int→Bool→Int→List Int→Option (Bool)
 | 0,_,_,_,_,_=>none
 | k+1,X,z,aS,j,y=>if aS = true then (if 0 < (z.length:Int) then (if (rd z 0) = (y.length:Int) then (if 1 < (z.length:Int) then ((b7.f k j y).bind fun al=>(if (rd z 1) = (al.length:Int) then (if 3 < (z.length:Int) then ((br.f j).bind fun am=>(some ((rd z 3) == (wrap64 (am+1))))) else (none)) else (some false))) else (none)) else (some false)) else (none)) else ((dz.f 0 (wrap64 (j - 1))).bind fun Y=>((en.f k j y Y).bind fun a1=>((aZ.f k a1.1 a1.2).bind fun a5=>((bn.f k j y Y).bind fun a2=>((aZ.f k a2.1 a2.2).bind fun a6=>((da.f k j y).bind fun ao=>((dy.f Y ao).bind fun ap=>(if ap = true then ((aW.f k a5 0 1).bind fun ar=>((bg.f k X ar).bind fun aw=>(some aw))) else ((cG.f k j y).bind fun aB=>((dy.f Y aB).bind fun aF=>(if aF = true then ((aW.f k a6 1 0).bind fun aL=>((bg.f k X aL).bind fun aO=>(some aO))) else ((aU.f k a5 a6).bind fun aP=>((bg.f k X aP).bind fun aR=>(some aR))))))))))))))
end
def ah.f (k:Nat) (l0:List Int):Option (Bool):=(j9.f l0).bind fun a0=>(if a0 = true then (some true) else ((eD.f k l0).bind fun j=>((bC.f k j.1 j.2).bind fun M=>((dB.f k l0).bind fun y=>((e9.f k l0).bind fun Y=>((dR.f k l0).bind fun z=>((eE.f k j.1 j.2).bind fun X=>((aZ.f k j.1 j.2).bind fun a1=>((bB.f k M a1).bind fun a2=>(if a2 = true then ((aT.f k y.1 y.2.1 y.2.2).bind fun a3=>((aQ.f k y.1 y.2.1 y.2.2).bind fun a4=>(if a3 = a4 then ((aU.f k Y.1 Y.2).bind fun a5=>((aJ.f k Y.1 Y.2).bind fun a6=>((bB.f k a5 a6).bind fun a7=>(if a7 = true then ((aW.f k z.1 z.2.1 z.2.2).bind fun a8=>((aI.f k z.1 z.2.1 z.2.2).bind fun a9=>((bB.f k a8 a9).bind fun aa=>(if aa = true then ((dL.f k j.1 j.2).bind fun ab=>((bZ.f k X ab).bind fun al=>(ah.j0 k M X (!al) j.1 j.2))) else (ah.j0 k M X true j.1 j.2))))) else (ah.j0 k M X true j.1 j.2))))) else (ah.j0 k M X true j.1 j.2)))) else (ah.j0 k M X true j.1 j.2)))))))))))
def ah.xk:Bool×List (List Nat×List Nat):=(true,[([],[]),([],[]),([0,1],[0,1]),([2],[2]),([],[]),([3,4],[3,4]),([5],[5]),([],[]),([],[]),([],[]),([7,8,9],[7,8,9]),([6,10],[6,10])])
def ah.xz:List Nat:=[0,0,3,7,0,31,63,0,0,0,896,2047]
theorem ah.wv:gr .any (opsOf Tryz.f5 20) = ah.xk:=by kernel_rfl
theorem ah.vz:eL ah.xk.2 ah.xz = true:=by kernel_rfl
def ah.xl:Bool×List (List Nat×List Nat):=(true,[([],[]),([0],[0]),([1],[1]),([],[]),([3],[3]),([4],[4]),([2,5],[2,5]),([6],[6]),([7],[7]),([8,7],[7,8]),([9,7],[7,9]),([7],[7]),([11,7,7],[7,11]),([12,7],[7,12]),([10,13,7],[7,10,13]),([7,14],[7,14]),([15,12],[15]),([16],[16]),([17,16],[16,17]),([18,16],[16,18]),([16],[16]),([20,16],[16,20]),([21,16,16],[16,21]),([22,16],[16,22]),([19,23,16],[16,19,23]),([16,24],[16,24]),([25,22],[25]),([26],[26]),([27,26],[26,27]),([28,26],[26,28]),([26,29],[26,29])])
def ah.xA:List Nat:=[0,1,3,0,8,24,63,127,255,511,1023,255,2303,6399,16383,32767,65535,131071,262143,524287,131071,1179647,3276799,7471103,16777215,33554431,67108863,134217727,268435455,536870911,1073741823]
theorem ah.qy:gr .any (opsOf Tryz.f5 22) = ah.xl:=by kernel_rfl
theorem ah.o7:eL ah.xl.2 ah.xA = true:=by kernel_rfl
def ah.xm:Bool×List (List Nat×List Nat):=(true,[([],[]),([0],[0]),([1],[1]),([],[]),([3],[3]),([4],[4]),([2,5],[2,5]),([6],[6]),([7],[7]),([8,7],[7,8]),([9,7],[7,9]),([7],[7]),([11,7,7],[7,11]),([12,7],[7,12]),([10,13,7],[7,10,13]),([7,14],[7,14]),([15,12],[15]),([16],[16]),([17,16],[16,17]),([18,16],[16,18]),([16],[16]),([20,16],[16,20]),([21,16,16],[16,21]),([22,16],[16,22]),([19,23,16],[16,19,23]),([16,24],[16,24]),([25,22,0,1,2,3,4,5,6,7,8,9,10,11,12,13,14,15,16,17,18,19,20,21,22,23,24,25],[25])])
def ah.xB:List Nat:=[0,1,3,0,8,24,63,127,255,511,1023,255,2303,6399,16383,32767,65535,131071,262143,524287,131071,1179647,3276799,7471103,16777215,33554431,67108863]
theorem ah.wz:gr .any (opsOf Tryz.f5 23) = ah.xm:=by kernel_rfl
theorem ah.vA:eL ah.xm.2 ah.xB = true:=by kernel_rfl
set_option maxHeartbeats 8000000 in
set_option maxRecDepth 100000 in
theorem ah.calls (k:Nat) (A0:Option Addr) (c0:Nat) (l0:List Int) (r:Bool) (w:World) (vb:Kd.C (Kd.int .u8) w A0 l0.length l0) (vc:l0.length≤c0) (hT:ae (r = true)) (h:ah.f k l0 = some r) :
  Calls Tryz.prog 5 #[.slice A0 l0.length c0] w fun e w'=>e = .returned (.bool r)∧Below w.heap.size w w':=by
 have zQ:=Tryz.underlying30
 have i7:=ae.mk vb
 have i8:=ae.mk vc
 clear vb vc
 have HB:=ae.mk (Below.refl w.heap.size w)
 unfold ah.f at h
 have H:=h
 clear h
 obtain ⟨on,A2,H⟩:=af.be H
 (try dsimp only at H)
 by_cases c3:on = true
 ·subst c3
  replace H:(some true) = some r:=by rw [if_pos rfl] at H;exact H
  obtain rfl:=Option.some.inj H
  go_enter Tryz.func5,Tryz.ntmps5
  go_wp2_with (first | ((with_reducible refine ax (f:=6) rfl ?_);refine af.gl (some 21) Tryz.func6 #[.slice A0 l0.length c0] ?_;(with_reducible refine (j9.calls _ _ l0 true _ ?side1 ?side2 A2.out).mono ?_);(case side1=>exact af.Cw i7.out);(case side2=>exact i8.out);rintro e w' ⟨rfl,⟨nd,rfl⟩⟩;refine ⟨_,rfl,?_⟩))
  go_ret
  exact ⟨af.E,af.L⟩
 ·replace c3:=Bool.eq_false_iff.mpr c3
  subst c3
  replace H:((eD.f k l0).bind fun b4=>((bC.f k b4.1 b4.2).bind fun a8=>((dB.f k l0).bind fun ef=>((e9.f k l0).bind fun fj=>((dR.f k l0).bind fun eg=>((eE.f k b4.1 b4.2).bind fun a1=>((aZ.f k b4.1 b4.2).bind fun bd=>((bB.f k a8 bd).bind fun hA=>(if hA = true then ((aT.f k ef.1 ef.2.1 ef.2.2).bind fun ce=>((aQ.f k ef.1 ef.2.1 ef.2.2).bind fun cf=>(if ce = cf then ((aU.f k fj.1 fj.2).bind fun d4=>((aJ.f k fj.1 fj.2).bind fun d5=>((bB.f k d4 d5).bind fun fl=>(if fl = true then ((aW.f k eg.1 eg.2.1 eg.2.2).bind fun d6=>((aI.f k eg.1 eg.2.1 eg.2.2).bind fun d7=>((bB.f k d6 d7).bind fun et=>(if et = true then ((dL.f k b4.1 b4.2).bind fun d8=>((bZ.f k a1 d8).bind fun d9=>(ah.j0 k a8 a1 (!d9) b4.1 b4.2))) else (ah.j0 k a8 a1 true b4.1 b4.2))))) else (ah.j0 k a8 a1 true b4.1 b4.2))))) else (ah.j0 k a8 a1 true b4.1 b4.2)))) else (ah.j0 k a8 a1 true b4.1 b4.2)))))))))) = some r:=by rw [if_neg (show ¬ (false = true) by decide)] at H;exact H
  obtain ⟨⟨a0,X⟩,A4,H⟩:=af.be H
  (try dsimp only at H)
  obtain ⟨a8,A5,H⟩:=af.be H
  (try dsimp only at H)
  obtain ⟨⟨cX,cY,d0⟩,A6,H⟩:=af.be H
  (try dsimp only at H)
  obtain ⟨⟨dl,dp⟩,A7,H⟩:=af.be H
  (try dsimp only at H)
  obtain ⟨⟨dq,dt,du⟩,A8,H⟩:=af.be H
  (try dsimp only at H)
  obtain ⟨a1,A9,H⟩:=af.be H
  (try dsimp only at H)
  have ih:=ae.mk H
  clear H
  go_enter Tryz.func5,Tryz.ntmps5
  go_upto_region 9 with (first | ((with_reducible refine ax (f:=6) rfl ?_);refine af.gl (some 21) Tryz.func6 #[.slice A0 l0.length c0] ?_;(with_reducible refine (j9.calls _ _ l0 false _ ?side1 ?side2 A2.out).mono ?_);(case side1=>exact af.Cw i7.out);(case side2=>exact i8.out);rintro e w' ⟨rfl,⟨nd,rfl⟩⟩;refine ⟨_,rfl,?_⟩) | ((with_reducible refine ax (f:=50) rfl ?_);refine af.gl (some 23) Tryz.func50 #[.slice A0 l0.length c0] ?_;(with_reducible refine (eD.calls k _ _ l0 a0 X _ ?side1 ?side2 A4.out).mono ?_);(case side1=>exact af.Cw i7.out);(case side2=>exact i8.out);rintro e Bp ⟨z9,rfl,z,hb⟩;refine ⟨_,rfl,?_⟩;have Y:=ae.mk (Kd.b9 z (aj (af.Lw HB.out)));replace HB:=af.lb HB hb;(try clear hb);(try clear b3);(try clear hk);(try clear hi);(try clear z)) | ((with_reducible refine bJ (N:=3) rfl ?_);(try (refine eT (by rfl) ?_;dsimp only));refine fb ?hg (N:=3) ?hd (cs:=#[.int .i64 0,.slice none 0 0]) (t:=30) ?hr ?_;(case hd=>rfl);(case hg=>rfl);(case hr=>first | (go_simp;done) | (go_simp;rfl));intro b2 hg Bq hbox hb;replace Y:=af.rb Y hb;have y:=ae.mk hbox;have yO:=af.gw hg HB;have yP:=af.gw hg HB;replace HB:=af.lb HB hb;clear hb hbox hg;obtain ⟨vd,ve,vf,vg⟩:=af.bR y.out;obtain ⟨aB,aw,vh⟩:=Kd.aY Y.out;subst vh) | ((with_reducible refine ax (f:=51) rfl ?_);refine af.gl (some 25) Tryz.func51 #[.agg #[.int .i64 a0,.slice aB X.length aw]] ?_;(with_reducible refine (bC.calls k a0 _ _ X a8 _ ?side1 ?side2 A5.out).mono ?_);(case side1=>refine (Kd.au (e:=3) (base:=w.heap.size) (ok:=fun k_=>True) (n:=X.length) (c:=aw) ?_).2.2;exact (af.Rw ((Kd.aX (Kd.cI (p:=⟨b2,1,none⟩) (Kd.cI (p:=⟨b2,0,none⟩) (Kd.cR Y.out y.out (by decide)) (fun _ hk=>hk.2) (.int .i64 a0)) (fun _ hk=>hk.2) (.slice aB X.length aw)) (fun _ h_=>h_.1)))));(case side2=>exact (Kd.au Y.out).2.1);rintro e Br ⟨hC,rfl,z,hb⟩;refine ⟨_,rfl,?_⟩;have a2:=ae.mk (Kd.cT (Kd.aG z (Kd.cD (af.Rw ((Kd.aX (Kd.cI (p:=⟨b2,1,none⟩) (Kd.cI (p:=⟨b2,0,none⟩) (Kd.cR Y.out y.out (by decide)) (fun _ hk=>hk.2) (.int .i64 a0)) (fun _ hk=>hk.2) (.slice aB X.length aw)) (fun _ h_=>h_.1)))))) (aj af.L));replace Y:=ae.mk (Kd.ga (af.Rw ((Kd.aX (Kd.cI (p:=⟨b2,1,none⟩) (Kd.cI (p:=⟨b2,0,none⟩) (Kd.cR Y.out y.out (by decide)) (fun _ hk=>hk.2) (.int .i64 a0)) (fun _ hk=>hk.2) (.slice aB X.length aw)) (fun _ h_=>h_.1)))) hb);replace y:=ae.mk (bQ (g:=b2) (o:=.cells #[.int .i64 a0,.slice aB X.length aw] 30 (0,0)) af.B hb);replace HB:=ae.mk (az af.L hb);(try clear hb);(try clear b3);(try clear hk);(try clear hi);(try clear z)) | ((with_reducible refine ax (f:=52) rfl ?_);refine af.gl (some 28) Tryz.func52 #[.slice A0 l0.length c0] ?_;(with_reducible refine (dB.calls k _ _ l0 cX cY d0 _ ?side1 ?side2 A6.out).mono ?_);(case side1=>exact af.Cw (Kd.bG i7.out HB.out));(case side2=>exact i8.out);rintro e Bs ⟨za,rfl,z,hb⟩;refine ⟨_,rfl,?_⟩;have a3:=ae.mk (Kd.cT (Kd.aG (Kd.aG z (Kd.cD (af.Rw Y.out))) (Kd.cF (af.Sw a2.out))) (aj af.L));replace Y:=af.rb Y hb;replace a2:=ae.mk (Kd.aA (af.Sw a2.out) (Kd.bh z) hb);replace y:=af.bb y hb;replace HB:=ae.mk (az af.L hb);(try clear hb);(try clear b3);(try clear hk);(try clear hi);(try clear z)) | ((with_reducible refine ax (f:=53) rfl ?_);refine af.gl (some 34) Tryz.func53 #[.slice A0 l0.length c0] ?_;(with_reducible refine (e9.calls k _ _ l0 dl dp _ ?side1 ?side2 A7.out).mono ?_);(case side1=>exact af.Cw (Kd.bG i7.out HB.out));(case side2=>exact i8.out);rintro e Bt ⟨zb,zc,rfl,z,lo,hb⟩;refine ⟨_,rfl,?_⟩;have a6:=ae.mk (Kd.cT (Kd.aG (Kd.aG (Kd.aG z (Kd.cD (af.Rw Y.out))) (Kd.cF (af.Sw a2.out))) (Kd.cF (af.Sw a3.out))) (aj af.L));have a7:=ae.mk (Kd.cT (Kd.aG (Kd.aG (Kd.aG lo (Kd.cD (af.Rw Y.out))) (Kd.cF (af.Sw a2.out))) (Kd.cF (af.Sw a3.out))) (aj af.L));replace Y:=af.rb Y hb;replace a2:=ae.mk (Kd.dh (Kd.lG (Kd.lG (Kd.uE (af.Sw a2.out) hb) (Kd.bh z)) (Kd.bh lo)) (fun _ h_=>h_.1));replace a3:=ae.mk (Kd.dh (Kd.lG (Kd.lG (Kd.uE (af.Sw a3.out) hb) (Kd.bh z)) (Kd.bh lo)) (fun _ h_=>h_.1));replace y:=af.bb y hb;replace HB:=ae.mk (az af.L hb);(try clear hb);(try clear b3);(try clear hk);(try clear hi);(try clear z);(try clear lo)) | ((with_reducible refine ax (f:=54) rfl ?_);refine af.gl (some 39) Tryz.func54 #[.slice A0 l0.length c0] ?_;(with_reducible refine (dR.calls k _ _ l0 dq dt du _ ?side1 ?side2 A8.out).mono ?_);(case side1=>exact af.Cw (Kd.bG i7.out HB.out));(case side2=>exact i8.out);rintro e Bu ⟨zd,rfl,z,hb⟩;refine ⟨_,rfl,?_⟩;have a9:=ae.mk (Kd.cT (Kd.aG (Kd.aG (Kd.aG (Kd.aG (Kd.aG z (Kd.cD (af.Rw Y.out))) (Kd.cF (af.Sw a2.out))) (Kd.cF (af.Sw a3.out))) (Kd.cF (af.Sw a6.out))) (Kd.cF (af.Sw a7.out))) (aj af.L));replace Y:=af.rb Y hb;replace a2:=ae.mk (Kd.aA (af.Sw a2.out) (Kd.bh z) hb);replace a3:=ae.mk (Kd.aA (af.Sw a3.out) (Kd.bh z) hb);replace a6:=ae.mk (Kd.aA (af.Sw a6.out) (Kd.bh z) hb);replace a7:=ae.mk (Kd.aA (af.Sw a7.out) (Kd.bh z) hb);replace y:=af.bb y hb;replace HB:=ae.mk (az af.L hb);(try clear hb);(try clear b3);(try clear hk);(try clear hi);(try clear z);obtain ⟨vi,vj,w0,w2⟩:=af.bR y.out) | ((with_reducible refine ax (f:=55) rfl ?_);refine af.gl (some 44) Tryz.func55 #[.agg #[.int .i64 a0,.slice aB X.length aw]] ?_;(with_reducible refine (eE.calls k a0 _ _ X a1 _ ?side1 ?side2 A9.out).mono ?_);(case side1=>exact af.Cw ((Kd.au Y.out).2.2));(case side2=>exact (Kd.au Y.out).2.1);rintro e Bv ⟨ca,rfl,z,hb⟩;refine ⟨_,rfl,?_⟩;replace a2:=ae.mk (Kd.aA (af.Sw a2.out) (Kd.bF z) hb);replace a3:=ae.mk (Kd.aA (af.Sw a3.out) (Kd.bF z) hb);replace a6:=ae.mk (Kd.aA (af.Sw a6.out) (Kd.bF z) hb);replace a7:=ae.mk (Kd.aA (af.Sw a7.out) (Kd.bF z) hb);replace a9:=ae.mk (Kd.aA (af.Sw a9.out) (Kd.bF z) hb);have ab:=ae.mk (Kd.b9 (Kd.dc z (Kd.cD (af.Rw Y.out))) (aj af.L));replace Y:=ae.mk (Kd.cm (af.Rw Y.out) (Kd.bF z) hb);replace y:=af.bb y hb;replace HB:=ae.mk (az af.L hb);(try clear hb);(try clear b3);(try clear hk);(try clear hi);(try clear z)))
  (try simp only [Act.put,List.setIfInBounds_toArray,List.set_cons_zero,List.set_cons_succ])
  go_cut [89] (fun ze wc=>∃ (kq:Nat) (go:Bool),ze = .bool go∧ae (ah.j0 kq a8 a1 go a0 X = some r)∧ae (kq≤k)∧ae (Kd.S (Kd.slice 3 (Kd.int .i64)) 28 wc w.heap.size (fun k_=>some k_≠(ca:Value).ownBlock∧some k_≠((.slice aB X.length aw):Value).ownBlock) hC a8)∧ae (Kd.R (Kd.int .i64) 3 wc w.heap.size (fun k_=>some k_≠((.slice aB X.length aw):Value).ownBlock) ca a1)∧ae (Kd.R (Kd.int .i64) 3 wc w.heap.size (fun k_=>some k_≠(ca:Value).ownBlock) (.slice aB X.length aw) X)∧ae (wc.heap[b2]? = some (.cells #[.int .i64 a0,(.slice aB X.length aw)] 30 (0,0)))∧ae (Below w.heap.size w wc))
  case first=>as_aux_lemma =>
   have H:=ih.out
   clear ih
   obtain ⟨bd,ii,H⟩:=af.be H
   (try dsimp only at H)
   obtain ⟨hA,il,H⟩:=af.be H
   (try dsimp only at H)
   by_cases lr:hA = true
   ·subst lr
    replace H:((aT.f k cX cY d0).bind fun ce=>((aQ.f k cX cY d0).bind fun cf=>(if ce = cf then ((aU.f k dl dp).bind fun d4=>((aJ.f k dl dp).bind fun d5=>((bB.f k d4 d5).bind fun fl=>(if fl = true then ((aW.f k dq dt du).bind fun d6=>((aI.f k dq dt du).bind fun d7=>((bB.f k d6 d7).bind fun et=>(if et = true then ((dL.f k a0 X).bind fun d8=>((bZ.f k a1 d8).bind fun d9=>(ah.j0 k a8 a1 (!d9) a0 X))) else (ah.j0 k a8 a1 true a0 X))))) else (ah.j0 k a8 a1 true a0 X))))) else (ah.j0 k a8 a1 true a0 X)))) = some r:=by rw [if_pos rfl] at H;exact H
    obtain ⟨ce,ls,H⟩:=af.be H
    (try dsimp only at H)
    obtain ⟨cf,lv,H⟩:=af.be H
    (try dsimp only at H)
    by_cases hD:ce = cf
    ·rw [if_pos hD] at H
     have fp:(ce == cf) = true:=beq_iff_eq.mpr hD
     have os:(ce != cf) = false:=bne_eq_false_iff_eq.mpr hD
     clear hD
     (first | rw [fp] | (simp only [bw,bW];rw [fp]) | skip)
     obtain ⟨d4,oX,H⟩:=af.be H
     (try dsimp only at H)
     obtain ⟨d5,oY,H⟩:=af.be H
     (try dsimp only at H)
     obtain ⟨fl,p0,H⟩:=af.be H
     (try dsimp only at H)
     by_cases lw:fl = true
     ·subst lw
      replace H:((aW.f k dq dt du).bind fun d6=>((aI.f k dq dt du).bind fun d7=>((bB.f k d6 d7).bind fun et=>(if et = true then ((dL.f k a0 X).bind fun d8=>((bZ.f k a1 d8).bind fun d9=>(ah.j0 k a8 a1 (!d9) a0 X))) else (ah.j0 k a8 a1 true a0 X))))) = some r:=by rw [if_pos rfl] at H;exact H
      obtain ⟨d6,w3,H⟩:=af.be H
      (try dsimp only at H)
      obtain ⟨d7,w4,H⟩:=af.be H
      (try dsimp only at H)
      obtain ⟨et,w5,H⟩:=af.be H
      (try dsimp only at H)
      by_cases lx:et = true
      ·subst lx
       replace H:((dL.f k a0 X).bind fun d8=>((bZ.f k a1 d8).bind fun d9=>(ah.j0 k a8 a1 (!d9) a0 X))) = some r:=by rw [if_pos rfl] at H;exact H
       obtain ⟨d8,zf,H⟩:=af.be H
       (try dsimp only at H)
       obtain ⟨d9,zg,H⟩:=af.be H
       (try dsimp only at H)
       have H':=ae.mk H
       clear H
       obtain ⟨w6,w7,w8,w9⟩:=af.bR y.out
       go_wp2_with (first | ((with_reducible refine ax (f:=48) rfl ?_);refine af.gl (some 47) Tryz.func48 #[.agg #[.int .i64 a0,.slice aB X.length aw]] ?_;(with_reducible refine (aZ.calls k a0 _ _ X bd _ ?side1 ?side2 ii.out).mono ?_);(case side1=>exact af.Cw ((Kd.au Y.out).2.2));(case side2=>exact (Kd.au Y.out).2.1);rintro e Bx ⟨gs,rfl,z,hb⟩;refine ⟨_,rfl,?_⟩;have al:=ae.mk (Kd.cT (Kd.aG (Kd.aG (Kd.aG (Kd.aG (Kd.aG (Kd.aG (Kd.aG z (Kd.cD (af.Rw Y.out))) (Kd.cF (af.Sw a2.out))) (Kd.cF (af.Sw a3.out))) (Kd.cF (af.Sw a6.out))) (Kd.cF (af.Sw a7.out))) (Kd.cF (af.Sw a9.out))) (Kd.cD (af.Rw ab.out))) (aj af.L));replace Y:=af.rb Y hb;replace a2:=ae.mk (Kd.aA (af.Sw a2.out) (Kd.bh z) hb);replace a3:=ae.mk (Kd.aA (af.Sw a3.out) (Kd.bh z) hb);replace a6:=ae.mk (Kd.aA (af.Sw a6.out) (Kd.bh z) hb);replace a7:=ae.mk (Kd.aA (af.Sw a7.out) (Kd.bh z) hb);replace a9:=ae.mk (Kd.aA (af.Sw a9.out) (Kd.bh z) hb);replace ab:=af.rb ab hb;replace y:=af.bb y hb;replace HB:=ae.mk (az af.L hb);(try clear hb);(try clear b3);(try clear hk);(try clear hi);(try clear z);obtain ⟨wa,wb,wd⟩:=Kd.cP a2.out;subst wd;obtain ⟨wf,wi,wl⟩:=Kd.cP al.out;subst wl) | ((with_reducible refine ax (f:=56) rfl ?_);refine af.gl (some 48) Tryz.func56 #[.slice wa a8.length wb,.slice wf bd.length wi] ?_;(with_reducible refine (bB.calls k _ _ a8 _ _ bd true _ ?side1 ?side2 ?side3 ?side4 il.out).mono ?_);(case side1=>exact af.Cw ((Kd.aE a2.out).2.2));(case side2=>exact (Kd.aE a2.out).2.1);(case side3=>exact af.Cw ((Kd.aE al.out).2.2));(case side4=>exact (Kd.aE al.out).2.1);rintro e w' ⟨rfl,⟨nd,rfl⟩⟩;refine ⟨_,rfl,?_⟩;obtain ⟨zR,zS,wn⟩:=Kd.cP a3.out;subst wn) | (go_at_call 57;(with_reducible refine (aT.calls k _ _ cX cY d0 ce _ ?side1 ?side2 ls.out).mono ?_);(case side1=>exact af.Cw ((Kd.aE a3.out).2.2));(case side2=>exact (Kd.aE a3.out).2.1);rintro e w' ⟨rfl,⟨nd,rfl⟩⟩) | (go_at_call 49;(with_reducible refine (aQ.calls k _ _ cX cY d0 cf _ ?side1 ?side2 lv.out).mono ?_);(case side1=>exact af.Cw ((Kd.aE a3.out).2.2));(case side2=>exact (Kd.aE a3.out).2.1);rintro e w' ⟨rfl,⟨nd,rfl⟩⟩;obtain ⟨zT,zU,ws⟩:=Kd.cP a6.out;subst ws;obtain ⟨zV,zW,wt⟩:=Kd.cP a7.out;subst wt) | (go_at_call 58;(with_reducible refine (aU.calls k _ _ dl _ _ dp d4 _ ?side1 ?side2 ?side3 ?side4 oX.out).mono ?_);(case side1=>exact af.Cw ((Kd.aE a6.out).2.2));(case side2=>exact (Kd.aE a6.out).2.1);(case side3=>exact af.Cw ((Kd.aE a7.out).2.2));(case side4=>exact (Kd.aE a7.out).2.1);rintro e By ⟨im,rfl,z,hb⟩;have ar:=ae.mk (Kd.cT (Kd.aG (Kd.aG (Kd.aG (Kd.aG (Kd.aG (Kd.aG (Kd.aG (Kd.aG z (Kd.cD (af.Rw Y.out))) (Kd.cF (af.Sw a2.out))) (Kd.cF (af.Sw a3.out))) (Kd.cF (af.Sw a6.out))) (Kd.cF (af.Sw a7.out))) (Kd.cF (af.Sw a9.out))) (Kd.cD (af.Rw ab.out))) (Kd.cF (af.Sw al.out))) (aj af.L));replace Y:=af.rb Y hb;replace a2:=ae.mk (Kd.aA (af.Sw a2.out) (Kd.bh z) hb);replace a3:=ae.mk (Kd.aA (af.Sw a3.out) (Kd.bh z) hb);replace a6:=ae.mk (Kd.aA (af.Sw a6.out) (Kd.bh z) hb);replace a7:=ae.mk (Kd.aA (af.Sw a7.out) (Kd.bh z) hb);replace a9:=ae.mk (Kd.aA (af.Sw a9.out) (Kd.bh z) hb);replace ab:=af.rb ab hb;replace al:=ae.mk (Kd.aA (af.Sw al.out) (Kd.bh z) hb);replace y:=af.bb y hb;replace HB:=ae.mk (az af.L hb);(try clear hb);(try clear b3);(try clear hk);(try clear hi);(try clear z)) | (go_at_call 59;(with_reducible refine (aJ.calls k _ _ dl _ _ dp d5 _ ?side1 ?side2 ?side3 ?side4 oY.out).mono ?_);(case side1=>exact af.Cw ((Kd.aE a6.out).2.2));(case side2=>exact (Kd.aE a6.out).2.1);(case side3=>exact af.Cw ((Kd.aE a7.out).2.2));(case side4=>exact (Kd.aE a7.out).2.1);rintro e Bz ⟨io,rfl,z,hb⟩;have aP:=ae.mk (Kd.cT (Kd.aG (Kd.aG (Kd.aG (Kd.aG (Kd.aG (Kd.aG (Kd.aG (Kd.aG (Kd.aG z (Kd.cD (af.Rw Y.out))) (Kd.cF (af.Sw a2.out))) (Kd.cF (af.Sw a3.out))) (Kd.cF (af.Sw a6.out))) (Kd.cF (af.Sw a7.out))) (Kd.cF (af.Sw a9.out))) (Kd.cD (af.Rw ab.out))) (Kd.cF (af.Sw al.out))) (Kd.cF (af.Sw ar.out))) (aj af.L));replace Y:=af.rb Y hb;replace a2:=ae.mk (Kd.aA (af.Sw a2.out) (Kd.bh z) hb);replace a3:=ae.mk (Kd.aA (af.Sw a3.out) (Kd.bh z) hb);replace a6:=ae.mk (Kd.aA (af.Sw a6.out) (Kd.bh z) hb);replace a7:=ae.mk (Kd.aA (af.Sw a7.out) (Kd.bh z) hb);replace a9:=ae.mk (Kd.aA (af.Sw a9.out) (Kd.bh z) hb);replace ab:=af.rb ab hb;replace al:=ae.mk (Kd.aA (af.Sw al.out) (Kd.bh z) hb);replace ar:=ae.mk (Kd.aA (af.Sw ar.out) (Kd.bh z) hb);replace y:=af.bb y hb;replace HB:=ae.mk (az af.L hb);(try clear hb);(try clear b3);(try clear hk);(try clear hi);(try clear z);obtain ⟨zX,zY,ww⟩:=Kd.cP ar.out;subst ww;obtain ⟨zZ,A1,wx⟩:=Kd.cP aP.out;subst wx) | (go_at_call 56;(with_reducible refine (bB.calls k _ _ d4 _ _ d5 true _ ?side1 ?side2 ?side3 ?side4 p0.out).mono ?_);(case side1=>exact af.Cw ((Kd.aE ar.out).2.2));(case side2=>exact (Kd.aE ar.out).2.1);(case side3=>exact af.Cw ((Kd.aE aP.out).2.2));(case side4=>exact (Kd.aE aP.out).2.1);rintro e w' ⟨rfl,⟨nd,rfl⟩⟩;obtain ⟨A3,Aa,wy⟩:=Kd.cP a9.out;subst wy) | (go_at_call 60;(with_reducible refine (aW.calls k _ _ dq dt du d6 _ ?side1 ?side2 w3.out).mono ?_);(case side1=>exact af.Cw ((Kd.aE a9.out).2.2));(case side2=>exact (Kd.aE a9.out).2.1);rintro e BA ⟨p1,rfl,z,hb⟩;have bc:=ae.mk (Kd.cT (Kd.aG (Kd.aG (Kd.aG (Kd.aG (Kd.aG (Kd.aG (Kd.aG (Kd.aG (Kd.aG (Kd.aG z (Kd.cD (af.Rw Y.out))) (Kd.cF (af.Sw a2.out))) (Kd.cF (af.Sw a3.out))) (Kd.cF (af.Sw a6.out))) (Kd.cF (af.Sw a7.out))) (Kd.cF (af.Sw a9.out))) (Kd.cD (af.Rw ab.out))) (Kd.cF (af.Sw al.out))) (Kd.cF (af.Sw ar.out))) (Kd.cF (af.Sw aP.out))) (aj af.L));replace Y:=af.rb Y hb;replace a2:=ae.mk (Kd.aA (af.Sw a2.out) (Kd.bh z) hb);replace a3:=ae.mk (Kd.aA (af.Sw a3.out) (Kd.bh z) hb);replace a6:=ae.mk (Kd.aA (af.Sw a6.out) (Kd.bh z) hb);replace a7:=ae.mk (Kd.aA (af.Sw a7.out) (Kd.bh z) hb);replace a9:=ae.mk (Kd.aA (af.Sw a9.out) (Kd.bh z) hb);replace ab:=af.rb ab hb;replace al:=ae.mk (Kd.aA (af.Sw al.out) (Kd.bh z) hb);replace ar:=ae.mk (Kd.aA (af.Sw ar.out) (Kd.bh z) hb);replace aP:=ae.mk (Kd.aA (af.Sw aP.out) (Kd.bh z) hb);replace y:=af.bb y hb;replace HB:=ae.mk (az af.L hb);(try clear hb);(try clear b3);(try clear hk);(try clear hi);(try clear z)) | (go_at_call 61;(with_reducible refine (aI.calls k _ _ dq dt du d7 _ ?side1 ?side2 w4.out).mono ?_);(case side1=>exact af.Cw ((Kd.aE a9.out).2.2));(case side2=>exact (Kd.aE a9.out).2.1);rintro e BB ⟨p2,rfl,z,hb⟩;have cy:=ae.mk (Kd.cT (Kd.aG (Kd.aG (Kd.aG (Kd.aG (Kd.aG (Kd.aG (Kd.aG (Kd.aG (Kd.aG (Kd.aG (Kd.aG z (Kd.cD (af.Rw Y.out))) (Kd.cF (af.Sw a2.out))) (Kd.cF (af.Sw a3.out))) (Kd.cF (af.Sw a6.out))) (Kd.cF (af.Sw a7.out))) (Kd.cF (af.Sw a9.out))) (Kd.cD (af.Rw ab.out))) (Kd.cF (af.Sw al.out))) (Kd.cF (af.Sw ar.out))) (Kd.cF (af.Sw aP.out))) (Kd.cF (af.Sw bc.out))) (aj af.L));replace Y:=af.rb Y hb;replace a2:=ae.mk (Kd.aA (af.Sw a2.out) (Kd.bh z) hb);replace a3:=ae.mk (Kd.aA (af.Sw a3.out) (Kd.bh z) hb);replace a6:=ae.mk (Kd.aA (af.Sw a6.out) (Kd.bh z) hb);replace a7:=ae.mk (Kd.aA (af.Sw a7.out) (Kd.bh z) hb);replace a9:=ae.mk (Kd.aA (af.Sw a9.out) (Kd.bh z) hb);replace ab:=af.rb ab hb;replace al:=ae.mk (Kd.aA (af.Sw al.out) (Kd.bh z) hb);replace ar:=ae.mk (Kd.aA (af.Sw ar.out) (Kd.bh z) hb);replace aP:=ae.mk (Kd.aA (af.Sw aP.out) (Kd.bh z) hb);replace bc:=ae.mk (Kd.aA (af.Sw bc.out) (Kd.bh z) hb);replace y:=af.bb y hb;replace HB:=ae.mk (az af.L hb);(try clear hb);(try clear b3);(try clear hk);(try clear hi);(try clear z);obtain ⟨Ab,Ac,x0⟩:=Kd.cP bc.out;subst x0;obtain ⟨Ad,Ae,x1⟩:=Kd.cP cy.out;subst x1) | (go_at_call 56;(with_reducible refine (bB.calls k _ _ d6 _ _ d7 true _ ?side1 ?side2 ?side3 ?side4 w5.out).mono ?_);(case side1=>exact af.Cw ((Kd.aE bc.out).2.2));(case side2=>exact (Kd.aE bc.out).2.1);(case side3=>exact af.Cw ((Kd.aE cy.out).2.2));(case side4=>exact (Kd.aE cy.out).2.1);rintro e w' ⟨rfl,⟨nd,rfl⟩⟩;obtain ⟨x2,x3,x4,x5⟩:=af.bR y.out) | (go_at_call 62;(with_reducible refine (dL.calls k a0 _ _ X d8 _ ?side1 ?side2 zf.out).mono ?_);(case side1=>exact af.Cw ((Kd.au Y.out).2.2));(case side2=>exact (Kd.au Y.out).2.1);rintro e BC ⟨zh,rfl,z,hb⟩;replace a2:=ae.mk (Kd.aA (af.Sw a2.out) (Kd.bF z) hb);replace a3:=ae.mk (Kd.aA (af.Sw a3.out) (Kd.bF z) hb);replace a6:=ae.mk (Kd.aA (af.Sw a6.out) (Kd.bF z) hb);replace a7:=ae.mk (Kd.aA (af.Sw a7.out) (Kd.bF z) hb);replace a9:=ae.mk (Kd.aA (af.Sw a9.out) (Kd.bF z) hb);replace al:=ae.mk (Kd.aA (af.Sw al.out) (Kd.bF z) hb);replace ar:=ae.mk (Kd.aA (af.Sw ar.out) (Kd.bF z) hb);replace aP:=ae.mk (Kd.aA (af.Sw aP.out) (Kd.bF z) hb);replace bc:=ae.mk (Kd.aA (af.Sw bc.out) (Kd.bF z) hb);replace cy:=ae.mk (Kd.aA (af.Sw cy.out) (Kd.bF z) hb);have gt:=ae.mk (Kd.b9 (Kd.dc (Kd.dc z (Kd.cD (af.Rw Y.out))) (Kd.cD (af.Rw ab.out))) (aj af.L));replace Y:=ae.mk (Kd.cm (af.Rw Y.out) (Kd.bF z) hb);replace ab:=ae.mk (Kd.cm (af.Rw ab.out) (Kd.bF z) hb);replace y:=af.bb y hb;replace HB:=ae.mk (az af.L hb);(try clear hb);(try clear b3);(try clear hk);(try clear hi);(try clear z);obtain ⟨Af,Ag,x6⟩:=Kd.aY ab.out;subst x6;obtain ⟨Ah,Ai,x7⟩:=Kd.aY gt.out;subst x7) | (go_at_call 17;(with_reducible refine (bZ.calls k _ _ a1 _ _ d8 d9 _ ?side1 ?side2 ?side3 ?side4 zg.out).mono ?_);(case side1=>exact af.Cw ((Kd.au ab.out).2.2));(case side2=>exact (Kd.au ab.out).2.1);(case side3=>exact af.Cw ((Kd.au gt.out).2.2));(case side4=>exact (Kd.au gt.out).2.1);rintro e w' ⟨rfl,⟨nd,rfl⟩⟩))
       go_meet
       case rel=>exact ⟨_,(!d9),af.F,H',⟨by first | omega | exact Nat.le_refl _⟩,⟨af.Sw (Kd.dh a2.out (fun _ hk=>(by first | exact ⟨hk.1.1.1.1.1.1.2,hk.1.1.1.1.1.1.1.1.1.1.1.2⟩ | (simp_all;done))))⟩,⟨af.Rw (Kd.aX ab.out (fun _ hk=>hk.1.2))⟩,⟨af.Rw (Kd.aX Y.out (fun _ hk=>hk.1.2))⟩,⟨af.Bw y.out⟩,⟨af.L⟩⟩
      ·replace lx:=Bool.eq_false_iff.mpr lx
       subst lx
       replace H:(ah.j0 k a8 a1 true a0 X) = some r:=by rw [if_neg (show ¬ (false = true) by decide)] at H;exact H
       have H':=ae.mk H
       clear H
       obtain ⟨x8,x9,xa,xc⟩:=af.bR y.out
       go_wp2_with (first | ((with_reducible refine ax (f:=48) rfl ?_);refine af.gl (some 47) Tryz.func48 #[.agg #[.int .i64 a0,.slice aB X.length aw]] ?_;(with_reducible refine (aZ.calls k a0 _ _ X bd _ ?side1 ?side2 ii.out).mono ?_);(case side1=>exact af.Cw ((Kd.au Y.out).2.2));(case side2=>exact (Kd.au Y.out).2.1);rintro e BD ⟨gs,rfl,z,hb⟩;refine ⟨_,rfl,?_⟩;have al:=ae.mk (Kd.cT (Kd.aG (Kd.aG (Kd.aG (Kd.aG (Kd.aG (Kd.aG (Kd.aG z (Kd.cD (af.Rw Y.out))) (Kd.cF (af.Sw a2.out))) (Kd.cF (af.Sw a3.out))) (Kd.cF (af.Sw a6.out))) (Kd.cF (af.Sw a7.out))) (Kd.cF (af.Sw a9.out))) (Kd.cD (af.Rw ab.out))) (aj af.L));replace Y:=af.rb Y hb;replace a2:=ae.mk (Kd.aA (af.Sw a2.out) (Kd.bh z) hb);replace a3:=ae.mk (Kd.aA (af.Sw a3.out) (Kd.bh z) hb);replace a6:=ae.mk (Kd.aA (af.Sw a6.out) (Kd.bh z) hb);replace a7:=ae.mk (Kd.aA (af.Sw a7.out) (Kd.bh z) hb);replace a9:=ae.mk (Kd.aA (af.Sw a9.out) (Kd.bh z) hb);replace ab:=af.rb ab hb;replace y:=af.bb y hb;replace HB:=ae.mk (az af.L hb);(try clear hb);(try clear b3);(try clear hk);(try clear hi);(try clear z);obtain ⟨xf,xi,xr⟩:=Kd.cP a2.out;subst xr;obtain ⟨xt,xv,xF⟩:=Kd.cP al.out;subst xF) | ((with_reducible refine ax (f:=56) rfl ?_);refine af.gl (some 48) Tryz.func56 #[.slice xf a8.length xi,.slice xt bd.length xv] ?_;(with_reducible refine (bB.calls k _ _ a8 _ _ bd true _ ?side1 ?side2 ?side3 ?side4 il.out).mono ?_);(case side1=>exact af.Cw ((Kd.aE a2.out).2.2));(case side2=>exact (Kd.aE a2.out).2.1);(case side3=>exact af.Cw ((Kd.aE al.out).2.2));(case side4=>exact (Kd.aE al.out).2.1);rintro e w' ⟨rfl,⟨nd,rfl⟩⟩;refine ⟨_,rfl,?_⟩;obtain ⟨Aj,Ak,xG⟩:=Kd.cP a3.out;subst xG) | (go_at_call 57;(with_reducible refine (aT.calls k _ _ cX cY d0 ce _ ?side1 ?side2 ls.out).mono ?_);(case side1=>exact af.Cw ((Kd.aE a3.out).2.2));(case side2=>exact (Kd.aE a3.out).2.1);rintro e w' ⟨rfl,⟨nd,rfl⟩⟩) | (go_at_call 49;(with_reducible refine (aQ.calls k _ _ cX cY d0 cf _ ?side1 ?side2 lv.out).mono ?_);(case side1=>exact af.Cw ((Kd.aE a3.out).2.2));(case side2=>exact (Kd.aE a3.out).2.1);rintro e w' ⟨rfl,⟨nd,rfl⟩⟩;obtain ⟨Al,Am,xH⟩:=Kd.cP a6.out;subst xH;obtain ⟨An,Ao,xI⟩:=Kd.cP a7.out;subst xI) | (go_at_call 58;(with_reducible refine (aU.calls k _ _ dl _ _ dp d4 _ ?side1 ?side2 ?side3 ?side4 oX.out).mono ?_);(case side1=>exact af.Cw ((Kd.aE a6.out).2.2));(case side2=>exact (Kd.aE a6.out).2.1);(case side3=>exact af.Cw ((Kd.aE a7.out).2.2));(case side4=>exact (Kd.aE a7.out).2.1);rintro e jQ ⟨im,rfl,z,hb⟩;have ar:=ae.mk (Kd.cT (Kd.aG (Kd.aG (Kd.aG (Kd.aG (Kd.aG (Kd.aG (Kd.aG (Kd.aG z (Kd.cD (af.Rw Y.out))) (Kd.cF (af.Sw a2.out))) (Kd.cF (af.Sw a3.out))) (Kd.cF (af.Sw a6.out))) (Kd.cF (af.Sw a7.out))) (Kd.cF (af.Sw a9.out))) (Kd.cD (af.Rw ab.out))) (Kd.cF (af.Sw al.out))) (aj af.L));replace Y:=af.rb Y hb;replace a2:=ae.mk (Kd.aA (af.Sw a2.out) (Kd.bh z) hb);replace a3:=ae.mk (Kd.aA (af.Sw a3.out) (Kd.bh z) hb);replace a6:=ae.mk (Kd.aA (af.Sw a6.out) (Kd.bh z) hb);replace a7:=ae.mk (Kd.aA (af.Sw a7.out) (Kd.bh z) hb);replace a9:=ae.mk (Kd.aA (af.Sw a9.out) (Kd.bh z) hb);replace ab:=af.rb ab hb;replace al:=ae.mk (Kd.aA (af.Sw al.out) (Kd.bh z) hb);replace y:=af.bb y hb;replace HB:=ae.mk (az af.L hb);(try clear hb);(try clear b3);(try clear hk);(try clear hi);(try clear z)) | (go_at_call 59;(with_reducible refine (aJ.calls k _ _ dl _ _ dp d5 _ ?side1 ?side2 ?side3 ?side4 oY.out).mono ?_);(case side1=>exact af.Cw ((Kd.aE a6.out).2.2));(case side2=>exact (Kd.aE a6.out).2.1);(case side3=>exact af.Cw ((Kd.aE a7.out).2.2));(case side4=>exact (Kd.aE a7.out).2.1);rintro e BE ⟨io,rfl,z,hb⟩;have aP:=ae.mk (Kd.cT (Kd.aG (Kd.aG (Kd.aG (Kd.aG (Kd.aG (Kd.aG (Kd.aG (Kd.aG (Kd.aG z (Kd.cD (af.Rw Y.out))) (Kd.cF (af.Sw a2.out))) (Kd.cF (af.Sw a3.out))) (Kd.cF (af.Sw a6.out))) (Kd.cF (af.Sw a7.out))) (Kd.cF (af.Sw a9.out))) (Kd.cD (af.Rw ab.out))) (Kd.cF (af.Sw al.out))) (Kd.cF (af.Sw ar.out))) (aj af.L));replace Y:=af.rb Y hb;replace a2:=ae.mk (Kd.aA (af.Sw a2.out) (Kd.bh z) hb);replace a3:=ae.mk (Kd.aA (af.Sw a3.out) (Kd.bh z) hb);replace a6:=ae.mk (Kd.aA (af.Sw a6.out) (Kd.bh z) hb);replace a7:=ae.mk (Kd.aA (af.Sw a7.out) (Kd.bh z) hb);replace a9:=ae.mk (Kd.aA (af.Sw a9.out) (Kd.bh z) hb);replace ab:=af.rb ab hb;replace al:=ae.mk (Kd.aA (af.Sw al.out) (Kd.bh z) hb);replace ar:=ae.mk (Kd.aA (af.Sw ar.out) (Kd.bh z) hb);replace y:=af.bb y hb;replace HB:=ae.mk (az af.L hb);(try clear hb);(try clear b3);(try clear hk);(try clear hi);(try clear z);obtain ⟨Ap,Aq,xJ⟩:=Kd.cP ar.out;subst xJ;obtain ⟨Ar,As,xK⟩:=Kd.cP aP.out;subst xK) | (go_at_call 56;(with_reducible refine (bB.calls k _ _ d4 _ _ d5 true _ ?side1 ?side2 ?side3 ?side4 p0.out).mono ?_);(case side1=>exact af.Cw ((Kd.aE ar.out).2.2));(case side2=>exact (Kd.aE ar.out).2.1);(case side3=>exact af.Cw ((Kd.aE aP.out).2.2));(case side4=>exact (Kd.aE aP.out).2.1);rintro e w' ⟨rfl,⟨nd,rfl⟩⟩;obtain ⟨At,Au,xL⟩:=Kd.cP a9.out;subst xL) | (go_at_call 60;(with_reducible refine (aW.calls k _ _ dq dt du d6 _ ?side1 ?side2 w3.out).mono ?_);(case side1=>exact af.Cw ((Kd.aE a9.out).2.2));(case side2=>exact (Kd.aE a9.out).2.1);rintro e BF ⟨p1,rfl,z,hb⟩;have bc:=ae.mk (Kd.cT (Kd.aG (Kd.aG (Kd.aG (Kd.aG (Kd.aG (Kd.aG (Kd.aG (Kd.aG (Kd.aG (Kd.aG z (Kd.cD (af.Rw Y.out))) (Kd.cF (af.Sw a2.out))) (Kd.cF (af.Sw a3.out))) (Kd.cF (af.Sw a6.out))) (Kd.cF (af.Sw a7.out))) (Kd.cF (af.Sw a9.out))) (Kd.cD (af.Rw ab.out))) (Kd.cF (af.Sw al.out))) (Kd.cF (af.Sw ar.out))) (Kd.cF (af.Sw aP.out))) (aj af.L));replace Y:=af.rb Y hb;replace a2:=ae.mk (Kd.aA (af.Sw a2.out) (Kd.bh z) hb);replace a3:=ae.mk (Kd.aA (af.Sw a3.out) (Kd.bh z) hb);replace a6:=ae.mk (Kd.aA (af.Sw a6.out) (Kd.bh z) hb);replace a7:=ae.mk (Kd.aA (af.Sw a7.out) (Kd.bh z) hb);replace a9:=ae.mk (Kd.aA (af.Sw a9.out) (Kd.bh z) hb);replace ab:=af.rb ab hb;replace al:=ae.mk (Kd.aA (af.Sw al.out) (Kd.bh z) hb);replace ar:=ae.mk (Kd.aA (af.Sw ar.out) (Kd.bh z) hb);replace aP:=ae.mk (Kd.aA (af.Sw aP.out) (Kd.bh z) hb);replace y:=af.bb y hb;replace HB:=ae.mk (az af.L hb);(try clear hb);(try clear b3);(try clear hk);(try clear hi);(try clear z)) | (go_at_call 61;(with_reducible refine (aI.calls k _ _ dq dt du d7 _ ?side1 ?side2 w4.out).mono ?_);(case side1=>exact af.Cw ((Kd.aE a9.out).2.2));(case side2=>exact (Kd.aE a9.out).2.1);rintro e BG ⟨p2,rfl,z,hb⟩;have cy:=ae.mk (Kd.cT (Kd.aG (Kd.aG (Kd.aG (Kd.aG (Kd.aG (Kd.aG (Kd.aG (Kd.aG (Kd.aG (Kd.aG (Kd.aG z (Kd.cD (af.Rw Y.out))) (Kd.cF (af.Sw a2.out))) (Kd.cF (af.Sw a3.out))) (Kd.cF (af.Sw a6.out))) (Kd.cF (af.Sw a7.out))) (Kd.cF (af.Sw a9.out))) (Kd.cD (af.Rw ab.out))) (Kd.cF (af.Sw al.out))) (Kd.cF (af.Sw ar.out))) (Kd.cF (af.Sw aP.out))) (Kd.cF (af.Sw bc.out))) (aj af.L));replace Y:=af.rb Y hb;replace a2:=ae.mk (Kd.aA (af.Sw a2.out) (Kd.bh z) hb);replace a3:=ae.mk (Kd.aA (af.Sw a3.out) (Kd.bh z) hb);replace a6:=ae.mk (Kd.aA (af.Sw a6.out) (Kd.bh z) hb);replace a7:=ae.mk (Kd.aA (af.Sw a7.out) (Kd.bh z) hb);replace a9:=ae.mk (Kd.aA (af.Sw a9.out) (Kd.bh z) hb);replace ab:=af.rb ab hb;replace al:=ae.mk (Kd.aA (af.Sw al.out) (Kd.bh z) hb);replace ar:=ae.mk (Kd.aA (af.Sw ar.out) (Kd.bh z) hb);replace aP:=ae.mk (Kd.aA (af.Sw aP.out) (Kd.bh z) hb);replace bc:=ae.mk (Kd.aA (af.Sw bc.out) (Kd.bh z) hb);replace y:=af.bb y hb;replace HB:=ae.mk (az af.L hb);(try clear hb);(try clear b3);(try clear hk);(try clear hi);(try clear z);obtain ⟨Av,Aw,xM⟩:=Kd.cP bc.out;subst xM;obtain ⟨Ax,Ay,xN⟩:=Kd.cP cy.out;subst xN) | (go_at_call 56;(with_reducible refine (bB.calls k _ _ d6 _ _ d7 false _ ?side1 ?side2 ?side3 ?side4 w5.out).mono ?_);(case side1=>exact af.Cw ((Kd.aE bc.out).2.2));(case side2=>exact (Kd.aE bc.out).2.1);(case side3=>exact af.Cw ((Kd.aE cy.out).2.2));(case side4=>exact (Kd.aE cy.out).2.1);rintro e w' ⟨rfl,⟨nd,rfl⟩⟩))
       go_meet
       case rel=>exact ⟨_,(true),af.F,H',⟨by first | omega | exact Nat.le_refl _⟩,⟨af.Sw (Kd.dh a2.out (fun _ hk=>(by first | exact ⟨hk.1.1.1.1.1.2,hk.1.1.1.1.1.1.1.1.1.1.2⟩ | (simp_all;done))))⟩,⟨af.Rw (Kd.aX ab.out (fun _ hk=>hk.2))⟩,⟨af.Rw (Kd.aX Y.out (fun _ hk=>hk.2))⟩,⟨af.Bw y.out⟩,⟨af.L⟩⟩
     ·replace lw:=Bool.eq_false_iff.mpr lw
      subst lw
      replace H:(ah.j0 k a8 a1 true a0 X) = some r:=by rw [if_neg (show ¬ (false = true) by decide)] at H;exact H
      have H':=ae.mk H
      clear H
      obtain ⟨xO,xP,xQ,xR⟩:=af.bR y.out
      go_wp2_with (first | ((with_reducible refine ax (f:=48) rfl ?_);refine af.gl (some 47) Tryz.func48 #[.agg #[.int .i64 a0,.slice aB X.length aw]] ?_;(with_reducible refine (aZ.calls k a0 _ _ X bd _ ?side1 ?side2 ii.out).mono ?_);(case side1=>exact af.Cw ((Kd.au Y.out).2.2));(case side2=>exact (Kd.au Y.out).2.1);rintro e BH ⟨gs,rfl,z,hb⟩;refine ⟨_,rfl,?_⟩;have al:=ae.mk (Kd.cT (Kd.aG (Kd.aG (Kd.aG (Kd.aG (Kd.aG (Kd.aG (Kd.aG z (Kd.cD (af.Rw Y.out))) (Kd.cF (af.Sw a2.out))) (Kd.cF (af.Sw a3.out))) (Kd.cF (af.Sw a6.out))) (Kd.cF (af.Sw a7.out))) (Kd.cF (af.Sw a9.out))) (Kd.cD (af.Rw ab.out))) (aj af.L));replace Y:=af.rb Y hb;replace a2:=ae.mk (Kd.aA (af.Sw a2.out) (Kd.bh z) hb);replace a3:=ae.mk (Kd.aA (af.Sw a3.out) (Kd.bh z) hb);replace a6:=ae.mk (Kd.aA (af.Sw a6.out) (Kd.bh z) hb);replace a7:=ae.mk (Kd.aA (af.Sw a7.out) (Kd.bh z) hb);replace a9:=ae.mk (Kd.aA (af.Sw a9.out) (Kd.bh z) hb);replace ab:=af.rb ab hb;replace y:=af.bb y hb;replace HB:=ae.mk (az af.L hb);(try clear hb);(try clear b3);(try clear hk);(try clear hi);(try clear z);obtain ⟨xS,xT,xU⟩:=Kd.cP a2.out;subst xU;obtain ⟨xV,xW,xX⟩:=Kd.cP al.out;subst xX) | ((with_reducible refine ax (f:=56) rfl ?_);refine af.gl (some 48) Tryz.func56 #[.slice xS a8.length xT,.slice xV bd.length xW] ?_;(with_reducible refine (bB.calls k _ _ a8 _ _ bd true _ ?side1 ?side2 ?side3 ?side4 il.out).mono ?_);(case side1=>exact af.Cw ((Kd.aE a2.out).2.2));(case side2=>exact (Kd.aE a2.out).2.1);(case side3=>exact af.Cw ((Kd.aE al.out).2.2));(case side4=>exact (Kd.aE al.out).2.1);rintro e w' ⟨rfl,⟨nd,rfl⟩⟩;refine ⟨_,rfl,?_⟩;obtain ⟨Az,AA,xY⟩:=Kd.cP a3.out;subst xY) | (go_at_call 57;(with_reducible refine (aT.calls k _ _ cX cY d0 ce _ ?side1 ?side2 ls.out).mono ?_);(case side1=>exact af.Cw ((Kd.aE a3.out).2.2));(case side2=>exact (Kd.aE a3.out).2.1);rintro e w' ⟨rfl,⟨nd,rfl⟩⟩) | (go_at_call 49;(with_reducible refine (aQ.calls k _ _ cX cY d0 cf _ ?side1 ?side2 lv.out).mono ?_);(case side1=>exact af.Cw ((Kd.aE a3.out).2.2));(case side2=>exact (Kd.aE a3.out).2.1);rintro e w' ⟨rfl,⟨nd,rfl⟩⟩;obtain ⟨AB,AC,xZ⟩:=Kd.cP a6.out;subst xZ;obtain ⟨AD,AE,ya⟩:=Kd.cP a7.out;subst ya) | (go_at_call 58;(with_reducible refine (aU.calls k _ _ dl _ _ dp d4 _ ?side1 ?side2 ?side3 ?side4 oX.out).mono ?_);(case side1=>exact af.Cw ((Kd.aE a6.out).2.2));(case side2=>exact (Kd.aE a6.out).2.1);(case side3=>exact af.Cw ((Kd.aE a7.out).2.2));(case side4=>exact (Kd.aE a7.out).2.1);rintro e BI ⟨im,rfl,z,hb⟩;have ar:=ae.mk (Kd.cT (Kd.aG (Kd.aG (Kd.aG (Kd.aG (Kd.aG (Kd.aG (Kd.aG (Kd.aG z (Kd.cD (af.Rw Y.out))) (Kd.cF (af.Sw a2.out))) (Kd.cF (af.Sw a3.out))) (Kd.cF (af.Sw a6.out))) (Kd.cF (af.Sw a7.out))) (Kd.cF (af.Sw a9.out))) (Kd.cD (af.Rw ab.out))) (Kd.cF (af.Sw al.out))) (aj af.L));replace Y:=af.rb Y hb;replace a2:=ae.mk (Kd.aA (af.Sw a2.out) (Kd.bh z) hb);replace a3:=ae.mk (Kd.aA (af.Sw a3.out) (Kd.bh z) hb);replace a6:=ae.mk (Kd.aA (af.Sw a6.out) (Kd.bh z) hb);replace a7:=ae.mk (Kd.aA (af.Sw a7.out) (Kd.bh z) hb);replace a9:=ae.mk (Kd.aA (af.Sw a9.out) (Kd.bh z) hb);replace ab:=af.rb ab hb;replace al:=ae.mk (Kd.aA (af.Sw al.out) (Kd.bh z) hb);replace y:=af.bb y hb;replace HB:=ae.mk (az af.L hb);(try clear hb);(try clear b3);(try clear hk);(try clear hi);(try clear z)) | (go_at_call 59;(with_reducible refine (aJ.calls k _ _ dl _ _ dp d5 _ ?side1 ?side2 ?side3 ?side4 oY.out).mono ?_);(case side1=>exact af.Cw ((Kd.aE a6.out).2.2));(case side2=>exact (Kd.aE a6.out).2.1);(case side3=>exact af.Cw ((Kd.aE a7.out).2.2));(case side4=>exact (Kd.aE a7.out).2.1);rintro e BJ ⟨io,rfl,z,hb⟩;have aP:=ae.mk (Kd.cT (Kd.aG (Kd.aG (Kd.aG (Kd.aG (Kd.aG (Kd.aG (Kd.aG (Kd.aG (Kd.aG z (Kd.cD (af.Rw Y.out))) (Kd.cF (af.Sw a2.out))) (Kd.cF (af.Sw a3.out))) (Kd.cF (af.Sw a6.out))) (Kd.cF (af.Sw a7.out))) (Kd.cF (af.Sw a9.out))) (Kd.cD (af.Rw ab.out))) (Kd.cF (af.Sw al.out))) (Kd.cF (af.Sw ar.out))) (aj af.L));replace Y:=af.rb Y hb;replace a2:=ae.mk (Kd.aA (af.Sw a2.out) (Kd.bh z) hb);replace a3:=ae.mk (Kd.aA (af.Sw a3.out) (Kd.bh z) hb);replace a6:=ae.mk (Kd.aA (af.Sw a6.out) (Kd.bh z) hb);replace a7:=ae.mk (Kd.aA (af.Sw a7.out) (Kd.bh z) hb);replace a9:=ae.mk (Kd.aA (af.Sw a9.out) (Kd.bh z) hb);replace ab:=af.rb ab hb;replace al:=ae.mk (Kd.aA (af.Sw al.out) (Kd.bh z) hb);replace ar:=ae.mk (Kd.aA (af.Sw ar.out) (Kd.bh z) hb);replace y:=af.bb y hb;replace HB:=ae.mk (az af.L hb);(try clear hb);(try clear b3);(try clear hk);(try clear hi);(try clear z);obtain ⟨AF,AG,yb⟩:=Kd.cP ar.out;subst yb;obtain ⟨AH,AI,yc⟩:=Kd.cP aP.out;subst yc) | (go_at_call 56;(with_reducible refine (bB.calls k _ _ d4 _ _ d5 false _ ?side1 ?side2 ?side3 ?side4 p0.out).mono ?_);(case side1=>exact af.Cw ((Kd.aE ar.out).2.2));(case side2=>exact (Kd.aE ar.out).2.1);(case side3=>exact af.Cw ((Kd.aE aP.out).2.2));(case side4=>exact (Kd.aE aP.out).2.1);rintro e w' ⟨rfl,⟨nd,rfl⟩⟩))
      go_meet
      case rel=>exact ⟨_,(true),af.F,H',⟨by first | omega | exact Nat.le_refl _⟩,⟨af.Sw (Kd.dh a2.out (fun _ hk=>(by first | exact ⟨hk.1.1.1.2,hk.1.1.1.1.1.1.1.1.2⟩ | (simp_all;done))))⟩,⟨af.Rw (Kd.aX ab.out (fun _ hk=>hk.2))⟩,⟨af.Rw (Kd.aX Y.out (fun _ hk=>hk.2))⟩,⟨af.Bw y.out⟩,⟨af.L⟩⟩
    ·rw [if_neg hD] at H
     have fp:(ce == cf) = false:=beq_eq_false_iff_ne.mpr hD
     have os:(ce != cf) = true:=bne_iff_ne.mpr hD
     (first | rw [fp] | (simp only [bw,bW];rw [fp]) | skip)
     have H':=ae.mk H
     clear H
     obtain ⟨yd,ye,yf,yg⟩:=af.bR y.out
     go_wp2_with (first | ((with_reducible refine ax (f:=48) rfl ?_);refine af.gl (some 47) Tryz.func48 #[.agg #[.int .i64 a0,.slice aB X.length aw]] ?_;(with_reducible refine (aZ.calls k a0 _ _ X bd _ ?side1 ?side2 ii.out).mono ?_);(case side1=>exact af.Cw ((Kd.au Y.out).2.2));(case side2=>exact (Kd.au Y.out).2.1);rintro e BK ⟨gs,rfl,z,hb⟩;refine ⟨_,rfl,?_⟩;have al:=ae.mk (Kd.cT (Kd.aG (Kd.aG (Kd.aG (Kd.aG (Kd.aG (Kd.aG (Kd.aG z (Kd.cD (af.Rw Y.out))) (Kd.cF (af.Sw a2.out))) (Kd.cF (af.Sw a3.out))) (Kd.cF (af.Sw a6.out))) (Kd.cF (af.Sw a7.out))) (Kd.cF (af.Sw a9.out))) (Kd.cD (af.Rw ab.out))) (aj af.L));replace Y:=af.rb Y hb;replace a2:=ae.mk (Kd.aA (af.Sw a2.out) (Kd.bh z) hb);replace a3:=ae.mk (Kd.aA (af.Sw a3.out) (Kd.bh z) hb);replace a6:=ae.mk (Kd.aA (af.Sw a6.out) (Kd.bh z) hb);replace a7:=ae.mk (Kd.aA (af.Sw a7.out) (Kd.bh z) hb);replace a9:=ae.mk (Kd.aA (af.Sw a9.out) (Kd.bh z) hb);replace ab:=af.rb ab hb;replace y:=af.bb y hb;replace HB:=ae.mk (az af.L hb);(try clear hb);(try clear b3);(try clear hk);(try clear hi);(try clear z);obtain ⟨yh,yi,yj⟩:=Kd.cP a2.out;subst yj;obtain ⟨yk,yl,ym⟩:=Kd.cP al.out;subst ym) | ((with_reducible refine ax (f:=56) rfl ?_);refine af.gl (some 48) Tryz.func56 #[.slice yh a8.length yi,.slice yk bd.length yl] ?_;(with_reducible refine (bB.calls k _ _ a8 _ _ bd true _ ?side1 ?side2 ?side3 ?side4 il.out).mono ?_);(case side1=>exact af.Cw ((Kd.aE a2.out).2.2));(case side2=>exact (Kd.aE a2.out).2.1);(case side3=>exact af.Cw ((Kd.aE al.out).2.2));(case side4=>exact (Kd.aE al.out).2.1);rintro e w' ⟨rfl,⟨nd,rfl⟩⟩;refine ⟨_,rfl,?_⟩;obtain ⟨AJ,AK,yn⟩:=Kd.cP a3.out;subst yn) | (go_at_call 57;(with_reducible refine (aT.calls k _ _ cX cY d0 ce _ ?side1 ?side2 ls.out).mono ?_);(case side1=>exact af.Cw ((Kd.aE a3.out).2.2));(case side2=>exact (Kd.aE a3.out).2.1);rintro e w' ⟨rfl,⟨nd,rfl⟩⟩) | (go_at_call 49;(with_reducible refine (aQ.calls k _ _ cX cY d0 cf _ ?side1 ?side2 lv.out).mono ?_);(case side1=>exact af.Cw ((Kd.aE a3.out).2.2));(case side2=>exact (Kd.aE a3.out).2.1);rintro e w' ⟨rfl,⟨nd,rfl⟩⟩))
     go_meet
     case rel=>exact ⟨_,(true),af.F,H',⟨by first | omega | exact Nat.le_refl _⟩,⟨af.Sw (Kd.dh a2.out (fun _ hk=>(by first | exact ⟨hk.1.2,hk.1.1.1.1.1.1.2⟩ | (simp_all;done))))⟩,⟨af.Rw (Kd.aX ab.out (fun _ hk=>hk.2))⟩,⟨af.Rw (Kd.aX Y.out (fun _ hk=>hk.2))⟩,⟨af.Bw y.out⟩,⟨af.L⟩⟩
   ·replace lr:=Bool.eq_false_iff.mpr lr
    subst lr
    replace H:(ah.j0 k a8 a1 true a0 X) = some r:=by rw [if_neg (show ¬ (false = true) by decide)] at H;exact H
    have H':=ae.mk H
    clear H
    obtain ⟨yo,yp,yq,yr⟩:=af.bR y.out
    go_wp2_with (first | ((with_reducible refine ax (f:=48) rfl ?_);refine af.gl (some 47) Tryz.func48 #[.agg #[.int .i64 a0,.slice aB X.length aw]] ?_;(with_reducible refine (aZ.calls k a0 _ _ X bd _ ?side1 ?side2 ii.out).mono ?_);(case side1=>exact af.Cw ((Kd.au Y.out).2.2));(case side2=>exact (Kd.au Y.out).2.1);rintro e BL ⟨gs,rfl,z,hb⟩;refine ⟨_,rfl,?_⟩;have al:=ae.mk (Kd.cT (Kd.aG (Kd.aG (Kd.aG (Kd.aG (Kd.aG (Kd.aG (Kd.aG z (Kd.cD (af.Rw Y.out))) (Kd.cF (af.Sw a2.out))) (Kd.cF (af.Sw a3.out))) (Kd.cF (af.Sw a6.out))) (Kd.cF (af.Sw a7.out))) (Kd.cF (af.Sw a9.out))) (Kd.cD (af.Rw ab.out))) (aj af.L));replace Y:=af.rb Y hb;replace a2:=ae.mk (Kd.aA (af.Sw a2.out) (Kd.bh z) hb);replace a3:=ae.mk (Kd.aA (af.Sw a3.out) (Kd.bh z) hb);replace a6:=ae.mk (Kd.aA (af.Sw a6.out) (Kd.bh z) hb);replace a7:=ae.mk (Kd.aA (af.Sw a7.out) (Kd.bh z) hb);replace a9:=ae.mk (Kd.aA (af.Sw a9.out) (Kd.bh z) hb);replace ab:=af.rb ab hb;replace y:=af.bb y hb;replace HB:=ae.mk (az af.L hb);(try clear hb);(try clear b3);(try clear hk);(try clear hi);(try clear z);obtain ⟨ys,yt,yu⟩:=Kd.cP a2.out;subst yu;obtain ⟨yv,yw,yx⟩:=Kd.cP al.out;subst yx) | ((with_reducible refine ax (f:=56) rfl ?_);refine af.gl (some 48) Tryz.func56 #[.slice ys a8.length yt,.slice yv bd.length yw] ?_;(with_reducible refine (bB.calls k _ _ a8 _ _ bd false _ ?side1 ?side2 ?side3 ?side4 il.out).mono ?_);(case side1=>exact af.Cw ((Kd.aE a2.out).2.2));(case side2=>exact (Kd.aE a2.out).2.1);(case side3=>exact af.Cw ((Kd.aE al.out).2.2));(case side4=>exact (Kd.aE al.out).2.1);rintro e w' ⟨rfl,⟨nd,rfl⟩⟩;refine ⟨_,rfl,?_⟩))
    go_meet
    case rel=>exact ⟨_,(true),af.F,H',⟨by first | omega | exact Nat.le_refl _⟩,⟨af.Sw (Kd.dh a2.out (fun _ hk=>(by first | exact ⟨hk.1.2,hk.1.1.1.1.1.1.2⟩ | (simp_all;done))))⟩,⟨af.Rw (Kd.aX ab.out (fun _ hk=>hk.2))⟩,⟨af.Rw (Kd.aX Y.out (fun _ hk=>hk.2))⟩,⟨af.Bw y.out⟩,⟨af.L⟩⟩
  case rest =>
   clear ih
   obtain ⟨kq,go,rfl,HA,ht,a5,M,j,y,HB⟩:=hcut
   cases kq with
   | zero=>exact absurd HA.out (by simp [ah.j0])
   | succ f6 =>
    have H:=HA.out
    clear HA
    simp only [ah.j0] at H
    by_cases ly:go = true
    ·subst ly
     replace H:(some false) = some r:=by rw [if_pos rfl] at H;exact H
     obtain rfl:=Option.some.inj H
     exact absurd hT.out (by decide)
    ·replace ly:=Bool.eq_false_iff.mpr ly
     subst ly
     replace H:((bf.f f6 a0 X).bind fun hE=>(if hE = true then ((dx.f f6 a0 X).bind fun f3=>((aZ.f f6 f3.1 f3.2).bind fun d1=>(ah.l0 f6 a8 a1 d1 0 a0 X))) else (if (a8.length:Int) = 0 then (some ((a1.length:Int) == 0)) else (some false)))) = some r:=by rw [if_neg (show ¬ (false = true) by decide)] at H;exact H
     obtain ⟨hE,yy,H⟩:=af.be H
     (try dsimp only at H)
     by_cases lL:hE = true
     ·subst lL
      replace H:((dx.f f6 a0 X).bind fun f3=>((aZ.f f6 f3.1 f3.2).bind fun d1=>(ah.l0 f6 a8 a1 d1 0 a0 X))) = some r:=by rw [if_pos rfl] at H;exact H
      obtain ⟨⟨hG,hH⟩,zi,H⟩:=af.be H
      (try dsimp only at H)
      obtain ⟨d1,zj,H⟩:=af.be H
      (try dsimp only at H)
      have H':=ae.mk H
      clear H
      obtain ⟨yz,yA,yB,yC⟩:=af.bR y.out
      go_wp2_with (first | ((with_reducible refine ax (f:=26) rfl ?_);refine af.gl (some 91) Tryz.func26 #[.agg #[.int .i64 a0,.slice aB X.length aw]] ?_;(with_reducible refine (bf.calls f6 a0 _ _ X true _ ?side1 ?side2 yy.out).mono ?_);(case side1=>exact af.Cw ((Kd.au j.out).2.2));(case side2=>exact (Kd.au j.out).2.1);rintro e BM ⟨rfl,hb⟩;refine ⟨_,rfl,?_⟩;replace a5:=ae.mk (Kd.dQ (af.Sw a5.out) hb);replace M:=af.rb M hb;replace j:=af.rb j hb;replace y:=af.bb y hb;replace HB:=ae.mk (az af.L hb);(try clear hb);(try clear b3);(try clear hk);(try clear hi);obtain ⟨sd,se,sf,sh⟩:=af.bR y.out) | ((with_reducible refine ax (f:=63) rfl ?_);refine af.gl (some 102) Tryz.func63 #[.agg #[.int .i64 a0,.slice aB X.length aw]] ?_;(with_reducible refine (dx.calls f6 a0 _ _ X hG hH _ ?side1 ?side2 zi.out).mono ?_);(case side1=>exact af.Cw ((Kd.au j.out).2.2));(case side2=>exact (Kd.au j.out).2.1);rintro e AL ⟨zk,rfl,z,hb⟩;refine ⟨_,rfl,?_⟩;replace a5:=ae.mk (Kd.aA (af.Sw a5.out) (Kd.bF z) hb);have eh:=ae.mk (Kd.b9 (Kd.dc (Kd.dc z (Kd.cD (af.Rw M.out))) (Kd.cD (af.Rw j.out))) (aj af.L));replace M:=ae.mk (Kd.cm (af.Rw M.out) (Kd.bF z) hb);replace j:=ae.mk (Kd.cm (af.Rw j.out) (Kd.bF z) hb);replace y:=af.bb y hb;replace HB:=ae.mk (az af.L hb);(try clear hb);(try clear b3);(try clear hk);(try clear hi);(try clear z);obtain ⟨p3,p6,p7⟩:=Kd.aY eh.out;subst p7) | ((with_reducible refine ax (f:=48) rfl ?_);refine af.gl (some 103) Tryz.func48 #[.agg #[.int .i64 hG,.slice p3 hH.length p6]] ?_;(with_reducible refine (aZ.calls f6 hG _ _ hH d1 _ ?side1 ?side2 zj.out).mono ?_);(case side1=>exact af.Cw ((Kd.au eh.out).2.2));(case side2=>exact (Kd.au eh.out).2.1);rintro e AM ⟨h0,rfl,z,hb⟩;refine ⟨_,rfl,?_⟩;have lN:=ae.mk (Kd.cT (Kd.aG (Kd.aG (Kd.aG (Kd.aG z (Kd.cF (af.Sw a5.out))) (Kd.cD (af.Rw M.out))) (Kd.cD (af.Rw j.out))) (Kd.cD (af.Rw eh.out))) (aj af.L));replace a5:=ae.mk (Kd.aA (af.Sw a5.out) (Kd.bh z) hb);replace M:=af.rb M hb;replace j:=af.rb j hb;replace eh:=af.rb eh hb;replace y:=af.bb y hb;replace HB:=ae.mk (az af.L hb);(try clear hb);(try clear b3);(try clear hk);(try clear hi);(try clear z)))
      go_loopg [15] f6 (fun kq zl w'=>∃ (aL:Int),zl = .int .i64 aL∧ae (ah.l0 kq a8 a1 d1 aL a0 X = some r)∧ae (kq≤f6)∧ae (Kd.S (Kd.slice 3 (Kd.int .i64)) 28 w' w.heap.size (fun k_=>some k_≠(ca:Value).ownBlock∧some k_≠(h0:Value).ownBlock∧some k_≠((.slice aB X.length aw):Value).ownBlock) hC a8)∧ae (Kd.R (Kd.int .i64) 3 w' w.heap.size (fun k_=>some k_≠((.slice aB X.length aw):Value).ownBlock) ca a1)∧ae (Kd.S (Kd.slice 3 (Kd.int .i64)) 28 w' w.heap.size (fun k_=>some k_≠(hC:Value).ownBlock∧some k_≠(ca:Value).ownBlock∧some k_≠((.slice aB X.length aw):Value).ownBlock) h0 d1)∧ae (Kd.R (Kd.int .i64) 3 w' w.heap.size (fun k_=>some k_≠(ca:Value).ownBlock) (.slice aB X.length aw) X)∧ae (w'.heap[b2]? = some (.cells #[.int .i64 a0,(.slice aB X.length aw)] 30 (0,0)))∧ae (Below w.heap.size w w'))
      case atStart=>exact ⟨(0),af.F,H',⟨Nat.le_refl _⟩,⟨af.Sw (Kd.dh a5.out (fun _ hk=>⟨hk.1.1.1,⟨hk.2,hk.1.1.2⟩⟩))⟩,⟨af.Rw (Kd.aX M.out (fun _ hk=>hk.1))⟩,⟨af.Sw (Kd.dh lN.out (fun _ hk=>⟨hk.1.1.1.2,⟨hk.1.1.2,hk.1.2⟩⟩))⟩,⟨af.Rw (Kd.aX j.out (fun _ hk=>hk.1))⟩,⟨af.Bw y.out⟩,⟨af.L⟩⟩
      case round=>as_aux_lemma =>
       clear H'
       obtain ⟨aL,rfl,HA,hu,a5,M,aS,j,y,HB⟩:=hrel
       cases gk with
       | zero=>exact absurd HA.out (by simp [ah.l0])
       | succ k2 =>
        have H:=HA.out
        clear HA
        simp only [ah.l0] at H
        by_cases g6:aL < (a8.length:Int)
        ·rw [if_pos g6] at H
         have m0:=decide_eq_true g6
         clear g6
         have H':=ae.mk H
         clear H
         obtain ⟨it,jp,p9⟩:=Kd.cP a5.out
         subst p9
         go_wp2
         go_loopg [16] k2 (fun kq zm w'=>∃ (bm:Int),zm = .int .i64 bm∧ae (ah.l1 kq a8 a1 d1 aL bm a0 X = some r)∧ae (kq≤k2)∧ae (Kd.S (Kd.slice 3 (Kd.int .i64)) 28 w' w.heap.size (fun k_=>some k_≠(ca:Value).ownBlock∧some k_≠(h0:Value).ownBlock∧some k_≠((.slice aB X.length aw):Value).ownBlock) (.slice it a8.length jp) a8)∧ae (Kd.R (Kd.int .i64) 3 w' w.heap.size (fun k_=>some k_≠((.slice aB X.length aw):Value).ownBlock) ca a1)∧ae (Kd.S (Kd.slice 3 (Kd.int .i64)) 28 w' w.heap.size (fun k_=>some k_≠((.slice it a8.length jp):Value).ownBlock∧some k_≠(ca:Value).ownBlock∧some k_≠((.slice aB X.length aw):Value).ownBlock) h0 d1)∧ae (Kd.R (Kd.int .i64) 3 w' w.heap.size (fun k_=>some k_≠(ca:Value).ownBlock) (.slice aB X.length aw) X)∧ae (w'.heap[b2]? = some (.cells #[.int .i64 a0,(.slice aB X.length aw)] 30 (0,0)))∧ae (Below w.heap.size w w'))
         case atStart=>exact ⟨(0),af.F,H',⟨Nat.le_refl _⟩,⟨af.Sw a5.out⟩,⟨af.Rw M.out⟩,⟨af.Sw aS.out⟩,⟨af.Rw j.out⟩,⟨af.Bw y.out⟩,⟨af.L⟩⟩
         case round=>as_aux_lemma =>
          clear H'
          obtain ⟨bm,rfl,HA,m1,a5,M,aS,j,y,HB⟩:=hrel
          cases gk with
          | zero=>exact absurd HA.out (by simp [ah.l1])
          | succ k3 =>
           have H:=HA.out
           clear HA
           simp only [ah.l1] at H
           obtain ⟨ne,H⟩:=af.ip H
           have yQ:=decide_eq_true ne
           clear ne
           obtain ⟨nm,H⟩:=af.ip H
           have yR:=decide_eq_true nm
           clear nm
           by_cases g7:bm < ((cw a8 aL).length:Int)
           ·rw [if_pos g7] at H
            have m2:=decide_eq_true g7
            clear g7
            obtain ⟨no,H⟩:=af.ip H
            have yS:=decide_eq_true no
            clear no
            obtain ⟨f7,yD,H⟩:=af.be H
            (try dsimp only at H)
            by_cases fs:(rd (cw a8 aL) bm) = f7
            ·rw [if_pos fs] at H
             have m3:((rd (cw a8 aL) bm) == f7) = true:=beq_iff_eq.mpr fs
             have m4:((rd (cw a8 aL) bm) != f7) = false:=bne_eq_false_iff_eq.mpr fs
             clear fs
             have H':=ae.mk H
             clear H
             have dv:0≤(aL:Int):=af.D
             have dC:aL < (a8.length:Int):=af.D
             obtain ⟨h6,k0,k1,hI,f8,dd,df⟩:=gM (Kd.aE a5.out).2.2 aL dv dC
             cases hI
             obtain ⟨m5,ft,fw,ec⟩:=Kd.nC a5.out [] aL dv (by first | exact dC | exact af.D | (have e_:=(Kd.aE a5.out).1;omega))
             obtain ⟨i9,rfl,ci⟩:=fw
             have ba:=ec 0 _ rfl
             rw [Nat.add_zero,show ((Kd.slice 3 (Kd.int .i64))).sz = 1 from rfl,Nat.mul_one] at ba
             replace ba:=Option.some.inj (ba.symm.trans f8)
             rw [ba] at ci
             have ej:=ae.mk (show Kd.R (Kd.int .i64) 3 _ _ _ _ (cw a8 aL) from ci)
             clear ba ci
             clear ec ft
             have el:=ae.mk df
             have ib:=ae.mk dd
             clear df dd
             replace dv:=eq_true dv
             replace dC:=eq_true dC
             try go_wp2
             replace a5:=ae.mk (Kd.ez a5.out)
             replace M:=ae.mk (Kd.bS M.out)
             replace aS:=ae.mk (Kd.ez aS.out)
             replace j:=ae.mk (Kd.bS j.out)
             replace ej:=ae.mk (Kd.bS ej.out)
             replace y:=ae.mk (dZ y.out)
             replace el:=ae.mk (Kd.fJ el.out)
             replace HB:=ae.mk (bU HB.out)
             have h7:0≤(aL:Int):=af.D
             have h8:aL < (a8.length:Int):=af.D
             obtain ⟨m6,yE,k4,pa,f9,g8,g9⟩:=gM (Kd.aE a5.out).2.2 aL h7 h8
             obtain rfl:h6 = m6:=(by injection pa)
             obtain ⟨yT,k5,ka,hx⟩:=Kd.nC a5.out [] aL h7 (by first | exact h8 | exact af.D | (have e_:=(Kd.aE a5.out).1;omega))
             obtain ⟨sl,rfl,fa⟩:=ka
             have dk:=hx 0 _ rfl
             rw [Nat.add_zero,show ((Kd.slice 3 (Kd.int .i64))).sz = 1 from rfl,Nat.mul_one] at dk
             replace dk:=Option.some.inj (dk.symm.trans f9)
             rw [dk] at fa
             have ie:=ae.mk (show Kd.R (Kd.int .i64) 3 _ _ _ _ (cw a8 aL) from fa)
             clear dk fa
             clear hx k5
             have fd:=ae.mk g9
             have sm:=ae.mk g8
             clear g9 g8
             replace h7:=eq_true h7
             replace h8:=eq_true h8
             obtain ⟨hZ,pd,gc,zn,zo⟩:=af.ai (by repeat (first | (with_reducible exact fd.out) | (with_reducible refine Kd.fk ?_ _) | (with_reducible refine Kd.fm ?_ _) | (with_reducible refine Kd.fJ ?_) | exact fd.out)) bm
             cases pd
             obtain ⟨pf,ph,kb⟩:=Kd.cP aS.out
             (first | subst kb | (injection kb with cb dE cc;have dT:=cb.symm;have e0:=cc.symm;clear cb dE cc;subst dT;subst e0))
             refine eS (n:=12) (S:=fun w'=>w'.cell? (h6.add (aL).toNat) = some (.slice (some hZ) (cw a8 aL).length k4)∧w'.cell? (hZ.add (bm).toNat) = some (.int .i64 (rd (cw a8 aL) bm))) (ds:=[]) #[false,false,false,false,false,false,false,false,false,false,false,false] (by kernel_rfl) rfl rfl ⟨f9,gc⟩ (fun hHeld=>?_);refine dn ah.wv ah.vz (fun a4 bs=>?_)
             generalize wr.drew = AN at a5 M aS j ej y el HB ie fd f9 gc hHeld ⊢
             refine af.pu 0 119 a4 ?_
             refine af.pu 1 120 a4 ?_
             refine af.pu 2 121 a4 ?_
             refine af.pu 4 123 a4 ?_
             refine af.pu 7 126 a4 ?_
             refine af.pu 8 127 a4 ?_
             refine af.pu 9 128 a4 ?_
             refine af.tk 3 122 a4 bs hHeld ?_
             refine af.pu 5 124 a4 ?_
             refine af.tk 6 125 a4 bs hHeld ?_
             refine gA (i:=10) (N:=some 129) #[true,true,true,true,true,true,true,true,true,true,true,false] rfl rfl (dD a4.out (by kernel_rfl)) (by decide) (fun K hK=>?_)
             refine iZ Tryz.func64 (by kernel_rfl) rfl #[.slice pf d1.length ph,.int .i64 bm,.int .i64 aL] (by rfl) rfl rfl (by (try simp only [List.map_toArray,List.map_cons,List.map_nil]);first | done | rfl) ?_
             with_reducible refine (ey.calls _ _ d1 bm aL f7 _ ?side1 ?side2 yD.out).mono ?_
             (case side1=>exact af.Cw ((Kd.aE aS.out).2.2))
             (case side2=>exact (Kd.aE aS.out).2.1)
             rintro e w' ⟨rfl,⟨nd,rfl⟩⟩
             refine ⟨_,rfl,?_⟩
             refine hK.out _ _ ⟨hHeld.1,hHeld.2⟩ (fun hHeld=>?_)
             clear hK K
             refine eV (a':=?_) ?_ ?_
             rotate_left
             ·show Act.put _ (some 129) _ = _
              simp only [Act.put,List.setIfInBounds_toArray,List.set_cons_zero,List.set_cons_succ,bw,bW]
              rfl
             refine af.pu 11 130 a4 ?_
             refine gh (er a4.out (by kernel_rfl)) ?_
             try go_wp2
             go_roundg k3
             case measure=>have:=ht.out;have:=hu.out;have:=m1.out;omega
             case rel=>exact ⟨(wrap64 (bm+1)),af.F,H',⟨by have:=ht.out;have:=hu.out;have:=m1.out;omega⟩,⟨af.Sw a5.out⟩,⟨af.Rw M.out⟩,⟨af.Sw aS.out⟩,⟨af.Rw j.out⟩,⟨af.Bw y.out⟩,⟨af.L⟩⟩
            ·rw [if_neg fs] at H
             have m3:((rd (cw a8 aL) bm) == f7) = false:=beq_eq_false_iff_ne.mpr fs
             have m4:((rd (cw a8 aL) bm) != f7) = true:=bne_iff_ne.mpr fs
             obtain rfl:=Option.some.inj H
             exact absurd hT.out (by decide)
           ·rw [if_neg g7] at H
            have m2:decide (bm < ((cw a8 aL).length:Int)) = false:=decide_eq_false g7
            clear g7
            have H':=ae.mk H
            clear H
            have dv:0≤(aL:Int):=af.D
            have dC:aL < (a8.length:Int):=af.D
            obtain ⟨h6,k0,k1,hI,f8,dd,df⟩:=gM (Kd.aE a5.out).2.2 aL dv dC
            cases hI
            obtain ⟨m5,ft,fw,ec⟩:=Kd.nC a5.out [] aL dv (by first | exact dC | exact af.D | (have e_:=(Kd.aE a5.out).1;omega))
            obtain ⟨i9,rfl,ci⟩:=fw
            have ba:=ec 0 _ rfl
            rw [Nat.add_zero,show ((Kd.slice 3 (Kd.int .i64))).sz = 1 from rfl,Nat.mul_one] at ba
            replace ba:=Option.some.inj (ba.symm.trans f8)
            rw [ba] at ci
            have ej:=ae.mk (show Kd.R (Kd.int .i64) 3 _ _ _ _ (cw a8 aL) from ci)
            clear ba ci
            clear ec ft
            have el:=ae.mk df
            have ib:=ae.mk dd
            clear df dd
            replace dv:=eq_true dv
            replace dC:=eq_true dC
            go_wp2
            go_roundg k3
            case measure=>have:=ht.out;have:=hu.out;have:=m1.out;omega
            case rel=>exact ⟨(wrap64 (aL+1)),af.F,H',⟨by have:=ht.out;have:=hu.out;have:=m1.out;omega⟩,⟨af.Sw a5.out⟩,⟨af.Rw M.out⟩,⟨af.Sw aS.out⟩,⟨af.Rw j.out⟩,⟨af.Bw y.out⟩,⟨af.L⟩⟩
        ·rw [if_neg g6] at H
         have m0:decide (aL < (a8.length:Int)) = false:=decide_eq_false g6
         clear g6
         have hL:=ae.mk H
         clear H
         obtain ⟨h9,hj,pi⟩:=Kd.cP a5.out
         subst pi
         go_upto_region 22 with (fail)
         go_cut [161] (fun yF wc=>∃ (kq:Nat) (em:Bool),yF = .bool em∧ae (ah.j3 kq a8 a1 em a0 X = some r)∧ae (kq≤k2)∧ae (Kd.S (Kd.slice 3 (Kd.int .i64)) 28 wc w.heap.size (fun k_=>some k_≠(ca:Value).ownBlock∧some k_≠((.slice aB X.length aw):Value).ownBlock) (.slice h9 a8.length hj) a8)∧ae (Kd.R (Kd.int .i64) 3 wc w.heap.size (fun k_=>some k_≠((.slice aB X.length aw):Value).ownBlock) ca a1)∧ae (Kd.R (Kd.int .i64) 3 wc w.heap.size (fun k_=>some k_≠(ca:Value).ownBlock) (.slice aB X.length aw) X)∧ae (wc.heap[b2]? = some (.cells #[.int .i64 a0,(.slice aB X.length aw)] 30 (0,0)))∧ae (Below w.heap.size w wc))
         case first=>as_aux_lemma =>
          have H:=hL.out
          clear hL
          obtain ⟨np,H⟩:=af.ip H
          have i0:=decide_eq_true np
          have yU:decide (0 < a1.length) = true:=decide_eq_true (by omega)
          clear np
          (first | rw [i0] | (simp only [bw,bW];rw [i0]) | skip)
          by_cases fx:(rd a1 0) = (X.length:Int)
          ·rw [if_pos fx] at H
           have m7:((rd a1 0) == (X.length:Int)) = true:=beq_iff_eq.mpr fx
           have m8:((rd a1 0) != (X.length:Int)) = false:=bne_eq_false_iff_eq.mpr fx
           clear fx
           obtain ⟨ns,H⟩:=af.ip H
           have yV:=decide_eq_true ns
           have yW:decide (1 < a1.length) = true:=decide_eq_true (by omega)
           clear ns
           obtain ⟨ed,kc,H⟩:=af.be H
           (try dsimp only at H)
           by_cases fy:(rd a1 1) = (ed.length:Int)
           ·rw [if_pos fy] at H
            have m9:((rd a1 1) == (ed.length:Int)) = true:=beq_iff_eq.mpr fy
            have ma:((rd a1 1) != (ed.length:Int)) = false:=bne_eq_false_iff_eq.mpr fy
            clear fy
            obtain ⟨nz,H⟩:=af.ip H
            have yX:=decide_eq_true nz
            have yY:decide (3 < a1.length) = true:=decide_eq_true (by omega)
            clear nz
            obtain ⟨ev,o0,H⟩:=af.be H
            (try dsimp only at H)
            by_cases fX:(rd a1 3) = (wrap64 (ev+1))
            ·rw [if_pos fX] at H
             have mf:((rd a1 3) == (wrap64 (ev+1))) = true:=beq_iff_eq.mpr fX
             have mi:((rd a1 3) != (wrap64 (ev+1))) = false:=bne_eq_false_iff_eq.mpr fX
             clear fX
             have H':=ae.mk H
             clear H
             try go_wp2
             replace a5:=ae.mk (Kd.ez a5.out)
             replace M:=ae.mk (Kd.bS M.out)
             replace aS:=ae.mk (Kd.ez aS.out)
             replace j:=ae.mk (Kd.bS j.out)
             replace y:=ae.mk (dZ y.out)
             replace HB:=ae.mk (bU HB.out)
             obtain ⟨zp,zq,kd⟩:=Kd.aY M.out
             (first | subst kd | (injection kd with cb dE cc;have dT:=cb.symm;have e0:=cc.symm;clear cb dE cc;subst dT;subst e0))
             have bv:0≤(0:Int):=(by omega)
             have bo:0 < (a1.length:Int):=af.D
             obtain ⟨b0,ew,aF⟩:=Kd.dS (Kd.au M.out).2.2 0 bv bo
             cases ew
             have hl:(0 < a1.length) = True:=eq_true (by omega)
             (try rw [show ((0:Int)).toNat = 0 from rfl] at aF)
             (try rw [Addr.add_zero'] at aF)
             replace bv:=eq_true bv
             replace bo:=eq_true bo
             have d2:0≤(1:Int):=(by omega)
             have cx:1 < (a1.length:Int):=af.D
             obtain ⟨f4,fY,b1⟩:=Kd.dS (Kd.au M.out).2.2 1 d2 cx
             obtain rfl:b0 = f4:=(by injection fY)
             (try simp only [show (1:Int).toNat = 1 from rfl,Nat.reduceMul,Nat.reduceEqDiff,Go.Addr.add,↓reduceIte] at b1)
             have i1:(1 < a1.length) = True:=eq_true (by omega)
             (try rw [show ((1:Int)).toNat = 1 from rfl] at b1)
             replace d2:=eq_true d2
             replace cx:=eq_true cx
             have ex:0≤(3:Int):=(by omega)
             have eQ:3 < (a1.length:Int):=af.D
             obtain ⟨hm,hM,bi⟩:=Kd.dS (Kd.au M.out).2.2 3 ex eQ
             obtain rfl:b0 = hm:=(by injection hM)
             (try simp only [show (3:Int).toNat = 3 from rfl,Nat.reduceMul,Nat.reduceEqDiff,Go.Addr.add,↓reduceIte] at bi)
             have ml:(3 < a1.length) = True:=eq_true (by omega)
             (try rw [show ((3:Int)).toNat = 3 from rfl] at bi)
             replace ex:=eq_true ex
             replace eQ:=eq_true eQ
             refine eS (n:=31) (S:=fun w'=>w'.cell? ⟨b2,0,none⟩ = some (.int .i64 a0)∧w'.cell? ⟨b2,1,none⟩ = some (.slice aB X.length aw)∧w'.cell? b0 = some (.int .i64 (rd a1 0))∧w'.cell? ⟨b0.block,b0.off+1,none⟩ = some (.int .i64 (rd a1 1))∧w'.cell? ⟨b0.block,b0.off+3,none⟩ = some (.int .i64 (rd a1 3))) (ds:=[]) #[false,false,false,false,false,false,false,false,false,false,false,false,false,false,false,false,false,false,false,false,false,false,false,false,false,false,false,false,false,false,false] (by kernel_rfl) rfl rfl ⟨(ak y.out 0).trans rfl,(ak y.out 1).trans rfl,aF,b1,bi⟩ (fun hHeld=>?_);refine dn ah.qy ah.o7 (fun a4 bs=>?_)
             generalize wr.drew = AO at a5 M aS j y HB aF b1 bi hHeld ⊢
             refine af.pu 0 131 a4 ?_
             refine af.pu 1 132 a4 ?_
             refine af.pu 3 134 a4 ?_
             refine af.tk 2 133 a4 bs hHeld ?_
             refine af.tk 4 135 a4 bs hHeld ?_
             refine af.pu 5 136 a4 ?_
             refine af.pu 6 137 a4 ?_
             refine af.pu 7 138 a4 ?_
             refine af.pu 8 139 a4 ?_
             refine af.pu 9 140 a4 ?_
             refine af.tk 10 141 a4 bs hHeld ?_
             refine af.tk 11 142 a4 bs hHeld ?_
             refine gA (i:=12) (N:=some 143) #[true,true,true,true,true,true,true,true,true,true,true,true,true,false,false,false,false,false,false,false,false,false,false,false,false,false,false,false,false,false,false] rfl rfl (dD a4.out (by kernel_rfl)) (by decide) (fun K hK=>?_)
             refine iZ Tryz.func65 (by kernel_rfl) rfl #[.agg #[.int .i64 a0,.slice aB X.length aw]] (by rfl) rfl rfl (by (try simp only [List.map_toArray,List.map_cons,List.map_nil]);first | done | rfl) ?_
             with_reducible refine (b7.calls k2 a0 _ _ X ed _ ?side1 ?side2 kc.out).mono ?_
             (case side1=>exact af.Cw ((Kd.au j.out).2.2))
             (case side2=>exact (Kd.au j.out).2.1)
             rintro e AP ⟨ke,rfl,z,hb⟩
             have g0:=(hb.cell (World.block_lt_of_cell? _ _ (hHeld.2.2.1))).trans (hHeld.2.2.1)
             have g1:=(hb.cell (World.block_lt_of_cell? _ _ (hHeld.2.2.2.1))).trans (hHeld.2.2.2.1)
             have hz:=(hb.cell (World.block_lt_of_cell? _ _ (hHeld.2.2.2.2))).trans (hHeld.2.2.2.2)
             refine ⟨_,rfl,?_⟩
             replace a5:=ae.mk (Kd.aA (af.Sw a5.out) (Kd.bF z) hb)
             replace aS:=ae.mk (Kd.aA (af.Sw aS.out) (Kd.bF z) hb)
             have f5:=ae.mk (Kd.b9 (Kd.dc (Kd.dc z (Kd.cD (af.Rw M.out))) (Kd.cD (af.Rw j.out))) (aj af.L))
             replace M:=ae.mk (Kd.cm (af.Rw M.out) (Kd.bF z) hb)
             replace j:=ae.mk (Kd.cm (af.Rw j.out) (Kd.bF z) hb)
             replace y:=af.bb y hb
             replace HB:=ae.mk (az af.L hb)
             (try clear hb)
             (try clear b3)
             (try clear hk)
             (try clear hi)
             (try clear z)
             obtain ⟨zr,zs,kh⟩:=Kd.aY f5.out
             (first | subst kh | (injection kh with cb dE cc;have dT:=cb.symm;have e0:=cc.symm;clear cb dE cc;subst dT;subst e0))
             refine hK.out _ _ ⟨(ak y.out 0).trans rfl,(ak y.out 1).trans rfl,g0,g1,hz⟩ (fun hHeld=>?_)
             clear hK K
             refine eV (a':=?_) ?_ ?_
             rotate_left
             ·show Act.put _ (some 143) _ = _
              simp only [Act.put,List.setIfInBounds_toArray,List.set_cons_zero,List.set_cons_succ,bw,bW]
              rfl
             refine af.pu 13 144 a4 ?_
             refine af.pu 14 145 a4 ?_
             refine af.pu 15 146 a4 ?_
             refine af.pu 16 147 a4 ?_
             refine af.pu 17 148 a4 ?_
             refine af.pu 18 149 a4 ?_
             refine af.pu 20 151 a4 ?_
             refine af.tk 19 150 a4 bs hHeld ?_
             refine af.tk 21 152 a4 bs hHeld ?_
             refine gA (i:=22) (N:=some 153) #[true,true,true,true,true,true,true,true,true,true,true,true,true,true,true,true,true,true,true,true,true,true,true,false,false,false,false,false,false,false,false] rfl rfl (dD a4.out (by kernel_rfl)) (by decide) (fun K hK=>?_)
             refine iZ Tryz.func24 (by kernel_rfl) rfl #[.int .i64 a0] (by rfl) rfl rfl (by (try simp only [List.map_toArray,List.map_cons,List.map_nil]);first | done | rfl) ?_
             with_reducible refine (br.calls a0 ev _ o0.out).mono ?_
             rintro e w' ⟨rfl,⟨nd,rfl⟩⟩
             refine ⟨_,rfl,?_⟩
             refine hK.out _ _ ⟨(ak y.out 0).trans rfl,(ak y.out 1).trans rfl,hHeld.2.2.1,hHeld.2.2.2.1,hHeld.2.2.2.2⟩ (fun hHeld=>?_)
             clear hK K
             refine eV (a':=?_) ?_ ?_
             rotate_left
             ·show Act.put _ (some 153) _ = _
              simp only [Act.put,List.setIfInBounds_toArray,List.set_cons_zero,List.set_cons_succ,bw,bW]
              rfl
             refine af.pu 23 154 a4 ?_
             refine af.pu 24 155 a4 ?_
             refine af.pu 25 156 a4 ?_
             refine af.pu 26 157 a4 ?_
             refine af.pu 27 158 a4 ?_
             refine af.tk 28 159 a4 bs hHeld ?_
             refine af.pu 29 160 a4 ?_
             refine af.pu 30 161 a4 ?_
             refine gh (er a4.out (by kernel_rfl)) ?_
             try go_wp2
             go_meet
             case rel=>exact ⟨_,((a0 == 0)),af.F,H',⟨by have:=ht.out;have:=hu.out;first | omega | exact Nat.le_refl _⟩,⟨af.Sw (Kd.dh a5.out (fun _ hk=>(by first | exact ⟨hk.1.1,hk.1.2.2⟩ | (simp_all;done))))⟩,⟨af.Rw (Kd.aX M.out (fun _ hk=>hk.1))⟩,⟨af.Rw (Kd.aX j.out (fun _ hk=>hk.1))⟩,⟨af.Bw y.out⟩,⟨af.L⟩⟩
            ·rw [if_neg fX] at H
             have mf:((rd a1 3) == (wrap64 (ev+1))) = false:=beq_eq_false_iff_ne.mpr fX
             have mi:((rd a1 3) != (wrap64 (ev+1))) = true:=bne_iff_ne.mpr fX
             have H':=ae.mk H
             clear H
             try go_wp2
             replace a5:=ae.mk (Kd.ez a5.out)
             replace M:=ae.mk (Kd.bS M.out)
             replace aS:=ae.mk (Kd.ez aS.out)
             replace j:=ae.mk (Kd.bS j.out)
             replace y:=ae.mk (dZ y.out)
             replace HB:=ae.mk (bU HB.out)
             obtain ⟨zt,zu,kl⟩:=Kd.aY M.out
             (first | subst kl | (injection kl with cb dE cc;have dT:=cb.symm;have e0:=cc.symm;clear cb dE cc;subst dT;subst e0))
             have bv:0≤(0:Int):=(by omega)
             have bo:0 < (a1.length:Int):=af.D
             obtain ⟨b0,ew,aF⟩:=Kd.dS (Kd.au M.out).2.2 0 bv bo
             cases ew
             have hl:(0 < a1.length) = True:=eq_true (by omega)
             (try rw [show ((0:Int)).toNat = 0 from rfl] at aF)
             (try rw [Addr.add_zero'] at aF)
             replace bv:=eq_true bv
             replace bo:=eq_true bo
             have d2:0≤(1:Int):=(by omega)
             have cx:1 < (a1.length:Int):=af.D
             obtain ⟨f4,fY,b1⟩:=Kd.dS (Kd.au M.out).2.2 1 d2 cx
             obtain rfl:b0 = f4:=(by injection fY)
             (try simp only [show (1:Int).toNat = 1 from rfl,Nat.reduceMul,Nat.reduceEqDiff,Go.Addr.add,↓reduceIte] at b1)
             have i1:(1 < a1.length) = True:=eq_true (by omega)
             (try rw [show ((1:Int)).toNat = 1 from rfl] at b1)
             replace d2:=eq_true d2
             replace cx:=eq_true cx
             have ex:0≤(3:Int):=(by omega)
             have eQ:3 < (a1.length:Int):=af.D
             obtain ⟨hm,hM,bi⟩:=Kd.dS (Kd.au M.out).2.2 3 ex eQ
             obtain rfl:b0 = hm:=(by injection hM)
             (try simp only [show (3:Int).toNat = 3 from rfl,Nat.reduceMul,Nat.reduceEqDiff,Go.Addr.add,↓reduceIte] at bi)
             have ml:(3 < a1.length) = True:=eq_true (by omega)
             (try rw [show ((3:Int)).toNat = 3 from rfl] at bi)
             replace ex:=eq_true ex
             replace eQ:=eq_true eQ
             refine eS (n:=31) (S:=fun w'=>w'.cell? ⟨b2,0,none⟩ = some (.int .i64 a0)∧w'.cell? ⟨b2,1,none⟩ = some (.slice aB X.length aw)∧w'.cell? b0 = some (.int .i64 (rd a1 0))∧w'.cell? ⟨b0.block,b0.off+1,none⟩ = some (.int .i64 (rd a1 1))∧w'.cell? ⟨b0.block,b0.off+3,none⟩ = some (.int .i64 (rd a1 3))) (ds:=[]) #[false,false,false,false,false,false,false,false,false,false,false,false,false,false,false,false,false,false,false,false,false,false,false,false,false,false,false,false,false,false,false] (by kernel_rfl) rfl rfl ⟨(ak y.out 0).trans rfl,(ak y.out 1).trans rfl,aF,b1,bi⟩ (fun hHeld=>?_);refine dn ah.qy ah.o7 (fun a4 bs=>?_)
             generalize wr.drew = AQ at a5 M aS j y HB aF b1 bi hHeld ⊢
             refine af.pu 0 131 a4 ?_
             refine af.pu 1 132 a4 ?_
             refine af.pu 3 134 a4 ?_
             refine af.tk 2 133 a4 bs hHeld ?_
             refine af.tk 4 135 a4 bs hHeld ?_
             refine af.pu 5 136 a4 ?_
             refine af.pu 6 137 a4 ?_
             refine af.pu 7 138 a4 ?_
             refine af.pu 8 139 a4 ?_
             refine af.pu 9 140 a4 ?_
             refine af.tk 10 141 a4 bs hHeld ?_
             refine af.tk 11 142 a4 bs hHeld ?_
             refine gA (i:=12) (N:=some 143) #[true,true,true,true,true,true,true,true,true,true,true,true,true,false,false,false,false,false,false,false,false,false,false,false,false,false,false,false,false,false,false] rfl rfl (dD a4.out (by kernel_rfl)) (by decide) (fun K hK=>?_)
             refine iZ Tryz.func65 (by kernel_rfl) rfl #[.agg #[.int .i64 a0,.slice aB X.length aw]] (by rfl) rfl rfl (by (try simp only [List.map_toArray,List.map_cons,List.map_nil]);first | done | rfl) ?_
             with_reducible refine (b7.calls k2 a0 _ _ X ed _ ?side1 ?side2 kc.out).mono ?_
             (case side1=>exact af.Cw ((Kd.au j.out).2.2))
             (case side2=>exact (Kd.au j.out).2.1)
             rintro e AR ⟨ke,rfl,z,hb⟩
             have g0:=(hb.cell (World.block_lt_of_cell? _ _ (hHeld.2.2.1))).trans (hHeld.2.2.1)
             have g1:=(hb.cell (World.block_lt_of_cell? _ _ (hHeld.2.2.2.1))).trans (hHeld.2.2.2.1)
             have hz:=(hb.cell (World.block_lt_of_cell? _ _ (hHeld.2.2.2.2))).trans (hHeld.2.2.2.2)
             refine ⟨_,rfl,?_⟩
             replace a5:=ae.mk (Kd.aA (af.Sw a5.out) (Kd.bF z) hb)
             replace aS:=ae.mk (Kd.aA (af.Sw aS.out) (Kd.bF z) hb)
             have f5:=ae.mk (Kd.b9 (Kd.dc (Kd.dc z (Kd.cD (af.Rw M.out))) (Kd.cD (af.Rw j.out))) (aj af.L))
             replace M:=ae.mk (Kd.cm (af.Rw M.out) (Kd.bF z) hb)
             replace j:=ae.mk (Kd.cm (af.Rw j.out) (Kd.bF z) hb)
             replace y:=af.bb y hb
             replace HB:=ae.mk (az af.L hb)
             (try clear hb)
             (try clear b3)
             (try clear hk)
             (try clear hi)
             (try clear z)
             obtain ⟨zv,zw,km⟩:=Kd.aY f5.out
             (first | subst km | (injection km with cb dE cc;have dT:=cb.symm;have e0:=cc.symm;clear cb dE cc;subst dT;subst e0))
             refine hK.out _ _ ⟨(ak y.out 0).trans rfl,(ak y.out 1).trans rfl,g0,g1,hz⟩ (fun hHeld=>?_)
             clear hK K
             refine eV (a':=?_) ?_ ?_
             rotate_left
             ·show Act.put _ (some 143) _ = _
              simp only [Act.put,List.setIfInBounds_toArray,List.set_cons_zero,List.set_cons_succ,bw,bW]
              rfl
             refine af.pu 13 144 a4 ?_
             refine af.pu 14 145 a4 ?_
             refine af.pu 15 146 a4 ?_
             refine af.pu 16 147 a4 ?_
             refine af.pu 17 148 a4 ?_
             refine af.pu 18 149 a4 ?_
             refine af.pu 20 151 a4 ?_
             refine af.tk 19 150 a4 bs hHeld ?_
             refine af.tk 21 152 a4 bs hHeld ?_
             refine gA (i:=22) (N:=some 153) #[true,true,true,true,true,true,true,true,true,true,true,true,true,true,true,true,true,true,true,true,true,true,true,false,false,false,false,false,false,false,false] rfl rfl (dD a4.out (by kernel_rfl)) (by decide) (fun K hK=>?_)
             refine iZ Tryz.func24 (by kernel_rfl) rfl #[.int .i64 a0] (by rfl) rfl rfl (by (try simp only [List.map_toArray,List.map_cons,List.map_nil]);first | done | rfl) ?_
             with_reducible refine (br.calls a0 ev _ o0.out).mono ?_
             rintro e w' ⟨rfl,⟨nd,rfl⟩⟩
             refine ⟨_,rfl,?_⟩
             refine hK.out _ _ ⟨(ak y.out 0).trans rfl,(ak y.out 1).trans rfl,hHeld.2.2.1,hHeld.2.2.2.1,hHeld.2.2.2.2⟩ (fun hHeld=>?_)
             clear hK K
             refine eV (a':=?_) ?_ ?_
             rotate_left
             ·show Act.put _ (some 153) _ = _
              simp only [Act.put,List.setIfInBounds_toArray,List.set_cons_zero,List.set_cons_succ,bw,bW]
              rfl
             refine af.pu 23 154 a4 ?_
             refine af.pu 24 155 a4 ?_
             refine af.pu 25 156 a4 ?_
             refine af.pu 26 157 a4 ?_
             refine dP (i:=27) (N:=some 158) (v:=undef) (a':=?_) #[true,true,true,true,true,true,true,true,true,true,true,true,true,true,true,true,true,true,true,true,true,true,true,true,true,true,true,true,false,false,false] rfl rfl (dg a4.out (by kernel_rfl)) (fun _ _ _ h=>h) (Or.inr ⟨by rfl,rfl⟩) ?_ ?_
             rotate_left
             ·simp only [Act.put,List.setIfInBounds_toArray,List.set_cons_zero,List.set_cons_succ,bw,bW]
              rfl
             refine dP (i:=28) (N:=some 159) (v:=undef) (a':=?_) #[true,true,true,true,true,true,true,true,true,true,true,true,true,true,true,true,true,true,true,true,true,true,true,true,true,true,true,true,true,false,false] rfl rfl (dg a4.out (by kernel_rfl)) (fun _ _ _ h=>h) (Or.inr ⟨by rfl,rfl⟩) ?_ ?_
             rotate_left
             ·simp only [Act.put,List.setIfInBounds_toArray,List.set_cons_zero,List.set_cons_succ,bw,bW]
              rfl
             refine dP (i:=29) (N:=some 160) (v:=undef) (a':=?_) #[true,true,true,true,true,true,true,true,true,true,true,true,true,true,true,true,true,true,true,true,true,true,true,true,true,true,true,true,true,true,false] rfl rfl (dg a4.out (by kernel_rfl)) (fun _ _ _ h=>h) (Or.inr ⟨by rfl,rfl⟩) ?_ ?_
             rotate_left
             ·simp only [Act.put,List.setIfInBounds_toArray,List.set_cons_zero,List.set_cons_succ,bw,bW]
              rfl
             refine af.pu 30 161 a4 ?_
             refine gh (er a4.out (by kernel_rfl)) ?_
             try go_wp2
             go_meet
             case rel=>exact ⟨_,(true),af.F,H',⟨by have:=ht.out;have:=hu.out;first | omega | exact Nat.le_refl _⟩,⟨af.Sw (Kd.dh a5.out (fun _ hk=>(by first | exact ⟨hk.1.1,hk.1.2.2⟩ | (simp_all;done))))⟩,⟨af.Rw (Kd.aX M.out (fun _ hk=>hk.1))⟩,⟨af.Rw (Kd.aX j.out (fun _ hk=>hk.1))⟩,⟨af.Bw y.out⟩,⟨af.L⟩⟩
           ·rw [if_neg fy] at H
            have m9:((rd a1 1) == (ed.length:Int)) = false:=beq_eq_false_iff_ne.mpr fy
            have ma:((rd a1 1) != (ed.length:Int)) = true:=bne_iff_ne.mpr fy
            have H':=ae.mk H
            clear H
            try go_wp2
            replace a5:=ae.mk (Kd.ez a5.out)
            replace M:=ae.mk (Kd.bS M.out)
            replace aS:=ae.mk (Kd.ez aS.out)
            replace j:=ae.mk (Kd.bS j.out)
            replace y:=ae.mk (dZ y.out)
            replace HB:=ae.mk (bU HB.out)
            obtain ⟨zx,zy,ks⟩:=Kd.aY M.out
            (first | subst ks | (injection ks with cb dE cc;have dT:=cb.symm;have e0:=cc.symm;clear cb dE cc;subst dT;subst e0))
            have bv:0≤(0:Int):=(by omega)
            have bo:0 < (a1.length:Int):=af.D
            obtain ⟨b0,ew,aF⟩:=Kd.dS (Kd.au M.out).2.2 0 bv bo
            cases ew
            have hl:(0 < a1.length) = True:=eq_true (by omega)
            (try rw [show ((0:Int)).toNat = 0 from rfl] at aF)
            (try rw [Addr.add_zero'] at aF)
            replace bv:=eq_true bv
            replace bo:=eq_true bo
            have d2:0≤(1:Int):=(by omega)
            have cx:1 < (a1.length:Int):=af.D
            obtain ⟨f4,fY,b1⟩:=Kd.dS (Kd.au M.out).2.2 1 d2 cx
            obtain rfl:b0 = f4:=(by injection fY)
            (try simp only [show (1:Int).toNat = 1 from rfl,Nat.reduceMul,Nat.reduceEqDiff,Go.Addr.add,↓reduceIte] at b1)
            have i1:(1 < a1.length) = True:=eq_true (by omega)
            (try rw [show ((1:Int)).toNat = 1 from rfl] at b1)
            replace d2:=eq_true d2
            replace cx:=eq_true cx
            refine eS (n:=31) (S:=fun w'=>w'.cell? ⟨b2,0,none⟩ = some (.int .i64 a0)∧w'.cell? ⟨b2,1,none⟩ = some (.slice aB X.length aw)∧w'.cell? b0 = some (.int .i64 (rd a1 0))∧w'.cell? ⟨b0.block,b0.off+1,none⟩ = some (.int .i64 (rd a1 1))) (ds:=[]) #[false,false,false,false,false,false,false,false,false,false,false,false,false,false,false,false,false,false,false,false,false,false,false,false,false,false,false,false,false,false,false] (by kernel_rfl) rfl rfl ⟨(ak y.out 0).trans rfl,(ak y.out 1).trans rfl,aF,b1⟩ (fun hHeld=>?_);refine dn ah.qy ah.o7 (fun a4 bs=>?_)
            generalize wr.drew = AS at a5 M aS j y HB aF b1 hHeld ⊢
            refine af.pu 0 131 a4 ?_
            refine af.pu 1 132 a4 ?_
            refine af.pu 3 134 a4 ?_
            refine af.tk 2 133 a4 bs hHeld ?_
            refine af.tk 4 135 a4 bs hHeld ?_
            refine af.pu 5 136 a4 ?_
            refine af.pu 6 137 a4 ?_
            refine af.pu 7 138 a4 ?_
            refine af.pu 8 139 a4 ?_
            refine af.pu 9 140 a4 ?_
            refine af.tk 10 141 a4 bs hHeld ?_
            refine af.tk 11 142 a4 bs hHeld ?_
            refine gA (i:=12) (N:=some 143) #[true,true,true,true,true,true,true,true,true,true,true,true,true,false,false,false,false,false,false,false,false,false,false,false,false,false,false,false,false,false,false] rfl rfl (dD a4.out (by kernel_rfl)) (by decide) (fun K hK=>?_)
            refine iZ Tryz.func65 (by kernel_rfl) rfl #[.agg #[.int .i64 a0,.slice aB X.length aw]] (by rfl) rfl rfl (by (try simp only [List.map_toArray,List.map_cons,List.map_nil]);first | done | rfl) ?_
            with_reducible refine (b7.calls k2 a0 _ _ X ed _ ?side1 ?side2 kc.out).mono ?_
            (case side1=>exact af.Cw ((Kd.au j.out).2.2))
            (case side2=>exact (Kd.au j.out).2.1)
            rintro e AT ⟨ke,rfl,z,hb⟩
            have g0:=(hb.cell (World.block_lt_of_cell? _ _ (hHeld.2.2.1))).trans (hHeld.2.2.1)
            have g1:=(hb.cell (World.block_lt_of_cell? _ _ (hHeld.2.2.2))).trans (hHeld.2.2.2)
            refine ⟨_,rfl,?_⟩
            replace a5:=ae.mk (Kd.aA (af.Sw a5.out) (Kd.bF z) hb)
            replace aS:=ae.mk (Kd.aA (af.Sw aS.out) (Kd.bF z) hb)
            have f5:=ae.mk (Kd.b9 (Kd.dc (Kd.dc z (Kd.cD (af.Rw M.out))) (Kd.cD (af.Rw j.out))) (aj af.L))
            replace M:=ae.mk (Kd.cm (af.Rw M.out) (Kd.bF z) hb)
            replace j:=ae.mk (Kd.cm (af.Rw j.out) (Kd.bF z) hb)
            replace y:=af.bb y hb
            replace HB:=ae.mk (az af.L hb)
            (try clear hb)
            (try clear b3)
            (try clear hk)
            (try clear hi)
            (try clear z)
            obtain ⟨zz,zA,kt⟩:=Kd.aY f5.out
            (first | subst kt | (injection kt with cb dE cc;have dT:=cb.symm;have e0:=cc.symm;clear cb dE cc;subst dT;subst e0))
            refine hK.out _ _ ⟨(ak y.out 0).trans rfl,(ak y.out 1).trans rfl,g0,g1⟩ (fun hHeld=>?_)
            clear hK K
            refine eV (a':=?_) ?_ ?_
            rotate_left
            ·show Act.put _ (some 143) _ = _
             simp only [Act.put,List.setIfInBounds_toArray,List.set_cons_zero,List.set_cons_succ,bw,bW]
             rfl
            refine af.pu 13 144 a4 ?_
            refine af.pu 14 145 a4 ?_
            refine af.pu 15 146 a4 ?_
            refine af.pu 16 147 a4 ?_
            refine dP (i:=17) (N:=some 148) (v:=undef) (a':=?_) #[true,true,true,true,true,true,true,true,true,true,true,true,true,true,true,true,true,true,false,false,false,false,false,false,false,false,false,false,false,false,false] rfl rfl (dg a4.out (by kernel_rfl)) (fun _ _ _ h=>h) (Or.inr ⟨by rfl,rfl⟩) ?_ ?_
            rotate_left
            ·simp only [Act.put,List.setIfInBounds_toArray,List.set_cons_zero,List.set_cons_succ,bw,bW]
             rfl
            refine dP (i:=18) (N:=some 149) (v:=undef) (a':=?_) #[true,true,true,true,true,true,true,true,true,true,true,true,true,true,true,true,true,true,true,false,false,false,false,false,false,false,false,false,false,false,false] rfl rfl (dg a4.out (by kernel_rfl)) (fun _ _ _ h=>h) (Or.inr ⟨by rfl,rfl⟩) ?_ ?_
            rotate_left
            ·simp only [Act.put,List.setIfInBounds_toArray,List.set_cons_zero,List.set_cons_succ,bw,bW]
             rfl
            refine dP (i:=19) (N:=some 150) (v:=undef) (a':=?_) #[true,true,true,true,true,true,true,true,true,true,true,true,true,true,true,true,true,true,true,true,false,false,false,false,false,false,false,false,false,false,false] rfl rfl (dg a4.out (by kernel_rfl)) (fun _ _ _ h=>h) (Or.inr ⟨by rfl,rfl⟩) ?_ ?_
            rotate_left
            ·simp only [Act.put,List.setIfInBounds_toArray,List.set_cons_zero,List.set_cons_succ,bw,bW]
             rfl
            refine dP (i:=20) (N:=some 151) (v:=undef) (a':=?_) #[true,true,true,true,true,true,true,true,true,true,true,true,true,true,true,true,true,true,true,true,true,false,false,false,false,false,false,false,false,false,false] rfl rfl (dg a4.out (by kernel_rfl)) (fun _ _ _ h=>h) (Or.inr ⟨by rfl,rfl⟩) ?_ ?_
            rotate_left
            ·simp only [Act.put,List.setIfInBounds_toArray,List.set_cons_zero,List.set_cons_succ,bw,bW]
             rfl
            refine dP (i:=21) (N:=some 152) (v:=undef) (a':=?_) #[true,true,true,true,true,true,true,true,true,true,true,true,true,true,true,true,true,true,true,true,true,true,false,false,false,false,false,false,false,false,false] rfl rfl (dg a4.out (by kernel_rfl)) (fun _ _ _ h=>h) (Or.inr ⟨by rfl,rfl⟩) ?_ ?_
            rotate_left
            ·simp only [Act.put,List.setIfInBounds_toArray,List.set_cons_zero,List.set_cons_succ,bw,bW]
             rfl
            refine dP (i:=22) (N:=some 153) (v:=undef) (a':=?_) #[true,true,true,true,true,true,true,true,true,true,true,true,true,true,true,true,true,true,true,true,true,true,true,false,false,false,false,false,false,false,false] rfl rfl (dg a4.out (by kernel_rfl)) (fun _ _ _ h=>h) (Or.inr ⟨by rfl,rfl⟩) ?_ ?_
            rotate_left
            ·simp only [Act.put,List.setIfInBounds_toArray,List.set_cons_zero,List.set_cons_succ,bw,bW]
             rfl
            refine dP (i:=23) (N:=some 154) (v:=undef) (a':=?_) #[true,true,true,true,true,true,true,true,true,true,true,true,true,true,true,true,true,true,true,true,true,true,true,true,false,false,false,false,false,false,false] rfl rfl (dg a4.out (by kernel_rfl)) (fun _ _ _ h=>h) (Or.inr ⟨by rfl,rfl⟩) ?_ ?_
            rotate_left
            ·simp only [Act.put,List.setIfInBounds_toArray,List.set_cons_zero,List.set_cons_succ,bw,bW]
             rfl
            refine dP (i:=24) (N:=some 155) (v:=undef) (a':=?_) #[true,true,true,true,true,true,true,true,true,true,true,true,true,true,true,true,true,true,true,true,true,true,true,true,true,false,false,false,false,false,false] rfl rfl (dg a4.out (by kernel_rfl)) (fun _ _ _ h=>h) (Or.inr ⟨by rfl,rfl⟩) ?_ ?_
            rotate_left
            ·simp only [Act.put,List.setIfInBounds_toArray,List.set_cons_zero,List.set_cons_succ,bw,bW]
             rfl
            refine af.pu 25 156 a4 ?_
            refine af.pu 26 157 a4 ?_
            refine dP (i:=27) (N:=some 158) (v:=undef) (a':=?_) #[true,true,true,true,true,true,true,true,true,true,true,true,true,true,true,true,true,true,true,true,true,true,true,true,true,true,true,true,false,false,false] rfl rfl (dg a4.out (by kernel_rfl)) (fun _ _ _ h=>h) (Or.inr ⟨by rfl,rfl⟩) ?_ ?_
            rotate_left
            ·simp only [Act.put,List.setIfInBounds_toArray,List.set_cons_zero,List.set_cons_succ,bw,bW]
             rfl
            refine dP (i:=28) (N:=some 159) (v:=undef) (a':=?_) #[true,true,true,true,true,true,true,true,true,true,true,true,true,true,true,true,true,true,true,true,true,true,true,true,true,true,true,true,true,false,false] rfl rfl (dg a4.out (by kernel_rfl)) (fun _ _ _ h=>h) (Or.inr ⟨by rfl,rfl⟩) ?_ ?_
            rotate_left
            ·simp only [Act.put,List.setIfInBounds_toArray,List.set_cons_zero,List.set_cons_succ,bw,bW]
             rfl
            refine dP (i:=29) (N:=some 160) (v:=undef) (a':=?_) #[true,true,true,true,true,true,true,true,true,true,true,true,true,true,true,true,true,true,true,true,true,true,true,true,true,true,true,true,true,true,false] rfl rfl (dg a4.out (by kernel_rfl)) (fun _ _ _ h=>h) (Or.inr ⟨by rfl,rfl⟩) ?_ ?_
            rotate_left
            ·simp only [Act.put,List.setIfInBounds_toArray,List.set_cons_zero,List.set_cons_succ,bw,bW]
             rfl
            refine af.pu 30 161 a4 ?_
            refine gh (er a4.out (by kernel_rfl)) ?_
            try go_wp2
            go_meet
            case rel=>exact ⟨_,(true),af.F,H',⟨by have:=ht.out;have:=hu.out;first | omega | exact Nat.le_refl _⟩,⟨af.Sw (Kd.dh a5.out (fun _ hk=>(by first | exact ⟨hk.1.1,hk.1.2.2⟩ | (simp_all;done))))⟩,⟨af.Rw (Kd.aX M.out (fun _ hk=>hk.1))⟩,⟨af.Rw (Kd.aX j.out (fun _ hk=>hk.1))⟩,⟨af.Bw y.out⟩,⟨af.L⟩⟩
          ·rw [if_neg fx] at H
           have m7:((rd a1 0) == (X.length:Int)) = false:=beq_eq_false_iff_ne.mpr fx
           have m8:((rd a1 0) != (X.length:Int)) = true:=bne_iff_ne.mpr fx
           have H':=ae.mk H
           clear H
           try go_wp2
           replace a5:=ae.mk (Kd.ez a5.out)
           replace M:=ae.mk (Kd.bS M.out)
           replace aS:=ae.mk (Kd.ez aS.out)
           replace j:=ae.mk (Kd.bS j.out)
           replace y:=ae.mk (dZ y.out)
           replace HB:=ae.mk (bU HB.out)
           obtain ⟨zB,zC,kv⟩:=Kd.aY M.out
           (first | subst kv | (injection kv with cb dE cc;have dT:=cb.symm;have e0:=cc.symm;clear cb dE cc;subst dT;subst e0))
           have bv:0≤(0:Int):=(by omega)
           have bo:0 < (a1.length:Int):=af.D
           obtain ⟨b0,ew,aF⟩:=Kd.dS (Kd.au M.out).2.2 0 bv bo
           cases ew
           have hl:(0 < a1.length) = True:=eq_true (by omega)
           (try rw [show ((0:Int)).toNat = 0 from rfl] at aF)
           (try rw [Addr.add_zero'] at aF)
           replace bv:=eq_true bv
           replace bo:=eq_true bo
           refine eS (n:=31) (S:=fun w'=>w'.cell? ⟨b2,0,none⟩ = some (.int .i64 a0)∧w'.cell? ⟨b2,1,none⟩ = some (.slice aB X.length aw)∧w'.cell? b0 = some (.int .i64 (rd a1 0))) (ds:=[]) #[false,false,false,false,false,false,false,false,false,false,false,false,false,false,false,false,false,false,false,false,false,false,false,false,false,false,false,false,false,false,false] (by kernel_rfl) rfl rfl ⟨(ak y.out 0).trans rfl,(ak y.out 1).trans rfl,aF⟩ (fun hHeld=>?_);refine dn ah.qy ah.o7 (fun a4 bs=>?_)
           generalize wr.drew = AU at a5 M aS j y HB aF hHeld ⊢
           refine af.pu 0 131 a4 ?_
           refine af.pu 1 132 a4 ?_
           refine af.pu 3 134 a4 ?_
           refine af.tk 2 133 a4 bs hHeld ?_
           refine af.tk 4 135 a4 bs hHeld ?_
           refine af.pu 5 136 a4 ?_
           refine af.pu 6 137 a4 ?_
           refine af.pu 7 138 a4 ?_
           refine dP (i:=8) (N:=some 139) (v:=undef) (a':=?_) #[true,true,true,true,true,true,true,true,true,false,false,false,false,false,false,false,false,false,false,false,false,false,false,false,false,false,false,false,false,false,false] rfl rfl (dg a4.out (by kernel_rfl)) (fun _ _ _ h=>h) (Or.inr ⟨by rfl,rfl⟩) ?_ ?_
           rotate_left
           ·simp only [Act.put,List.setIfInBounds_toArray,List.set_cons_zero,List.set_cons_succ,bw,bW]
            rfl
           refine dP (i:=9) (N:=some 140) (v:=undef) (a':=?_) #[true,true,true,true,true,true,true,true,true,true,false,false,false,false,false,false,false,false,false,false,false,false,false,false,false,false,false,false,false,false,false] rfl rfl (dg a4.out (by kernel_rfl)) (fun _ _ _ h=>h) (Or.inr ⟨by rfl,rfl⟩) ?_ ?_
           rotate_left
           ·simp only [Act.put,List.setIfInBounds_toArray,List.set_cons_zero,List.set_cons_succ,bw,bW]
            rfl
           refine dP (i:=10) (N:=some 141) (v:=undef) (a':=?_) #[true,true,true,true,true,true,true,true,true,true,true,false,false,false,false,false,false,false,false,false,false,false,false,false,false,false,false,false,false,false,false] rfl rfl (dg a4.out (by kernel_rfl)) (fun _ _ _ h=>h) (Or.inr ⟨by rfl,rfl⟩) ?_ ?_
           rotate_left
           ·simp only [Act.put,List.setIfInBounds_toArray,List.set_cons_zero,List.set_cons_succ,bw,bW]
            rfl
           refine dP (i:=11) (N:=some 142) (v:=undef) (a':=?_) #[true,true,true,true,true,true,true,true,true,true,true,true,false,false,false,false,false,false,false,false,false,false,false,false,false,false,false,false,false,false,false] rfl rfl (dg a4.out (by kernel_rfl)) (fun _ _ _ h=>h) (Or.inr ⟨by rfl,rfl⟩) ?_ ?_
           rotate_left
           ·simp only [Act.put,List.setIfInBounds_toArray,List.set_cons_zero,List.set_cons_succ,bw,bW]
            rfl
           refine dP (i:=12) (N:=some 143) (v:=undef) (a':=?_) #[true,true,true,true,true,true,true,true,true,true,true,true,true,false,false,false,false,false,false,false,false,false,false,false,false,false,false,false,false,false,false] rfl rfl (dg a4.out (by kernel_rfl)) (fun _ _ _ h=>h) (Or.inr ⟨by rfl,rfl⟩) ?_ ?_
           rotate_left
           ·simp only [Act.put,List.setIfInBounds_toArray,List.set_cons_zero,List.set_cons_succ,bw,bW]
            rfl
           refine dP (i:=13) (N:=some 144) (v:=undef) (a':=?_) #[true,true,true,true,true,true,true,true,true,true,true,true,true,true,false,false,false,false,false,false,false,false,false,false,false,false,false,false,false,false,false] rfl rfl (dg a4.out (by kernel_rfl)) (fun _ _ _ h=>h) (Or.inr ⟨by rfl,rfl⟩) ?_ ?_
           rotate_left
           ·simp only [Act.put,List.setIfInBounds_toArray,List.set_cons_zero,List.set_cons_succ,bw,bW]
            rfl
           refine dP (i:=14) (N:=some 145) (v:=undef) (a':=?_) #[true,true,true,true,true,true,true,true,true,true,true,true,true,true,true,false,false,false,false,false,false,false,false,false,false,false,false,false,false,false,false] rfl rfl (dg a4.out (by kernel_rfl)) (fun _ _ _ h=>h) (Or.inr ⟨by rfl,rfl⟩) ?_ ?_
           rotate_left
           ·simp only [Act.put,List.setIfInBounds_toArray,List.set_cons_zero,List.set_cons_succ,bw,bW]
            rfl
           refine af.pu 15 146 a4 ?_
           refine af.pu 16 147 a4 ?_
           refine dP (i:=17) (N:=some 148) (v:=undef) (a':=?_) #[true,true,true,true,true,true,true,true,true,true,true,true,true,true,true,true,true,true,false,false,false,false,false,false,false,false,false,false,false,false,false] rfl rfl (dg a4.out (by kernel_rfl)) (fun _ _ _ h=>h) (Or.inr ⟨by rfl,rfl⟩) ?_ ?_
           rotate_left
           ·simp only [Act.put,List.setIfInBounds_toArray,List.set_cons_zero,List.set_cons_succ,bw,bW]
            rfl
           refine dP (i:=18) (N:=some 149) (v:=undef) (a':=?_) #[true,true,true,true,true,true,true,true,true,true,true,true,true,true,true,true,true,true,true,false,false,false,false,false,false,false,false,false,false,false,false] rfl rfl (dg a4.out (by kernel_rfl)) (fun _ _ _ h=>h) (Or.inr ⟨by rfl,rfl⟩) ?_ ?_
           rotate_left
           ·simp only [Act.put,List.setIfInBounds_toArray,List.set_cons_zero,List.set_cons_succ,bw,bW]
            rfl
           refine dP (i:=19) (N:=some 150) (v:=undef) (a':=?_) #[true,true,true,true,true,true,true,true,true,true,true,true,true,true,true,true,true,true,true,true,false,false,false,false,false,false,false,false,false,false,false] rfl rfl (dg a4.out (by kernel_rfl)) (fun _ _ _ h=>h) (Or.inr ⟨by rfl,rfl⟩) ?_ ?_
           rotate_left
           ·simp only [Act.put,List.setIfInBounds_toArray,List.set_cons_zero,List.set_cons_succ,bw,bW]
            rfl
           refine dP (i:=20) (N:=some 151) (v:=undef) (a':=?_) #[true,true,true,true,true,true,true,true,true,true,true,true,true,true,true,true,true,true,true,true,true,false,false,false,false,false,false,false,false,false,false] rfl rfl (dg a4.out (by kernel_rfl)) (fun _ _ _ h=>h) (Or.inr ⟨by rfl,rfl⟩) ?_ ?_
           rotate_left
           ·simp only [Act.put,List.setIfInBounds_toArray,List.set_cons_zero,List.set_cons_succ,bw,bW]
            rfl
           refine dP (i:=21) (N:=some 152) (v:=undef) (a':=?_) #[true,true,true,true,true,true,true,true,true,true,true,true,true,true,true,true,true,true,true,true,true,true,false,false,false,false,false,false,false,false,false] rfl rfl (dg a4.out (by kernel_rfl)) (fun _ _ _ h=>h) (Or.inr ⟨by rfl,rfl⟩) ?_ ?_
           rotate_left
           ·simp only [Act.put,List.setIfInBounds_toArray,List.set_cons_zero,List.set_cons_succ,bw,bW]
            rfl
           refine dP (i:=22) (N:=some 153) (v:=undef) (a':=?_) #[true,true,true,true,true,true,true,true,true,true,true,true,true,true,true,true,true,true,true,true,true,true,true,false,false,false,false,false,false,false,false] rfl rfl (dg a4.out (by kernel_rfl)) (fun _ _ _ h=>h) (Or.inr ⟨by rfl,rfl⟩) ?_ ?_
           rotate_left
           ·simp only [Act.put,List.setIfInBounds_toArray,List.set_cons_zero,List.set_cons_succ,bw,bW]
            rfl
           refine dP (i:=23) (N:=some 154) (v:=undef) (a':=?_) #[true,true,true,true,true,true,true,true,true,true,true,true,true,true,true,true,true,true,true,true,true,true,true,true,false,false,false,false,false,false,false] rfl rfl (dg a4.out (by kernel_rfl)) (fun _ _ _ h=>h) (Or.inr ⟨by rfl,rfl⟩) ?_ ?_
           rotate_left
           ·simp only [Act.put,List.setIfInBounds_toArray,List.set_cons_zero,List.set_cons_succ,bw,bW]
            rfl
           refine dP (i:=24) (N:=some 155) (v:=undef) (a':=?_) #[true,true,true,true,true,true,true,true,true,true,true,true,true,true,true,true,true,true,true,true,true,true,true,true,true,false,false,false,false,false,false] rfl rfl (dg a4.out (by kernel_rfl)) (fun _ _ _ h=>h) (Or.inr ⟨by rfl,rfl⟩) ?_ ?_
           rotate_left
           ·simp only [Act.put,List.setIfInBounds_toArray,List.set_cons_zero,List.set_cons_succ,bw,bW]
            rfl
           refine af.pu 25 156 a4 ?_
           refine af.pu 26 157 a4 ?_
           refine dP (i:=27) (N:=some 158) (v:=undef) (a':=?_) #[true,true,true,true,true,true,true,true,true,true,true,true,true,true,true,true,true,true,true,true,true,true,true,true,true,true,true,true,false,false,false] rfl rfl (dg a4.out (by kernel_rfl)) (fun _ _ _ h=>h) (Or.inr ⟨by rfl,rfl⟩) ?_ ?_
           rotate_left
           ·simp only [Act.put,List.setIfInBounds_toArray,List.set_cons_zero,List.set_cons_succ,bw,bW]
            rfl
           refine dP (i:=28) (N:=some 159) (v:=undef) (a':=?_) #[true,true,true,true,true,true,true,true,true,true,true,true,true,true,true,true,true,true,true,true,true,true,true,true,true,true,true,true,true,false,false] rfl rfl (dg a4.out (by kernel_rfl)) (fun _ _ _ h=>h) (Or.inr ⟨by rfl,rfl⟩) ?_ ?_
           rotate_left
           ·simp only [Act.put,List.setIfInBounds_toArray,List.set_cons_zero,List.set_cons_succ,bw,bW]
            rfl
           refine dP (i:=29) (N:=some 160) (v:=undef) (a':=?_) #[true,true,true,true,true,true,true,true,true,true,true,true,true,true,true,true,true,true,true,true,true,true,true,true,true,true,true,true,true,true,false] rfl rfl (dg a4.out (by kernel_rfl)) (fun _ _ _ h=>h) (Or.inr ⟨by rfl,rfl⟩) ?_ ?_
           rotate_left
           ·simp only [Act.put,List.setIfInBounds_toArray,List.set_cons_zero,List.set_cons_succ,bw,bW]
            rfl
           refine af.pu 30 161 a4 ?_
           refine gh (er a4.out (by kernel_rfl)) ?_
           try go_wp2
           go_meet
           case rel=>exact ⟨_,(true),af.F,H',⟨by have:=ht.out;have:=hu.out;first | omega | exact Nat.le_refl _⟩,⟨af.Sw (Kd.dh a5.out (fun _ hk=>(by first | exact ⟨hk.1,hk.2.2⟩ | (simp_all;done))))⟩,⟨af.Rw M.out⟩,⟨af.Rw j.out⟩,⟨af.Bw y.out⟩,⟨af.L⟩⟩
         case rest =>
          clear hL
          try clear q1
          try clear BN
          try clear BO
          try clear BP
          try clear AV
          try clear AW
          try clear aF
          try clear b1
          try clear bo
          try clear cx
          obtain ⟨kq,em,rfl,HA,zD,a5,M,j,y,HB⟩:=hcut
          cases kq with
          | zero=>exact absurd HA.out (by simp [ah.j3])
          | succ ap =>
           have H:=HA.out
           clear HA
           simp only [ah.j3] at H
           by_cases i2:em = true
           ·subst i2
            replace H:(if 0 < (a1.length:Int) then (if (rd a1 0) = (X.length:Int) then (if 1 < (a1.length:Int) then ((b7.f ap a0 X).bind fun ee=>(if (rd a1 1) = (ee.length:Int) then (if 3 < (a1.length:Int) then ((br.f a0).bind fun hO=>(some ((rd a1 3) == (wrap64 (hO+1))))) else (none)) else (some false))) else (none)) else (some false)) else (none)) = some r:=by rw [if_pos rfl] at H;exact H
            obtain ⟨o1,H⟩:=af.ip H
            have yZ:=decide_eq_true o1
            have z0:decide (0 < a1.length) = true:=decide_eq_true (by omega)
            clear o1
            by_cases g2:(rd a1 0) = (X.length:Int)
            ·rw [if_pos g2] at H
             have mn:((rd a1 0) == (X.length:Int)) = true:=beq_iff_eq.mpr g2
             have mr:((rd a1 0) != (X.length:Int)) = false:=bne_eq_false_iff_eq.mpr g2
             clear g2
             obtain ⟨o2,H⟩:=af.ip H
             have z1:=decide_eq_true o2
             have z2:decide (1 < a1.length) = true:=decide_eq_true (by omega)
             clear o2
             obtain ⟨ee,yG,H⟩:=af.be H
             (try dsimp only at H)
             by_cases g3:(rd a1 1) = (ee.length:Int)
             ·rw [if_pos g3] at H
              have ms:((rd a1 1) == (ee.length:Int)) = true:=beq_iff_eq.mpr g3
              have mv:((rd a1 1) != (ee.length:Int)) = false:=bne_eq_false_iff_eq.mpr g3
              clear g3
              obtain ⟨ob,H⟩:=af.ip H
              have z3:=decide_eq_true ob
              have z4:decide (3 < a1.length) = true:=decide_eq_true (by omega)
              clear ob
              obtain ⟨hO,yH,H⟩:=af.be H
              (try dsimp only at H)
              obtain rfl:=Option.some.inj H
              try go_wp2
              replace a5:=ae.mk (Kd.ez a5.out)
              replace M:=ae.mk (Kd.bS M.out)
              replace j:=ae.mk (Kd.bS j.out)
              replace y:=ae.mk (dZ y.out)
              replace HB:=ae.mk (bU HB.out)
              obtain ⟨zE,zF,kw⟩:=Kd.aY M.out
              (first | subst kw | (injection kw with cb dE cc;have dT:=cb.symm;have e0:=cc.symm;clear cb dE cc;subst dT;subst e0))
              have hP:0≤(0:Int):=(by omega)
              have hR:0 < (a1.length:Int):=af.D
              obtain ⟨e1,pj,eo⟩:=Kd.dS (Kd.au M.out).2.2 0 hP hR
              cases pj
              have z5:(0 < a1.length) = True:=eq_true (by omega)
              (try rw [show ((0:Int)).toNat = 0 from rfl] at eo)
              (try rw [Addr.add_zero'] at eo)
              replace hP:=eq_true hP
              replace hR:=eq_true hR
              have hU:0≤(1:Int):=(by omega)
              have hV:1 < (a1.length:Int):=af.D
              obtain ⟨n0,pl,eq⟩:=Kd.dS (Kd.au M.out).2.2 1 hU hV
              obtain rfl:e1 = n0:=(by injection pl)
              (try simp only [show (1:Int).toNat = 1 from rfl,Nat.reduceMul,Nat.reduceEqDiff,Go.Addr.add,↓reduceIte] at eq)
              have z6:(1 < a1.length) = True:=eq_true (by omega)
              (try rw [show ((1:Int)).toNat = 1 from rfl] at eq)
              replace hU:=eq_true hU
              replace hV:=eq_true hV
              have hW:0≤(3:Int):=(by omega)
              have hX:3 < (a1.length:Int):=af.D
              obtain ⟨n1,pm,es⟩:=Kd.dS (Kd.au M.out).2.2 3 hW hX
              obtain rfl:e1 = n1:=(by injection pm)
              (try simp only [show (3:Int).toNat = 3 from rfl,Nat.reduceMul,Nat.reduceEqDiff,Go.Addr.add,↓reduceIte] at es)
              have z7:(3 < a1.length) = True:=eq_true (by omega)
              (try rw [show ((3:Int)).toNat = 3 from rfl] at es)
              replace hW:=eq_true hW
              replace hX:=eq_true hX
              refine eS (n:=27) (S:=fun w'=>w'.cell? ⟨b2,0,none⟩ = some (.int .i64 a0)∧w'.cell? ⟨b2,1,none⟩ = some (.slice aB X.length aw)∧w'.cell? e1 = some (.int .i64 (rd a1 0))∧w'.cell? ⟨e1.block,e1.off+1,none⟩ = some (.int .i64 (rd a1 1))∧w'.cell? ⟨e1.block,e1.off+3,none⟩ = some (.int .i64 (rd a1 3))) (ds:=[]) #[false,false,false,false,false,false,false,false,false,false,false,false,false,false,false,false,false,false,false,false,false,false,false,false,false,false,false] (by kernel_rfl) rfl rfl ⟨(ak y.out 0).trans rfl,(ak y.out 1).trans rfl,eo,eq,es⟩ (fun hHeld=>?_);refine dn ah.wz ah.vA (fun a4 bs=>?_)
              generalize wc.drew = AX at a5 M j y HB eo eq es hHeld ⊢
              refine af.pu 0 162 a4 ?_
              refine af.pu 1 163 a4 ?_
              refine af.pu 3 165 a4 ?_
              refine af.tk 2 164 a4 bs hHeld ?_
              refine af.tk 4 166 a4 bs hHeld ?_
              refine af.pu 5 167 a4 ?_
              refine af.pu 6 168 a4 ?_
              refine af.pu 7 169 a4 ?_
              refine af.pu 8 170 a4 ?_
              refine af.pu 9 171 a4 ?_
              refine af.tk 10 172 a4 bs hHeld ?_
              refine af.tk 11 173 a4 bs hHeld ?_
              refine gA (i:=12) (N:=some 174) #[true,true,true,true,true,true,true,true,true,true,true,true,true,false,false,false,false,false,false,false,false,false,false,false,false,false,false] rfl rfl (dD a4.out (by kernel_rfl)) (by decide) (fun K hK=>?_)
              refine iZ Tryz.func65 (by kernel_rfl) rfl #[.agg #[.int .i64 a0,.slice aB X.length aw]] (by rfl) rfl rfl (by (try simp only [List.map_toArray,List.map_cons,List.map_nil]);first | done | rfl) ?_
              with_reducible refine (b7.calls ap a0 _ _ X ee _ ?side1 ?side2 yG.out).mono ?_
              (case side1=>exact af.Cw ((Kd.au j.out).2.2))
              (case side2=>exact (Kd.au j.out).2.1)
              rintro e AY ⟨zG,rfl,z,hb⟩
              have g0:=(hb.cell (World.block_lt_of_cell? _ _ (hHeld.2.2.1))).trans (hHeld.2.2.1)
              have g1:=(hb.cell (World.block_lt_of_cell? _ _ (hHeld.2.2.2.1))).trans (hHeld.2.2.2.1)
              have hz:=(hb.cell (World.block_lt_of_cell? _ _ (hHeld.2.2.2.2))).trans (hHeld.2.2.2.2)
              refine ⟨_,rfl,?_⟩
              replace a5:=ae.mk (Kd.aA (af.Sw a5.out) (Kd.bF z) hb)
              have n6:=ae.mk (Kd.b9 (Kd.dc (Kd.dc z (Kd.cD (af.Rw M.out))) (Kd.cD (af.Rw j.out))) (aj af.L))
              replace M:=ae.mk (Kd.cm (af.Rw M.out) (Kd.bF z) hb)
              replace j:=ae.mk (Kd.cm (af.Rw j.out) (Kd.bF z) hb)
              replace y:=af.bb y hb
              replace HB:=ae.mk (az af.L hb)
              (try clear hb)
              (try clear b3)
              (try clear hk)
              (try clear hi)
              (try clear z)
              obtain ⟨zH,zI,ky⟩:=Kd.aY n6.out
              (first | subst ky | (injection ky with cb dE cc;have dT:=cb.symm;have e0:=cc.symm;clear cb dE cc;subst dT;subst e0))
              refine hK.out _ _ ⟨(ak y.out 0).trans rfl,(ak y.out 1).trans rfl,g0,g1,hz⟩ (fun hHeld=>?_)
              clear hK K
              refine eV (a':=?_) ?_ ?_
              rotate_left
              ·show Act.put _ (some 174) _ = _
               simp only [Act.put,List.setIfInBounds_toArray,List.set_cons_zero,List.set_cons_succ,bw,bW]
               rfl
              refine af.pu 13 175 a4 ?_
              refine af.pu 14 176 a4 ?_
              refine af.pu 15 177 a4 ?_
              refine af.pu 16 178 a4 ?_
              refine af.pu 17 179 a4 ?_
              refine af.pu 18 180 a4 ?_
              refine af.pu 20 182 a4 ?_
              refine af.tk 19 181 a4 bs hHeld ?_
              refine af.tk 21 183 a4 bs hHeld ?_
              refine gA (i:=22) (N:=some 184) #[true,true,true,true,true,true,true,true,true,true,true,true,true,true,true,true,true,true,true,true,true,true,true,false,false,false,false] rfl rfl (dD a4.out (by kernel_rfl)) (by decide) (fun K hK=>?_)
              refine iZ Tryz.func24 (by kernel_rfl) rfl #[.int .i64 a0] (by rfl) rfl rfl (by (try simp only [List.map_toArray,List.map_cons,List.map_nil]);first | done | rfl) ?_
              with_reducible refine (br.calls a0 hO _ yH.out).mono ?_
              rintro e w' ⟨rfl,⟨nd,rfl⟩⟩
              refine ⟨_,rfl,?_⟩
              refine hK.out _ _ ⟨(ak y.out 0).trans rfl,(ak y.out 1).trans rfl,hHeld.2.2.1,hHeld.2.2.2.1,hHeld.2.2.2.2⟩ (fun hHeld=>?_)
              clear hK K
              refine eV (a':=?_) ?_ ?_
              rotate_left
              ·show Act.put _ (some 184) _ = _
               simp only [Act.put,List.setIfInBounds_toArray,List.set_cons_zero,List.set_cons_succ,bw,bW]
               rfl
              refine af.pu 23 185 a4 ?_
              refine af.pu 24 186 a4 ?_
              refine af.pu 25 187 a4 ?_
              refine af.pu 26 2 a4 ?_
              refine gh (er a4.out (by kernel_rfl)) ?_
              try go_wp2
              go_ret
              exact ⟨af.E,af.L⟩
             ·rw [if_neg g3] at H
              have ms:((rd a1 1) == (ee.length:Int)) = false:=beq_eq_false_iff_ne.mpr g3
              have mv:((rd a1 1) != (ee.length:Int)) = true:=bne_iff_ne.mpr g3
              obtain rfl:=Option.some.inj H
              exact absurd hT.out (by decide)
            ·rw [if_neg g2] at H
             have mn:((rd a1 0) == (X.length:Int)) = false:=beq_eq_false_iff_ne.mpr g2
             have mr:((rd a1 0) != (X.length:Int)) = true:=bne_iff_ne.mpr g2
             obtain rfl:=Option.some.inj H
             exact absurd hT.out (by decide)
           ·replace i2:=Bool.eq_false_iff.mpr i2
            subst i2
            replace H:((dz.f 0 (wrap64 (a0 - 1))).bind fun aR=>((en.f ap a0 X aR).bind fun i3=>((aZ.f ap i3.1 i3.2).bind fun cp=>((bn.f ap a0 X aR).bind fun i4=>((aZ.f ap i4.1 i4.2).bind fun cd=>((da.f ap a0 X).bind fun d3=>((dy.f aR d3).bind fun hY=>(if hY = true then ((aW.f ap cp 0 1).bind fun f0=>((bg.f ap a8 f0).bind fun g4=>(some g4))) else ((cG.f ap a0 X).bind fun db=>((dy.f aR db).bind fun g5=>(if g5 = true then ((aW.f ap cd 1 0).bind fun e2=>((bg.f ap a8 e2).bind fun f1=>(some f1))) else ((aU.f ap cp cd).bind fun e3=>((bg.f ap a8 e3).bind fun f2=>(some f2)))))))))))))) = some r:=by rw [if_neg (show ¬ (false = true) by decide)] at H;exact H
            obtain ⟨aR,la,H⟩:=af.be H
            (try dsimp only at H)
            obtain ⟨⟨e4,e8⟩,lc,H⟩:=af.be H
            (try dsimp only at H)
            obtain ⟨cp,le,H⟩:=af.be H
            (try dsimp only at H)
            obtain ⟨⟨ea,eb⟩,lf,H⟩:=af.be H
            (try dsimp only at H)
            obtain ⟨cd,lh,H⟩:=af.be H
            (try dsimp only at H)
            obtain ⟨d3,li,H⟩:=af.be H
            (try dsimp only at H)
            obtain ⟨hY,lj,H⟩:=af.be H
            (try dsimp only at H)
            by_cases i5:hY = true
            ·subst i5
             replace H:((aW.f ap cp 0 1).bind fun f0=>((bg.f ap a8 f0).bind fun g4=>(some g4))) = some r:=by rw [if_pos rfl] at H;exact H
             obtain ⟨f0,yI,H⟩:=af.be H
             (try dsimp only at H)
             obtain ⟨g4,yJ,H⟩:=af.be H
             (try dsimp only at H)
             obtain rfl:=Option.some.inj H
             obtain ⟨so,sp,ss,st⟩:=af.bR y.out
             go_wp2_with (first | ((with_reducible refine ax (f:=66) rfl ?_);refine af.gl (some 191) Tryz.func66 #[.int .i64 0,.int .i64 (wrap64 (a0 - 1))] ?_;(with_reducible refine (dz.calls 0 (wrap64 (a0 - 1)) aR _ la.out).mono ?_);rintro e w' ⟨rfl,⟨nd,rfl⟩⟩;refine ⟨_,rfl,?_⟩) | ((with_reducible refine ax (f:=67) rfl ?_);refine af.gl (some 194) Tryz.func67 #[.agg #[.int .i64 a0,.slice aB X.length aw],.int .i64 aR] ?_;(with_reducible refine (en.calls ap a0 _ _ X aR e4 e8 _ ?side1 ?side2 lc.out).mono ?_);(case side1=>exact af.Cw ((Kd.au j.out).2.2));(case side2=>exact (Kd.au j.out).2.1);rintro e AZ ⟨lk,rfl,z,hb⟩;refine ⟨_,rfl,?_⟩;replace a5:=ae.mk (Kd.aA (af.Sw a5.out) (Kd.bF z) hb);have aa:=ae.mk (Kd.b9 (Kd.dc (Kd.dc z (Kd.cD (af.Rw M.out))) (Kd.cD (af.Rw j.out))) (aj af.L));replace M:=ae.mk (Kd.cm (af.Rw M.out) (Kd.bF z) hb);replace j:=ae.mk (Kd.cm (af.Rw j.out) (Kd.bF z) hb);replace y:=af.bb y hb;replace HB:=ae.mk (az af.L hb);(try clear hb);(try clear b3);(try clear hk);(try clear hi);(try clear z);obtain ⟨pp,pr,ps⟩:=Kd.aY aa.out;subst ps) | ((with_reducible refine ax (f:=48) rfl ?_);refine af.gl (some 195) Tryz.func48 #[.agg #[.int .i64 e4,.slice pp e8.length pr]] ?_;(with_reducible refine (aZ.calls ap e4 _ _ e8 cp _ ?side1 ?side2 le.out).mono ?_);(case side1=>exact af.Cw ((Kd.au aa.out).2.2));(case side2=>exact (Kd.au aa.out).2.1);rintro e B0 ⟨ll,rfl,z,hb⟩;refine ⟨_,rfl,?_⟩;have am:=ae.mk (Kd.cT (Kd.aG (Kd.aG (Kd.aG (Kd.aG z (Kd.cF (af.Sw a5.out))) (Kd.cD (af.Rw M.out))) (Kd.cD (af.Rw j.out))) (Kd.cD (af.Rw aa.out))) (aj af.L));replace a5:=ae.mk (Kd.aA (af.Sw a5.out) (Kd.bh z) hb);replace M:=af.rb M hb;replace j:=af.rb j hb;replace aa:=af.rb aa hb;replace y:=af.bb y hb;replace HB:=ae.mk (az af.L hb);(try clear hb);(try clear b3);(try clear hk);(try clear hi);(try clear z);obtain ⟨sT,t0,t1,t2⟩:=af.bR y.out) | ((with_reducible refine ax (f:=68) rfl ?_);refine af.gl (some 198) Tryz.func68 #[.agg #[.int .i64 a0,.slice aB X.length aw],.int .i64 aR] ?_;(with_reducible refine (bn.calls ap a0 _ _ X aR ea eb _ ?side1 ?side2 lf.out).mono ?_);(case side1=>exact af.Cw ((Kd.au j.out).2.2));(case side2=>exact (Kd.au j.out).2.1);rintro e B1 ⟨lm,rfl,z,hb⟩;refine ⟨_,rfl,?_⟩;replace a5:=ae.mk (Kd.aA (af.Sw a5.out) (Kd.bF z) hb);replace am:=ae.mk (Kd.aA (af.Sw am.out) (Kd.bF z) hb);have ao:=ae.mk (Kd.b9 (Kd.dc (Kd.dc (Kd.dc z (Kd.cD (af.Rw M.out))) (Kd.cD (af.Rw j.out))) (Kd.cD (af.Rw aa.out))) (aj af.L));replace M:=ae.mk (Kd.cm (af.Rw M.out) (Kd.bF z) hb);replace j:=ae.mk (Kd.cm (af.Rw j.out) (Kd.bF z) hb);replace aa:=ae.mk (Kd.cm (af.Rw aa.out) (Kd.bF z) hb);replace y:=af.bb y hb;replace HB:=ae.mk (az af.L hb);(try clear hb);(try clear b3);(try clear hk);(try clear hi);(try clear z);obtain ⟨pt,pv,px⟩:=Kd.aY ao.out;subst px) | ((with_reducible refine ax (f:=48) rfl ?_);refine af.gl (some 199) Tryz.func48 #[.agg #[.int .i64 ea,.slice pt eb.length pv]] ?_;(with_reducible refine (aZ.calls ap ea _ _ eb cd _ ?side1 ?side2 lh.out).mono ?_);(case side1=>exact af.Cw ((Kd.au ao.out).2.2));(case side2=>exact (Kd.au ao.out).2.1);rintro e B2 ⟨ln,rfl,z,hb⟩;refine ⟨_,rfl,?_⟩;have aO:=ae.mk (Kd.cT (Kd.aG (Kd.aG (Kd.aG (Kd.aG (Kd.aG (Kd.aG z (Kd.cF (af.Sw a5.out))) (Kd.cD (af.Rw M.out))) (Kd.cD (af.Rw j.out))) (Kd.cD (af.Rw aa.out))) (Kd.cF (af.Sw am.out))) (Kd.cD (af.Rw ao.out))) (aj af.L));replace a5:=ae.mk (Kd.aA (af.Sw a5.out) (Kd.bh z) hb);replace M:=af.rb M hb;replace j:=af.rb j hb;replace aa:=af.rb aa hb;replace am:=ae.mk (Kd.aA (af.Sw am.out) (Kd.bh z) hb);replace ao:=af.rb ao hb;replace y:=af.bb y hb;replace HB:=ae.mk (az af.L hb);(try clear hb);(try clear b3);(try clear hk);(try clear hi);(try clear z);obtain ⟨t3,t4,t5,t6⟩:=af.bR y.out) | ((with_reducible refine ax (f:=70) rfl ?_);refine af.gl (some 203) Tryz.func70 #[.agg #[.int .i64 a0,.slice aB X.length aw]] ?_;(with_reducible refine (da.calls ap a0 _ _ X d3 _ ?side1 ?side2 li.out).mono ?_);(case side1=>exact af.Cw ((Kd.au j.out).2.2));(case side2=>exact (Kd.au j.out).2.1);rintro e B4 ⟨rfl,hb⟩;refine ⟨_,rfl,?_⟩;replace a5:=ae.mk (Kd.dQ (af.Sw a5.out) hb);replace M:=af.rb M hb;replace j:=af.rb j hb;replace aa:=af.rb aa hb;replace am:=ae.mk (Kd.dQ (af.Sw am.out) hb);replace ao:=af.rb ao hb;replace aO:=ae.mk (Kd.dQ (af.Sw aO.out) hb);replace y:=af.bb y hb;replace HB:=ae.mk (az af.L hb);(try clear hb);(try clear b3);(try clear hk);(try clear hi)) | ((with_reducible refine ax (f:=69) rfl ?_);refine af.gl (some 204) Tryz.func69 #[.int .i64 aR,.int .i64 d3] ?_;(with_reducible refine (dy.calls aR d3 true _ lj.out).mono ?_);rintro e w' ⟨rfl,⟨nd,rfl⟩⟩;refine ⟨_,rfl,?_⟩;obtain ⟨py,q0,q2⟩:=Kd.cP am.out;subst q2) | ((with_reducible refine ax (f:=60) rfl ?_);refine af.gl (some 207) Tryz.func60 #[.slice py cp.length q0,.int .i64 0,.int .i64 1] ?_;(with_reducible refine (aW.calls ap _ _ cp 0 1 f0 _ ?side1 ?side2 yI.out).mono ?_);(case side1=>exact af.Cw ((Kd.aE am.out).2.2));(case side2=>exact (Kd.aE am.out).2.1);rintro e B5 ⟨zJ,rfl,z,hb⟩;refine ⟨_,rfl,?_⟩;have hn:=ae.mk (Kd.cT (Kd.aG (Kd.aG (Kd.aG (Kd.aG (Kd.aG (Kd.aG (Kd.aG z (Kd.cF (af.Sw a5.out))) (Kd.cD (af.Rw M.out))) (Kd.cD (af.Rw j.out))) (Kd.cD (af.Rw aa.out))) (Kd.cF (af.Sw am.out))) (Kd.cD (af.Rw ao.out))) (Kd.cF (af.Sw aO.out))) (aj af.L));replace a5:=ae.mk (Kd.aA (af.Sw a5.out) (Kd.bh z) hb);replace M:=af.rb M hb;replace j:=af.rb j hb;replace aa:=af.rb aa hb;replace am:=ae.mk (Kd.aA (af.Sw am.out) (Kd.bh z) hb);replace ao:=af.rb ao hb;replace aO:=ae.mk (Kd.aA (af.Sw aO.out) (Kd.bh z) hb);replace y:=af.bb y hb;replace HB:=ae.mk (az af.L hb);(try clear hb);(try clear b3);(try clear hk);(try clear hi);(try clear z);obtain ⟨q3,q6,q7⟩:=Kd.cP hn.out;subst q7) | ((with_reducible refine ax (f:=71) rfl ?_);refine af.gl (some 208) Tryz.func71 #[.slice h9 a8.length hj,.slice q3 f0.length q6] ?_;(with_reducible refine (bg.calls ap _ _ a8 _ _ f0 g4 _ ?side1 ?side2 ?side3 ?side4 yJ.out).mono ?_);(case side1=>exact af.Cw ((Kd.aE a5.out).2.2));(case side2=>exact (Kd.aE a5.out).2.1);(case side3=>exact af.Cw ((Kd.aE hn.out).2.2));(case side4=>exact (Kd.aE hn.out).2.1);rintro e w' ⟨rfl,⟨nd,rfl⟩⟩;refine ⟨_,rfl,?_⟩))
             go_ret
             exact ⟨af.E,af.L⟩
            ·replace i5:=Bool.eq_false_iff.mpr i5
             subst i5
             replace H:((cG.f ap a0 X).bind fun db=>((dy.f aR db).bind fun g5=>(if g5 = true then ((aW.f ap cd 1 0).bind fun e2=>((bg.f ap a8 e2).bind fun f1=>(some f1))) else ((aU.f ap cp cd).bind fun e3=>((bg.f ap a8 e3).bind fun f2=>(some f2)))))) = some r:=by rw [if_neg (show ¬ (false = true) by decide)] at H;exact H
             obtain ⟨db,oj,H⟩:=af.be H
             (try dsimp only at H)
             obtain ⟨g5,ol,H⟩:=af.be H
             (try dsimp only at H)
             by_cases i6:g5 = true
             ·subst i6
              replace H:((aW.f ap cd 1 0).bind fun e2=>((bg.f ap a8 e2).bind fun f1=>(some f1))) = some r:=by rw [if_pos rfl] at H;exact H
              obtain ⟨e2,yK,H⟩:=af.be H
              (try dsimp only at H)
              obtain ⟨f1,yL,H⟩:=af.be H
              (try dsimp only at H)
              obtain rfl:=Option.some.inj H
              obtain ⟨t7,t8,t9,ta⟩:=af.bR y.out
              go_wp2_with (first | ((with_reducible refine ax (f:=66) rfl ?_);refine af.gl (some 191) Tryz.func66 #[.int .i64 0,.int .i64 (wrap64 (a0 - 1))] ?_;(with_reducible refine (dz.calls 0 (wrap64 (a0 - 1)) aR _ la.out).mono ?_);rintro e w' ⟨rfl,⟨nd,rfl⟩⟩;refine ⟨_,rfl,?_⟩) | ((with_reducible refine ax (f:=67) rfl ?_);refine af.gl (some 194) Tryz.func67 #[.agg #[.int .i64 a0,.slice aB X.length aw],.int .i64 aR] ?_;(with_reducible refine (en.calls ap a0 _ _ X aR e4 e8 _ ?side1 ?side2 lc.out).mono ?_);(case side1=>exact af.Cw ((Kd.au j.out).2.2));(case side2=>exact (Kd.au j.out).2.1);rintro e Ba ⟨lk,rfl,z,hb⟩;refine ⟨_,rfl,?_⟩;replace a5:=ae.mk (Kd.aA (af.Sw a5.out) (Kd.bF z) hb);have aa:=ae.mk (Kd.b9 (Kd.dc (Kd.dc z (Kd.cD (af.Rw M.out))) (Kd.cD (af.Rw j.out))) (aj af.L));replace M:=ae.mk (Kd.cm (af.Rw M.out) (Kd.bF z) hb);replace j:=ae.mk (Kd.cm (af.Rw j.out) (Kd.bF z) hb);replace y:=af.bb y hb;replace HB:=ae.mk (az af.L hb);(try clear hb);(try clear b3);(try clear hk);(try clear hi);(try clear z);obtain ⟨q9,qr,qs⟩:=Kd.aY aa.out;subst qs) | ((with_reducible refine ax (f:=48) rfl ?_);refine af.gl (some 195) Tryz.func48 #[.agg #[.int .i64 e4,.slice q9 e8.length qr]] ?_;(with_reducible refine (aZ.calls ap e4 _ _ e8 cp _ ?side1 ?side2 le.out).mono ?_);(case side1=>exact af.Cw ((Kd.au aa.out).2.2));(case side2=>exact (Kd.au aa.out).2.1);rintro e Bb ⟨ll,rfl,z,hb⟩;refine ⟨_,rfl,?_⟩;have am:=ae.mk (Kd.cT (Kd.aG (Kd.aG (Kd.aG (Kd.aG z (Kd.cF (af.Sw a5.out))) (Kd.cD (af.Rw M.out))) (Kd.cD (af.Rw j.out))) (Kd.cD (af.Rw aa.out))) (aj af.L));replace a5:=ae.mk (Kd.aA (af.Sw a5.out) (Kd.bh z) hb);replace M:=af.rb M hb;replace j:=af.rb j hb;replace aa:=af.rb aa hb;replace y:=af.bb y hb;replace HB:=ae.mk (az af.L hb);(try clear hb);(try clear b3);(try clear hk);(try clear hi);(try clear z);obtain ⟨tb,te,ti,tl⟩:=af.bR y.out) | ((with_reducible refine ax (f:=68) rfl ?_);refine af.gl (some 198) Tryz.func68 #[.agg #[.int .i64 a0,.slice aB X.length aw],.int .i64 aR] ?_;(with_reducible refine (bn.calls ap a0 _ _ X aR ea eb _ ?side1 ?side2 lf.out).mono ?_);(case side1=>exact af.Cw ((Kd.au j.out).2.2));(case side2=>exact (Kd.au j.out).2.1);rintro e Bc ⟨lm,rfl,z,hb⟩;refine ⟨_,rfl,?_⟩;replace a5:=ae.mk (Kd.aA (af.Sw a5.out) (Kd.bF z) hb);replace am:=ae.mk (Kd.aA (af.Sw am.out) (Kd.bF z) hb);have ao:=ae.mk (Kd.b9 (Kd.dc (Kd.dc (Kd.dc z (Kd.cD (af.Rw M.out))) (Kd.cD (af.Rw j.out))) (Kd.cD (af.Rw aa.out))) (aj af.L));replace M:=ae.mk (Kd.cm (af.Rw M.out) (Kd.bF z) hb);replace j:=ae.mk (Kd.cm (af.Rw j.out) (Kd.bF z) hb);replace aa:=ae.mk (Kd.cm (af.Rw aa.out) (Kd.bF z) hb);replace y:=af.bb y hb;replace HB:=ae.mk (az af.L hb);(try clear hb);(try clear b3);(try clear hk);(try clear hi);(try clear z);obtain ⟨r0,r1,r2⟩:=Kd.aY ao.out;subst r2) | ((with_reducible refine ax (f:=48) rfl ?_);refine af.gl (some 199) Tryz.func48 #[.agg #[.int .i64 ea,.slice r0 eb.length r1]] ?_;(with_reducible refine (aZ.calls ap ea _ _ eb cd _ ?side1 ?side2 lh.out).mono ?_);(case side1=>exact af.Cw ((Kd.au ao.out).2.2));(case side2=>exact (Kd.au ao.out).2.1);rintro e Bd ⟨ln,rfl,z,hb⟩;refine ⟨_,rfl,?_⟩;have aO:=ae.mk (Kd.cT (Kd.aG (Kd.aG (Kd.aG (Kd.aG (Kd.aG (Kd.aG z (Kd.cF (af.Sw a5.out))) (Kd.cD (af.Rw M.out))) (Kd.cD (af.Rw j.out))) (Kd.cD (af.Rw aa.out))) (Kd.cF (af.Sw am.out))) (Kd.cD (af.Rw ao.out))) (aj af.L));replace a5:=ae.mk (Kd.aA (af.Sw a5.out) (Kd.bh z) hb);replace M:=af.rb M hb;replace j:=af.rb j hb;replace aa:=af.rb aa hb;replace am:=ae.mk (Kd.aA (af.Sw am.out) (Kd.bh z) hb);replace ao:=af.rb ao hb;replace y:=af.bb y hb;replace HB:=ae.mk (az af.L hb);(try clear hb);(try clear b3);(try clear hk);(try clear hi);(try clear z);obtain ⟨tm,tp,tt,ty⟩:=af.bR y.out) | ((with_reducible refine ax (f:=70) rfl ?_);refine af.gl (some 203) Tryz.func70 #[.agg #[.int .i64 a0,.slice aB X.length aw]] ?_;(with_reducible refine (da.calls ap a0 _ _ X d3 _ ?side1 ?side2 li.out).mono ?_);(case side1=>exact af.Cw ((Kd.au j.out).2.2));(case side2=>exact (Kd.au j.out).2.1);rintro e Be ⟨rfl,hb⟩;refine ⟨_,rfl,?_⟩;replace a5:=ae.mk (Kd.dQ (af.Sw a5.out) hb);replace M:=af.rb M hb;replace j:=af.rb j hb;replace aa:=af.rb aa hb;replace am:=ae.mk (Kd.dQ (af.Sw am.out) hb);replace ao:=af.rb ao hb;replace aO:=ae.mk (Kd.dQ (af.Sw aO.out) hb);replace y:=af.bb y hb;replace HB:=ae.mk (az af.L hb);(try clear hb);(try clear b3);(try clear hk);(try clear hi)) | ((with_reducible refine ax (f:=69) rfl ?_);refine af.gl (some 204) Tryz.func69 #[.int .i64 aR,.int .i64 d3] ?_;(with_reducible refine (dy.calls aR d3 false _ lj.out).mono ?_);rintro e w' ⟨rfl,⟨nd,rfl⟩⟩;refine ⟨_,rfl,?_⟩;obtain ⟨tz,u1,u2,u3⟩:=af.bR y.out) | ((with_reducible refine ax (f:=72) rfl ?_);refine af.gl (some 212) Tryz.func72 #[.agg #[.int .i64 a0,.slice aB X.length aw]] ?_;(with_reducible refine (cG.calls ap a0 _ _ X db _ ?side1 ?side2 oj.out).mono ?_);(case side1=>exact af.Cw ((Kd.au j.out).2.2));(case side2=>exact (Kd.au j.out).2.1);rintro e Bf ⟨rfl,hb⟩;refine ⟨_,rfl,?_⟩;replace a5:=ae.mk (Kd.dQ (af.Sw a5.out) hb);replace M:=af.rb M hb;replace j:=af.rb j hb;replace aa:=af.rb aa hb;replace am:=ae.mk (Kd.dQ (af.Sw am.out) hb);replace ao:=af.rb ao hb;replace aO:=ae.mk (Kd.dQ (af.Sw aO.out) hb);replace y:=af.bb y hb;replace HB:=ae.mk (az af.L hb);(try clear hb);(try clear b3);(try clear hk);(try clear hi)) | ((with_reducible refine ax (f:=69) rfl ?_);refine af.gl (some 213) Tryz.func69 #[.int .i64 aR,.int .i64 db] ?_;(with_reducible refine (dy.calls aR db true _ ol.out).mono ?_);rintro e w' ⟨rfl,⟨nd,rfl⟩⟩;refine ⟨_,rfl,?_⟩;obtain ⟨r3,r4,ra⟩:=Kd.cP aO.out;subst ra) | ((with_reducible refine ax (f:=60) rfl ?_);refine af.gl (some 216) Tryz.func60 #[.slice r3 cd.length r4,.int .i64 1,.int .i64 0] ?_;(with_reducible refine (aW.calls ap _ _ cd 1 0 e2 _ ?side1 ?side2 yK.out).mono ?_);(case side1=>exact af.Cw ((Kd.aE aO.out).2.2));(case side2=>exact (Kd.aE aO.out).2.1);rintro e Bg ⟨zK,rfl,z,hb⟩;refine ⟨_,rfl,?_⟩;have ho:=ae.mk (Kd.cT (Kd.aG (Kd.aG (Kd.aG (Kd.aG (Kd.aG (Kd.aG (Kd.aG z (Kd.cF (af.Sw a5.out))) (Kd.cD (af.Rw M.out))) (Kd.cD (af.Rw j.out))) (Kd.cD (af.Rw aa.out))) (Kd.cF (af.Sw am.out))) (Kd.cD (af.Rw ao.out))) (Kd.cF (af.Sw aO.out))) (aj af.L));replace a5:=ae.mk (Kd.aA (af.Sw a5.out) (Kd.bh z) hb);replace M:=af.rb M hb;replace j:=af.rb j hb;replace aa:=af.rb aa hb;replace am:=ae.mk (Kd.aA (af.Sw am.out) (Kd.bh z) hb);replace ao:=af.rb ao hb;replace aO:=ae.mk (Kd.aA (af.Sw aO.out) (Kd.bh z) hb);replace y:=af.bb y hb;replace HB:=ae.mk (az af.L hb);(try clear hb);(try clear b3);(try clear hk);(try clear hi);(try clear z);obtain ⟨rc,re,rg⟩:=Kd.cP ho.out;subst rg) | ((with_reducible refine ax (f:=71) rfl ?_);refine af.gl (some 217) Tryz.func71 #[.slice h9 a8.length hj,.slice rc e2.length re] ?_;(with_reducible refine (bg.calls ap _ _ a8 _ _ e2 f1 _ ?side1 ?side2 ?side3 ?side4 yL.out).mono ?_);(case side1=>exact af.Cw ((Kd.aE a5.out).2.2));(case side2=>exact (Kd.aE a5.out).2.1);(case side3=>exact af.Cw ((Kd.aE ho.out).2.2));(case side4=>exact (Kd.aE ho.out).2.1);rintro e w' ⟨rfl,⟨nd,rfl⟩⟩;refine ⟨_,rfl,?_⟩))
              go_ret
              exact ⟨af.E,af.L⟩
             ·replace i6:=Bool.eq_false_iff.mpr i6
              subst i6
              replace H:((aU.f ap cp cd).bind fun e3=>((bg.f ap a8 e3).bind fun f2=>(some f2))) = some r:=by rw [if_neg (show ¬ (false = true) by decide)] at H;exact H
              obtain ⟨e3,yM,H⟩:=af.be H
              (try dsimp only at H)
              obtain ⟨f2,yN,H⟩:=af.be H
              (try dsimp only at H)
              obtain rfl:=Option.some.inj H
              obtain ⟨u5,u6,u7,ub⟩:=af.bR y.out
              go_wp2_with (first | ((with_reducible refine ax (f:=66) rfl ?_);refine af.gl (some 191) Tryz.func66 #[.int .i64 0,.int .i64 (wrap64 (a0 - 1))] ?_;(with_reducible refine (dz.calls 0 (wrap64 (a0 - 1)) aR _ la.out).mono ?_);rintro e w' ⟨rfl,⟨nd,rfl⟩⟩;refine ⟨_,rfl,?_⟩) | ((with_reducible refine ax (f:=67) rfl ?_);refine af.gl (some 194) Tryz.func67 #[.agg #[.int .i64 a0,.slice aB X.length aw],.int .i64 aR] ?_;(with_reducible refine (en.calls ap a0 _ _ X aR e4 e8 _ ?side1 ?side2 lc.out).mono ?_);(case side1=>exact af.Cw ((Kd.au j.out).2.2));(case side2=>exact (Kd.au j.out).2.1);rintro e Bh ⟨lk,rfl,z,hb⟩;refine ⟨_,rfl,?_⟩;replace a5:=ae.mk (Kd.aA (af.Sw a5.out) (Kd.bF z) hb);have aa:=ae.mk (Kd.b9 (Kd.dc (Kd.dc z (Kd.cD (af.Rw M.out))) (Kd.cD (af.Rw j.out))) (aj af.L));replace M:=ae.mk (Kd.cm (af.Rw M.out) (Kd.bF z) hb);replace j:=ae.mk (Kd.cm (af.Rw j.out) (Kd.bF z) hb);replace y:=af.bb y hb;replace HB:=ae.mk (az af.L hb);(try clear hb);(try clear b3);(try clear hk);(try clear hi);(try clear z);obtain ⟨rk,rl,rm⟩:=Kd.aY aa.out;subst rm) | ((with_reducible refine ax (f:=48) rfl ?_);refine af.gl (some 195) Tryz.func48 #[.agg #[.int .i64 e4,.slice rk e8.length rl]] ?_;(with_reducible refine (aZ.calls ap e4 _ _ e8 cp _ ?side1 ?side2 le.out).mono ?_);(case side1=>exact af.Cw ((Kd.au aa.out).2.2));(case side2=>exact (Kd.au aa.out).2.1);rintro e Bi ⟨ll,rfl,z,hb⟩;refine ⟨_,rfl,?_⟩;have am:=ae.mk (Kd.cT (Kd.aG (Kd.aG (Kd.aG (Kd.aG z (Kd.cF (af.Sw a5.out))) (Kd.cD (af.Rw M.out))) (Kd.cD (af.Rw j.out))) (Kd.cD (af.Rw aa.out))) (aj af.L));replace a5:=ae.mk (Kd.aA (af.Sw a5.out) (Kd.bh z) hb);replace M:=af.rb M hb;replace j:=af.rb j hb;replace aa:=af.rb aa hb;replace y:=af.bb y hb;replace HB:=ae.mk (az af.L hb);(try clear hb);(try clear b3);(try clear hk);(try clear hi);(try clear z);obtain ⟨ui,ul,un,up⟩:=af.bR y.out) | ((with_reducible refine ax (f:=68) rfl ?_);refine af.gl (some 198) Tryz.func68 #[.agg #[.int .i64 a0,.slice aB X.length aw],.int .i64 aR] ?_;(with_reducible refine (bn.calls ap a0 _ _ X aR ea eb _ ?side1 ?side2 lf.out).mono ?_);(case side1=>exact af.Cw ((Kd.au j.out).2.2));(case side2=>exact (Kd.au j.out).2.1);rintro e Bj ⟨lm,rfl,z,hb⟩;refine ⟨_,rfl,?_⟩;replace a5:=ae.mk (Kd.aA (af.Sw a5.out) (Kd.bF z) hb);replace am:=ae.mk (Kd.aA (af.Sw am.out) (Kd.bF z) hb);have ao:=ae.mk (Kd.b9 (Kd.dc (Kd.dc (Kd.dc z (Kd.cD (af.Rw M.out))) (Kd.cD (af.Rw j.out))) (Kd.cD (af.Rw aa.out))) (aj af.L));replace M:=ae.mk (Kd.cm (af.Rw M.out) (Kd.bF z) hb);replace j:=ae.mk (Kd.cm (af.Rw j.out) (Kd.bF z) hb);replace aa:=ae.mk (Kd.cm (af.Rw aa.out) (Kd.bF z) hb);replace y:=af.bb y hb;replace HB:=ae.mk (az af.L hb);(try clear hb);(try clear b3);(try clear hk);(try clear hi);(try clear z);obtain ⟨rn,ro,rp⟩:=Kd.aY ao.out;subst rp) | ((with_reducible refine ax (f:=48) rfl ?_);refine af.gl (some 199) Tryz.func48 #[.agg #[.int .i64 ea,.slice rn eb.length ro]] ?_;(with_reducible refine (aZ.calls ap ea _ _ eb cd _ ?side1 ?side2 lh.out).mono ?_);(case side1=>exact af.Cw ((Kd.au ao.out).2.2));(case side2=>exact (Kd.au ao.out).2.1);rintro e Bk ⟨ln,rfl,z,hb⟩;refine ⟨_,rfl,?_⟩;have aO:=ae.mk (Kd.cT (Kd.aG (Kd.aG (Kd.aG (Kd.aG (Kd.aG (Kd.aG z (Kd.cF (af.Sw a5.out))) (Kd.cD (af.Rw M.out))) (Kd.cD (af.Rw j.out))) (Kd.cD (af.Rw aa.out))) (Kd.cF (af.Sw am.out))) (Kd.cD (af.Rw ao.out))) (aj af.L));replace a5:=ae.mk (Kd.aA (af.Sw a5.out) (Kd.bh z) hb);replace M:=af.rb M hb;replace j:=af.rb j hb;replace aa:=af.rb aa hb;replace am:=ae.mk (Kd.aA (af.Sw am.out) (Kd.bh z) hb);replace ao:=af.rb ao hb;replace y:=af.bb y hb;replace HB:=ae.mk (az af.L hb);(try clear hb);(try clear b3);(try clear hk);(try clear hi);(try clear z);obtain ⟨us,ut,v0,v2⟩:=af.bR y.out) | ((with_reducible refine ax (f:=70) rfl ?_);refine af.gl (some 203) Tryz.func70 #[.agg #[.int .i64 a0,.slice aB X.length aw]] ?_;(with_reducible refine (da.calls ap a0 _ _ X d3 _ ?side1 ?side2 li.out).mono ?_);(case side1=>exact af.Cw ((Kd.au j.out).2.2));(case side2=>exact (Kd.au j.out).2.1);rintro e Bl ⟨rfl,hb⟩;refine ⟨_,rfl,?_⟩;replace a5:=ae.mk (Kd.dQ (af.Sw a5.out) hb);replace M:=af.rb M hb;replace j:=af.rb j hb;replace aa:=af.rb aa hb;replace am:=ae.mk (Kd.dQ (af.Sw am.out) hb);replace ao:=af.rb ao hb;replace aO:=ae.mk (Kd.dQ (af.Sw aO.out) hb);replace y:=af.bb y hb;replace HB:=ae.mk (az af.L hb);(try clear hb);(try clear b3);(try clear hk);(try clear hi)) | ((with_reducible refine ax (f:=69) rfl ?_);refine af.gl (some 204) Tryz.func69 #[.int .i64 aR,.int .i64 d3] ?_;(with_reducible refine (dy.calls aR d3 false _ lj.out).mono ?_);rintro e w' ⟨rfl,⟨nd,rfl⟩⟩;refine ⟨_,rfl,?_⟩;obtain ⟨v3,v4,v5,v6⟩:=af.bR y.out) | ((with_reducible refine ax (f:=72) rfl ?_);refine af.gl (some 212) Tryz.func72 #[.agg #[.int .i64 a0,.slice aB X.length aw]] ?_;(with_reducible refine (cG.calls ap a0 _ _ X db _ ?side1 ?side2 oj.out).mono ?_);(case side1=>exact af.Cw ((Kd.au j.out).2.2));(case side2=>exact (Kd.au j.out).2.1);rintro e Bm ⟨rfl,hb⟩;refine ⟨_,rfl,?_⟩;replace a5:=ae.mk (Kd.dQ (af.Sw a5.out) hb);replace M:=af.rb M hb;replace j:=af.rb j hb;replace aa:=af.rb aa hb;replace am:=ae.mk (Kd.dQ (af.Sw am.out) hb);replace ao:=af.rb ao hb;replace aO:=ae.mk (Kd.dQ (af.Sw aO.out) hb);replace y:=af.bb y hb;replace HB:=ae.mk (az af.L hb);(try clear hb);(try clear b3);(try clear hk);(try clear hi)) | ((with_reducible refine ax (f:=69) rfl ?_);refine af.gl (some 213) Tryz.func69 #[.int .i64 aR,.int .i64 db] ?_;(with_reducible refine (dy.calls aR db false _ ol.out).mono ?_);rintro e w' ⟨rfl,⟨nd,rfl⟩⟩;refine ⟨_,rfl,?_⟩;obtain ⟨rr,rt,rv⟩:=Kd.cP am.out;subst rv;obtain ⟨rx,s0,s1⟩:=Kd.cP aO.out;subst s1) | ((with_reducible refine ax (f:=58) rfl ?_);refine af.gl (some 221) Tryz.func58 #[.slice rr cp.length rt,.slice rx cd.length s0] ?_;(with_reducible refine (aU.calls ap _ _ cp _ _ cd e3 _ ?side1 ?side2 ?side3 ?side4 yM.out).mono ?_);(case side1=>exact af.Cw ((Kd.aE am.out).2.2));(case side2=>exact (Kd.aE am.out).2.1);(case side3=>exact af.Cw ((Kd.aE aO.out).2.2));(case side4=>exact (Kd.aE aO.out).2.1);rintro e Bn ⟨zL,rfl,z,hb⟩;refine ⟨_,rfl,?_⟩;have hq:=ae.mk (Kd.cT (Kd.aG (Kd.aG (Kd.aG (Kd.aG (Kd.aG (Kd.aG (Kd.aG z (Kd.cF (af.Sw a5.out))) (Kd.cD (af.Rw M.out))) (Kd.cD (af.Rw j.out))) (Kd.cD (af.Rw aa.out))) (Kd.cF (af.Sw am.out))) (Kd.cD (af.Rw ao.out))) (Kd.cF (af.Sw aO.out))) (aj af.L));replace a5:=ae.mk (Kd.aA (af.Sw a5.out) (Kd.bh z) hb);replace M:=af.rb M hb;replace j:=af.rb j hb;replace aa:=af.rb aa hb;replace am:=ae.mk (Kd.aA (af.Sw am.out) (Kd.bh z) hb);replace ao:=af.rb ao hb;replace aO:=ae.mk (Kd.aA (af.Sw aO.out) (Kd.bh z) hb);replace y:=af.bb y hb;replace HB:=ae.mk (az af.L hb);(try clear hb);(try clear b3);(try clear hk);(try clear hi);(try clear z);obtain ⟨s2,s3,sa⟩:=Kd.cP hq.out;subst sa) | ((with_reducible refine ax (f:=71) rfl ?_);refine af.gl (some 222) Tryz.func71 #[.slice h9 a8.length hj,.slice s2 e3.length s3] ?_;(with_reducible refine (bg.calls ap _ _ a8 _ _ e3 f2 _ ?side1 ?side2 ?side3 ?side4 yN.out).mono ?_);(case side1=>exact af.Cw ((Kd.aE a5.out).2.2));(case side2=>exact (Kd.aE a5.out).2.1);(case side3=>exact af.Cw ((Kd.aE hq.out).2.2));(case side4=>exact (Kd.aE hq.out).2.1);rintro e w' ⟨rfl,⟨nd,rfl⟩⟩;refine ⟨_,rfl,?_⟩))
              go_ret
              exact ⟨af.E,af.L⟩
     ·replace lL:=Bool.eq_false_iff.mpr lL
      subst lL
      replace H:(if (a8.length:Int) = 0 then (some ((a1.length:Int) == 0)) else (some false)) = some r:=by rw [if_neg (show ¬ (false = true) by decide)] at H;exact H
      by_cases fi:(a8.length:Int) = 0
      ·rw [if_pos fi] at H
       have na:((a8.length:Int) == 0) = true:=beq_iff_eq.mpr fi
       have nb:((a8.length:Int) != 0) = false:=bne_eq_false_iff_eq.mpr fi
       clear fi
       obtain rfl:=Option.some.inj H
       obtain ⟨v7,v8,v9,va⟩:=af.bR y.out
       go_wp2_with (first | ((with_reducible refine ax (f:=26) rfl ?_);refine af.gl (some 91) Tryz.func26 #[.agg #[.int .i64 a0,.slice aB X.length aw]] ?_;(with_reducible refine (bf.calls f6 a0 _ _ X false _ ?side1 ?side2 yy.out).mono ?_);(case side1=>exact af.Cw ((Kd.au j.out).2.2));(case side2=>exact (Kd.au j.out).2.1);rintro e Bo ⟨rfl,hb⟩;refine ⟨_,rfl,?_⟩;replace a5:=ae.mk (Kd.dQ (af.Sw a5.out) hb);replace M:=af.rb M hb;replace j:=af.rb j hb;replace y:=af.bb y hb;replace HB:=ae.mk (az af.L hb);(try clear hb);(try clear b3);(try clear hk);(try clear hi);obtain ⟨zM,zN,sb⟩:=Kd.cP a5.out;subst sb;obtain ⟨zO,zP,sc⟩:=Kd.aY M.out;subst sc))
       go_ret
       exact ⟨af.E,af.L⟩
      ·rw [if_neg fi] at H
       have na:((a8.length:Int) == 0) = false:=beq_eq_false_iff_ne.mpr fi
       have nb:((a8.length:Int) != 0) = true:=bne_iff_ne.mpr fi
       have z8:¬ (a8 = []):=fun h_=>fi (by rw [h_];rfl)
       obtain rfl:=Option.some.inj H
       exact absurd hT.out (by decide)
end Go.Proofs.YtmpodackojmojaaGreat.Pr
end
section
namespace Go.Proofs.YtmpodackojmojaaGreat.de
open Go.RowKit Go.Proofs.ag.bl Go.Proofs.ag.ck
theorem jQ {i:Int} (h0:-9223372036854775808≤i) (h1:i≤9223372036854775807):wrap64 i = i:=by
 unfold wrap64
 omega
theorem dM (i:Nat) (h1:i < 9223372036854775807):wrap64 ((i:Int)+1) = ((i+1:Nat):Int):=by
 unfold wrap64
 omega
theorem gq (xs:List Int) (i:Nat):rd xs (i:Int) = xs.getD i 0:=rfl
theorem mU {α β:Type} (xs:List α) (d:α) (g:α→β):(List.range xs.length).map (fun i=>g (xs.getD i d)) = xs.map g:=by
 apply List.ext_getElem?
 intro j
 by_cases hj:j < xs.length
 ·simp [hj,List.getD]
 ·simp [hj]
theorem nH {α:Type} (xs:List α) (d:α):(List.range xs.length).map (fun i=>xs.getD i d) = xs:=by
 have:=mU xs d id
 simpa using this
theorem kV (L:Nat→Int→Option Bool) (n:Nat) (p:Nat→Bool) (K:Nat) (last:Bool)
  (hstep:∀ k i,K≤k→i < n→L (k+1) (i:Int) = if p i = true then L k ((i+1:Nat):Int) else some false)
  (hend:∀ k,K≤k→L (k+1) (n:Int) = some last) :
  ∀ (d i k:Nat),i+d = n→K+d < k→L k (i:Int) = some ((List.range' i d).all p && last):=by
 intro d
 induction d with
 | zero =>
  intro i k hi hk
  obtain rfl:i = n:=by omega
  obtain ⟨k,rfl⟩:∃ m,k = m+1:=⟨k - 1,by omega⟩
  simp [hend k (by omega)]
 | succ d ih =>
  intro i k hi hk
  obtain ⟨k,rfl⟩:∃ m,k = m+1:=⟨k - 1,by omega⟩
  rw [hstep k i (by omega) (by omega),List.range'_succ]
  by_cases h:p i = true
  ·rw [if_pos h,ih (i+1) k (by omega) (by omega)]
   simp [h]
  ·rw [if_neg h]
   simp [h]
theorem eI {σ γ:Type} (L:Nat→σ→Int→Option γ) (n:Nat) (step:Nat→σ→σ) (P:Nat→σ→Prop) (r:γ)
  (y:∀ i s,i < n→P i s→P (i+1) (step i s)∧(Ev (fun k=>L k (step i s) ((i+1:Nat):Int)) r→Ev (fun k=>L k s (i:Int)) r)) :
  ∀ (d i:Nat) (s:σ),i+d = n→P i s→(P n ((List.range' i d).foldl (fun s j=>step j s) s)→Ev (fun k=>L k ((List.range' i d).foldl (fun s j=>step j s) s) (n:Int)) r)→Ev (fun k=>L k s (i:Int)) r:=by
 intro d
 induction d with
 | zero =>
  intro i s hi hP h
  obtain rfl:i = n:=by omega
  exact h (by simpa using hP)
 | succ d ih =>
  intro i s hi hP h
  obtain ⟨h1,h2⟩:=y i s (by omega) hP
  refine h2 (ih (i+1) (step i s) (by omega) h1 ?_)
  rw [List.range'_succ] at h
  exact h
theorem eW {γ:Type} {g:Nat→Option γ} {r:γ} (K:Nat) (h:∀ k,K≤k→g k = some r):Ev g r:=⟨K,h⟩
theorem foldl_append (p:Nat→Bool) (l:List Nat) (acc:List Int):l.foldl (fun s j=>if p j = true then s ++ [(j:Int)] else s) acc = acc ++ (l.filter p).map (fun j:Nat=>(j:Int)):=by
 induction l generalizing acc with
 | nil=>simp
 | cons a l ih =>
  rw [List.foldl_cons,ih]
  by_cases h:p a = true
  ·simp [h]
  ·simp [h]
theorem uc (l:List Nat):(l.all fun _=>true) = true:=List.all_eq_true.2 (fun _ _=>rfl)
end Go.Proofs.YtmpodackojmojaaGreat.de
end
section
namespace Go.Proofs.YtmpodackojmojaaGreat.Sets
open Go.RowKit Go.Proofs.ag.bl Go.Proofs.ag.ck
theorem iA {γ:Type} (L:Nat→Int→Option γ) (n:Nat) (p:Nat→Bool) (S:γ→Prop)
  (hyes:∀ i,i < n→p i = true→∃ r,S r∧Ev (fun k=>L k (i:Int)) r)
  (hno:∀ i,i < n→p i = false→∀ r,Ev (fun k=>L k ((i+1:Nat):Int)) r→Ev (fun k=>L k (i:Int)) r) :
  ∀ d i:Nat,i+d = n→((List.range' i d).any p = true→∃ r,S r∧Ev (fun k=>L k (i:Int)) r)∧((List.range' i d).any p = false→∀ r,Ev (fun k=>L k (n:Int)) r→Ev (fun k=>L k (i:Int)) r):=by
 intro d
 induction d with
 | zero =>
  intro i hi
  obtain rfl:i = n:=by omega
  exact ⟨fun h=>by simp at h,fun _ r h=>h⟩
 | succ d ih =>
  intro i hi
  obtain ⟨h1,h2⟩:=ih (i+1) (by omega)
  rw [List.range'_succ,List.any_cons]
  cases hp:p i with
  | true=>exact ⟨fun _=>hyes i (by omega) hp,fun h=>by simp at h⟩
  | false =>
   refine ⟨fun h=>?_,fun h r hr=>hno i (by omega) hp r (h2 (by simpa using h) r hr)⟩
   obtain ⟨r,hr,hE⟩:=h1 (by simpa using h)
   exact ⟨r,hr,hno i (by omega) hp r hE⟩
theorem kn (n:Int) (h0:0≤n) (h1:n < 2 ^ 62):IntKind.i64.wrap n = n:=by
 rw [IntKind.wrap_i64]
 omega
theorem jI (a b:Nat) (ha:a < 2 ^ 62) (hb:b < 2 ^ 62):Go.bits .and .i64 (a:Int) (b:Int) = ((a &&& b:Nat):Int):=(bits_nat .i64 62 (by decide) kn a b ha hb).1
theorem vB (a b:Nat) (ha:a < 2 ^ 62) (hb:b < 2 ^ 62):Go.bits .or .i64 (a:Int) (b:Int) = ((a ||| b:Nat):Int):=(bits_nat .i64 62 (by decide) kn a b ha hb).2
def diff (a b:Nat):Nat:=a ^^^ (a &&& b)
theorem cC (a b i:Nat):(diff a b).testBit i = (a.testBit i && !b.testBit i):=by
 unfold diff
 rw [Nat.testBit_xor,Nat.testBit_and]
 cases a.testBit i <;> cases b.testBit i <;> rfl
theorem dY {a b:Nat} {n:Nat} (ha:a < 2 ^ n):diff a b < 2 ^ n:=by
 apply Nat.lt_pow_two_of_testBit
 intro i hi
 rw [cC,Nat.testBit_lt_two_pow (Nat.lt_of_lt_of_le ha (Nat.pow_le_pow_right (by decide) hi))]
 rfl
theorem ja (a b:Nat) (ha:a < 2 ^ 62):Go.bits .andNot .i64 (a:Int) (b:Int) = ((diff a b:Nat):Int):=by
 have j:(2:Nat) ^ 62≤2 ^ 64:=by decide
 have key:(BitVec.ofNat 64 a &&& ~~~(BitVec.ofNat 64 b)).toNat = diff a b:=by
  apply Nat.eq_of_testBit_eq
  intro i
  rw [cC,BitVec.testBit_toNat,BitVec.getLsbD_and,BitVec.getLsbD_not,BitVec.getLsbD_ofNat,BitVec.getLsbD_ofNat]
  by_cases hi:i < 64
  ·simp [hi]
  ·have:a.testBit i = false:=Nat.testBit_lt_two_pow (Nat.lt_of_lt_of_le ha (Nat.pow_le_pow_right (by decide) (by omega)))
   simp [hi,this]
 show IntKind.i64.wrap ((BitVec.ofInt 64 (a:Int) &&& ~~~(BitVec.ofInt 64 (b:Int))).toNat:Int) = _
 have y:BitVec.ofInt 64 (a:Int) = BitVec.ofNat 64 a:=by simp
 have z:BitVec.ofInt 64 (b:Int) = BitVec.ofNat 64 b:=by simp
 rw [y,z,key]
 have:=dY (b:=b) ha
 exact kn _ (by omega) (by exact_mod_cast this)
theorem iO (e:Nat) (he:e < 62):shl .i64 1 (e:Int) = ((2 ^ e:Nat):Int):=by
 unfold shl
 have h1:min ((e:Int)).toNat IntKind.i64.bits = e:=by
  show min e 64 = e
  omega
 rw [h1,Int.one_mul]
 have h2:(2:Nat) ^ e < 2 ^ 62:=Nat.pow_lt_pow_right (by decide) he
 rw [kn _ (by exact_mod_cast Nat.zero_le _) (by exact_mod_cast h2)]
 push_cast
 rfl
theorem qz (a e:Nat) (he:e < 62) (ha:a < 2 ^ 62):((Go.bits .and .i64 (shr .i64 (a:Int) (e:Int)) 1) == 1) = a.testBit e:=by
 unfold shr
 have h1:min ((e:Int)).toNat IntKind.i64.bits = e:=by
  show min e 64 = e
  omega
 rw [h1]
 have h2:((a:Int) / 2 ^ e) = ((a / 2 ^ e:Nat):Int):=by push_cast;rfl
 have h3:a / 2 ^ e < 2 ^ 62:=Nat.lt_of_le_of_lt (Nat.div_le_self _ _) ha
 rw [h2,show (1:Int) = ((1:Nat):Int) from rfl,jI _ 1 h3 (by decide),Nat.testBit_eq_decide_div_mod_eq,Nat.and_one_is_mod]
 by_cases h:a / 2 ^ e % 2 = 1
 ·simp [h]
 ·have h4:a / 2 ^ e % 2 = 0:=by omega
  simp [h4]
theorem iG {a n e:Nat} (ha:a < 2 ^ n) (he:n≤e):a.testBit e = false:=Nat.testBit_lt_two_pow (Nat.lt_of_lt_of_le ha (Nat.pow_le_pow_right (by decide) he))
theorem swap_eq:∀ a,a < 256→∀ e,e < 8→∀ f,f < 8→a.testBit e = true→a.testBit f = false→diff a (2 ^ e) ||| 2 ^ f = a - 2 ^ e+2 ^ f:=by decide +kernel
theorem vC:∀ a,a < 256→∀ e,e < 8→a.testBit e = true→2 ^ e≤a:=by decide +kernel
def elems (s:Nat):List Nat:=(List.range' 0 8).filter fun j=>s.testBit j
def fO (l:List Nat) (a b e:Nat):Bool:=(List.range' 0 8).any fun f=>b.testBit f && !a.testBit f && l.contains (a - 2 ^ e+2 ^ f)
def eN (l:List Nat):Bool:=l.any fun a=>l.any fun b=>(List.range' 0 8).any fun e=>a.testBit e && !b.testBit e && !fO l a b e
def ints (l:List Nat):List Int:=l.map fun j:Nat=>(j:Int)
theorem aH (l:List Nat):(ints l).length = l.length:=by simp [ints]
theorem ju (l:List Nat) (i:Nat):(ints l).getD i 0 = ((l.getD i 0:Nat):Int):=by
 by_cases h:i < l.length
 ·simp [ints,List.getD,h]
 ·simp [ints,List.getD,h]
theorem eO (l:List Nat) (i:Nat):rd (ints l) (i:Int) = ((l.getD i 0:Nat):Int):=by rw [de.gq,ju]
theorem jv {α:Type} (l:List α) (d:α) (p:α→Bool):((List.range' 0 l.length).any fun i=>p (l.getD i d)) = l.any p:=by
 rw [Bool.eq_iff_iff]
 simp only [List.any_eq_true]
 constructor
 ·rintro ⟨i,hi,hp⟩
  have hlt:i < l.length:=by have:=List.mem_range'_1.1 hi;omega
  refine ⟨l[i],List.getElem_mem hlt,?_⟩
  simpa [List.getD,hlt] using hp
 ·rintro ⟨x,hx,hp⟩
  obtain ⟨i,hi,rfl⟩:=List.getElem_of_mem hx
  exact ⟨i,List.mem_range'_1.2 (by omega),by simpa [List.getD,hi] using hp⟩
theorem sM (p:Nat→Bool) (m d:Nat) (h:∀ j,m≤j→p j = false):(List.range' 0 (m+d)).any p = (List.range' 0 m).any p:=by
 rw [← List.range'_append_1,List.any_append]
 have:(List.range' (0+m) d).any p = false:=by
  rw [List.any_eq_false]
  intro j hj
  have:=List.mem_range'_1.1 hj
  rw [h j (by omega)]
  decide
 rw [this,Bool.or_false]
theorem sN (m:Nat) (hm:m≤8) (p:Nat→Bool) (h:∀ j,m≤j→p j = false):(List.range' 0 m).any p = (List.range' 0 8).any p:=by
 have:=sM p m (8 - m) h
 rw [show m+(8 - m) = 8 by omega] at this
 exact this.symm
theorem nI (s:Nat) (q:Nat→Bool):(elems s).any q = (List.range' 0 8).any fun j=>s.testBit j && q j:=by
 unfold elems
 rw [List.any_filter]
theorem kW {s j:Nat} (h:j∈elems s):j < 8∧s.testBit j = true:=by
 unfold elems at h
 obtain ⟨h1,h2⟩:=List.mem_filter.1 h
 have:=List.mem_range'_1.1 h1
 exact ⟨by omega,h2⟩
theorem gx (s:Nat):(elems s).length≤8:=by
 unfold elems
 exact Nat.le_trans (List.length_filter_le _ _) (by simp)
theorem bN {m:Nat} (hm:m≤8):(2:Nat) ^ m≤256:=Nat.pow_le_pow_right (n:=2) (by decide) hm
theorem ud:∀ a,a < 256→∀ e,e < 8→∀ f,f < 8→a.testBit e = true→a.testBit f = false→a - 2 ^ e+2 ^ f < 256:=by decide +kernel
theorem dG {α:Type} (l:List α) (d:α) (i:Nat) (h:i < l.length):l.getD i d∈l:=by
 have:l.getD i d = l[i]:=by simp [List.getD,h]
 rw [this]
 exact List.getElem_mem h
end Go.Proofs.YtmpodackojmojaaGreat.Sets
end
section
namespace Go.Proofs.YtmpodackojmojaaGreat.nw
open Go.RowKit Go.Proofs.YtmpodackojmojaaGreat.Pr Go.Proofs.YtmpodackojmojaaGreat.Sets Go.Proofs.ag.bl Go.Proofs.ag.cj Go.Proofs.ag.ck
set_option linter.unusedVariables false
theorem o8 (x:Int):0≤Go.bits .and .i64 x 255∧Go.bits .and .i64 x 255≤255:=by
 have h:(BitVec.ofInt 64 x &&& BitVec.ofInt 64 255).toNat≤255:=by
  rw [BitVec.toNat_and]
  exact Nat.and_le_right
 have e:Go.bits .and .i64 x 255 = IntKind.i64.wrap ((BitVec.ofInt 64 x &&& BitVec.ofInt 64 255).toNat:Int):=rfl
 rw [e,IntKind.wrap_i64]
 omega
theorem byte (b:List Int) (hb:b.length≤1048576) (i:Nat) (hi:i≤b.length) (h:Int):∃ (x:Int) (i':Nat) (h':Int),e5.f b (i:Int) h = some (x,(i':Int),h')∧0≤x∧x≤255∧i'≤b.length:=by
 unfold e5.f
 by_cases e:(i:Int) < (b.length:Int)
 ·rw [if_pos e,if_pos (by omega),de.dM i (by omega)]
  refine ⟨_,i+1,_,rfl,(o8 _).1,(o8 _).2,by omega⟩
 ·rw [if_neg e]
  exact ⟨_,i,_,rfl,(o8 _).1,(o8 _).2,hi⟩
theorem ue {x n:Int} (hx:0≤x) (hn:0 < n):0≤Int.tmod x n∧Int.tmod x n < n:=by
 rw [Int.tmod_eq_emod_of_nonneg hx]
 exact ⟨Int.emod_nonneg _ (by omega),Int.emod_lt_of_pos _ hn⟩
theorem below (b:List Int) (hb:b.length≤1048576) (i:Nat) (hi:i≤b.length) (h n:Int) (hn:0 < n):∃ (x:Int) (i':Nat) (h':Int),aM.f b (i:Int) h n = some (x,(i':Int),h')∧(n≤256→0≤x∧x < n)∧i'≤b.length:=by
 unfold aM.f
 rw [if_neg (by omega)]
 by_cases e:n≤256
 ·obtain ⟨x,i1,h1,y,hx,_,j⟩:=byte b hb i hi h
  rw [if_pos e,y,Option.bind_some,if_neg (by omega)]
  exact ⟨_,i1,h1,rfl,fun _=>ue hx hn,j⟩
 ·obtain ⟨x1,i1,h1,y,_,_,j⟩:=byte b hb i hi h
  obtain ⟨x2,i2,h2,Y,_,_,z⟩:=byte b hb i1 j h1
  obtain ⟨x3,i3,h3,e3,_,_,M⟩:=byte b hb i2 z h2
  obtain ⟨x4,i4,h4,e4,_,_,X⟩:=byte b hb i3 M h3
  rw [if_neg e,y,Option.bind_some,Y,Option.bind_some,e3,Option.bind_some,e4,Option.bind_some,if_neg (by omega)]
  exact ⟨_,i4,h4,rfl,fun h=>absurd h e,X⟩
theorem pick (b:List Int) (hb:b.length≤1048576) (i:Nat) (hi:i≤b.length) (h:Int) (l:List Int) (hl:0 < l.length) (y:l.length≤256):∃ (x:Int) (i':Nat) (h':Int),cK.f b (i:Int) h l = some (x,(i':Int),h')∧i'≤b.length:=by
 obtain ⟨x,i1,h1,z,hx,j⟩:=below b hb i hi h (l.length:Int) (by omega)
 have hx:=hx (by omega)
 unfold cK.f
 rw [z,Option.bind_some,if_pos hx.1,if_pos hx.2]
 exact ⟨_,i1,h1,rfl,j⟩
theorem new (b:List Int) (hb:b.length≤1048576):∃ h,Ev (fun k=>dr.f k b) (b,0,h):=by
 unfold dr.f
 have key:∀ (d i:Nat) (h:Int),i+d = b.length→∃ h',Ev (fun k=>dr.l0 k b h (i:Int)) (b,0,h'):=by
  intro d
  induction d with
  | zero =>
   intro i h hi
   refine ⟨h,Ev.step (f:=fun _=>some (b,0,h)) (fun k=>?_) (Ev.now _)⟩
   rw [dr.l0,if_neg (by omega)]
  | succ d ih =>
   intro i h hi
   by_cases e:(i:Int) < 4000
   ·obtain ⟨h',hh⟩:=ih (i+1) (Go.bits .and .i64 (wrap64 ((wrap64 ((wrap64 (h * 131))+(wrap64 (rd b (i:Int)))))+7)) 1073741823) (by omega)
    refine ⟨h',Ev.step (fun k=>?_) hh⟩
    rw [dr.l0,if_pos (by omega),if_pos e,if_pos (by omega),de.dM i (by omega)]
   ·refine ⟨h,Ev.step (f:=fun _=>some (b,0,h)) (fun k=>?_) (Ev.now _)⟩
    rw [dr.l0,if_pos (by omega),if_neg e]
 exact key b.length 0 _ (by omega)
end Go.Proofs.YtmpodackojmojaaGreat.nw
end
section
namespace Go.Proofs.YtmpodackojmojaaGreat.Sort
open Go.RowKit Go.Proofs.YtmpodackojmojaaGreat.Pr Go.Proofs.YtmpodackojmojaaGreat.Sets Go.Proofs.ag.bl Go.Proofs.ag.cj Go.Proofs.ag.ck
set_option linter.unusedVariables false
def ins (x:Int):List Int→List Int
 | []=>[x]
 | a :: l=>if a < x then a :: ins x l else if a = x then a :: l else x :: a :: l
def sset (l:List Int):List Int:=l.foldl (fun out x=>ins x out) []
theorem qA (x y:Int) (l:List Int):y∈ins x l↔y = x∨y∈l:=by
 induction l with
 | nil=>simp [ins]
 | cons a l ih =>
  unfold ins
  split
  ·simp only [List.mem_cons,ih]
   constructor
   ·rintro (h | h | h) <;> simp [h]
   ·rintro (h | h | h) <;> simp [h]
  ·split
   ·rename_i h
    subst h
    simp
   ·simp
theorem pQ (x:Int) (l:List Int) (h:l.Pairwise (· < ·)):(ins x l).Pairwise (· < ·):=by
 induction l with
 | nil=>simp [ins]
 | cons a l ih =>
  obtain ⟨h1,h2⟩:=List.pairwise_cons.1 h
  unfold ins
  split
  ·rename_i hlt
   refine List.pairwise_cons.2 ⟨fun y hy=>?_,ih h2⟩
   rcases (qA x y l).1 hy with rfl | hy
   ·exact hlt
   ·exact h1 y hy
  ·split
   ·exact h
   ·rename_i ha hb
    refine List.pairwise_cons.2 ⟨fun y hy=>?_,h⟩
    rcases List.mem_cons.1 hy with rfl | hy
    ·omega
    ·have:=h1 y hy
     omega
theorem mV (x:Int) (l:List Int):(ins x l).length≤l.length+1:=by
 induction l with
 | nil=>simp [ins]
 | cons a l ih =>
  unfold ins
  split
  ·simp only [List.length_cons];omega
  ·split <;> simp
theorem lI (l out:List Int) (ho:out.Pairwise (· < ·)):(l.foldl (fun out x=>ins x out) out).Pairwise (· < ·)∧(∀ y,y∈l.foldl (fun out x=>ins x out) out↔y∈out∨y∈l)∧(l.foldl (fun out x=>ins x out) out).length≤out.length+l.length:=by
 induction l generalizing out with
 | nil=>exact ⟨ho,fun y=>by simp,by simp⟩
 | cons a l ih =>
  rw [List.foldl_cons]
  obtain ⟨h1,h2,h3⟩:=ih (ins a out) (pQ a out ho)
  refine ⟨h1,fun y=>?_,?_⟩
  ·rw [h2 y,qA,List.mem_cons]
   constructor
   ·rintro ((h | h) | h) <;> simp [h]
   ·rintro (h | h | h) <;> simp [h]
  ·have:=mV a out
   simp only [List.length_cons]
   omega
theorem oK (l:List Int):(sset l).Pairwise (· < ·):=(lI l [] List.Pairwise.nil).1
theorem mW (l:List Int) (y:Int):y∈sset l↔y∈l:=by
 have:=(lI l [] List.Pairwise.nil).2.1 y
 simpa [sset] using this
theorem mc (l:List Int):(sset l).length≤l.length:=by
 have:=(lI l [] List.Pairwise.nil).2.2
 simpa [sset] using this
theorem uf (a b:List Int) (ha:a.Pairwise (· < ·)) (hb:b.Pairwise (· < ·)) (h:∀ x,x∈a↔x∈b):a = b:=by
 induction a generalizing b with
 | nil =>
  cases b with
  | nil=>rfl
  | cons y b=>exact absurd ((h y).2 (by simp)) (by simp)
 | cons x a ih =>
  cases b with
  | nil=>exact absurd ((h x).1 (by simp)) (by simp)
  | cons y b =>
   obtain ⟨j,a2⟩:=List.pairwise_cons.1 ha
   obtain ⟨M,X⟩:=List.pairwise_cons.1 hb
   have hxy:x = y:=by
    rcases List.mem_cons.1 ((h x).1 (by simp)) with e | e
    ·exact e
    ·rcases List.mem_cons.1 ((h y).2 (by simp)) with e' | e'
     ·exact e'.symm
     ·have:=M x e
      have:=j y e'
      omega
   subst hxy
   congr 1
   refine ih b a2 X fun z=>⟨fun hz=>?_,fun hz=>?_⟩
   ·rcases List.mem_cons.1 ((h z).1 (by simp [hz])) with rfl | e
    ·exact absurd (j z hz) (by omega)
    ·exact e
   ·rcases List.mem_cons.1 ((h z).2 (by simp [hz])) with rfl | e
    ·exact absurd (M z hz) (by omega)
    ·exact e
theorem drop_cons (l:List Int) (i:Nat) (h:i < l.length):l.drop i = l.getD i 0 :: l.drop (i+1):=by
 rw [List.drop_eq_getElem_cons h]
 simp [List.getD,h]
theorem sO (x:Int) (out:List Int):∀ i,i≤out.length→(∀ j,j < i→out.getD j 0 < x)→ins x out = out.take i ++ ins x (out.drop i):=by
 intro i
 induction i with
 | zero=>intro _ _;simp
 | succ i ih =>
  intro hi h
  rw [ih (by omega) fun j hj=>h j (by omega),drop_cons out i (by omega)]
  have:=h i (by omega)
  rw [ins,if_pos this,List.take_succ_eq_append_getElem (by omega),List.append_assoc]
  simp [List.getD,show i < out.length by omega]
theorem kX (l:List Int) (hn:l.length≤1048576):Ev (fun k=>aC.f k l) (sset l):=by
 unfold aC.f sset
 have e:l.foldl (fun out x=>ins x out) [] = (List.range' 0 l.length).foldl (fun out i=>ins (l.getD i 0) out) []:=by
  have y:l = (List.range' 0 l.length).map fun i=>l.getD i 0:=by rw [← List.range_eq_range',de.nH]
  conv=>lhs;rw [y]
  rw [List.foldl_map]
 rw [e]
 refine de.eI (fun k (out:List Int) i=>aC.l0 k l out i) l.length (fun i out=>ins (l.getD i 0) out) (fun i out=>out.length≤i) _ (fun i out hi hP=>⟨?_,fun h=>?_⟩) l.length 0 [] (by omega) (by simp) (fun _=>de.eW 1 (fun k hk=>?_))
 ·have:=mV (l.getD i 0) out
  show (ins _ _).length≤_
  omega
 ·refine Ev.step (f:=fun k=>aC.l1 k l out (i:Int) 0) (fun k=>?_) ?_
  ·simp only [aC.l0]
   rw [if_pos (by omega)]
  ·have key:∀ d a:Nat,a+d = out.length→(∀ j,j < a→out.getD j 0 < l.getD i 0)→Ev (fun k=>aC.l1 k l out (i:Int) (a:Int)) ((List.range' 0 l.length).foldl (fun out i=>ins (l.getD i 0) out) []):=by
    intro d
    induction d with
    | zero =>
     intro a ha hlt
     obtain rfl:a = out.length:=by omega
     have hins:ins (l.getD i 0) out = out.take out.length ++ [l.getD i 0] ++ out.drop out.length:=by
      rw [sO _ _ out.length (Nat.le_refl _) hlt,List.drop_length,ins]
      simp
     rw [hins] at h
     refine Ev.step (fun k=>?_) h
     simp only [aC.l1]
     rw [if_neg (by omega)]
     simp only [Option.bind_some,Int.toNat_natCast,de.gq,List.nil_append,List.length_nil,Nat.zero_add]
     rw [if_pos (by omega),if_pos (by omega),if_pos (by simp),if_pos (by omega),if_pos (by omega),if_pos (by rw [List.length_take];omega),if_pos (by simp;omega),de.dM i (by omega)]
    | succ d ih =>
     intro a ha hlt
     have hlen:a < out.length:=by omega
     by_cases h1:out.getD a 0 < l.getD i 0
     ·refine Ev.step (fun k=>?_) (ih (a+1) (by omega) fun j hj=>?_)
      ·simp only [aC.l1]
       rw [if_pos (by omega),if_pos (by omega),if_pos (by omega),if_pos (by omega),de.gq,de.gq,if_pos h1,de.dM a (by omega)]
      ·by_cases e:j = a
       ·subst e;exact h1
       ·exact hlt j (by omega)
     ·have hat:=sO (l.getD i 0) out a (by omega) hlt
      rw [drop_cons out a hlen,ins,if_neg h1] at hat
      by_cases h2:out.getD a 0 = l.getD i 0
      ·have hins:ins (l.getD i 0) out = out:=by
        rw [hat,if_pos h2,← drop_cons out a hlen,List.take_append_drop]
       rw [hins] at h
       refine Ev.step (fun k=>?_) h
       simp only [aC.l1]
       rw [if_pos (by omega),if_pos (by omega),if_pos (by omega),if_pos (by omega),de.gq,de.gq,if_neg h1,if_pos h2,de.dM i (by omega)]
      ·have hins:ins (l.getD i 0) out = out.take a ++ [l.getD i 0] ++ out.drop a:=by
        rw [hat,if_neg h2,← drop_cons out a hlen,List.append_assoc]
        rfl
       rw [hins] at h
       refine Ev.step (fun k=>?_) h
       simp only [aC.l1]
       rw [if_pos (by omega),if_pos (by omega),if_pos (by omega),if_pos (by omega),de.gq,de.gq,if_neg h1,if_neg h2]
       simp only [Option.bind_some,Int.toNat_natCast,List.nil_append,List.length_nil,Nat.zero_add]
       rw [if_pos (by omega),if_pos (by simp;omega),if_pos (by rw [List.length_take];omega),if_pos (by simp;omega),de.dM i (by omega)]
   exact key out.length 0 (by omega) (fun j hj=>by omega)
 ·obtain ⟨q,rfl⟩:∃ q,k = q+1:=⟨k - 1,by omega⟩
  simp only [aC.l0]
  rw [if_neg (by omega)]
end Go.Proofs.YtmpodackojmojaaGreat.Sort
end
section
namespace Go.Proofs.YtmpodackojmojaaGreat.mA
open Go.RowKit Go.Proofs.YtmpodackojmojaaGreat.Pr Go.Proofs.YtmpodackojmojaaGreat.Sets Go.Proofs.ag.bl Go.Proofs.ag.cj Go.Proofs.ag.ck
set_option linter.unusedVariables false
def isSet (n s:Int):Bool:=decide (0≤n∧n≤8∧0≤s∧s < 2 ^ n.toNat)
theorem r8 (n s:Int):fU.f n s = some (isSet n s):=by
 unfold fU.f dm.f isSet
 by_cases h0:n≥0
 ·rw [if_pos h0]
  simp only [Option.bind_some]
  by_cases h1:n≤8
  ·rw [if_pos (decide_eq_true h1)]
   obtain ⟨m,rfl⟩:∃ m:Nat,n = m:=⟨n.toNat,by omega⟩
   by_cases h2:s≥0
   ·rw [if_pos h2,if_pos h0,iO m (by omega)]
    congr 1
    rw [decide_eq_decide]
    simp only [Int.toNat_natCast]
    push_cast
    omega
   ·rw [if_neg h2,decide_eq_false (by omega)]
  ·rw [if_neg (by rw [decide_eq_true_eq];exact h1),decide_eq_false (by omega)]
 ·rw [if_neg h0]
  simp only [Option.bind_some]
  rw [if_neg (by decide),decide_eq_false (by omega)]
theorem ko (n s:Int):bu.f n s = some (isSet n s):=by
 unfold bu.f bH.f isSet
 by_cases h0:n≥0
 ·rw [if_pos h0]
  simp only [Option.bind_some]
  by_cases h1:n≤8
  ·rw [if_pos (decide_eq_true h1)]
   obtain ⟨m,rfl⟩:∃ m:Nat,n = m:=⟨n.toNat,by omega⟩
   have hu:IntKind.u64.wrap (m:Int) = m:=by
    have:m = 0∨m = 1∨m = 2∨m = 3∨m = 4∨m = 5∨m = 6∨m = 7∨m = 8:=by omega
    rcases this with rfl | rfl | rfl | rfl | rfl | rfl | rfl | rfl | rfl <;> decide +kernel
   have hp:=bN (m:=m) (by omega)
   have j:1≤2 ^ m:=Nat.one_le_two_pow
   rw [hu,if_pos h0,iO m (by omega),de.jQ (by omega) (by omega)]
   by_cases h2:s≥0
   ·rw [if_pos h2]
    simp only [Option.bind_some]
    congr 1
    rw [decide_eq_decide]
    simp only [Int.toNat_natCast]
    have:((2:Int) ^ m) = ((2 ^ m:Nat):Int):=by push_cast;rfl
    rw [this]
    omega
   ·rw [if_neg h2]
    simp only [Option.bind_some]
    rw [decide_eq_false (by omega)]
  ·rw [if_neg (by rw [decide_eq_true_eq];exact h1),decide_eq_false (by omega)]
 ·rw [if_neg h0]
  simp only [Option.bind_some]
  rw [if_neg (by decide),decide_eq_false (by omega)]
def oL (n:Int) (l:List Int):Bool:=((List.range' 0 l.length).all fun i=>isSet n (l.getD i 0) && (decide (i = 0) || decide (l.getD (i - 1) 0 < l.getD i 0))) && decide (0≤n∧n≤8)
theorem mX (n:Int) (l:List Int) (hn:l.length≤1048576) (k:Nat) (hk:l.length < k):cq.f k n l = some (oL n l):=by
 unfold cq.f oL
 refine de.kV (fun k i=>cq.l0 k n l l (l.length:Int) i) l.length (fun i=>isSet n (l.getD i 0) && (decide (i = 0) || decide (l.getD (i - 1) 0 < l.getD i 0))) 0 (decide (0≤n∧n≤8)) (fun k i _ hi=>?_) (fun k _=>?_) l.length 0 k (by omega) (by omega)
 ·simp only [cq.l0]
  rw [if_pos (by omega),if_pos (by omega),if_pos (by omega),r8,de.gq]
  simp only [Option.bind_some]
  cases isSet n (l.getD i 0) with
  | false=>rfl
  | true =>
   rw [if_pos rfl,de.dM i (by omega)]
   by_cases h0:i = 0
   ·subst h0
    rw [if_neg (by decide),if_pos (by rfl)]
   ·rw [if_pos (by omega),de.jQ (by omega) (by omega),show (i:Int) - 1 = ((i - 1:Nat):Int) by omega,if_pos (by omega),if_pos (by omega),de.gq]
    by_cases h1:l.getD i 0≤l.getD (i - 1) 0
    ·rw [if_pos h1,decide_eq_false h0,decide_eq_false (by omega)]
     rfl
    ·rw [if_neg h1,decide_eq_false h0,decide_eq_true (by omega)]
     rfl
 ·simp only [cq.l0]
  rw [if_neg (by omega)]
  unfold dm.f
  by_cases h0:n≥0
  ·rw [if_pos h0]
   simp only [Option.bind_some]
   congr 1
   rw [decide_eq_decide]
   omega
  ·rw [if_neg h0,decide_eq_false (by omega)]
   rfl
theorem mY (n:Int) (l:List Int) (hn:l.length≤1048576) (k:Nat) (hk:l.length < k):bp.f k n l = some (oL n l):=by
 unfold bp.f oL
 refine de.kV (fun k i=>bp.l0 k n l i) l.length (fun i=>isSet n (l.getD i 0) && (decide (i = 0) || decide (l.getD (i - 1) 0 < l.getD i 0))) 0 (decide (0≤n∧n≤8)) (fun k i _ hi=>?_) (fun k _=>?_) l.length 0 k (by omega) (by omega)
 ·simp only [bp.l0]
  rw [if_pos (by omega),if_pos (by omega),ko,de.gq]
  simp only [Option.bind_some]
  cases isSet n (l.getD i 0) with
  | false=>rfl
  | true =>
   rw [if_pos rfl,de.dM i (by omega)]
   by_cases h0:i = 0
   ·subst h0
    rw [if_neg (by decide),if_pos (by rfl)]
   ·rw [if_pos (by omega),de.jQ (by omega) (by omega),show (i:Int) - 1 = ((i - 1:Nat):Int) by omega,if_pos (by omega),if_pos (by omega),de.gq]
    by_cases h1:l.getD (i - 1) 0≥l.getD i 0
    ·rw [if_pos h1,decide_eq_false h0,decide_eq_false (by omega)]
     rfl
    ·rw [if_neg h1,decide_eq_false h0,decide_eq_true (by omega)]
     rfl
 ·simp only [bp.l0]
  rw [if_neg (by omega)]
  unfold bH.f
  by_cases h0:n≥0
  ·rw [if_pos h0]
   simp only [Option.bind_some]
   congr 1
   rw [decide_eq_decide]
   omega
  ·rw [if_neg h0,decide_eq_false (by omega)]
   rfl
theorem o9 {n:Int} {l:List Int} (h:oL n l = true):∃ (m:Nat) (j:List Nat),n = m∧m≤8∧l = ints j∧∀ s∈j,s < 2 ^ m:=by
 unfold oL at h
 rw [Bool.and_eq_true,decide_eq_true_eq] at h
 obtain ⟨hl,h0,y⟩:=h
 have key:∀ s∈l,0≤s∧s < 2 ^ n.toNat:=fun s hs=>by
  obtain ⟨i,hi,rfl⟩:=List.getElem_of_mem hs
  have:=List.all_eq_true.1 hl i (List.mem_range'_1.2 (by omega))
  rw [Bool.and_eq_true] at this
  have h1:=this.1
  unfold isSet at h1
  rw [decide_eq_true_eq] at h1
  have e:l.getD i 0 = l[i]:=by simp [List.getD,hi]
  rw [e] at h1
  exact ⟨h1.2.2.1,h1.2.2.2⟩
 refine ⟨n.toNat,l.map Int.toNat,by omega,by omega,?_,fun s hs=>?_⟩
 ·unfold ints
  rw [List.map_map]
  conv=>lhs;rw [← List.map_id l]
  refine List.map_congr_left fun s hs=>?_
  have:=(key s hs).1
  show s = ((s.toNat:Nat):Int)
  omega
 ·obtain ⟨x,hx,rfl⟩:=List.mem_map.1 hs
  obtain ⟨h1,h2⟩:=key x hx
  have e:((2:Int) ^ n.toNat) = ((2 ^ n.toNat:Nat):Int):=by push_cast;rfl
  rw [e] at h2
  omega
theorem index (l:List Nat) (x:Nat) (hn:l.length≤1048576):∀ (d i k:Nat),i+d = l.length→d < k→∃ r,ct.l0 k (ints l) (x:Int) ((ints l).length:Int) (i:Int) = some r∧decide (r≥0) = (l.drop i).contains x:=by
 intro d
 induction d with
 | zero =>
  intro i k hi hk
  obtain ⟨k,rfl⟩:∃ m,k = m+1:=⟨k - 1,by omega⟩
  refine ⟨-1,?_,?_⟩
  ·simp only [ct.l0]
   rw [if_neg (by rw [aH];omega)]
  ·rw [List.drop_of_length_le (by omega)]
   rfl
 | succ d ih =>
  intro i k hi hk
  obtain ⟨k,rfl⟩:∃ m,k = m+1:=⟨k - 1,by omega⟩
  have hlt:i < l.length:=by omega
  simp only [ct.l0]
  rw [if_pos (by rw [aH];omega),if_pos (by omega),if_pos (by rw [aH];omega),eO,de.dM i (by omega)]
  have hd:l.drop i = l.getD i 0 :: l.drop (i+1):=by
   rw [List.drop_eq_getElem_cons hlt]
   simp [List.getD,hlt]
  rw [hd]
  by_cases h:x = l.getD i 0
  ·refine ⟨i,by rw [if_pos (by omega)],?_⟩
   rw [← h,List.contains_cons,beq_self_eq_true,Bool.true_or,decide_eq_true (by omega)]
  ·obtain ⟨r,h1,h2⟩:=ih (i+1) k (by omega) (by omega)
   refine ⟨r,by rw [if_neg (by omega)];exact h1,?_⟩
   rw [h2,List.contains_cons,beq_eq_false_iff_ne.2 h,Bool.false_or]
theorem ug (l:List Nat) (x:Nat) (hn:l.length≤1048576) (k:Nat) (hk:l.length < k):gE.f k (ints l) (x:Int) = some (l.contains x):=by
 unfold gE.f dV.f ct.f
 obtain ⟨r,h1,h2⟩:=index l x hn l.length 0 k (by omega) hk
 rw [show (0:Int) = ((0:Nat):Int) from rfl,h1]
 simp only [Option.bind_some]
 rw [show ((0:Nat):Int) = (0:Int) from rfl,h2,List.drop_zero]
theorem qB (l:List Nat) (x:Nat) (hn:l.length≤1048576) (k:Nat) (hk:l.length < k):bV.f k (ints l) (x:Int) = some (l.contains x):=by
 unfold bV.f
 have key:∀ (d i k:Nat),i+d = l.length→d < k→bV.l0 k (ints l) (x:Int) (i:Int) = some ((l.drop i).contains x):=by
  intro d
  induction d with
  | zero =>
   intro i k hi hk
   obtain ⟨k,rfl⟩:∃ m,k = m+1:=⟨k - 1,by omega⟩
   simp only [bV.l0]
   rw [if_neg (by rw [aH];omega),List.drop_of_length_le (by omega)]
   rfl
  | succ d ih =>
   intro i k hi hk
   obtain ⟨k,rfl⟩:∃ m,k = m+1:=⟨k - 1,by omega⟩
   have hlt:i < l.length:=by omega
   simp only [bV.l0]
   rw [if_pos (by rw [aH];omega),if_pos (by omega),eO,de.dM i (by omega)]
   have hd:l.drop i = l.getD i 0 :: l.drop (i+1):=by
    rw [List.drop_eq_getElem_cons hlt]
    simp [List.getD,hlt]
   rw [hd,List.contains_cons]
   by_cases h:l.getD i 0 = x
   ·rw [if_pos (by omega),← h,beq_self_eq_true,Bool.true_or]
   ·rw [if_neg (by omega),ih (i+1) k (by omega) (by omega),beq_eq_false_iff_ne.2 (Ne.symm h),Bool.false_or]
 have:=key l.length 0 k (by omega) hk
 rw [List.drop_zero] at this
 exact this
theorem sP (s:Nat) (j:Nat) (hs:s < 256) (hj:j < 8):eR.f (s:Int) (j:Int) = some (s.testBit j):=by
 unfold eR.f fe.f
 rw [if_pos (by omega)]
 simp only [Option.bind_some]
 rw [if_pos (decide_eq_true (by omega)),if_pos (by omega),if_pos (by omega),if_pos (by omega),qz s j (by omega) (by omega)]
theorem me (s:Nat):((List.range' 0 8).foldl (fun (acc:List Int) (j:Nat)=>if s.testBit j = true then acc ++ [(j:Int)] else acc) []) = ints (elems s):=by
 rw [de.foldl_append (fun j=>s.testBit j)]
 rfl
theorem iP (s:Nat) (hs:s < 256):Ev (fun k=>bL.f k (s:Int)) (ints (elems s)):=by
 unfold bL.f
 refine de.eI (fun k y i=>bL.l0 k (s:Int) y i) 8 (fun j y=>if s.testBit j = true then y ++ [(j:Int)] else y) (fun i y=>y.length≤i) _ (fun i y hi hP=>⟨?_,fun h=>Ev.step (fun k=>?_) h⟩) 8 0 [] rfl (by simp) (fun _=>de.eW 1 (fun k hk=>?_))
 ·by_cases hh:s.testBit i = true
  ·rw [if_pos hh];simp;omega
  ·rw [if_neg hh];omega
 ·simp only [bL.l0]
  rw [if_pos (by omega),sP s i hs hi]
  simp only [Option.bind_some]
  rw [de.dM i (by omega)]
  by_cases hh:s.testBit i = true
  ·rw [if_pos hh,if_pos (by omega),if_pos hh]
  ·rw [if_neg hh,if_neg hh]
 ·obtain ⟨m,rfl⟩:∃ m,k = m+1:=⟨k - 1,by omega⟩
  simp only [bL.l0]
  rw [if_neg (by omega),me]
theorem r9 (g:Int→Option Bool) (fs:List Nat) (v:Nat→Bool) (hn:fs.length≤1048576) (hg:∀ f∈fs,g (f:Int) = some (v f)) :
  ∀ (d i k:Nat),i+d = fs.length→d < k→∃ r,bM.l0 g k (ints fs) (i:Int) = some r∧decide (r≥0) = (fs.drop i).any v:=by
 intro d
 induction d with
 | zero =>
  intro i k hi hk
  obtain ⟨k,rfl⟩:∃ m,k = m+1:=⟨k - 1,by omega⟩
  refine ⟨-1,?_,?_⟩
  ·simp only [bM.l0]
   rw [if_neg (by rw [aH];omega)]
  ·rw [List.drop_of_length_le (by omega)]
   rfl
 | succ d ih =>
  intro i k hi hk
  obtain ⟨k,rfl⟩:∃ m,k = m+1:=⟨k - 1,by omega⟩
  have hlt:i < fs.length:=by omega
  simp only [bM.l0]
  rw [if_pos (by rw [aH];omega),if_pos (by omega),eO,hg _ (dG fs 0 i hlt),de.dM i (by omega)]
  simp only [Option.bind_some]
  have hd:fs.drop i = fs.getD i 0 :: fs.drop (i+1):=by
   rw [List.drop_eq_getElem_cons hlt]
   simp [List.getD,hlt]
  rw [hd,List.any_cons]
  cases hv:v (fs.getD i 0) with
  | true=>exact ⟨i,by rw [if_pos rfl],by rw [decide_eq_true (by omega),Bool.true_or]⟩
  | false =>
   obtain ⟨r,h1,h2⟩:=ih (i+1) k (by omega) (by omega)
   exact ⟨r,by rw [if_neg (by decide)];exact h1,by rw [h2,Bool.false_or]⟩
theorem kY (g:Int→Option Bool) (fs:List Nat) (v:Nat→Bool) (hn:fs.length≤1048576) (hg:∀ f∈fs,g (f:Int) = some (v f)) (k:Nat) (hk:fs.length < k) :
  cz.f k (ints fs) g = some (fs.any v):=by
 unfold cz.f bM.f
 obtain ⟨r,h1,h2⟩:=r9 g fs v hn hg fs.length 0 k (by omega) hk
 rw [show (0:Int) = ((0:Nat):Int) from rfl,h1]
 simp only [Option.bind_some]
 rw [show ((0:Nat):Int) = (0:Int) from rfl,h2,List.drop_zero]
theorem oM (l:List Nat) (a e f:Nat) (hn:l.length≤1048576) (ha:a < 256) (he:e < 8) (hf:f < 8) (hae:a.testBit e = true) (j:a.testBit f = false) (k:Nat) (hk:l.length < k) :
  cA.f k (ints l) (a:Int) (e:Int) (f:Int) = some (l.contains (a - 2 ^ e+2 ^ f)):=by
 unfold cA.f
 have h1:(2:Nat) ^ e < 2 ^ 62:=Nat.pow_lt_pow_right (by decide) (by omega)
 have h2:(2:Nat) ^ f < 2 ^ 62:=Nat.pow_lt_pow_right (by decide) (by omega)
 have h3:diff a (2 ^ e) < 2 ^ 8:=dY (n:=8) (by omega)
 rw [if_pos (by omega),if_pos (by omega),iO e (by omega),iO f (by omega),ja a _ (by omega),vB _ _ (by omega) h2,swap_eq a ha e he f hf hae j]
 exact ug l _ hn k hk
theorem mZ (l:List Nat) (a b e:Nat):fO l a b e = (elems (diff b a)).any fun f=>l.contains (a - 2 ^ e+2 ^ f):=by
 rw [nI]
 unfold fO
 congr 1
 funext f
 rw [cC]
theorem oN (l:List Nat):eN l = l.any fun a=>l.any fun b=>(elems (diff a b)).any fun e=>!fO l a b e:=by
 unfold eN
 congr 1
 funext a
 congr 1
 funext b
 rw [nI]
 congr 1
 funext e
 rw [cC]
theorem rf (m:Nat) (hm:m≤8) (l:List Nat) (hl:∀ s∈l,s < 2 ^ m) (hn:l.length≤1048576) (hf:oL (m:Int) (ints l) = true) :
  ∃ x y z,Ev (fun k=>aK.f k (m:Int) (ints l)) (x,y,z,eN l):=by
 have a0:=bN hm
 have hlt:∀ i,i < l.length→l.getD i 0 < 256:=fun i hi=>Nat.lt_of_lt_of_le (hl _ (dG l 0 i hi)) a0
 have inner:∀ x y:Nat,x < l.length→y < l.length→∀ d i:Nat,i+d = (elems (diff (l.getD x 0) (l.getD y 0))).length→_:=fun x y hx hy =>
  iA (fun k z=>aK.l2 k (m:Int) (ints l) (x:Int) ((l.getD x 0:Nat):Int) (y:Int) ((l.getD y 0:Nat):Int) (ints (elems (diff (l.getD x 0) (l.getD y 0)))) z) (elems (diff (l.getD x 0) (l.getD y 0))).length
   (fun z=>!fO l (l.getD x 0) (l.getD y 0) ((elems (diff (l.getD x 0) (l.getD y 0))).getD z 0)) (fun r=>r.2.2.2 = true)
   (by
    intro z hz hp
    have ha:=hlt x hx
    have hb:=hlt y hy
    obtain ⟨he,hbit⟩:=kW (dG _ 0 z hz)
    rw [cC,Bool.and_eq_true] at hbit
    have a1:=gx (diff (l.getD x 0) (l.getD y 0))
    have hd:diff (l.getD y 0) (l.getD x 0) < 2 ^ 8:=dY (n:=8) (by omega)
    refine ⟨(((l.getD x 0:Nat):Int),((l.getD y 0:Nat):Int),(((elems (diff (l.getD x 0) (l.getD y 0))).getD z 0:Nat):Int),true),rfl,?_⟩
    refine Ev.step (f:=fun k=>(bL.f k (Go.bits .andNot .i64 ((l.getD y 0:Nat):Int) ((l.getD x 0:Nat):Int))).bind fun fs=>((cz.f k fs (fun f=>cA.f k (ints l) ((l.getD x 0:Nat):Int) (((elems (diff (l.getD x 0) (l.getD y 0))).getD z 0:Nat):Int) f)).bind fun t=>(if t = true then (aK.l2 k (m:Int) (ints l) (x:Int) ((l.getD x 0:Nat):Int) (y:Int) ((l.getD y 0:Nat):Int) (ints (elems (diff (l.getD x 0) (l.getD y 0)))) ((z+1:Nat):Int)) else (some (((l.getD x 0:Nat):Int),((l.getD y 0:Nat):Int),(((elems (diff (l.getD x 0) (l.getD y 0))).getD z 0:Nat):Int),true))))) (fun k=>?_) ?_
    ·simp only [aK.l2]
     rw [if_pos (by rw [aH];omega),if_pos (by omega),eO,de.dM z (by omega)]
    ·rw [ja _ _ (by omega)]
     refine Ev.bind (iP _ (by omega)) ?_
     refine Ev.bind (a:=fO l (l.getD x 0) (l.getD y 0) ((elems (diff (l.getD x 0) (l.getD y 0))).getD z 0)) (de.eW (1048577+8) (fun k hk=>?_)) ?_
     ·rw [mZ]
      refine kY _ _ _ (by have:=gx (diff (l.getD y 0) (l.getD x 0));omega) (fun f hf=>?_) k (by have:=gx (diff (l.getD y 0) (l.getD x 0));omega)
      obtain ⟨Y,hfb⟩:=kW hf
      rw [cC,Bool.and_eq_true] at hfb
      exact oM l _ _ _ hn ha he Y hbit.1 (by simpa using hfb.2) k (by omega)
     ·have hp':fO l (l.getD x 0) (l.getD y 0) ((elems (diff (l.getD x 0) (l.getD y 0))).getD z 0) = false:=by simpa using hp
      rw [hp']
      exact Ev.now _)
   (by
    intro z hz hp r hr
    have ha:=hlt x hx
    have hb:=hlt y hy
    obtain ⟨he,hbit⟩:=kW (dG _ 0 z hz)
    rw [cC,Bool.and_eq_true] at hbit
    have a1:=gx (diff (l.getD x 0) (l.getD y 0))
    have hd:diff (l.getD y 0) (l.getD x 0) < 2 ^ 8:=dY (n:=8) (by omega)
    refine Ev.step (f:=fun k=>(bL.f k (Go.bits .andNot .i64 ((l.getD y 0:Nat):Int) ((l.getD x 0:Nat):Int))).bind fun fs=>((cz.f k fs (fun f=>cA.f k (ints l) ((l.getD x 0:Nat):Int) (((elems (diff (l.getD x 0) (l.getD y 0))).getD z 0:Nat):Int) f)).bind fun t=>(if t = true then (aK.l2 k (m:Int) (ints l) (x:Int) ((l.getD x 0:Nat):Int) (y:Int) ((l.getD y 0:Nat):Int) (ints (elems (diff (l.getD x 0) (l.getD y 0)))) ((z+1:Nat):Int)) else (some (((l.getD x 0:Nat):Int),((l.getD y 0:Nat):Int),(((elems (diff (l.getD x 0) (l.getD y 0))).getD z 0:Nat):Int),true))))) (fun k=>?_) ?_
    ·simp only [aK.l2]
     rw [if_pos (by rw [aH];omega),if_pos (by omega),eO,de.dM z (by omega)]
    ·rw [ja _ _ (by omega)]
     refine Ev.bind (iP _ (by omega)) ?_
     refine Ev.bind (a:=fO l (l.getD x 0) (l.getD y 0) ((elems (diff (l.getD x 0) (l.getD y 0))).getD z 0)) (de.eW (1048577+8) (fun k hk=>?_)) ?_
     ·rw [mZ]
      refine kY _ _ _ (by have:=gx (diff (l.getD y 0) (l.getD x 0));omega) (fun f hf=>?_) k (by have:=gx (diff (l.getD y 0) (l.getD x 0));omega)
      obtain ⟨Y,hfb⟩:=kW hf
      rw [cC,Bool.and_eq_true] at hfb
      exact oM l _ _ _ hn ha he Y hbit.1 (by simpa using hfb.2) k (by omega)
     ·have hp':fO l (l.getD x 0) (l.getD y 0) ((elems (diff (l.getD x 0) (l.getD y 0))).getD z 0) = true:=by simpa using hp
      rw [hp']
      simp only [if_true]
      exact hr)
 have M:∀ x y:Nat,((List.range' 0 (elems (diff (l.getD x 0) (l.getD y 0))).length).any fun z=>!fO l (l.getD x 0) (l.getD y 0) ((elems (diff (l.getD x 0) (l.getD y 0))).getD z 0)) = (elems (diff (l.getD x 0) (l.getD y 0))).any fun e=>!fO l (l.getD x 0) (l.getD y 0) e:=fun x y=>jv (elems (diff (l.getD x 0) (l.getD y 0))) 0 (fun e=>!fO l (l.getD x 0) (l.getD y 0) e)
 have middle:∀ x:Nat,x < l.length→∀ d i:Nat,i+d = l.length→_:=fun x hx =>
  iA (fun k y=>aK.l1 k (m:Int) (ints l) (x:Int) ((l.getD x 0:Nat):Int) y) l.length
   (fun y=>(elems (diff (l.getD x 0) (l.getD y 0))).any fun e=>!fO l (l.getD x 0) (l.getD y 0) e) (fun r=>r.2.2.2 = true)
   (by
    intro y hy hp
    have ha:=hlt x hx
    obtain ⟨h1,_⟩:=inner x y hx hy (elems (diff (l.getD x 0) (l.getD y 0))).length 0 (by omega)
    rw [M] at h1
    obtain ⟨r,hr,hE⟩:=h1 hp
    refine ⟨r,hr,Ev.step (f:=fun k=>(bL.f k (Go.bits .andNot .i64 ((l.getD x 0:Nat):Int) ((l.getD y 0:Nat):Int))).bind fun es=>(aK.l2 k (m:Int) (ints l) (x:Int) ((l.getD x 0:Nat):Int) (y:Int) ((l.getD y 0:Nat):Int) es 0)) (fun k=>?_) ?_⟩
    ·simp only [aK.l1]
     rw [if_pos (by rw [aH];omega),if_pos (by omega),eO]
    ·rw [ja _ _ (by omega)]
     have hd:diff (l.getD x 0) (l.getD y 0) < 2 ^ 8:=dY (n:=8) (by omega)
     exact Ev.bind (iP _ (by omega)) hE)
   (by
    intro y hy hp r hr
    have ha:=hlt x hx
    obtain ⟨_,h2⟩:=inner x y hx hy (elems (diff (l.getD x 0) (l.getD y 0))).length 0 (by omega)
    rw [M] at h2
    refine Ev.step (f:=fun k=>(bL.f k (Go.bits .andNot .i64 ((l.getD x 0:Nat):Int) ((l.getD y 0:Nat):Int))).bind fun es=>(aK.l2 k (m:Int) (ints l) (x:Int) ((l.getD x 0:Nat):Int) (y:Int) ((l.getD y 0:Nat):Int) es 0)) (fun k=>?_) ?_
    ·simp only [aK.l1]
     rw [if_pos (by rw [aH];omega),if_pos (by omega),eO]
    ·rw [ja _ _ (by omega)]
     have hd:diff (l.getD x 0) (l.getD y 0) < 2 ^ 8:=dY (n:=8) (by omega)
     refine Ev.bind (iP _ (by omega)) (h2 hp r (Ev.step (fun k=>?_) hr))
     simp only [aK.l2]
     rw [if_neg (by rw [aH];omega),de.dM y (by omega)])
 have j:∀ x:Nat,((List.range' 0 l.length).any fun y=>(elems (diff (l.getD x 0) (l.getD y 0))).any fun e=>!fO l (l.getD x 0) (l.getD y 0) e) = l.any fun b=>(elems (diff (l.getD x 0) b)).any fun e=>!fO l (l.getD x 0) b e:=fun x=>jv l 0 (fun b=>(elems (diff (l.getD x 0) b)).any fun e=>!fO l (l.getD x 0) b e)
 obtain ⟨o1,o2⟩:=iA (fun k x=>aK.l0 k (m:Int) (ints l) x) l.length
   (fun x=>l.any fun b=>(elems (diff (l.getD x 0) b)).any fun e=>!fO l (l.getD x 0) b e) (fun r=>r.2.2.2 = true)
   (by
    intro x hx hp
    obtain ⟨h1,_⟩:=middle x hx l.length 0 (by omega)
    rw [j] at h1
    obtain ⟨r,hr,hE⟩:=h1 hp
    refine ⟨r,hr,Ev.step (fun k=>?_) hE⟩
    simp only [aK.l0]
    rw [if_pos (by rw [aH];omega),if_pos (by omega),eO]
    rfl)
   (by
    intro x hx hp r hr
    obtain ⟨_,h2⟩:=middle x hx l.length 0 (by omega)
    rw [j] at h2
    have h3:=h2 hp r (Ev.step (fun k=>by
     simp only [aK.l1]
     rw [if_neg (by rw [aH];omega),de.dM x (by omega)]) hr)
    refine Ev.step (fun k=>?_) h3
    simp only [aK.l0]
    rw [if_pos (by rw [aH];omega),if_pos (by omega),eO]
    rfl) l.length 0 (by omega)
 have X:((List.range' 0 l.length).any fun x=>l.any fun b=>(elems (diff (l.getD x 0) b)).any fun e=>!fO l (l.getD x 0) b e) = eN l:=by
  rw [oN]
  exact jv l 0 (fun a=>l.any fun b=>(elems (diff a b)).any fun e=>!fO l a b e)
 rw [X] at o1 o2
 have start:∀ r,Ev (fun k=>aK.l0 k (m:Int) (ints l) 0) r→Ev (fun k=>aK.f k (m:Int) (ints l)) r:=fun r hr=>by
  unfold aK.f
  refine Ev.bind (de.eW (l.length+1) (fun k hk=>mX (m:Int) (ints l) (by rw [aH];exact hn) k (by rw [aH];omega))) ?_
  rw [hf]
  simp only [if_true]
  exact hr
 cases hfl:eN l with
 | true =>
  obtain ⟨⟨x,y,z,b⟩,hb,hE⟩:=o1 hfl
  simp only at hb
  subst hb
  exact ⟨x,y,z,start _ hE⟩
 | false =>
  refine ⟨0,0,0,start _ (o2 hfl _ (de.eW 1 (fun k hk=>?_)))⟩
  obtain ⟨q,rfl⟩:∃ q,k = q+1:=⟨k - 1,by omega⟩
  simp only [aK.l0]
  rw [if_neg (by rw [aH];omega)]
theorem iV (e:Nat) (he:e < 62):IntKind.u64.wrap (e:Int) = e:=by
 unfold IntKind.wrap
 simp only [IntKind.bits,IntKind.signed,Bool.false_and,Bool.false_eq_true,if_false]
 omega
theorem kF (s e:Nat) (hs:s < 256) (he:e < 8):cv.f (s:Int) (e:Int) = some (s.testBit e):=by
 unfold cv.f
 rw [iV e (by omega),if_pos (by omega),qz s e (by omega) (by omega)]
theorem oa (m:Nat) (hm:m≤8) (l:List Nat) (hn:l.length≤1048576) (a b e:Nat) (ha:a < 256) (hb:b < 2 ^ m) (he:e < 8) (hae:a.testBit e = true):Ev (fun k=>aV.f k (m:Int) (ints l) (a:Int) (b:Int) (e:Int)) (fO l a b e):=by
 have z:=bN hm
 unfold aV.f
 have hle:=vC a ha e he hae
 have key:∀ f:Nat,f < m→a.testBit f = false→wrap64 ((wrap64 ((a:Int) - ((2 ^ e:Nat):Int)))+((2 ^ f:Nat):Int)) = ((a - 2 ^ e+2 ^ f:Nat):Int):=fun f hf y=>by
  have h1:=ud a ha e he f (by omega) hae y
  have h2:2 ^ f≤256:=bN (by omega)
  clear hae
  generalize (2:Nat) ^ e = P at *
  generalize (2:Nat) ^ f = Q at *
  rw [de.jQ (i:=(a:Int) - (P:Int)) (by omega) (by omega),de.jQ (by omega) (by omega)]
  omega
 obtain ⟨M,X⟩:=iA (fun k f=>aV.l0 k (a:Int) (b:Int) (e:Int) f (m:Int) (ints l)) m (fun f=>b.testBit f && !a.testBit f && l.contains (a - 2 ^ e+2 ^ f)) (fun r=>r = true)
  (by
   intro f hf hp
   rw [Bool.and_eq_true,Bool.and_eq_true] at hp
   obtain ⟨⟨h1,h2⟩,h3⟩:=hp
   have h2':a.testBit f = false:=by simpa using h2
   refine ⟨true,rfl,de.eW (l.length+2) (fun k hk=>?_)⟩
   obtain ⟨q,rfl⟩:∃ q,k = q+1:=⟨k - 1,by omega⟩
   simp only [aV.l0]
   rw [if_pos (by omega),kF b f (by omega) (by omega),h1]
   simp only [Option.bind_some,if_true]
   rw [kF a f ha (by omega),h2']
   simp only [Option.bind_some,Bool.false_eq_true,if_false]
   rw [iV e (by omega),iV f (by omega),if_pos (by omega),if_pos (by omega),iO e (by omega),iO f (by omega),key f hf h2',qB l _ hn q (by omega),h3]
   rfl)
  (by
   intro f hf hp r hr
   by_cases h1:b.testBit f = true
   ·by_cases h2:a.testBit f = true
    ·refine Ev.step (fun k=>?_) hr
     simp only [aV.l0]
     rw [if_pos (by omega),kF b f (by omega) (by omega),h1]
     simp only [Option.bind_some,if_true]
     rw [kF a f ha (by omega),h2]
     simp only [Option.bind_some,if_true]
     rw [de.dM f (by omega)]
    ·have h2':a.testBit f = false:=by simpa using h2
     have h3:l.contains (a - 2 ^ e+2 ^ f) = false:=by
      rw [h1,h2'] at hp
      simpa using hp
     refine Ev.step (f:=fun k=>(bV.f k (ints l) ((a - 2 ^ e+2 ^ f:Nat):Int)).bind fun t=>(if t = true then (some true) else (aV.l0 k (a:Int) (b:Int) (e:Int) ((f+1:Nat):Int) (m:Int) (ints l)))) (fun k=>?_) ?_
     ·simp only [aV.l0]
      rw [if_pos (by omega),kF b f (by omega) (by omega),h1]
      simp only [Option.bind_some,if_true]
      rw [kF a f ha (by omega),h2']
      simp only [Option.bind_some,Bool.false_eq_true,if_false]
      rw [iV e (by omega),iV f (by omega),if_pos (by omega),if_pos (by omega),iO e (by omega),iO f (by omega),key f hf h2',de.dM f (by omega)]
     ·refine Ev.bind (de.eW (l.length+1) (fun k hk=>qB l _ hn k (by omega))) ?_
      rw [h3]
      exact hr
   ·have h1':b.testBit f = false:=by simpa using h1
    refine Ev.step (fun k=>?_) hr
    simp only [aV.l0]
    rw [if_pos (by omega),kF b f (by omega) (by omega),h1']
    simp only [Option.bind_some,Bool.false_eq_true,if_false]
    rw [de.dM f (by omega)]) m 0 (by omega)
 have Y:((List.range' 0 m).any fun f=>b.testBit f && !a.testBit f && l.contains (a - 2 ^ e+2 ^ f)) = fO l a b e:=sN m hm _ (fun j hj=>by rw [iG hb hj];rfl)
 rw [Y] at M X
 cases hx:fO l a b e with
 | true =>
  obtain ⟨r,rfl,hE⟩:=M hx
  exact hE
 | false =>
  refine X hx _ (de.eW 1 (fun k hk=>?_))
  obtain ⟨q,rfl⟩:∃ q,k = q+1:=⟨k - 1,by omega⟩
  simp only [aV.l0]
  rw [if_neg (by omega)]
theorem rh (m:Nat) (hm:m≤8) (l:List Nat) (hl:∀ s∈l,s < 2 ^ m) (hn:l.length≤1048576) (hf:oL (m:Int) (ints l) = true) :
  ∃ x y z,Ev (fun k=>ay.f k (m:Int) (ints l)) (x,y,z,eN l):=by
 have a2:=bN hm
 have hlt:∀ i,i < l.length→l.getD i 0 < 256:=fun i hi=>Nat.lt_of_lt_of_le (hl _ (dG l 0 i hi)) a2
 have a1:∀ i,i < l.length→l.getD i 0 < 2 ^ m:=fun i hi=>hl _ (dG l 0 i hi)
 have round:∀ x y z:Nat,x < l.length→y < l.length→z < m→∀ r,(((l.getD x 0).testBit z && !(l.getD y 0).testBit z && !fO l (l.getD x 0) (l.getD y 0) z) = true→r.2.2.2 = true→r = (((l.getD x 0:Nat):Int),((l.getD y 0:Nat):Int),(z:Int),true)→Ev (fun k=>ay.l2 k (x:Int) (y:Int) (z:Int) (m:Int) (ints l)) r) ∧
   (((l.getD x 0).testBit z && !(l.getD y 0).testBit z && !fO l (l.getD x 0) (l.getD y 0) z) = false→Ev (fun k=>ay.l2 k (x:Int) (y:Int) ((z+1:Nat):Int) (m:Int) (ints l)) r→Ev (fun k=>ay.l2 k (x:Int) (y:Int) (z:Int) (m:Int) (ints l)) r):=by
  intro x y z hx hy hz r
  have ha:=hlt x hx
  have hb:=hlt y hy
  have a0:∀ k,ay.l2 (k+1) (x:Int) (y:Int) (z:Int) (m:Int) (ints l) = (if (l.getD x 0).testBit z = true then (if (l.getD y 0).testBit z = true then ay.l2 k (x:Int) (y:Int) ((z+1:Nat):Int) (m:Int) (ints l) else ((aV.f k (m:Int) (ints l) ((l.getD x 0:Nat):Int) ((l.getD y 0:Nat):Int) (z:Int)).bind fun t=>(if t = true then ay.l2 k (x:Int) (y:Int) ((z+1:Nat):Int) (m:Int) (ints l) else some (((l.getD x 0:Nat):Int),((l.getD y 0:Nat):Int),(z:Int),true)))) else ay.l2 k (x:Int) (y:Int) ((z+1:Nat):Int) (m:Int) (ints l)):=fun k=>by
   simp only [ay.l2]
   rw [if_pos (by omega),if_pos (by omega),if_pos (by rw [aH];omega),if_pos (by omega),if_pos (by rw [aH];omega),eO,eO,kF _ z ha (by omega)]
   simp only [Option.bind_some]
   rw [kF _ z hb (by omega)]
   simp only [Option.bind_some]
   rw [de.dM z (by omega)]
  cases h1:(l.getD x 0).testBit z with
  | false =>
   refine ⟨fun h=>by simp at h,fun _ hr=>Ev.step (fun k=>?_) hr⟩
   rw [a0,h1,if_neg (by decide)]
  | true =>
   cases h2:(l.getD y 0).testBit z with
   | true =>
    refine ⟨fun h=>by simp at h,fun _ hr=>Ev.step (fun k=>?_) hr⟩
    rw [a0,h1,h2,if_pos rfl,if_pos rfl]
   | false =>
    have hE:=oa m hm l hn (l.getD x 0) (l.getD y 0) z ha (a1 y hy) (by omega) h1
    cases h3:fO l (l.getD x 0) (l.getD y 0) z with
    | true =>
     rw [h3] at hE
     refine ⟨fun h=>by simp at h,fun _ hr=>Ev.step (fun k=>?_) (Ev.bind hE (f:=fun k t=>(if t = true then ay.l2 k (x:Int) (y:Int) ((z+1:Nat):Int) (m:Int) (ints l) else some (((l.getD x 0:Nat):Int),((l.getD y 0:Nat):Int),(z:Int),true))) (by simp only [if_true];exact hr))⟩
     rw [a0,h1,h2,if_pos rfl,if_neg (by decide)]
    | false =>
     rw [h3] at hE
     refine ⟨fun _ _ e=>?_,fun h=>by simp at h⟩
     subst e
     refine Ev.step (fun k=>?_) (Ev.bind hE (f:=fun k t=>(if t = true then ay.l2 k (x:Int) (y:Int) ((z+1:Nat):Int) (m:Int) (ints l) else some (((l.getD x 0:Nat):Int),((l.getD y 0:Nat):Int),(z:Int),true))) (by simp only [Bool.false_eq_true,if_false];exact Ev.now _))
     rw [a0,h1,h2,if_pos rfl,if_neg (by decide)]
 have inner:∀ x y:Nat,x < l.length→y < l.length→∀ d i:Nat,i+d = m→_:=fun x y hx hy =>
  iA (fun k z=>ay.l2 k (x:Int) (y:Int) z (m:Int) (ints l)) m
   (fun z=>(l.getD x 0).testBit z && !(l.getD y 0).testBit z && !fO l (l.getD x 0) (l.getD y 0) z) (fun r=>r.2.2.2 = true)
   (fun z hz hp=>⟨_,rfl,(round x y z hx hy hz (((l.getD x 0:Nat):Int),((l.getD y 0:Nat):Int),(z:Int),true)).1 hp rfl rfl⟩)
   (fun z hz hp r hr=>(round x y z hx hy hz r).2 hp hr)
 have X:∀ x y:Nat,x < l.length→((List.range' 0 m).any fun z=>(l.getD x 0).testBit z && !(l.getD y 0).testBit z && !fO l (l.getD x 0) (l.getD y 0) z) = (List.range' 0 8).any fun e=>(l.getD x 0).testBit e && !(l.getD y 0).testBit e && !fO l (l.getD x 0) (l.getD y 0) e:=fun x y hx=>sN m hm _ (fun j hj=>by rw [iG (a1 x hx) hj];rfl)
 have middle:∀ x:Nat,x < l.length→∀ d i:Nat,i+d = l.length→_:=fun x hx =>
  iA (fun k y=>ay.l1 k (x:Int) y (m:Int) (ints l)) l.length
   (fun y=>(List.range' 0 8).any fun e=>(l.getD x 0).testBit e && !(l.getD y 0).testBit e && !fO l (l.getD x 0) (l.getD y 0) e) (fun r=>r.2.2.2 = true)
   (by
    intro y hy hp
    obtain ⟨h1,_⟩:=inner x y hx hy m 0 (by omega)
    rw [X x y hx] at h1
    obtain ⟨r,hr,hE⟩:=h1 hp
    refine ⟨r,hr,Ev.step (fun k=>?_) hE⟩
    simp only [ay.l1]
    rw [if_pos (by rw [aH];omega)]
    rfl)
   (by
    intro y hy hp r hr
    obtain ⟨_,h2⟩:=inner x y hx hy m 0 (by omega)
    rw [X x y hx] at h2
    refine Ev.step (fun k=>?_) (h2 hp r (Ev.step (fun k=>by
     simp only [ay.l2]
     rw [if_neg (by omega),de.dM y (by omega)]) hr))
    simp only [ay.l1]
    rw [if_pos (by rw [aH];omega)]
    rfl)
 have M:∀ x:Nat,((List.range' 0 l.length).any fun y=>(List.range' 0 8).any fun e=>(l.getD x 0).testBit e && !(l.getD y 0).testBit e && !fO l (l.getD x 0) (l.getD y 0) e) = l.any fun b=>(List.range' 0 8).any fun e=>(l.getD x 0).testBit e && !b.testBit e && !fO l (l.getD x 0) b e:=fun x=>jv l 0 (fun b=>(List.range' 0 8).any fun e=>(l.getD x 0).testBit e && !b.testBit e && !fO l (l.getD x 0) b e)
 obtain ⟨o1,o2⟩:=iA (fun k x=>ay.l0 k x (m:Int) (ints l)) l.length
   (fun x=>l.any fun b=>(List.range' 0 8).any fun e=>(l.getD x 0).testBit e && !b.testBit e && !fO l (l.getD x 0) b e) (fun r=>r.2.2.2 = true)
   (by
    intro x hx hp
    obtain ⟨h1,_⟩:=middle x hx l.length 0 (by omega)
    rw [M] at h1
    obtain ⟨r,hr,hE⟩:=h1 hp
    refine ⟨r,hr,Ev.step (fun k=>?_) hE⟩
    simp only [ay.l0]
    rw [if_pos (by rw [aH];omega)]
    rfl)
   (by
    intro x hx hp r hr
    obtain ⟨_,h2⟩:=middle x hx l.length 0 (by omega)
    rw [M] at h2
    refine Ev.step (fun k=>?_) (h2 hp r (Ev.step (fun k=>by
     simp only [ay.l1]
     rw [if_neg (by rw [aH];omega),de.dM x (by omega)]) hr))
    simp only [ay.l0]
    rw [if_pos (by rw [aH];omega)]
    rfl) l.length 0 (by omega)
 have Y:((List.range' 0 l.length).any fun x=>l.any fun b=>(List.range' 0 8).any fun e=>(l.getD x 0).testBit e && !b.testBit e && !fO l (l.getD x 0) b e) = eN l:=by
  unfold eN
  exact jv l 0 (fun a=>l.any fun b=>(List.range' 0 8).any fun e=>a.testBit e && !b.testBit e && !fO l a b e)
 rw [Y] at o1 o2
 have start:∀ r,Ev (fun k=>ay.l0 k 0 (m:Int) (ints l)) r→Ev (fun k=>ay.f k (m:Int) (ints l)) r:=fun r hr=>by
  unfold ay.f
  refine Ev.bind (de.eW (l.length+1) (fun k hk=>mY (m:Int) (ints l) (by rw [aH];exact hn) k (by rw [aH];omega))) ?_
  rw [hf]
  simp only [if_true]
  exact hr
 cases hfl:eN l with
 | true =>
  obtain ⟨⟨x,y,z,b⟩,hb,hE⟩:=o1 hfl
  simp only at hb
  subst hb
  exact ⟨x,y,z,start _ hE⟩
 | false =>
  refine ⟨0,0,0,start _ (o2 hfl _ (de.eW 1 (fun k hk=>?_)))⟩
  obtain ⟨q,rfl⟩:∃ q,k = q+1:=⟨k - 1,by omega⟩
  simp only [ay.l0]
  rw [if_neg (by rw [aH];omega)]
def eX (n:Int) (l:List Int):Bool:=oL n l && decide (0 < l.length) && !eN (l.map Int.toNat)
theorem dU (l:List Nat):(ints l).map Int.toNat = l:=by
 unfold ints
 rw [List.map_map]
 conv=>rhs;rw [← List.map_id l]
 exact List.map_congr_left fun x _=>by simp
theorem qC (n:Int) (l:List Int) (hn:l.length≤1048576):Ev (fun k=>e6.f k n l) (eX n l):=by
 unfold e6.f eX
 have hF:Ev (fun k=>cq.f k n l) (oL n l):=de.eW (l.length+1) (fun k hk=>mX n l hn k (by omega))
 cases hf:oL n l with
 | false =>
  rw [hf] at hF
  refine Ev.bind (a:=(0,0,0,false)) ?_ (Ev.bind hF (by simp only [Bool.false_eq_true,if_false];exact Ev.now _))
  unfold aK.f
  exact Ev.bind hF (by simp only [Bool.false_eq_true,if_false];exact Ev.now _)
 | true =>
  rw [hf] at hF
  obtain ⟨m,j,rfl,hm,rfl,hl⟩:=o9 hf
  rw [dU]
  rw [aH] at hn
  obtain ⟨x,y,z,hE⟩:=rf m hm j hl hn hf
  refine Ev.bind hE (Ev.bind hF ?_)
  simp only [if_true,aH]
  by_cases h0:0 < j.length
  ·simp only [if_pos (show (j.length:Int) > 0 by omega),decide_eq_true h0,Bool.true_and]
   exact Ev.now _
  ·simp only [if_neg (show ¬ (j.length:Int) > 0 by omega),decide_eq_false h0,Bool.true_and,Bool.false_and]
   exact Ev.now _
theorem iQ (n:Int) (l:List Int) (hn:l.length≤1048576):Ev (fun k=>bf.f k n l) (eX n l):=by
 unfold bf.f eX
 have hF:Ev (fun k=>bp.f k n l) (oL n l):=de.eW (l.length+1) (fun k hk=>mY n l hn k (by omega))
 cases hf:oL n l with
 | false =>
  rw [hf] at hF
  refine Ev.bind (a:=(0,0,0,false)) ?_ (Ev.bind hF (by simp only [Bool.false_eq_true,if_false];exact Ev.now _))
  unfold ay.f
  exact Ev.bind hF (by simp only [Bool.false_eq_true,if_false];exact Ev.now _)
 | true =>
  rw [hf] at hF
  obtain ⟨m,j,rfl,hm,rfl,hl⟩:=o9 hf
  rw [dU]
  rw [aH] at hn
  obtain ⟨x,y,z,hE⟩:=rh m hm j hl hn hf
  refine Ev.bind hE (Ev.bind hF ?_)
  simp only [if_true,aH]
  by_cases h0:0 < j.length
  ·simp only [if_pos (show (j.length:Int) > 0 by omega),decide_eq_true h0,Bool.true_and]
   exact Ev.now _
  ·simp only [if_neg (show ¬ (j.length:Int) > 0 by omega),decide_eq_false h0,Bool.true_and,Bool.false_and]
   exact Ev.now _
end Go.Proofs.YtmpodackojmojaaGreat.mA
end
section
namespace Go.Proofs.YtmpodackojmojaaGreat.iD
open Go.RowKit Go.Proofs.YtmpodackojmojaaGreat.Pr Go.Proofs.YtmpodackojmojaaGreat.Sets Go.Proofs.YtmpodackojmojaaGreat.mA Go.Proofs.ag.bl Go.Proofs.ag.cj Go.Proofs.ag.ck
set_option linter.unusedVariables false
def cnt (s:Nat):Nat:=(elems s).length
theorem iB (s:Nat):cnt s≤8:=gx s
set_option maxRecDepth 100000 in
theorem pR:∀ s:Nat,s < 256→eu.f (s:Int) = some (cnt s:Int):=by decide +kernel
theorem lJ (s:Nat) (h:s < 256):eu.f (s:Int) = some (cnt s:Int):=pR s h
set_option maxRecDepth 100000 in
theorem pS:∀ s:Nat,s < 256→b6.f 10 (s:Int) = some (cnt s:Int):=by decide +kernel
theorem ri (s:Nat) (h:s < 256) (k:Nat) (hk:10≤k):b6.f k (s:Int) = some (cnt s:Int):=by
 induction k with
 | zero=>omega
 | succ k ih =>
  by_cases e:10≤k
  ·exact b6.mono _ _ _ (ih e)
  ·obtain rfl:k = 9:=by omega
   exact pS s h
theorem fD (s:Nat) (h:s < 256):Ev (fun k=>b6.f k (s:Int)) (cnt s:Int):=de.eW 10 (fun k hk=>ri s h k hk)
def bI (l:List Nat) (s:Nat):Nat:=l.foldl (fun m b=>max m (cnt (s &&& b))) 0
theorem gY {σ:Type} (l:List Nat) (f:σ→Nat→σ) (s:σ):(List.range' 0 l.length).foldl (fun s i=>f s (l.getD i 0)) s = l.foldl f s:=by
 have e:l = (List.range' 0 l.length).map fun i=>l.getD i 0:=by
  rw [← List.range_eq_range',de.nH]
 conv=>rhs;rw [e]
 rw [List.foldl_map]
theorem sQ {a b n:Nat} (ha:a < 2 ^ n):a &&& b < 2 ^ n:=Nat.lt_of_le_of_lt Nat.and_le_left ha
theorem sR (m:Nat) (l:List Nat) (s:Nat) (hs:s < 256) (hl:∀ b∈l,b < 256) (hn:l.length≤1048576):Ev (fun k=>dI.f k (m:Int) (ints l) (s:Int)) (bI l s:Int):=by
 unfold dI.f
 have e:bI l s = (List.range' 0 l.length).foldl (fun o i=>max o (cnt (s &&& l.getD i 0))) 0:=(gY l (fun o b=>max o (cnt (s &&& b))) 0).symm
 rw [e]
 have key:=de.eI (fun k (o:Nat) i=>dI.l0 k (s:Int) (o:Int) (ints l) ((ints l).length:Int) i) l.length (fun i o=>max o (cnt (s &&& l.getD i 0))) (fun _ _=>True) (((List.range' 0 l.length).foldl (fun o i=>max o (cnt (s &&& l.getD i 0))) 0:Nat):Int) (fun i o hi _=>⟨trivial,fun h=>Ev.step (fun k=>?_) h⟩) l.length 0 0 (by omega) trivial (fun _=>de.eW 1 (fun k hk=>?_))
 ·exact key
 ·simp only [dI.l0]
  have hb:=hl _ (dG l 0 i hi)
  rw [if_pos (by rw [aH];omega),if_pos (by omega),if_pos (by rw [aH];omega),eO,jI s _ (by omega) (by omega),lJ _ (sQ (n:=8) hs)]
  simp only [Option.bind_some]
  rw [de.dM i (by omega)]
  congr 1
  unfold mx
  split <;> omega
 ·obtain ⟨q,rfl⟩:∃ q,k = q+1:=⟨k - 1,by omega⟩
  simp only [dI.l0]
  rw [if_neg (by rw [aH];omega)]
theorem n2 (m:Nat) (l:List Nat) (s:Nat) (hs:s < 256) (hl:∀ b∈l,b < 256) (hn:l.length≤1048576):Ev (fun k=>cO.f k (m:Int) (ints l) (s:Int)) (bI l s:Int):=by
 unfold cO.f
 have e:bI l s = (List.range' 0 l.length).foldl (fun o i=>max o (cnt (s &&& l.getD i 0))) 0:=(gY l (fun o b=>max o (cnt (s &&& b))) 0).symm
 rw [e]
 have key:=de.eI (fun k (o:Nat) i=>cO.l0 k (s:Int) (o:Int) i (m:Int) (ints l)) l.length (fun i o=>max o (cnt (s &&& l.getD i 0))) (fun _ _=>True) (((List.range' 0 l.length).foldl (fun o i=>max o (cnt (s &&& l.getD i 0))) 0:Nat):Int) (fun i o hi _=>⟨trivial,fun h=>?_⟩) l.length 0 0 (by omega) trivial (fun _=>de.eW 1 (fun k hk=>?_))
 ·exact key
 ·have hb:=hl _ (dG l 0 i hi)
  refine Ev.step (f:=fun k=>(b6.f k (Go.bits .and .i64 (rd (ints l) (i:Int)) (s:Int))).bind fun j=>((dO.f (o:Int) j).bind fun y=>(cO.l0 k (s:Int) y (wrap64 ((i:Int)+1)) (m:Int) (ints l)))) (fun k=>?_) ?_
  ·simp only [cO.l0]
   rw [if_pos (by rw [aH];omega),if_pos (by omega)]
  ·rw [eO,jI _ s (by omega) (by omega),Nat.and_comm,de.dM i (by omega)]
   refine Ev.bind (fD _ (sQ (n:=8) hs)) ?_
   have hx:dO.f (o:Int) (cnt (s &&& l.getD i 0):Int) = some ((max o (cnt (s &&& l.getD i 0)):Nat):Int):=by
    unfold dO.f
    split <;> · congr 1;omega
   rw [hx]
   exact h
 ·obtain ⟨q,rfl⟩:∃ q,k = q+1:=⟨k - 1,by omega⟩
  simp only [cO.l0]
  rw [if_neg (by rw [aH];omega)]
theorem oO (p:Nat→Bool) (q:List Nat) (o:Nat) (j:Nat):(q.foldl (fun o e=>if p e = true then o ||| 2 ^ e else o) o).testBit j = (o.testBit j || q.any fun e=>p e && decide (e = j)):=by
 induction q generalizing o with
 | nil=>simp
 | cons a q ih =>
  rw [List.foldl_cons,ih,List.any_cons]
  cases h:p a with
  | false=>simp
  | true =>
   simp only [if_true,Nat.testBit_or,Nat.testBit_two_pow,Bool.true_and]
   rw [Bool.or_assoc]
theorem mg {a b n:Nat} (ha:a < 2 ^ n) (hb:b < 2 ^ n):a ||| b < 2 ^ n:=Nat.or_lt_two_pow ha hb
theorem pT {e m:Nat} (h:e < m):2 ^ e < 2 ^ m:=Nat.pow_lt_pow_right (by decide) h
end Go.Proofs.YtmpodackojmojaaGreat.iD
end
section
namespace Go.Proofs.YtmpodackojmojaaGreat.Flat
open Go.RowKit Go.Proofs.YtmpodackojmojaaGreat.Pr Go.Proofs.YtmpodackojmojaaGreat.Sets Go.Proofs.YtmpodackojmojaaGreat.mA Go.Proofs.YtmpodackojmojaaGreat.iD Go.Proofs.ag.bl Go.Proofs.ag.cj Go.Proofs.ag.ck
set_option linter.unusedVariables false
theorem iH {n:Int} {l:List Int} (h:eX n l = true):∃ (m:Nat) (j:List Nat),n = m∧m≤8∧l = ints j∧(∀ s∈j,s < 2 ^ m)∧0 < j.length∧eN j = false:=by
 unfold eX at h
 rw [Bool.and_eq_true,Bool.and_eq_true,decide_eq_true_eq] at h
 obtain ⟨⟨h1,h2⟩,h3⟩:=h
 obtain ⟨m,j,rfl,hm,rfl,hl⟩:=o9 h1
 rw [dU] at h3
 rw [aH] at h2
 exact ⟨m,j,rfl,hm,rfl,hl,h2,by simpa using h3⟩
theorem nJ {m:Nat} {s:Int} (h:isSet (m:Int) s = true):∃ x:Nat,s = x∧x < 2 ^ m:=by
 unfold isSet at h
 rw [decide_eq_true_eq] at h
 obtain ⟨_,_,h1,h2⟩:=h
 rw [Int.toNat_natCast] at h2
 refine ⟨s.toNat,by omega,?_⟩
 have:((s.toNat:Nat):Int) < ((2 ^ m:Nat):Int):=by push_cast;omega
 exact_mod_cast this
theorem jw {m:Nat} {x:Nat} (hm:m≤8) (h:x < 2 ^ m):isSet (m:Int) (x:Int) = true:=by
 unfold isSet
 rw [decide_eq_true_eq,Int.toNat_natCast]
 refine ⟨by omega,by omega,by omega,?_⟩
 exact_mod_cast h
theorem nK (m:Nat) (hm:m≤8):fN.f (m:Int) = some ((2 ^ m - 1:Nat):Int):=by
 have:∀ m:Nat,m < 9→fN.f (m:Int) = some ((2 ^ m - 1:Nat):Int):=by decide +kernel
 exact this m (by omega)
theorem eP (m:Nat) (hm:m≤8):br.f (m:Int) = some ((2 ^ m - 1:Nat):Int):=by
 have:∀ m:Nat,m < 9→br.f (m:Int) = some ((2 ^ m - 1:Nat):Int):=by decide +kernel
 exact this m (by omega)
theorem foldl_filter (p:Nat→Bool) (q:List Nat):(q.foldl (fun (s:List Int) j=>if p j = true then s ++ [(j:Int)] else s) []) = ints (q.filter p):=by
 rw [de.foldl_append,List.nil_append]
 rfl
end Go.Proofs.YtmpodackojmojaaGreat.Flat
end
section
namespace Go.Proofs.YtmpodackojmojaaGreat.Count
open Go.RowKit Go.Proofs.YtmpodackojmojaaGreat.Pr Go.Proofs.YtmpodackojmojaaGreat.Sets Go.Proofs.YtmpodackojmojaaGreat.mA Go.Proofs.YtmpodackojmojaaGreat.iD Go.Proofs.YtmpodackojmojaaGreat.Flat Go.Proofs.ag.bl Go.Proofs.ag.cj Go.Proofs.ag.ck
set_option linter.unusedVariables false
def oc (m:Nat) (r:Int):List Nat:=(List.range' 0 (2 ^ m)).filter fun s=>decide ((cnt s:Int) = r)
theorem nt (m:Nat) (r:Int):(oc m r).length≤2 ^ m:=by
 refine Nat.le_trans (List.length_filter_le _ _) ?_
 rw [List.length_range']
 exact Nat.le_refl _
theorem sS (m:Nat) (hm:m≤8) (r:Int) (h0:0≤r) (h1:r≤m):Ev (fun k=>bT.f k r (m:Int)) ((m:Int),ints (oc m r)):=by
 have y:=bN hm
 have hpos:0 < 2 ^ m:=Nat.pow_pos (by decide)
 have i1:bH.f (m:Int) 0 8 = some true:=by
  unfold bH.f
  rw [if_pos (by omega),decide_eq_true (by omega)]
 have i2:bH.f r 0 (m:Int) = some true:=by
  unfold bH.f
  rw [if_pos (by omega),decide_eq_true (by omega)]
 unfold bT.f
 simp only [i1,i2,Option.bind_some,if_true,Bool.not_true]
 refine Ev.step (f:=fun k=>bT.l0 k r (m:Int) 0 (m:Int) []) (fun k=>?_) ?_
 ·simp only [bT.j0]
  rw [if_neg (by decide)]
 ·have e:ints (oc m r) = (List.range' 0 (2 ^ m)).foldl (fun (s:List Int) j=>if decide ((cnt j:Int) = r) = true then s ++ [(j:Int)] else s) []:=(foldl_filter _ _).symm
  rw [e]
  refine de.eI (fun k (s:List Int) i=>bT.l0 k r (m:Int) i (m:Int) s) (2 ^ m) (fun i s=>if decide ((cnt i:Int) = r) = true then s ++ [(i:Int)] else s) (fun i s=>s.length≤i) _ (fun i s hi hP=>⟨?_,fun h=>?_⟩) (2 ^ m) 0 [] (by omega) (by simp) (fun _=>de.eW 1 (fun k hk=>?_))
  ·split
   ·simp;omega
   ·omega
  ·refine Ev.step (f:=fun k=>(b6.f k (i:Int)).bind fun t226=>(if t226 = r then (bT.l0 k r (m:Int) ((i+1:Nat):Int) (m:Int) (s ++ [(i:Int)])) else (bT.l0 k r (m:Int) ((i+1:Nat):Int) (m:Int) s))) (fun k=>?_) ?_
   ·simp only [bT.l0]
    rw [eP m hm]
    simp only [Option.bind_some]
    rw [if_pos (by omega),de.dM i (by omega)]
    simp only [if_pos (show s.length < 17592186044416 by omega)]
   ·refine Ev.bind (fD i (by omega)) ?_
    by_cases hx:(cnt i:Int) = r
    ·rw [if_pos (decide_eq_true hx)] at h
     simp only [if_pos hx]
     exact h
    ·rw [if_neg (by rw [decide_eq_true_eq];exact hx)] at h
     simp only [if_neg hx]
     exact h
  ·obtain ⟨q,rfl⟩:∃ q,k = q+1:=⟨k - 1,by omega⟩
   simp only [bT.l0]
   rw [eP m hm]
   simp only [Option.bind_some]
   rw [if_neg (by omega)]
end Go.Proofs.YtmpodackojmojaaGreat.Count
end
section
namespace Go.Proofs.YtmpodackojmojaaGreat.nw
open Go.RowKit Go.Proofs.YtmpodackojmojaaGreat.Pr Go.Proofs.YtmpodackojmojaaGreat.Sets Go.Proofs.YtmpodackojmojaaGreat.iD Go.Proofs.YtmpodackojmojaaGreat.Flat Go.Proofs.ag.bl Go.Proofs.ag.cj Go.Proofs.ag.ck
set_option linter.unusedVariables false
theorem uJ (x:Int):0≤IntKind.u64.wrap x:=by
 have e:IntKind.u64.wrap x = x % 18446744073709551616:=by simp [IntKind.wrap,IntKind.bits,IntKind.signed]
 rw [e]
 omega
theorem wU (s j:Int):∃ b,cv.f s j = some b:=by
 unfold cv.f
 rw [if_pos (uJ j)]
 exact ⟨_,rfl⟩
theorem wA {R C i c:Nat} (hi:i < R) (hc:c < C):i * C+c < R * C:=by
 have h:=Nat.mul_le_mul_right C (show i+1≤R by omega)
 rw [Nat.add_mul,Nat.one_mul] at h
 omega
theorem ix {R n i j:Nat} (hR:R≤3) (hn:n≤8) (hi:i < R) (hj:j < n):(∀ _:Unit,wrap64 (wrap64 ((i:Int) * (n:Int))+(j:Int)) = ((i * n+j:Nat):Int))∧i * n+j < R * n:=by
 have h1:=wA hi hj
 have h2:R * n≤24:=Nat.le_trans (Nat.mul_le_mul hR hn) (by decide)
 have e:(i:Int) * (n:Int) = ((i * n:Nat):Int):=by simp
 refine ⟨fun _=>?_,h1⟩
 rw [e,de.jQ (i:=((i * n:Nat):Int)) (by omega) (by omega),de.jQ (by omega) (by omega)]
 omega
set_option maxHeartbeats 4000000 in
theorem uK {p:Int} (hp:p≠0) {R n:Nat} (hR:R≤3) (hn:n≤8) (s:Int):∀ (d j rk:Nat) (a:List Int),j+d = n→rk≤R→a.length = R * n→∃ v,Ev (fun k=>aD.l0 k p (R:Int) (n:Int) s a (rk:Int) (j:Int)) v
 | 0,j,rk,a,hj,hrk,ha=>by
  refine ⟨(rk:Int),Ev.step (f:=fun _=>some (rk:Int)) (fun k=>?_) (Ev.now _)⟩
  rw [aD.l0,if_neg (by omega)]
 | d+1,j,rk,a,hj,hrk,ha=>by
  obtain ⟨b,hb⟩:=wU s (j:Int)
  have skip:∀ (rk:Nat) (a:List Int),rk≤R→a.length = R * n→∃ v,Ev (fun k=>aD.l0 k p (R:Int) (n:Int) s a (rk:Int) ((j+1:Nat):Int)) v:=fun rk a h1 h2=>uK hp hR hn s d (j+1) rk a (by omega) h1 h2
  have hjn:j < n:=by omega
  have Y:∀ (i:Nat) (x y:Int),i < R→rk < R→(∀ a:List Int,a.length = R * n→∃ v,Ev (fun k=>aD.l3 k p (R:Int) (n:Int) s a (rk:Int) (j:Int) ((i+1:Nat):Int)) v)→∀ (e c:Nat) (a:List Int),c+e = n→a.length = R * n→∃ v,Ev (fun k=>aD.l4 k p (R:Int) (n:Int) s a (rk:Int) (j:Int) (i:Int) x y (c:Int)) v:=by
   intro i x y hi hr hnext e
   induction e with
   | zero =>
    intro c a hc ha
    obtain ⟨v,hv⟩:=hnext a ha
    refine ⟨v,Ev.step (fun k=>?_) hv⟩
    rw [aD.l4,if_neg (by omega),de.dM i (by omega)]
   | succ e ih =>
    intro c a hc ha
    obtain ⟨v,hv⟩:=ih (c+1) (a.set (((i * n+c:Nat):Int)).toNat (Int.tmod (wrap64 ((Int.tmod (wrap64 ((wrap64 ((rd a ((i * n+c:Nat):Int)) * y)) - (wrap64 ((rd a ((rk * n+c:Nat):Int)) * x)))) p)+p)) p)) (by omega) (by rw [List.length_set];exact ha)
    obtain ⟨X,l1⟩:=ix hR hn hi (show c < n by omega)
    obtain ⟨e2,l2⟩:=ix hR hn hr (show c < n by omega)
    refine ⟨v,Ev.step (fun k=>?_) hv⟩
    rw [aD.l4]
    simp only [X (),e2 ()]
    rw [if_pos (by omega),if_pos (by omega),if_pos (by rw [ha];omega),if_pos (by omega),if_pos (by rw [ha];omega),if_neg hp,de.dM c (by omega)]
  have a0:rk < R→∀ (e i:Nat) (a:List Int),i+e = R→a.length = R * n→∃ v,Ev (fun k=>aD.l3 k p (R:Int) (n:Int) s a (rk:Int) (j:Int) (i:Int)) v:=by
   intro hr e
   induction e with
   | zero =>
    intro i a hi ha
    obtain ⟨v,hv⟩:=skip (rk+1) a (by omega) ha
    refine ⟨v,Ev.step (fun k=>?_) hv⟩
    rw [aD.l3,if_neg (by omega),de.dM rk (by omega),de.dM j (by omega)]
   | succ e ih =>
    intro i a hi ha
    obtain ⟨v,hv⟩:=Y i (rd a ((i * n+j:Nat):Int)) (rd a ((rk * n+j:Nat):Int)) (by omega) hr (fun a ha=>ih (i+1) a (by omega) ha) n 0 a (by omega) ha
    obtain ⟨X,l1⟩:=ix hR hn (show i < R by omega) hjn
    obtain ⟨e2,l2⟩:=ix hR hn hr hjn
    refine ⟨v,Ev.step (fun k=>?_) hv⟩
    rw [aD.l3]
    simp only [X (),e2 ()]
    rw [if_pos (by omega),if_pos (by omega),if_pos (by rw [ha];omega),if_pos (by omega),if_pos (by rw [ha];omega)]
    rfl
  have a1:∀ i:Nat,i < R→rk < R→∀ (e c:Nat) (a:List Int),c+e = n→a.length = R * n→∃ v,Ev (fun k=>aD.l2 k p (R:Int) (n:Int) s a (rk:Int) (j:Int) (i:Int) (c:Int)) v:=by
   intro i hi hr e
   induction e with
   | zero =>
    intro c a hc ha
    obtain ⟨v,hv⟩:=a0 hr (R - (rk+1)) (rk+1) a (by omega) ha
    refine ⟨v,Ev.step (fun k=>?_) hv⟩
    rw [aD.l2,if_neg (by omega),de.dM rk (by omega)]
   | succ e ih =>
    intro c a hc ha
    obtain ⟨v,hv⟩:=ih (c+1) ((a.set (((i * n+c:Nat):Int)).toNat (rd a ((rk * n+c:Nat):Int))).set (((rk * n+c:Nat):Int)).toNat (rd a ((i * n+c:Nat):Int))) (by omega) (by rw [List.length_set,List.length_set];exact ha)
    obtain ⟨X,l1⟩:=ix hR hn hi (show c < n by omega)
    obtain ⟨e2,l2⟩:=ix hR hn hr (show c < n by omega)
    refine ⟨v,Ev.step (fun k=>?_) hv⟩
    rw [aD.l2]
    simp only [X (),e2 ()]
    rw [if_pos (by omega),if_pos (by omega),if_pos (by rw [ha];omega),if_pos (by omega),if_pos (by rw [ha];omega),de.dM c (by omega)]
  have j2:∀ i:Nat,rk≤i→i≤R→∃ v,Ev (fun k=>aD.j2 k p (R:Int) (n:Int) s a (rk:Int) (j:Int) (i:Int)) v:=by
   intro i M hi
   by_cases e:i = R
   ·obtain ⟨v,hv⟩:=skip rk a hrk ha
    refine ⟨v,Ev.step (fun k=>?_) hv⟩
    rw [aD.j2,if_pos (by omega),de.dM j (by omega)]
   ·obtain ⟨v,hv⟩:=a1 i (by omega) (by omega) n 0 a (by omega) ha
    refine ⟨v,Ev.step (fun k=>?_) hv⟩
    rw [aD.j2,if_neg (by omega)]
    rfl
  have l1:∀ (e i:Nat),i+e = R→rk≤i→∃ v,Ev (fun k=>aD.l1 k p (R:Int) (n:Int) s a (rk:Int) (j:Int) (i:Int)) v:=by
   intro e
   induction e with
   | zero =>
    intro i hi M
    obtain ⟨v,hv⟩:=j2 i M (by omega)
    refine ⟨v,Ev.step (fun k=>?_) hv⟩
    rw [aD.l1,if_neg (by omega)]
   | succ e ih =>
    intro i hi M
    obtain ⟨X,l1⟩:=ix hR hn (show i < R by omega) hjn
    by_cases z:rd a ((i * n+j:Nat):Int) = 0
    ·obtain ⟨v,hv⟩:=ih (i+1) (by omega) (by omega)
     refine ⟨v,Ev.step (fun k=>?_) hv⟩
     rw [aD.l1]
     simp only [X ()]
     rw [if_pos (by omega),if_pos (by omega),if_pos (by rw [ha];omega),if_pos z,de.dM i (by omega)]
    ·obtain ⟨v,hv⟩:=j2 i M (by omega)
     refine ⟨v,Ev.step (fun k=>?_) hv⟩
     rw [aD.l1]
     simp only [X ()]
     rw [if_pos (by omega),if_pos (by omega),if_pos (by rw [ha];omega),if_neg z]
  cases b with
  | true =>
   obtain ⟨v,hv⟩:=l1 (R - rk) rk (by omega) (Nat.le_refl _)
   refine ⟨v,Ev.step (fun k=>?_) hv⟩
   rw [aD.l0,if_pos (by omega),hb,Option.bind_some,if_pos rfl]
  | false =>
   obtain ⟨v,hv⟩:=skip rk a hrk ha
   refine ⟨v,Ev.step (fun k=>?_) hv⟩
   rw [aD.l0,if_pos (by omega),hb,Option.bind_some,if_neg (by decide),de.dM j (by omega)]
theorem uL {p:Int} (hp:p≠0) {R n:Nat} (hR:R≤3) (hn:n≤8) {a:List Int} (ha:a.length = R * n) (s:Int):∃ v,Ev (fun k=>aD.f k p (R:Int) (n:Int) a s) v:=by
 have h2:R * n≤24:=Nat.le_trans (Nat.mul_le_mul hR hn) (by decide)
 obtain ⟨v,hv⟩:=uK hp hR hn s n 0 0 a (by omega) (Nat.zero_le _) ha
 refine ⟨v,?_⟩
 unfold aD.f
 simp only [Option.bind_some,List.nil_append]
 refine Ev.congr (fun k=>?_) hv
 rw [if_pos (by simp;omega)]
 rfl
set_option maxHeartbeats 4000000 in
theorem vD {p:Int} (hp:p≠0) {R n:Nat} (hR:R≤3) (hn:n≤8) {a:List Int} (ha:a.length = R * n):∃ l:List Int,Ev (fun k=>cn.f k p (R:Int) (n:Int) a) ((n:Int),l)∧l.length≤256:=by
 obtain ⟨r,hr⟩:=uL hp hR hn ha ((2 ^ n - 1:Nat):Int)
 have hpos:0 < 2 ^ n:=Nat.pow_pos (by decide)
 have z:2 ^ n≤256:=(Nat.pow_le_pow_right (by decide) hn:2 ^ n≤2 ^ 8)
 have key:∀ (d s:Nat) (l:List Int),s+d = 2 ^ n→l.length≤s→∃ l':List Int,Ev (fun k=>cn.l0 k p (R:Int) (n:Int) a r (s:Int) (n:Int) l) ((n:Int),l')∧l'.length≤256:=by
  intro d
  induction d with
  | zero =>
   intro s l hs hl
   refine ⟨l,Ev.step (f:=fun _=>some ((n:Int),l)) (fun k=>?_) (Ev.now _),by omega⟩
   rw [cn.l0,eP n hn,Option.bind_some,if_neg (by omega)]
  | succ d ih =>
   intro s l hs hl
   obtain ⟨t,ht⟩:=uL hp hR hn ha (s:Int)
   have hstep:∀ (f:Nat→Option (Int×List Int)) (v:Int×List Int),Ev f v→(∀ k,cn.l0 (k+1) p (R:Int) (n:Int) a r (s:Int) (n:Int) l = f k)→Ev (fun k=>cn.l0 k p (R:Int) (n:Int) a r (s:Int) (n:Int) l) v:=fun f v h1 h2=>Ev.step h2 h1
   have hun:∀ k,cn.l0 (k+1) p (R:Int) (n:Int) a r (s:Int) (n:Int) l = (b6.f k (s:Int)).bind fun j=>(if j = r then ((aD.f k p (R:Int) (n:Int) a (s:Int)).bind fun y=>(if y = r then (cn.l0 k p (R:Int) (n:Int) a r ((s+1:Nat):Int) (n:Int) (l ++ [(s:Int)])) else (cn.l0 k p (R:Int) (n:Int) a r ((s+1:Nat):Int) (n:Int) l))) else (cn.l0 k p (R:Int) (n:Int) a r ((s+1:Nat):Int) (n:Int) l)):=fun k=>by
    rw [cn.l0,eP n hn,Option.bind_some,if_pos (by omega),de.dM s (by omega),if_pos (show l.length < 17592186044416 by omega)]
   by_cases c1:(cnt s:Int) = r
   ·by_cases c2:t = r
    ·obtain ⟨l',h1,h2⟩:=ih (s+1) (l ++ [(s:Int)]) (by omega) (by rw [List.length_append,List.length_singleton];omega)
     refine ⟨l',hstep _ _ (Ev.bind (fD s (by omega)) ?_) hun,h2⟩
     simp only [if_pos c1]
     refine Ev.bind ht ?_
     simp only [if_pos c2]
     exact h1
    ·obtain ⟨l',h1,h2⟩:=ih (s+1) l (by omega) (by omega)
     refine ⟨l',hstep _ _ (Ev.bind (fD s (by omega)) ?_) hun,h2⟩
     simp only [if_pos c1]
     refine Ev.bind ht ?_
     simp only [if_neg c2]
     exact h1
   ·obtain ⟨l',h1,h2⟩:=ih (s+1) l (by omega) (by omega)
    refine ⟨l',hstep _ _ (Ev.bind (fD s (by omega)) ?_) hun,h2⟩
    simp only [if_neg c1]
    exact h1
 obtain ⟨l',h1,h2⟩:=key (2 ^ n) 0 [] (by omega) (Nat.le_refl _)
 refine ⟨l',?_,h2⟩
 unfold cn.f
 simp only [eP n hn,Option.bind_some]
 exact Ev.bind hr h1
set_option maxHeartbeats 4000000 in
theorem uh (b:List Int) (hb:b.length≤1048576) (i:Nat) (hi:i≤b.length) (h:Int) (n:Nat) (hn:n≤8):∃ (l:List Int) (i':Nat) (h':Int),Ev (fun k=>bY.f k b (i:Int) h (n:Int)) ((n:Int),l,(i':Int),h')∧l.length≤256∧i'≤b.length:=by
 obtain ⟨q,i1,h1,Y,hq,a0⟩:=below b hb i hi h 4 (by omega)
 have hq:=hq (by omega)
 obtain ⟨p,e1',hp⟩:∃ p:Int,cK.f b (i:Int) h [2,3,5,2] = some (p,(i1:Int),h1)∧0 < p∧p≤5:=by
  refine ⟨rd [2,3,5,2] q,?_,?_⟩
  ·unfold cK.f
   show (aM.f b (i:Int) h 4).bind _ = _
   rw [Y,Option.bind_some,if_pos hq.1,if_pos (show q < (([2,3,5,2]:List Int).length:Int) from hq.2)]
  ·have:q = 0∨q = 1∨q = 2∨q = 3:=by omega
   rcases this with rfl | rfl | rfl | rfl <;> decide
 obtain ⟨y,i2,h2,e2,hy,a1⟩:=below b hb i1 a0 h1 3 (by omega)
 have hy:=hy (by omega)
 obtain ⟨R,hR⟩:∃ R:Nat,(R:Int) = 1+y:=⟨(1+y).toNat,by omega⟩
 have M:R≤3:=by omega
 have a4:R * n≤24:=Nat.le_trans (Nat.mul_le_mul M hn) (by decide)
 have X:∀ _:Unit,wrap64 ((R:Int) * (n:Int)) = ((R * n:Nat):Int):=fun _=>by
  rw [show (R:Int) * (n:Int) = ((R * n:Nat):Int) by simp,de.jQ (by omega) (by omega)]
 have key:∀ (d t:Nat) (a:List Int) (j:Nat) (g:Int),t+d = R * n→a.length = t→j≤b.length→∃ (l:List Int) (i':Nat) (h':Int),Ev (fun k=>bY.l0 k (n:Int) p (R:Int) a (t:Int) b (j:Int) g) ((n:Int),l,(i':Int),h')∧l.length≤256∧i'≤b.length:=by
  intro d
  induction d with
  | zero =>
   intro t a j g ht ha hj
   obtain ⟨l,hl,a2⟩:=vD (p:=p) (by omega) M hn (a:=a) (by omega)
   refine ⟨l,j,g,Ev.step (f:=fun k=>(cn.f k p (R:Int) (n:Int) a).bind fun z=>some (z.1,z.2,(j:Int),g)) (fun k=>?_) (Ev.bind hl (Ev.now _)),a2,hj⟩
   rw [bY.l0,X (),if_neg (by omega)]
  | succ d ih =>
   intro t a j g ht ha hj
   obtain ⟨x,j1,g1,Y,_,a3⟩:=below b hb j hj g p hp.1
   obtain ⟨l,i',h',he,hl,hi'⟩:=ih (t+1) (a ++ [x]) j1 g1 (by omega) (by rw [List.length_append,List.length_singleton,ha]) a3
   refine ⟨l,i',h',Ev.step (fun k=>?_) he,hl,hi'⟩
   rw [bY.l0,X (),if_pos (by omega),Y,Option.bind_some,if_pos (by omega),de.dM t (by omega)]
 obtain ⟨l,i',h',he,hl,hi'⟩:=key (R * n) 0 [] i2 h2 (by omega) rfl a1
 refine ⟨l,i',h',?_,hl,hi'⟩
 unfold bY.f
 simp only [e1',Option.bind_some,e2]
 rw [← hR,de.jQ (by omega) (by omega)]
 exact he
def names:List ByteArray:=[(⟨#[48,32,45]⟩:ByteArray),(⟨#[49,32,45]⟩:ByteArray),(⟨#[49,32,97]⟩:ByteArray),(⟨#[52,32,97,98,44,97,99,44,98,99,44,97,100,44,98,100,44,99,100]⟩:ByteArray),(⟨#[52,32,97,98,44,97,99,44,97,100,44,98,100,44,99,100]⟩:ByteArray),(⟨#[51,32,97,44,98]⟩:ByteArray),(⟨#[53,32,97,98,44,97,99,44,98,99,44,97,100,44,98,100]⟩:ByteArray),(⟨#[50,32,45]⟩:ByteArray),(⟨#[51,32,97,98,99]⟩:ByteArray)]
def short (r:Option (Int×List Int×Bool)):Bool:=match r with
  | some (_,l,_)=>decide (l.length≤256)
  | none=>false
theorem wB:∀ j:Nat,j < 9→short (cJ.f 300 (fH ByteArray.empty names (j:Int))) = true:=by decide +kernel
theorem named (b:List Int) (hb:b.length≤1048576) (i:Nat) (hi:i≤b.length) (h:Int):∃ (n:Int) (l:List Int) (i':Nat) (h':Int),Ev (fun k=>eM.f k b (i:Int) h) (n,l,(i':Int),h')∧l.length≤256∧i'≤b.length:=by
 obtain ⟨x,i1,h1,X,hx,M⟩:=below b hb i hi h 9 (by omega)
 have hx:=hx (by omega)
 obtain ⟨j,rfl⟩:∃ j:Nat,x = (j:Int):=⟨x.toNat,by omega⟩
 have hs:=wB j (by omega)
 obtain ⟨⟨n,l,ok⟩,hr⟩:∃ r,cJ.f 300 (fH ByteArray.empty names (j:Int)) = some r:=by
  cases hq:cJ.f 300 (fH ByteArray.empty names (j:Int)) with
  | some r=>exact ⟨r,rfl⟩
  | none=>rw [hq] at hs;cases hs
 rw [hr] at hs
 have hl:l.length≤256:=of_decide_eq_true hs
 have hev:Ev (fun k=>cJ.f k (fH ByteArray.empty names (j:Int))) (n,l,ok):=by
  refine de.eW 300 (fun k hk=>?_)
  obtain ⟨d,rfl⟩:∃ d,k = 300+d:=⟨k - 300,by omega⟩
  clear hk
  induction d with
  | zero=>exact hr
  | succ d ih=>exact cJ.mono _ _ _ ih
 refine ⟨n,l,i1,h1,?_,hl,M⟩
 have hp:fM.f b (i:Int) h names = some (fH ByteArray.empty names (j:Int),(i1:Int),h1):=by
  unfold fM.f
  show (aM.f b (i:Int) h 9).bind _ = _
  rw [X,Option.bind_some,if_pos hx.1,if_pos (show (j:Int) < ((names.length:Nat):Int) from hx.2)]
 unfold eM.f
 show Ev (fun k=>(fM.f b (i:Int) h names).bind fun y=>(cJ.f k y.1).bind fun z=>some (z.1,z.2.1,y.2.1,y.2.2)) _
 simp only [hp,Option.bind_some]
 exact Ev.bind hev (Ev.now _)
end Go.Proofs.YtmpodackojmojaaGreat.nw
end
