/- The claim FnActivities: every text that its row comes to, laid together by slim.py (the words of the kit's print, the printed walks, the pure law, the row). -/
import Derived.RowKit
import Derived.Test.YtlfkfdmggpipbaaGreatYFnActivities4
namespace Go.Proofs.YtlfkfdmggpipbaaGreat
section
namespace Pr
open Go.RowKit ag.aZ ag.bR ag.bT
attribute [local go_sem] js jt kr ku iU iV ju jv
set_option linter.unusedVariables false
set_option linter.unusedSimpArgs false
mutual
def ay.j0:Nat→List (List Int)→List Int→Bool→Int→List Int→Int→List Int→Option (Bool)
 | 0,_,_,_,_,_,_,_=>none
 | k+1,x6,Y,a7,z,X,j,y=>if a7 = true then (some false) else ((aY.f k z X).bind fun a0=>(if a0 = true then ((bN.f k z X).bind fun a1=>((cv.f k x6 a1).bind fun a2=>(ay.j1 k Y (!a2) j y))) else (ay.j1 k Y false j y)))
def ay.j1:Nat→List Int→Bool→Int→List Int→Option (Bool)
 | 0,_,_,_,_=>none
 | k+1,Y,a8,j,y=>if a8 = true then (some false) else (ay.l0 k Y 0 j y)
def ay.l0:Nat→List Int→Int→Int→List Int→Option (Bool)
 | 0,_,_,_,_=>none
 | k+1,Y,x9,j,y=>if x9 < (Y.length:Int) then (if 0≤x9 then ((eg.f k j y (rd Y x9)).bind fun a3=>(if a3 = true then (ay.l0 k Y (wrap64 (x9+1)) j y) else (some false))) else (none)) else ((aY.f k j y).bind fun a4=>(if a4 = true then ((bN.f k j y).bind fun a5=>((bw.f k a5 2 0).bind fun a6=>(some ((Y.length:Int) == a6)))) else (some true)))
end
def ay.f (k:Nat) (l0:List Int):Option (Bool):=(jw.f l0).bind fun a0=>(if a0 = true then (some true) else ((dA.f k l0).bind fun z=>((dP.f k l0).bind fun y=>((bq.f k y.1 y.2).bind fun X=>((dU.f k l0).bind fun j=>((eO.f k j.1 j.2).bind fun Y=>((aH.f k z.1 z.2.1 z.2.2).bind fun a1=>((au.f k z.1 z.2.1 z.2.2).bind fun a2=>(if a1 = a2 then ((aU.f k z.1 z.2.1 z.2.2).bind fun a3=>((aV.f k z.1 z.2.1 z.2.2).bind fun a4=>(if a3 = a4 then ((aE.f k y.1 y.2).bind fun a5=>((cv.f k X a5).bind fun a6=>(if a6 = true then ((bJ.f k j.1 j.2).bind fun a7=>((cj.f k Y a7).bind fun a8=>(if a8 = true then ((bA.f k j.1 j.2).bind fun a9=>((aX.f k j.1 j.2).bind fun aa=>((cj.f k a9 aa).bind fun ab=>(ay.j0 k X Y (!ab) y.1 y.2 j.1 j.2)))) else (ay.j0 k X Y true y.1 y.2 j.1 j.2)))) else (ay.j0 k X Y true y.1 y.2 j.1 j.2)))) else (ay.j0 k X Y true y.1 y.2 j.1 j.2)))) else (ay.j0 k X Y true y.1 y.2 j.1 j.2))))))))))
def ay.T8:Bool×List (List Nat×List Nat):=(true,[([],[]),([],[]),([0,1],[0,1]),([],[]),([],[]),([3,4,2],[3,4]),([2,5],[2,5]),([6,5],[6]),([7],[7]),([7],[7]),([8,9,7,7],[7,8,9]),([7],[7]),([7],[7]),([11,12,10,7],[7,11,12]),([10,13,7],[7,10,13]),([7,14],[7,14]),([15,13],[15]),([16],[16]),([16],[16]),([18,16,16],[16,18]),([17,19,19,16],[16,17,19]),([20,16],[16,20]),([16,21],[16,21]),([22,20],[22]),([23],[23]),([23],[23]),([25,23,23],[23,25]),([24,26,26,23],[23,24,26]),([27,23],[23,27]),([23,28],[23,28]),([29,27],[29]),([30],[30]),([31,30,30],[30,31]),([30],[30]),([33,32,30],[30,33]),([32,34,34,30],[30,32,34]),([35,30],[30,35]),([30,36],[30,36])])
def ay.B8:List Nat:=[0,0,3,0,0,31,63,127,255,255,1023,255,255,8191,16383,32767,65535,131071,131071,393215,1048575,2097151,4194303,8388607,16777215,16777215,50331647,134217727,268435455,536870911,1073741823,2147483647,4294967295,2147483647,17179869183,34359738367,68719476735,137438953471]
theorem ay.o9:gv .any (opsOf Tryz.f6 8) = ay.T8:=by kernel_rfl
theorem ay.kL:eN ay.T8.2 ay.B8 = true:=by kernel_rfl
theorem ay.Ak {k:Nat} {r:Bool} {y0} {y1} {y3} {y4} {y5} {j} (h:ay.j0 k y0 y1 true y3 y4 y5 j = some r):r = false:=by
 cases k with
 | zero=>simp [ay.j0] at h
 | succ k =>
  simp only [ay.j0,if_true] at h;exact (Option.some.inj h).symm
set_option maxHeartbeats 8000000 in
set_option maxRecDepth 100000 in
theorem ay.calls (k:Nat) (A0:Option Addr) (c0:Nat) (l0:List Int) (r:Bool) (w:World) (h8:Kd.C (Kd.int .u8) w A0 l0.length l0) (h9:l0.length≤c0) (hT:ae (r = true)) (h:ay.f k l0 = some r) :
  Calls Tryz.prog 6 #[.slice A0 l0.length c0] w fun e w'=>e = .returned (.bool r)∧Below w.heap.size w w':=by
 have np:=Tryz.underlying37;have ed:=ae.mk h8;have ee:=ae.mk h9;clear h8 h9;have HB:=ae.mk (Below.refl w.heap.size w);unfold ay.f at h;have H:=h;clear h;obtain ⟨f3,A2,H⟩:=xa H;(try dsimp only at H);by_cases c3:f3 = true
 ·subst c3
  replace H:(some true) = some r:=by rw [if_pos rfl] at H;exact H
  obtain rfl:=Option.some.inj H;go_enter Tryz.func6,Tryz.ntmps6;go_wp2_with (first | ((with_reducible refine aD (f:=23) rfl ?_);refine ws (some 11) Tryz.func23 #[.slice A0 l0.length c0] ?_;(with_reducible refine (jw.calls _ _ l0 true _ ?side1 ?side2 A2.out).mono ?_);(case side1=>exact yi ed.out);(case side2=>exact ee.out);rintro e w' ⟨rfl,⟨nd,rfl⟩⟩;refine ⟨_,rfl,?_⟩));go_ret;exact ⟨zd,wy⟩
 ·replace c3:=Bool.eq_false_iff.mpr c3
  subst c3;replace H:((dA.f k l0).bind fun bc=>((dP.f k l0).bind fun ba=>((bq.f k ba.1 ba.2).bind fun b4=>((dU.f k l0).bind fun aO=>((eO.f k aO.1 aO.2).bind fun ab=>((aH.f k bc.1 bc.2.1 bc.2.2).bind fun ca=>((au.f k bc.1 bc.2.1 bc.2.2).bind fun cb=>(if ca = cb then ((aU.f k bc.1 bc.2.1 bc.2.2).bind fun cc=>((aV.f k bc.1 bc.2.1 bc.2.2).bind fun ce=>(if cc = ce then ((aE.f k ba.1 ba.2).bind fun df=>((cv.f k b4 df).bind fun e2=>(if e2 = true then ((bJ.f k aO.1 aO.2).bind fun d7=>((cj.f k ab d7).bind fun dk=>(if dk = true then ((bA.f k aO.1 aO.2).bind fun cf=>((aX.f k aO.1 aO.2).bind fun ci=>((cj.f k cf ci).bind fun d1=>(ay.j0 k b4 ab (!d1) ba.1 ba.2 aO.1 aO.2)))) else (ay.j0 k b4 ab true ba.1 ba.2 aO.1 aO.2)))) else (ay.j0 k b4 ab true ba.1 ba.2 aO.1 aO.2)))) else (ay.j0 k b4 ab true ba.1 ba.2 aO.1 aO.2)))) else (ay.j0 k b4 ab true ba.1 ba.2 aO.1 aO.2))))))))) = some r:=by rw [if_neg (show ¬ (false = true) by decide)] at H;exact H
  obtain ⟨⟨am,a8,b2⟩,A4,H⟩:=xa H;(try dsimp only at H);obtain ⟨⟨ar,aa⟩,A5,H⟩:=xa H;(try dsimp only at H);obtain ⟨b4,A6,H⟩:=xa H;(try dsimp only at H);obtain ⟨⟨a9,a3⟩,A7,H⟩:=xa H;(try dsimp only at H);obtain ⟨ab,A8,H⟩:=xa H;(try dsimp only at H);have f4:=ae.mk H;clear H;go_enter Tryz.func6,Tryz.ntmps6;go_upto_region 8 with (first | ((with_reducible refine aD (f:=23) rfl ?_);refine ws (some 11) Tryz.func23 #[.slice A0 l0.length c0] ?_;(with_reducible refine (jw.calls _ _ l0 false _ ?side1 ?side2 A2.out).mono ?_);(case side1=>exact yi ed.out);(case side2=>exact ee.out);rintro e w' ⟨rfl,⟨nd,rfl⟩⟩;refine ⟨_,rfl,?_⟩) | ((with_reducible refine aD (f:=24) rfl ?_);refine ws (some 14) Tryz.func24 #[.slice A0 l0.length c0] ?_;(with_reducible refine (dA.calls k _ _ l0 am a8 b2 _ ?side1 ?side2 A4.out).mono ?_);(case side1=>exact yi ed.out);(case side2=>exact ee.out);rintro e p0 ⟨ky,rfl,ao,hb⟩;refine ⟨_,rfl,?_⟩;have X:=ae.mk (Kd.b5 ao (ak (wx HB.out)));replace HB:=xi HB hb;(try clear hb);(try clear bs);(try clear hk);(try clear hi);(try clear ao)) | ((with_reducible refine bu (N:=3) rfl ?_);(try (refine eW (by rfl) ?_;dsimp only));refine fg ?hg (N:=3) ?hd (cs:=#[.int .i64 0,.slice none 0 0]) (t:=37) ?hr ?_;(case hd=>rfl);(case hg=>rfl);(case hr=>first | (go_simp;done) | (go_simp;rfl));intro b3 hg p1 hbox hb;replace X:=z2 X hb;have j:=ae.mk hbox;have k1:=yv hg HB;have k2:=yv hg HB;replace HB:=xi HB hb;clear hb hbox hg;obtain ⟨hj,hl,hm,hn⟩:=xv j.out;obtain ⟨aw,aB,ho⟩:=Kd.bk X.out;subst ho) | ((with_reducible refine aD (f:=25) rfl ?_);refine ws (some 18) Tryz.func25 #[.slice A0 l0.length c0] ?_;(with_reducible refine (dP.calls k _ _ l0 ar aa _ ?side1 ?side2 A5.out).mono ?_);(case side1=>exact Kd.aN ed.out wy);(case side2=>exact ee.out);rintro e p2 ⟨l5,rfl,ao,hb⟩;refine ⟨_,rfl,?_⟩;have Y:=ae.mk (Kd.b5 (Kd.dy ao (Kd.ek (ac ((Kd.aQ (Kd.bU (p:=⟨b3,1,none⟩) (Kd.bU (p:=⟨b3,0,none⟩) (Kd.cr X.out j.out (by decide)) (fun _ hk=>hk.2) (.int .i64 am)) (fun _ hk=>hk.2) (.slice aw a8.length aB)) (fun _ h_=>h_.1)))))) (ak wy));replace X:=ae.mk (Kd.cz (ac ((Kd.aQ (Kd.bU (p:=⟨b3,1,none⟩) (Kd.bU (p:=⟨b3,0,none⟩) (Kd.cr X.out j.out (by decide)) (fun _ hk=>hk.2) (.int .i64 am)) (fun _ hk=>hk.2) (.slice aw a8.length aB)) (fun _ h_=>h_.1)))) (Kd.cL ao) hb);replace j:=ae.mk (b6 (g:=b3) (o:=.cells #[.int .i64 am,.slice aw a8.length aB] 37 (0,0)) AE hb);replace HB:=ae.mk (aq wy hb);(try clear hb);(try clear bs);(try clear hk);(try clear hi);(try clear ao)) | ((with_reducible refine bu (N:=5) rfl ?_);(try (refine eW (by rfl) ?_;dsimp only));refine fg ?hg (N:=5) ?hd (cs:=#[.int .i64 0,.slice none 0 0]) (t:=37) ?hr ?_;(case hd=>rfl);(case hg=>rfl);(case hr=>first | (go_simp;done) | (go_simp;rfl));intro aR hg p3 hbox hb;replace X:=z2 X hb;replace Y:=z2 Y hb;have y:=ae.mk hbox;have k4:=AM (w:=w) hg wy;have k5:=AM (w:=w) hg wy;replace HB:=ae.mk (aq wy hb);have cp:=AJ hg j;have cq:=AK hg j;replace j:=xc j hb;clear hb hbox hg;have l6:=cq.out;have la:=cp.out;obtain ⟨hq,ht,hu,hx⟩:=xv y.out;obtain ⟨aS,aP,hz⟩:=Kd.bk Y.out;subst hz) | ((with_reducible refine aD (f:=26) rfl ?_);refine ws (some 20) Tryz.func26 #[.agg #[.int .i64 ar,.slice aS aa.length aP]] ?_;(with_reducible refine (bq.calls k ar _ _ aa b4 _ ?side1 ?side2 A6.out).mono ?_);(case side1=>refine (Kd.az (e:=3) (base:=w.heap.size) (ok:=fun k_=>(True∧some k_≠(.slice aw a8.length aB:Value).ownBlock)) (n:=aa.length) (c:=aP) ?_).2.2;exact (ac ((Kd.aQ (Kd.bU (p:=⟨aR,1,none⟩) (Kd.bU (p:=⟨aR,0,none⟩) (Kd.cr Y.out y.out (by decide)) (fun _ hk=>hk.2) (.int .i64 ar)) (fun _ hk=>hk.2) (.slice aS aa.length aP)) (fun _ h_=>h_.1)))));(case side2=>exact (Kd.az Y.out).2.1);rintro e p6 ⟨f5,rfl,ao,hb⟩;refine ⟨_,rfl,?_⟩;have a4:=ae.mk (Kd.j3 (Kd.ir (Kd.ir ao (Kd.ek (ac ((Kd.aQ (Kd.bU (p:=⟨aR,1,none⟩) (Kd.bU (p:=⟨aR,0,none⟩) (Kd.cr X.out y.out (by decide)) (fun _ hk=>hk.2) (.int .i64 ar)) (fun _ hk=>hk.2) (.slice aS aa.length aP)) (fun _ h_=>h_.1)))))) (Kd.ek (ac ((Kd.aQ (Kd.bU (p:=⟨aR,1,none⟩) (Kd.bU (p:=⟨aR,0,none⟩) (Kd.cr Y.out y.out (by decide)) (fun _ hk=>hk.2) (.int .i64 ar)) (fun _ hk=>hk.2) (.slice aS aa.length aP)) (fun _ h_=>h_.1)))))) (ak wy));replace X:=ae.mk (Kd.dG (ac ((Kd.aQ (Kd.bU (p:=⟨aR,1,none⟩) (Kd.bU (p:=⟨aR,0,none⟩) (Kd.cr X.out y.out (by decide)) (fun _ hk=>hk.2) (.int .i64 ar)) (fun _ hk=>hk.2) (.slice aS aa.length aP)) (fun _ h_=>h_.1)))) hb);replace Y:=ae.mk (Kd.dG (ac ((Kd.aQ (Kd.bU (p:=⟨aR,1,none⟩) (Kd.bU (p:=⟨aR,0,none⟩) (Kd.cr Y.out y.out (by decide)) (fun _ hk=>hk.2) (.int .i64 ar)) (fun _ hk=>hk.2) (.slice aS aa.length aP)) (fun _ h_=>h_.1)))) hb);replace j:=ae.mk (b6 (g:=b3) (o:=.cells #[.int .i64 am,.slice aw a8.length aB] 37 (0,0)) AE hb);replace y:=ae.mk (b6 (g:=aR) (o:=.cells #[.int .i64 ar,.slice aS aa.length aP] 37 (0,0)) AE hb);replace HB:=ae.mk (aq wy hb);(try clear hb);(try clear bs);(try clear hk);(try clear hi);(try clear ao)) | ((with_reducible refine aD (f:=27) rfl ?_);refine ws (some 22) Tryz.func27 #[.slice A0 l0.length c0] ?_;(with_reducible refine (dU.calls k _ _ l0 a9 a3 _ ?side1 ?side2 A7.out).mono ?_);(case side1=>exact yi (Kd.aN ed.out HB.out));(case side2=>exact ee.out);rintro e p7 ⟨lc,rfl,ao,hb⟩;refine ⟨_,rfl,?_⟩;replace a4:=ae.mk (Kd.fV (AG a4.out) (Kd.cL ao) hb);have a1:=ae.mk (Kd.b5 (Kd.dy (Kd.dy ao (Kd.ek (ac X.out))) (Kd.ek (ac Y.out))) (ak wy));replace X:=ae.mk (Kd.cz (ac X.out) (Kd.cL ao) hb);replace Y:=ae.mk (Kd.cz (ac Y.out) (Kd.cL ao) hb);replace j:=xc j hb;replace y:=xc y hb;replace HB:=ae.mk (aq wy hb);(try clear hb);(try clear bs);(try clear hk);(try clear hi);(try clear ao)) | ((with_reducible refine bu (N:=7) rfl ?_);(try (refine eW (by rfl) ?_;dsimp only));refine fg ?hg (N:=7) ?hd (cs:=#[.int .i64 0,.slice none 0 0]) (t:=37) ?hr ?_;(case hd=>rfl);(case hg=>rfl);(case hr=>first | (go_simp;done) | (go_simp;rfl));intro ap hg p9 hbox hb;replace X:=z2 X hb;replace Y:=z2 Y hb;replace a4:=ae.mk (Kd.eM (AG a4.out) hb);replace a1:=z2 a1 hb;have z:=ae.mk hbox;have ka:=AM (w:=w) hg wy;have kb:=AM (w:=w) hg wy;replace HB:=ae.mk (aq wy hb);have cx:=AJ hg j;have cy:=AK hg j;replace j:=xc j hb;have bi:=AJ hg y;have bm:=AK hg y;replace y:=xc y hb;clear hb hbox hg;have le:=cy.out;have lh:=cx.out;have li:=bm.out;have lj:=bi.out;obtain ⟨hA,hC,hD,hE⟩:=xv z.out;obtain ⟨aL,aF,hG⟩:=Kd.bk a1.out;subst hG) | ((with_reducible refine aD (f:=28) rfl ?_);refine ws (some 24) Tryz.func28 #[.agg #[.int .i64 a9,.slice aL a3.length aF]] ?_;(with_reducible refine (eO.calls k a9 _ _ a3 ab _ ?side1 ?side2 A8.out).mono ?_);(case side1=>refine (Kd.az (e:=3) (base:=w.heap.size) (ok:=fun k_=>((True∧some k_≠(.slice aw a8.length aB:Value).ownBlock)∧some k_≠(.slice aS aa.length aP:Value).ownBlock)) (n:=a3.length) (c:=aF) ?_).2.2;exact (ac ((Kd.aQ (Kd.bU (p:=⟨ap,1,none⟩) (Kd.bU (p:=⟨ap,0,none⟩) (Kd.cr a1.out z.out (by decide)) (fun _ hk=>hk.2) (.int .i64 a9)) (fun _ hk=>hk.2) (.slice aL a3.length aF)) (fun _ h_=>h_.1)))));(case side2=>exact (Kd.az a1.out).2.1);rintro e f6 ⟨bo,rfl,ao,hb⟩;refine ⟨_,rfl,?_⟩;replace a4:=ae.mk (Kd.fV (AG ((Kd.jf (Kd.xQ (p:=⟨ap,1,none⟩) (Kd.xQ (p:=⟨ap,0,none⟩) (Kd.wU a4.out z.out (by decide)) (fun _ hk=>hk.2) (.int .i64 a9)) (fun _ hk=>hk.2) (.slice aL a3.length aF)) (fun _ h_=>h_.1)))) (Kd.cL ao) hb);have a5:=ae.mk (Kd.b5 (Kd.dy (Kd.dy (Kd.dy ao (Kd.ek (ac ((Kd.aQ (Kd.bU (p:=⟨ap,1,none⟩) (Kd.bU (p:=⟨ap,0,none⟩) (Kd.cr X.out z.out (by decide)) (fun _ hk=>hk.2) (.int .i64 a9)) (fun _ hk=>hk.2) (.slice aL a3.length aF)) (fun _ h_=>h_.1)))))) (Kd.ek (ac ((Kd.aQ (Kd.bU (p:=⟨ap,1,none⟩) (Kd.bU (p:=⟨ap,0,none⟩) (Kd.cr Y.out z.out (by decide)) (fun _ hk=>hk.2) (.int .i64 a9)) (fun _ hk=>hk.2) (.slice aL a3.length aF)) (fun _ h_=>h_.1)))))) (Kd.ek (ac ((Kd.aQ (Kd.bU (p:=⟨ap,1,none⟩) (Kd.bU (p:=⟨ap,0,none⟩) (Kd.cr a1.out z.out (by decide)) (fun _ hk=>hk.2) (.int .i64 a9)) (fun _ hk=>hk.2) (.slice aL a3.length aF)) (fun _ h_=>h_.1)))))) (ak wy));replace X:=ae.mk (Kd.cz (ac ((Kd.aQ (Kd.bU (p:=⟨ap,1,none⟩) (Kd.bU (p:=⟨ap,0,none⟩) (Kd.cr X.out z.out (by decide)) (fun _ hk=>hk.2) (.int .i64 a9)) (fun _ hk=>hk.2) (.slice aL a3.length aF)) (fun _ h_=>h_.1)))) (Kd.cL ao) hb);replace Y:=ae.mk (Kd.cz (ac ((Kd.aQ (Kd.bU (p:=⟨ap,1,none⟩) (Kd.bU (p:=⟨ap,0,none⟩) (Kd.cr Y.out z.out (by decide)) (fun _ hk=>hk.2) (.int .i64 a9)) (fun _ hk=>hk.2) (.slice aL a3.length aF)) (fun _ h_=>h_.1)))) (Kd.cL ao) hb);replace a1:=ae.mk (Kd.cz (ac ((Kd.aQ (Kd.bU (p:=⟨ap,1,none⟩) (Kd.bU (p:=⟨ap,0,none⟩) (Kd.cr a1.out z.out (by decide)) (fun _ hk=>hk.2) (.int .i64 a9)) (fun _ hk=>hk.2) (.slice aL a3.length aF)) (fun _ h_=>h_.1)))) (Kd.cL ao) hb);replace j:=ae.mk (b6 (g:=b3) (o:=.cells #[.int .i64 am,.slice aw a8.length aB] 37 (0,0)) AE hb);replace y:=ae.mk (b6 (g:=aR) (o:=.cells #[.int .i64 ar,.slice aS aa.length aP] 37 (0,0)) AE hb);replace z:=ae.mk (b6 (g:=ap) (o:=.cells #[.int .i64 a9,.slice aL a3.length aF] 37 (0,0)) AE hb);replace HB:=ae.mk (aq wy hb);(try clear hb);(try clear bs);(try clear hk);(try clear hi);(try clear ao)))
  (try simp only [Act.put,List.setIfInBounds_toArray,List.set_cons_zero,List.set_cons_succ]);go_cut [62] (fun lk wc=>∃ (kq:Nat) (dC:Bool),lk = .bool dC∧ae (ay.j0 kq b4 ab dC ar aa a9 a3 = some r)∧ae (kq≤k)∧ae (Kd.S (Kd.slice 3 (Kd.int .i64)) 22 wc w.heap.size (fun k_=>some k_≠(bo:Value).ownBlock∧some k_≠((.slice aw a8.length aB):Value).ownBlock∧some k_≠((.slice aS aa.length aP):Value).ownBlock∧some k_≠((.slice aL a3.length aF):Value).ownBlock) f5 b4)∧ae (Kd.R (Kd.int .i64) 3 wc w.heap.size (fun k_=>some k_≠((.slice aw a8.length aB):Value).ownBlock∧some k_≠((.slice aS aa.length aP):Value).ownBlock∧some k_≠((.slice aL a3.length aF):Value).ownBlock) bo ab)∧ae (Kd.R (Kd.int .i64) 3 wc w.heap.size (fun k_=>some k_≠(bo:Value).ownBlock∧some k_≠((.slice aS aa.length aP):Value).ownBlock∧some k_≠((.slice aL a3.length aF):Value).ownBlock) (.slice aw a8.length aB) a8)∧ae (Kd.R (Kd.int .i64) 3 wc w.heap.size (fun k_=>some k_≠(bo:Value).ownBlock∧some k_≠((.slice aw a8.length aB):Value).ownBlock∧some k_≠((.slice aL a3.length aF):Value).ownBlock) (.slice aS aa.length aP) aa)∧ae (Kd.R (Kd.int .i64) 3 wc w.heap.size (fun k_=>some k_≠(bo:Value).ownBlock∧some k_≠((.slice aw a8.length aB):Value).ownBlock∧some k_≠((.slice aS aa.length aP):Value).ownBlock) (.slice aL a3.length aF) a3)∧ae (wc.heap[b3]? = some (.cells #[.int .i64 am,(.slice aw a8.length aB)] 37 (0,0)))∧ae (wc.heap[aR]? = some (.cells #[.int .i64 ar,(.slice aS aa.length aP)] 37 (0,0)))∧ae (wc.heap[ap]? = some (.cells #[.int .i64 a9,(.slice aL a3.length aF)] 37 (0,0)))∧ae (Below w.heap.size w wc))
  case first =>
   have H:=f4.out;clear f4;obtain ⟨ca,f7,H⟩:=xa H;(try dsimp only at H);obtain ⟨cb,f8,H⟩:=xa H;(try dsimp only at H);by_cases e3:ca = cb
   ·rw [if_pos e3] at H
    have dl:(ca == cb) = true:=beq_iff_eq.mpr e3;have f9:(ca != cb) = false:=bne_eq_false_iff_eq.mpr e3;clear e3;(first | rw [dl] | (simp only [b7,bC];rw [dl]) | skip);obtain ⟨cc,hH,H⟩:=xa H;(try dsimp only at H);obtain ⟨ce,hI,H⟩:=xa H;(try dsimp only at H);by_cases e4:cc = ce
    ·rw [if_pos e4] at H
     have fd:(cc == ce) = true:=beq_iff_eq.mpr e4;have fi:(cc != ce) = false:=bne_eq_false_iff_eq.mpr e4;clear e4;obtain ⟨df,ll,H⟩:=xa H;(try dsimp only at H);obtain ⟨e2,lm,H⟩:=xa H;(try dsimp only at H);by_cases ei:e2 = true
     ·subst ei
      replace H:((bJ.f k a9 a3).bind fun d7=>((cj.f k ab d7).bind fun dk=>(if dk = true then ((bA.f k a9 a3).bind fun cf=>((aX.f k a9 a3).bind fun ci=>((cj.f k cf ci).bind fun d1=>(ay.j0 k b4 ab (!d1) ar aa a9 a3)))) else (ay.j0 k b4 ab true ar aa a9 a3)))) = some r:=by rw [if_pos rfl] at H;exact H
      obtain ⟨d7,ln,H⟩:=xa H;(try dsimp only at H);obtain ⟨dk,lo,H⟩:=xa H;(try dsimp only at H);by_cases ej:dk = true
      ·subst ej
       replace H:((bA.f k a9 a3).bind fun cf=>((aX.f k a9 a3).bind fun ci=>((cj.f k cf ci).bind fun d1=>(ay.j0 k b4 ab (!d1) ar aa a9 a3)))) = some r:=by rw [if_pos rfl] at H;exact H
       obtain ⟨cf,lr,H⟩:=xa H;(try dsimp only at H);obtain ⟨ci,ls,H⟩:=xa H;(try dsimp only at H);obtain ⟨d1,lv,H⟩:=xa H;(try dsimp only at H);have H':=ae.mk H;clear H;(try go_wp2);replace X:=ae.mk (Kd.bY X.out);replace Y:=ae.mk (Kd.bY Y.out);replace a4:=ae.mk (Kd.iH a4.out);replace a1:=ae.mk (Kd.bY a1.out);replace a5:=ae.mk (Kd.bY a5.out);replace j:=ae.mk (cM j.out);replace y:=ae.mk (cM y.out);replace z:=ae.mk (cM z.out);replace HB:=ae.mk (bP HB.out);refine eT (n:=38) (S:=fun w'=>w'.cell? ⟨b3,0,none⟩ = some (.int .i64 am)∧w'.cell? ⟨b3,1,none⟩ = some (.slice aw a8.length aB)∧w'.cell? ⟨aR,0,none⟩ = some (.int .i64 ar)∧w'.cell? ⟨aR,1,none⟩ = some (.slice aS aa.length aP)∧w'.cell? ⟨ap,0,none⟩ = some (.int .i64 a9)∧w'.cell? ⟨ap,1,none⟩ = some (.slice aL a3.length aF)) (ds:=[]) #[false,false,false,false,false,false,false,false,false,false,false,false,false,false,false,false,false,false,false,false,false,false,false,false,false,false,false,false,false,false,false,false,false,false,false,false,false,false] (by kernel_rfl) rfl rfl ⟨(ah j.out 0).trans rfl,(ah j.out 1).trans rfl,(ah y.out 0).trans rfl,(ah y.out 1).trans rfl,(ah z.out 0).trans rfl,(ah z.out 1).trans rfl⟩ (fun hHeld=>?_);refine da ay.o9 ay.kL (fun a6 d5=>?_);generalize f6.drew = pa at X Y a4 a1 a5 j y z HB hHeld ⊢;refine wt 1 26 a6 ?_;refine wt 4 29 a6 ?_;refine AF 0 25 a6 d5 hHeld ?_;refine AF 3 28 a6 d5 hHeld ?_;refine fe (i:=2) (N:=some 27) #[true,true,true,true,true,false,false,false,false,false,false,false,false,false,false,false,false,false,false,false,false,false,false,false,false,false,false,false,false,false,false,false,false,false,false,false,false,false] rfl rfl (cH a6.out (by kernel_rfl)) (by decide) (fun K hK=>?_);refine eK Tryz.func29 (by kernel_rfl) rfl #[.agg #[.int .i64 am,.slice aw a8.length aB],.int .i64 b2] (by rfl) rfl rfl (by (try simp only [List.map_toArray,List.map_cons,List.map_nil]);first | done | rfl) ?_;with_reducible refine (aH.calls k am _ _ a8 b2 ca _ ?side1 ?side2 f7.out).mono ?_
       (case side1=>exact yi ((Kd.az X.out).2.2));(case side2=>exact (Kd.az X.out).2.1);rintro e pd ⟨rfl,hb⟩
       refine ⟨_,rfl,?_⟩;replace X:=z2 X hb;replace Y:=z2 Y hb;replace a4:=ae.mk (Kd.eM (AG a4.out) hb);replace a1:=z2 a1 hb;replace a5:=z2 a5 hb;replace j:=xc j hb;replace y:=xc y hb;replace z:=xc z hb;replace HB:=ae.mk (aq wy hb);(try clear hb);(try clear bs);(try clear hk);(try clear hi);refine hK.out _ _ ⟨(ah j.out 0).trans rfl,(ah j.out 1).trans rfl,(ah y.out 0).trans rfl,(ah y.out 1).trans rfl,(ah z.out 0).trans rfl,(ah z.out 1).trans rfl⟩ (fun hHeld=>?_);clear hK K;refine dN (a':=?_) ?_ ?_;rotate_left
       ·show Act.put _ (some 27) _ = _
        simp only [Act.put,List.setIfInBounds_toArray,List.set_cons_zero,List.set_cons_succ,b7,bC];rfl
       refine fe (i:=5) (N:=some 30) #[true,true,true,true,true,true,false,false,false,false,false,false,false,false,false,false,false,false,false,false,false,false,false,false,false,false,false,false,false,false,false,false,false,false,false,false,false,false] rfl rfl (cH a6.out (by kernel_rfl)) (by decide) (fun K hK=>?_);refine eK Tryz.func30 (by kernel_rfl) rfl #[.agg #[.int .i64 am,.slice aw a8.length aB],.int .i64 b2] (by rfl) rfl rfl (by (try simp only [List.map_toArray,List.map_cons,List.map_nil]);first | done | rfl) ?_;with_reducible refine (au.calls k am _ _ a8 b2 cb _ ?side1 ?side2 f8.out).mono ?_
       (case side1=>exact yi ((Kd.az X.out).2.2));(case side2=>exact (Kd.az X.out).2.1);rintro e pf ⟨rfl,hb⟩
       refine ⟨_,rfl,?_⟩;replace X:=z2 X hb;replace Y:=z2 Y hb;replace a4:=ae.mk (Kd.eM (AG a4.out) hb);replace a1:=z2 a1 hb;replace a5:=z2 a5 hb;replace j:=xc j hb;replace y:=xc y hb;replace z:=xc z hb;replace HB:=ae.mk (aq wy hb);(try clear hb);(try clear bs);(try clear hk);(try clear hi);refine hK.out _ _ ⟨(ah j.out 0).trans rfl,(ah j.out 1).trans rfl,(ah y.out 0).trans rfl,(ah y.out 1).trans rfl,(ah z.out 0).trans rfl,(ah z.out 1).trans rfl⟩ (fun hHeld=>?_);clear hK K;refine dN (a':=?_) ?_ ?_;rotate_left
       ·show Act.put _ (some 30) _ = _
        simp only [Act.put,List.setIfInBounds_toArray,List.set_cons_zero,List.set_cons_succ,b7,bC];rfl
       refine wt 6 31 a6 ?_;refine wt 7 32 a6 ?_;refine wt 9 34 a6 ?_;refine wt 12 37 a6 ?_;refine AF 8 33 a6 d5 hHeld ?_;refine AF 11 36 a6 d5 hHeld ?_;refine fe (i:=10) (N:=some 35) #[true,true,true,true,true,true,true,true,true,true,true,true,true,false,false,false,false,false,false,false,false,false,false,false,false,false,false,false,false,false,false,false,false,false,false,false,false,false] rfl rfl (cH a6.out (by kernel_rfl)) (by decide) (fun K hK=>?_);refine eK Tryz.func31 (by kernel_rfl) rfl #[.agg #[.int .i64 am,.slice aw a8.length aB],.int .i64 b2] (by rfl) rfl rfl (by (try simp only [List.map_toArray,List.map_cons,List.map_nil]);first | done | rfl) ?_;with_reducible refine (aU.calls k am _ _ a8 b2 cc _ ?side1 ?side2 hH.out).mono ?_
       (case side1=>exact yi ((Kd.az X.out).2.2));(case side2=>exact (Kd.az X.out).2.1);rintro e ph ⟨rfl,hb⟩
       refine ⟨_,rfl,?_⟩;replace X:=z2 X hb;replace Y:=z2 Y hb;replace a4:=ae.mk (Kd.eM (AG a4.out) hb);replace a1:=z2 a1 hb;replace a5:=z2 a5 hb;replace j:=xc j hb;replace y:=xc y hb;replace z:=xc z hb;replace HB:=ae.mk (aq wy hb);(try clear hb);(try clear bs);(try clear hk);(try clear hi);refine hK.out _ _ ⟨(ah j.out 0).trans rfl,(ah j.out 1).trans rfl,(ah y.out 0).trans rfl,(ah y.out 1).trans rfl,(ah z.out 0).trans rfl,(ah z.out 1).trans rfl⟩ (fun hHeld=>?_);clear hK K;refine dN (a':=?_) ?_ ?_;rotate_left
       ·show Act.put _ (some 35) _ = _
        simp only [Act.put,List.setIfInBounds_toArray,List.set_cons_zero,List.set_cons_succ,b7,bC];rfl
       refine fe (i:=13) (N:=some 38) #[true,true,true,true,true,true,true,true,true,true,true,true,true,true,false,false,false,false,false,false,false,false,false,false,false,false,false,false,false,false,false,false,false,false,false,false,false,false] rfl rfl (cH a6.out (by kernel_rfl)) (by decide) (fun K hK=>?_);refine eK Tryz.func32 (by kernel_rfl) rfl #[.agg #[.int .i64 am,.slice aw a8.length aB],.int .i64 b2] (by rfl) rfl rfl (by (try simp only [List.map_toArray,List.map_cons,List.map_nil]);first | done | rfl) ?_;with_reducible refine (aV.calls k am _ _ a8 b2 ce _ ?side1 ?side2 hI.out).mono ?_
       (case side1=>exact yi ((Kd.az X.out).2.2));(case side2=>exact (Kd.az X.out).2.1);rintro e pi ⟨rfl,hb⟩
       refine ⟨_,rfl,?_⟩;replace X:=z2 X hb;replace Y:=z2 Y hb;replace a4:=ae.mk (Kd.eM (AG a4.out) hb);replace a1:=z2 a1 hb;replace a5:=z2 a5 hb;replace j:=xc j hb;replace y:=xc y hb;replace z:=xc z hb;replace HB:=ae.mk (aq wy hb);(try clear hb);(try clear bs);(try clear hk);(try clear hi);refine hK.out _ _ ⟨(ah j.out 0).trans rfl,(ah j.out 1).trans rfl,(ah y.out 0).trans rfl,(ah y.out 1).trans rfl,(ah z.out 0).trans rfl,(ah z.out 1).trans rfl⟩ (fun hHeld=>?_);clear hK K;refine dN (a':=?_) ?_ ?_;rotate_left
       ·show Act.put _ (some 38) _ = _
        simp only [Act.put,List.setIfInBounds_toArray,List.set_cons_zero,List.set_cons_succ,b7,bC];rfl
       refine wt 14 39 a6 ?_;refine wt 15 40 a6 ?_;refine wt 16 41 a6 ?_;refine wt 17 42 a6 ?_;refine AF 18 43 a6 d5 hHeld ?_;refine fe (i:=19) (N:=some 44) #[true,true,true,true,true,true,true,true,true,true,true,true,true,true,true,true,true,true,true,true,false,false,false,false,false,false,false,false,false,false,false,false,false,false,false,false,false,false] rfl rfl (cH a6.out (by kernel_rfl)) (by decide) (fun K hK=>?_);refine eK Tryz.func34 (by kernel_rfl) rfl #[.agg #[.int .i64 ar,.slice aS aa.length aP]] (by rfl) rfl rfl (by (try simp only [List.map_toArray,List.map_cons,List.map_nil]);first | done | rfl) ?_;with_reducible refine (aE.calls k ar _ _ aa df _ ?side1 ?side2 ll.out).mono ?_
       (case side1=>exact yi ((Kd.az Y.out).2.2));(case side2=>exact (Kd.az Y.out).2.1);rintro e pj ⟨lw,rfl,ao,hb⟩
       refine ⟨_,rfl,?_⟩;have bv:=ae.mk (Kd.j3 (Kd.ir (Kd.ir (Kd.ir (Kd.ir (Kd.ir ao (Kd.ek (ac X.out))) (Kd.ek (ac Y.out))) (Kd.zb (AG a4.out))) (Kd.ek (ac a1.out))) (Kd.ek (ac a5.out))) (ak wy));replace X:=z2 X hb;replace Y:=z2 Y hb;replace a4:=ae.mk (Kd.fV (AG a4.out) (Kd.uL ao) hb);replace a1:=z2 a1 hb;replace a5:=z2 a5 hb;replace j:=xc j hb;replace y:=xc y hb;replace z:=xc z hb;replace HB:=ae.mk (aq wy hb);(try clear hb);(try clear bs);(try clear hk);(try clear hi);(try clear ao);obtain ⟨hL,hM,et⟩:=Kd.ji a4.out;(first | subst et | (injection et with d2 dp d3;have dq:=d2.symm;have dt:=d3.symm;clear d2 dp d3;subst dq;subst dt));obtain ⟨hP,hR,ev⟩:=Kd.ji bv.out;(first | subst ev | (injection ev with d2 dp d3;have dq:=d2.symm;have dt:=d3.symm;clear d2 dp d3;subst dq;subst dt));refine hK.out _ _ ⟨(ah j.out 0).trans rfl,(ah j.out 1).trans rfl,(ah y.out 0).trans rfl,(ah y.out 1).trans rfl,(ah z.out 0).trans rfl,(ah z.out 1).trans rfl⟩ (fun hHeld=>?_);clear hK K;refine dN (a':=?_) ?_ ?_;rotate_left
       ·show Act.put _ (some 44) _ = _
        simp only [Act.put,List.setIfInBounds_toArray,List.set_cons_zero,List.set_cons_succ,b7,bC];rfl
       refine fe (i:=20) (N:=some 45) #[true,true,true,true,true,true,true,true,true,true,true,true,true,true,true,true,true,true,true,true,true,false,false,false,false,false,false,false,false,false,false,false,false,false,false,false,false,false] rfl rfl (cH a6.out (by kernel_rfl)) (by decide) (fun K hK=>?_);refine eK Tryz.func33 (by kernel_rfl) rfl #[.slice hL b4.length hM,.slice hP df.length hR] (by rfl) rfl rfl (by (try simp only [List.map_toArray,List.map_cons,List.map_nil]);first | done | rfl) ?_;with_reducible refine (cv.calls k _ _ b4 _ _ df true _ ?side1 ?side2 ?side3 ?side4 lm.out).mono ?_
       (case side1=>exact yi ((Kd.ez a4.out).2.2));(case side2=>exact (Kd.ez a4.out).2.1);(case side3=>exact yi ((Kd.ez bv.out).2.2));(case side4=>exact (Kd.ez bv.out).2.1);rintro e w' ⟨rfl,⟨nd,rfl⟩⟩
       refine ⟨_,rfl,?_⟩;refine hK.out _ _ ⟨(ah j.out 0).trans rfl,(ah j.out 1).trans rfl,(ah y.out 0).trans rfl,(ah y.out 1).trans rfl,(ah z.out 0).trans rfl,(ah z.out 1).trans rfl⟩ (fun hHeld=>?_);clear hK K;refine dN (a':=?_) ?_ ?_;rotate_left
       ·show Act.put _ (some 45) _ = _
        simp only [Act.put,List.setIfInBounds_toArray,List.set_cons_zero,List.set_cons_succ,b7,bC];rfl
       refine wt 21 46 a6 ?_;refine wt 22 47 a6 ?_;refine wt 23 48 a6 ?_;refine wt 24 49 a6 ?_;refine AF 25 50 a6 d5 hHeld ?_;refine fe (i:=26) (N:=some 51) #[true,true,true,true,true,true,true,true,true,true,true,true,true,true,true,true,true,true,true,true,true,true,true,true,true,true,true,false,false,false,false,false,false,false,false,false,false,false] rfl rfl (cH a6.out (by kernel_rfl)) (by decide) (fun K hK=>?_);refine eK Tryz.func36 (by kernel_rfl) rfl #[.agg #[.int .i64 a9,.slice aL a3.length aF]] (by rfl) rfl rfl (by (try simp only [List.map_toArray,List.map_cons,List.map_nil]);first | done | rfl) ?_;with_reducible refine (bJ.calls k a9 _ _ a3 d7 _ ?side1 ?side2 ln.out).mono ?_
       (case side1=>exact yi ((Kd.az a1.out).2.2));(case side2=>exact (Kd.az a1.out).2.1);rintro e pl ⟨lx,rfl,ao,hb⟩
       refine ⟨_,rfl,?_⟩;replace a4:=ae.mk (Kd.fV (AG a4.out) (Kd.cL ao) hb);replace bv:=ae.mk (Kd.fV (AG bv.out) (Kd.cL ao) hb);have c1:=ae.mk (Kd.b5 (Kd.dy (Kd.dy (Kd.dy (Kd.dy ao (Kd.ek (ac X.out))) (Kd.ek (ac Y.out))) (Kd.ek (ac a1.out))) (Kd.ek (ac a5.out))) (ak wy));replace X:=ae.mk (Kd.cz (ac X.out) (Kd.cL ao) hb);replace Y:=ae.mk (Kd.cz (ac Y.out) (Kd.cL ao) hb);replace a1:=ae.mk (Kd.cz (ac a1.out) (Kd.cL ao) hb);replace a5:=ae.mk (Kd.cz (ac a5.out) (Kd.cL ao) hb);replace j:=xc j hb;replace y:=xc y hb;replace z:=xc z hb;replace HB:=ae.mk (aq wy hb);(try clear hb);(try clear bs);(try clear hk);(try clear hi);(try clear ao);obtain ⟨hU,hV,ew⟩:=Kd.bk a5.out;(first | subst ew | (injection ew with d2 dp d3;have dq:=d2.symm;have dt:=d3.symm;clear d2 dp d3;subst dq;subst dt));obtain ⟨hW,hX,ex⟩:=Kd.bk c1.out;(first | subst ex | (injection ex with d2 dp d3;have dq:=d2.symm;have dt:=d3.symm;clear d2 dp d3;subst dq;subst dt));refine hK.out _ _ ⟨(ah j.out 0).trans rfl,(ah j.out 1).trans rfl,(ah y.out 0).trans rfl,(ah y.out 1).trans rfl,(ah z.out 0).trans rfl,(ah z.out 1).trans rfl⟩ (fun hHeld=>?_);clear hK K;refine dN (a':=?_) ?_ ?_;rotate_left
       ·show Act.put _ (some 51) _ = _
        simp only [Act.put,List.setIfInBounds_toArray,List.set_cons_zero,List.set_cons_succ,b7,bC];rfl
       refine fe (i:=27) (N:=some 52) #[true,true,true,true,true,true,true,true,true,true,true,true,true,true,true,true,true,true,true,true,true,true,true,true,true,true,true,true,false,false,false,false,false,false,false,false,false,false] rfl rfl (cH a6.out (by kernel_rfl)) (by decide) (fun K hK=>?_);refine eK Tryz.func35 (by kernel_rfl) rfl #[.slice hU ab.length hV,.slice hW d7.length hX] (by rfl) rfl rfl (by (try simp only [List.map_toArray,List.map_cons,List.map_nil]);first | done | rfl) ?_;with_reducible refine (cj.calls k _ _ ab _ _ d7 true _ ?side1 ?side2 ?side3 ?side4 lo.out).mono ?_
       (case side1=>exact yi ((Kd.az a5.out).2.2));(case side2=>exact (Kd.az a5.out).2.1);(case side3=>exact yi ((Kd.az c1.out).2.2));(case side4=>exact (Kd.az c1.out).2.1);rintro e w' ⟨rfl,⟨nd,rfl⟩⟩
       refine ⟨_,rfl,?_⟩;refine hK.out _ _ ⟨(ah j.out 0).trans rfl,(ah j.out 1).trans rfl,(ah y.out 0).trans rfl,(ah y.out 1).trans rfl,(ah z.out 0).trans rfl,(ah z.out 1).trans rfl⟩ (fun hHeld=>?_);clear hK K;refine dN (a':=?_) ?_ ?_;rotate_left
       ·show Act.put _ (some 52) _ = _
        simp only [Act.put,List.setIfInBounds_toArray,List.set_cons_zero,List.set_cons_succ,b7,bC];rfl
       refine wt 28 53 a6 ?_;refine wt 29 54 a6 ?_;refine wt 30 55 a6 ?_;refine AF 31 56 a6 d5 hHeld ?_;refine AF 33 58 a6 d5 hHeld ?_;refine fe (i:=32) (N:=some 57) #[true,true,true,true,true,true,true,true,true,true,true,true,true,true,true,true,true,true,true,true,true,true,true,true,true,true,true,true,true,true,true,true,true,true,false,false,false,false] rfl rfl (cH a6.out (by kernel_rfl)) (by decide) (fun K hK=>?_);refine eK Tryz.func37 (by kernel_rfl) rfl #[.agg #[.int .i64 a9,.slice aL a3.length aF]] (by rfl) rfl rfl (by (try simp only [List.map_toArray,List.map_cons,List.map_nil]);first | done | rfl) ?_;with_reducible refine (bA.calls k a9 _ _ a3 cf _ ?side1 ?side2 lr.out).mono ?_
       (case side1=>exact yi ((Kd.az a1.out).2.2));(case side2=>exact (Kd.az a1.out).2.1);rintro e pm ⟨ly,rfl,ao,hb⟩
       refine ⟨_,rfl,?_⟩;replace a4:=ae.mk (Kd.fV (AG a4.out) (Kd.cL ao) hb);replace bv:=ae.mk (Kd.fV (AG bv.out) (Kd.cL ao) hb);have d4:=ae.mk (Kd.b5 (Kd.dy (Kd.dy (Kd.dy (Kd.dy (Kd.dy ao (Kd.ek (ac X.out))) (Kd.ek (ac Y.out))) (Kd.ek (ac a1.out))) (Kd.ek (ac a5.out))) (Kd.ek (ac c1.out))) (ak wy));replace X:=ae.mk (Kd.cz (ac X.out) (Kd.cL ao) hb);replace Y:=ae.mk (Kd.cz (ac Y.out) (Kd.cL ao) hb);replace a1:=ae.mk (Kd.cz (ac a1.out) (Kd.cL ao) hb);replace a5:=ae.mk (Kd.cz (ac a5.out) (Kd.cL ao) hb);replace c1:=ae.mk (Kd.cz (ac c1.out) (Kd.cL ao) hb);replace j:=xc j hb;replace y:=xc y hb;replace z:=xc z hb;replace HB:=ae.mk (aq wy hb);(try clear hb);(try clear bs);(try clear hk);(try clear hi);(try clear ao);refine hK.out _ _ ⟨(ah j.out 0).trans rfl,(ah j.out 1).trans rfl,(ah y.out 0).trans rfl,(ah y.out 1).trans rfl,(ah z.out 0).trans rfl,(ah z.out 1).trans rfl⟩ (fun hHeld=>?_);clear hK K;refine dN (a':=?_) ?_ ?_;rotate_left
       ·show Act.put _ (some 57) _ = _
        simp only [Act.put,List.setIfInBounds_toArray,List.set_cons_zero,List.set_cons_succ,b7,bC];rfl
       refine fe (i:=34) (N:=some 59) #[true,true,true,true,true,true,true,true,true,true,true,true,true,true,true,true,true,true,true,true,true,true,true,true,true,true,true,true,true,true,true,true,true,true,true,false,false,false] rfl rfl (cH a6.out (by kernel_rfl)) (by decide) (fun K hK=>?_);refine eK Tryz.func38 (by kernel_rfl) rfl #[.agg #[.int .i64 a9,.slice aL a3.length aF]] (by rfl) rfl rfl (by (try simp only [List.map_toArray,List.map_cons,List.map_nil]);first | done | rfl) ?_;with_reducible refine (aX.calls k a9 _ _ a3 ci _ ?side1 ?side2 ls.out).mono ?_
       (case side1=>exact yi ((Kd.az a1.out).2.2));(case side2=>exact (Kd.az a1.out).2.1);rintro e pp ⟨lL,rfl,ao,hb⟩
       refine ⟨_,rfl,?_⟩;replace a4:=ae.mk (Kd.fV (AG a4.out) (Kd.cL ao) hb);replace bv:=ae.mk (Kd.fV (AG bv.out) (Kd.cL ao) hb);have dE:=ae.mk (Kd.b5 (Kd.dy (Kd.dy (Kd.dy (Kd.dy (Kd.dy (Kd.dy ao (Kd.ek (ac X.out))) (Kd.ek (ac Y.out))) (Kd.ek (ac a1.out))) (Kd.ek (ac a5.out))) (Kd.ek (ac c1.out))) (Kd.ek (ac d4.out))) (ak wy));replace X:=ae.mk (Kd.cz (ac X.out) (Kd.cL ao) hb);replace Y:=ae.mk (Kd.cz (ac Y.out) (Kd.cL ao) hb);replace a1:=ae.mk (Kd.cz (ac a1.out) (Kd.cL ao) hb);replace a5:=ae.mk (Kd.cz (ac a5.out) (Kd.cL ao) hb);replace c1:=ae.mk (Kd.cz (ac c1.out) (Kd.cL ao) hb);replace d4:=ae.mk (Kd.cz (ac d4.out) (Kd.cL ao) hb);replace j:=xc j hb;replace y:=xc y hb;replace z:=xc z hb;replace HB:=ae.mk (aq wy hb);(try clear hb);(try clear bs);(try clear hk);(try clear hi);(try clear ao);obtain ⟨hZ,i0,ey⟩:=Kd.bk d4.out;(first | subst ey | (injection ey with d2 dp d3;have dq:=d2.symm;have dt:=d3.symm;clear d2 dp d3;subst dq;subst dt));obtain ⟨i1,i2,eQ⟩:=Kd.bk dE.out;(first | subst eQ | (injection eQ with d2 dp d3;have dq:=d2.symm;have dt:=d3.symm;clear d2 dp d3;subst dq;subst dt));refine hK.out _ _ ⟨(ah j.out 0).trans rfl,(ah j.out 1).trans rfl,(ah y.out 0).trans rfl,(ah y.out 1).trans rfl,(ah z.out 0).trans rfl,(ah z.out 1).trans rfl⟩ (fun hHeld=>?_);clear hK K;refine dN (a':=?_) ?_ ?_;rotate_left
       ·show Act.put _ (some 59) _ = _
        simp only [Act.put,List.setIfInBounds_toArray,List.set_cons_zero,List.set_cons_succ,b7,bC];rfl
       refine fe (i:=35) (N:=some 60) #[true,true,true,true,true,true,true,true,true,true,true,true,true,true,true,true,true,true,true,true,true,true,true,true,true,true,true,true,true,true,true,true,true,true,true,true,false,false] rfl rfl (cH a6.out (by kernel_rfl)) (by decide) (fun K hK=>?_);refine eK Tryz.func35 (by kernel_rfl) rfl #[.slice hZ cf.length i0,.slice i1 ci.length i2] (by rfl) rfl rfl (by (try simp only [List.map_toArray,List.map_cons,List.map_nil]);first | done | rfl) ?_;with_reducible refine (cj.calls k _ _ cf _ _ ci d1 _ ?side1 ?side2 ?side3 ?side4 lv.out).mono ?_
       (case side1=>exact yi ((Kd.az d4.out).2.2));(case side2=>exact (Kd.az d4.out).2.1);(case side3=>exact yi ((Kd.az dE.out).2.2));(case side4=>exact (Kd.az dE.out).2.1);rintro e w' ⟨rfl,⟨nd,rfl⟩⟩
       refine ⟨_,rfl,?_⟩;refine hK.out _ _ ⟨(ah j.out 0).trans rfl,(ah j.out 1).trans rfl,(ah y.out 0).trans rfl,(ah y.out 1).trans rfl,(ah z.out 0).trans rfl,(ah z.out 1).trans rfl⟩ (fun hHeld=>?_);clear hK K;refine dN (a':=?_) ?_ ?_;rotate_left
       ·show Act.put _ (some 60) _ = _
        simp only [Act.put,List.setIfInBounds_toArray,List.set_cons_zero,List.set_cons_succ,b7,bC];rfl
       refine wt 36 61 a6 ?_;refine wt 37 62 a6 ?_;refine fP (e9 a6.out (by kernel_rfl)) ?_;(try go_wp2);go_meet
       case rel=>exact ⟨_,(!d1),ww,H',⟨by first | omega | exact Nat.le_refl _⟩,⟨AG (Kd.jf a4.out (fun _ hk=>⟨hk.1.1.1.1.2,⟨hk.1.1.1.1.1.1.1.2,⟨hk.1.1.1.1.1.1.2,hk.1.1.1.1.1.2⟩⟩⟩))⟩,⟨ac (Kd.aQ a5.out (fun _ hk=>⟨hk.1.1.1.1.1.2,⟨hk.1.1.1.1.2,hk.1.1.1.2⟩⟩))⟩,⟨ac (Kd.aQ X.out (fun _ hk=>⟨hk.1.1.1.2,⟨hk.1.1.1.1.1.2,hk.1.1.1.1.2⟩⟩))⟩,⟨ac (Kd.aQ Y.out (fun _ hk=>⟨hk.1.1.1.2,⟨hk.1.1.1.1.1.2,hk.1.1.1.1.2⟩⟩))⟩,⟨ac (Kd.aQ a1.out (fun _ hk=>⟨hk.1.1.1.2,⟨hk.1.1.1.1.1.2,hk.1.1.1.1.2⟩⟩))⟩,⟨xf j.out⟩,⟨xf y.out⟩,⟨xf z.out⟩,⟨wy⟩⟩
      ·replace ej:=Bool.eq_false_iff.mpr ej
       subst ej;replace H:(ay.j0 k b4 ab true ar aa a9 a3) = some r:=by rw [if_neg (show ¬ (false = true) by decide)] at H;exact H
       exact absurd hT.out (by rw [ay.Ak H];decide)
     ·replace ei:=Bool.eq_false_iff.mpr ei
      subst ei;replace H:(ay.j0 k b4 ab true ar aa a9 a3) = some r:=by rw [if_neg (show ¬ (false = true) by decide)] at H;exact H
      exact absurd hT.out (by rw [ay.Ak H];decide)
    ·rw [if_neg e4] at H
     have fd:(cc == ce) = false:=beq_eq_false_iff_ne.mpr e4;have fi:(cc != ce) = true:=bne_iff_ne.mpr e4;have H':=ae.mk H;clear H;(try go_wp2);replace X:=ae.mk (Kd.bY X.out);replace Y:=ae.mk (Kd.bY Y.out);replace a4:=ae.mk (Kd.iH a4.out);replace a1:=ae.mk (Kd.bY a1.out);replace a5:=ae.mk (Kd.bY a5.out);replace j:=ae.mk (cM j.out);replace y:=ae.mk (cM y.out);replace z:=ae.mk (cM z.out);replace HB:=ae.mk (bP HB.out);refine eT (n:=38) (S:=fun w'=>w'.cell? ⟨b3,0,none⟩ = some (.int .i64 am)∧w'.cell? ⟨b3,1,none⟩ = some (.slice aw a8.length aB)) (ds:=[]) #[false,false,false,false,false,false,false,false,false,false,false,false,false,false,false,false,false,false,false,false,false,false,false,false,false,false,false,false,false,false,false,false,false,false,false,false,false,false] (by kernel_rfl) rfl rfl ⟨(ah j.out 0).trans rfl,(ah j.out 1).trans rfl⟩ (fun hHeld=>?_);refine da ay.o9 ay.kL (fun a6 d5=>?_);generalize f6.drew = pr at X Y a4 a1 a5 j y z HB hHeld ⊢;refine wt 1 26 a6 ?_;refine wt 4 29 a6 ?_;refine AF 0 25 a6 d5 hHeld ?_;refine AF 3 28 a6 d5 hHeld ?_;refine fe (i:=2) (N:=some 27) #[true,true,true,true,true,false,false,false,false,false,false,false,false,false,false,false,false,false,false,false,false,false,false,false,false,false,false,false,false,false,false,false,false,false,false,false,false,false] rfl rfl (cH a6.out (by kernel_rfl)) (by decide) (fun K hK=>?_);refine eK Tryz.func29 (by kernel_rfl) rfl #[.agg #[.int .i64 am,.slice aw a8.length aB],.int .i64 b2] (by rfl) rfl rfl (by (try simp only [List.map_toArray,List.map_cons,List.map_nil]);first | done | rfl) ?_;with_reducible refine (aH.calls k am _ _ a8 b2 ca _ ?side1 ?side2 f7.out).mono ?_
     (case side1=>exact yi ((Kd.az X.out).2.2));(case side2=>exact (Kd.az X.out).2.1);rintro e ps ⟨rfl,hb⟩
     refine ⟨_,rfl,?_⟩;replace X:=z2 X hb;replace Y:=z2 Y hb;replace a4:=ae.mk (Kd.eM (AG a4.out) hb);replace a1:=z2 a1 hb;replace a5:=z2 a5 hb;replace j:=xc j hb;replace y:=xc y hb;replace z:=xc z hb;replace HB:=ae.mk (aq wy hb);(try clear hb);(try clear bs);(try clear hk);(try clear hi);refine hK.out _ _ ⟨(ah j.out 0).trans rfl,(ah j.out 1).trans rfl⟩ (fun hHeld=>?_);clear hK K;refine dN (a':=?_) ?_ ?_;rotate_left
     ·show Act.put _ (some 27) _ = _
      simp only [Act.put,List.setIfInBounds_toArray,List.set_cons_zero,List.set_cons_succ,b7,bC];rfl
     refine fe (i:=5) (N:=some 30) #[true,true,true,true,true,true,false,false,false,false,false,false,false,false,false,false,false,false,false,false,false,false,false,false,false,false,false,false,false,false,false,false,false,false,false,false,false,false] rfl rfl (cH a6.out (by kernel_rfl)) (by decide) (fun K hK=>?_);refine eK Tryz.func30 (by kernel_rfl) rfl #[.agg #[.int .i64 am,.slice aw a8.length aB],.int .i64 b2] (by rfl) rfl rfl (by (try simp only [List.map_toArray,List.map_cons,List.map_nil]);first | done | rfl) ?_;with_reducible refine (au.calls k am _ _ a8 b2 cb _ ?side1 ?side2 f8.out).mono ?_
     (case side1=>exact yi ((Kd.az X.out).2.2));(case side2=>exact (Kd.az X.out).2.1);rintro e pt ⟨rfl,hb⟩
     refine ⟨_,rfl,?_⟩;replace X:=z2 X hb;replace Y:=z2 Y hb;replace a4:=ae.mk (Kd.eM (AG a4.out) hb);replace a1:=z2 a1 hb;replace a5:=z2 a5 hb;replace j:=xc j hb;replace y:=xc y hb;replace z:=xc z hb;replace HB:=ae.mk (aq wy hb);(try clear hb);(try clear bs);(try clear hk);(try clear hi);refine hK.out _ _ ⟨(ah j.out 0).trans rfl,(ah j.out 1).trans rfl⟩ (fun hHeld=>?_);clear hK K;refine dN (a':=?_) ?_ ?_;rotate_left
     ·show Act.put _ (some 30) _ = _
      simp only [Act.put,List.setIfInBounds_toArray,List.set_cons_zero,List.set_cons_succ,b7,bC];rfl
     refine wt 6 31 a6 ?_;refine wt 7 32 a6 ?_;refine wt 9 34 a6 ?_;refine wt 12 37 a6 ?_;refine AF 8 33 a6 d5 hHeld ?_;refine AF 11 36 a6 d5 hHeld ?_;refine fe (i:=10) (N:=some 35) #[true,true,true,true,true,true,true,true,true,true,true,true,true,false,false,false,false,false,false,false,false,false,false,false,false,false,false,false,false,false,false,false,false,false,false,false,false,false] rfl rfl (cH a6.out (by kernel_rfl)) (by decide) (fun K hK=>?_);refine eK Tryz.func31 (by kernel_rfl) rfl #[.agg #[.int .i64 am,.slice aw a8.length aB],.int .i64 b2] (by rfl) rfl rfl (by (try simp only [List.map_toArray,List.map_cons,List.map_nil]);first | done | rfl) ?_;with_reducible refine (aU.calls k am _ _ a8 b2 cc _ ?side1 ?side2 hH.out).mono ?_
     (case side1=>exact yi ((Kd.az X.out).2.2));(case side2=>exact (Kd.az X.out).2.1);rintro e pv ⟨rfl,hb⟩
     refine ⟨_,rfl,?_⟩;replace X:=z2 X hb;replace Y:=z2 Y hb;replace a4:=ae.mk (Kd.eM (AG a4.out) hb);replace a1:=z2 a1 hb;replace a5:=z2 a5 hb;replace j:=xc j hb;replace y:=xc y hb;replace z:=xc z hb;replace HB:=ae.mk (aq wy hb);(try clear hb);(try clear bs);(try clear hk);(try clear hi);refine hK.out _ _ ⟨(ah j.out 0).trans rfl,(ah j.out 1).trans rfl⟩ (fun hHeld=>?_);clear hK K;refine dN (a':=?_) ?_ ?_;rotate_left
     ·show Act.put _ (some 35) _ = _
      simp only [Act.put,List.setIfInBounds_toArray,List.set_cons_zero,List.set_cons_succ,b7,bC];rfl
     refine fe (i:=13) (N:=some 38) #[true,true,true,true,true,true,true,true,true,true,true,true,true,true,false,false,false,false,false,false,false,false,false,false,false,false,false,false,false,false,false,false,false,false,false,false,false,false] rfl rfl (cH a6.out (by kernel_rfl)) (by decide) (fun K hK=>?_);refine eK Tryz.func32 (by kernel_rfl) rfl #[.agg #[.int .i64 am,.slice aw a8.length aB],.int .i64 b2] (by rfl) rfl rfl (by (try simp only [List.map_toArray,List.map_cons,List.map_nil]);first | done | rfl) ?_;with_reducible refine (aV.calls k am _ _ a8 b2 ce _ ?side1 ?side2 hI.out).mono ?_
     (case side1=>exact yi ((Kd.az X.out).2.2));(case side2=>exact (Kd.az X.out).2.1);rintro e px ⟨rfl,hb⟩
     refine ⟨_,rfl,?_⟩;replace X:=z2 X hb;replace Y:=z2 Y hb;replace a4:=ae.mk (Kd.eM (AG a4.out) hb);replace a1:=z2 a1 hb;replace a5:=z2 a5 hb;replace j:=xc j hb;replace y:=xc y hb;replace z:=xc z hb;replace HB:=ae.mk (aq wy hb);(try clear hb);(try clear bs);(try clear hk);(try clear hi);refine hK.out _ _ ⟨(ah j.out 0).trans rfl,(ah j.out 1).trans rfl⟩ (fun hHeld=>?_);clear hK K;refine dN (a':=?_) ?_ ?_;rotate_left
     ·show Act.put _ (some 38) _ = _
      simp only [Act.put,List.setIfInBounds_toArray,List.set_cons_zero,List.set_cons_succ,b7,bC];rfl
     refine wt 14 39 a6 ?_;refine wt 15 40 a6 ?_;refine wt 16 41 a6 ?_;refine dK (i:=17) (N:=some 42) (v:=undef) (a':=?_) #[true,true,true,true,true,true,true,true,true,true,true,true,true,true,true,true,true,true,false,false,false,false,false,false,false,false,false,false,false,false,false,false,false,false,false,false,false,false] rfl rfl (cV a6.out (by kernel_rfl)) (fun _ _ _ h=>h) (Or.inr ⟨by rfl,rfl⟩) ?_ ?_;rotate_left
     ·simp only [Act.put,List.setIfInBounds_toArray,List.set_cons_zero,List.set_cons_succ,b7,bC]
      rfl
     refine dK (i:=18) (N:=some 43) (v:=undef) (a':=?_) #[true,true,true,true,true,true,true,true,true,true,true,true,true,true,true,true,true,true,true,false,false,false,false,false,false,false,false,false,false,false,false,false,false,false,false,false,false,false] rfl rfl (cV a6.out (by kernel_rfl)) (fun _ _ _ h=>h) (Or.inr ⟨by rfl,rfl⟩) ?_ ?_;rotate_left
     ·simp only [Act.put,List.setIfInBounds_toArray,List.set_cons_zero,List.set_cons_succ,b7,bC]
      rfl
     refine dK (i:=19) (N:=some 44) (v:=undef) (a':=?_) #[true,true,true,true,true,true,true,true,true,true,true,true,true,true,true,true,true,true,true,true,false,false,false,false,false,false,false,false,false,false,false,false,false,false,false,false,false,false] rfl rfl (cV a6.out (by kernel_rfl)) (fun _ _ _ h=>h) (Or.inr ⟨by rfl,rfl⟩) ?_ ?_;rotate_left
     ·simp only [Act.put,List.setIfInBounds_toArray,List.set_cons_zero,List.set_cons_succ,b7,bC]
      rfl
     refine dK (i:=20) (N:=some 45) (v:=undef) (a':=?_) #[true,true,true,true,true,true,true,true,true,true,true,true,true,true,true,true,true,true,true,true,true,false,false,false,false,false,false,false,false,false,false,false,false,false,false,false,false,false] rfl rfl (cV a6.out (by kernel_rfl)) (fun _ _ _ h=>h) (Or.inr ⟨by rfl,rfl⟩) ?_ ?_;rotate_left
     ·simp only [Act.put,List.setIfInBounds_toArray,List.set_cons_zero,List.set_cons_succ,b7,bC]
      rfl
     refine dK (i:=21) (N:=some 46) (v:=undef) (a':=?_) #[true,true,true,true,true,true,true,true,true,true,true,true,true,true,true,true,true,true,true,true,true,true,false,false,false,false,false,false,false,false,false,false,false,false,false,false,false,false] rfl rfl (cV a6.out (by kernel_rfl)) (fun _ _ _ h=>h) (Or.inr ⟨by rfl,rfl⟩) ?_ ?_;rotate_left
     ·simp only [Act.put,List.setIfInBounds_toArray,List.set_cons_zero,List.set_cons_succ,b7,bC]
      rfl
     refine wt 22 47 a6 ?_;refine wt 23 48 a6 ?_;refine dK (i:=24) (N:=some 49) (v:=undef) (a':=?_) #[true,true,true,true,true,true,true,true,true,true,true,true,true,true,true,true,true,true,true,true,true,true,true,true,true,false,false,false,false,false,false,false,false,false,false,false,false,false] rfl rfl (cV a6.out (by kernel_rfl)) (fun _ _ _ h=>h) (Or.inr ⟨by rfl,rfl⟩) ?_ ?_;rotate_left
     ·simp only [Act.put,List.setIfInBounds_toArray,List.set_cons_zero,List.set_cons_succ,b7,bC]
      rfl
     refine dK (i:=25) (N:=some 50) (v:=undef) (a':=?_) #[true,true,true,true,true,true,true,true,true,true,true,true,true,true,true,true,true,true,true,true,true,true,true,true,true,true,false,false,false,false,false,false,false,false,false,false,false,false] rfl rfl (cV a6.out (by kernel_rfl)) (fun _ _ _ h=>h) (Or.inr ⟨by rfl,rfl⟩) ?_ ?_;rotate_left
     ·simp only [Act.put,List.setIfInBounds_toArray,List.set_cons_zero,List.set_cons_succ,b7,bC]
      rfl
     refine dK (i:=26) (N:=some 51) (v:=undef) (a':=?_) #[true,true,true,true,true,true,true,true,true,true,true,true,true,true,true,true,true,true,true,true,true,true,true,true,true,true,true,false,false,false,false,false,false,false,false,false,false,false] rfl rfl (cV a6.out (by kernel_rfl)) (fun _ _ _ h=>h) (Or.inr ⟨by rfl,rfl⟩) ?_ ?_;rotate_left
     ·simp only [Act.put,List.setIfInBounds_toArray,List.set_cons_zero,List.set_cons_succ,b7,bC]
      rfl
     refine dK (i:=27) (N:=some 52) (v:=undef) (a':=?_) #[true,true,true,true,true,true,true,true,true,true,true,true,true,true,true,true,true,true,true,true,true,true,true,true,true,true,true,true,false,false,false,false,false,false,false,false,false,false] rfl rfl (cV a6.out (by kernel_rfl)) (fun _ _ _ h=>h) (Or.inr ⟨by rfl,rfl⟩) ?_ ?_;rotate_left
     ·simp only [Act.put,List.setIfInBounds_toArray,List.set_cons_zero,List.set_cons_succ,b7,bC]
      rfl
     refine dK (i:=28) (N:=some 53) (v:=undef) (a':=?_) #[true,true,true,true,true,true,true,true,true,true,true,true,true,true,true,true,true,true,true,true,true,true,true,true,true,true,true,true,true,false,false,false,false,false,false,false,false,false] rfl rfl (cV a6.out (by kernel_rfl)) (fun _ _ _ h=>h) (Or.inr ⟨by rfl,rfl⟩) ?_ ?_;rotate_left
     ·simp only [Act.put,List.setIfInBounds_toArray,List.set_cons_zero,List.set_cons_succ,b7,bC]
      rfl
     refine wt 29 54 a6 ?_;refine wt 30 55 a6 ?_;refine dK (i:=31) (N:=some 56) (v:=undef) (a':=?_) #[true,true,true,true,true,true,true,true,true,true,true,true,true,true,true,true,true,true,true,true,true,true,true,true,true,true,true,true,true,true,true,true,false,false,false,false,false,false] rfl rfl (cV a6.out (by kernel_rfl)) (fun _ _ _ h=>h) (Or.inr ⟨by rfl,rfl⟩) ?_ ?_;rotate_left
     ·simp only [Act.put,List.setIfInBounds_toArray,List.set_cons_zero,List.set_cons_succ,b7,bC]
      rfl
     refine dK (i:=32) (N:=some 57) (v:=undef) (a':=?_) #[true,true,true,true,true,true,true,true,true,true,true,true,true,true,true,true,true,true,true,true,true,true,true,true,true,true,true,true,true,true,true,true,true,false,false,false,false,false] rfl rfl (cV a6.out (by kernel_rfl)) (fun _ _ _ h=>h) (Or.inr ⟨by rfl,rfl⟩) ?_ ?_;rotate_left
     ·simp only [Act.put,List.setIfInBounds_toArray,List.set_cons_zero,List.set_cons_succ,b7,bC]
      rfl
     refine dK (i:=33) (N:=some 58) (v:=undef) (a':=?_) #[true,true,true,true,true,true,true,true,true,true,true,true,true,true,true,true,true,true,true,true,true,true,true,true,true,true,true,true,true,true,true,true,true,true,false,false,false,false] rfl rfl (cV a6.out (by kernel_rfl)) (fun _ _ _ h=>h) (Or.inr ⟨by rfl,rfl⟩) ?_ ?_;rotate_left
     ·simp only [Act.put,List.setIfInBounds_toArray,List.set_cons_zero,List.set_cons_succ,b7,bC]
      rfl
     refine dK (i:=34) (N:=some 59) (v:=undef) (a':=?_) #[true,true,true,true,true,true,true,true,true,true,true,true,true,true,true,true,true,true,true,true,true,true,true,true,true,true,true,true,true,true,true,true,true,true,true,false,false,false] rfl rfl (cV a6.out (by kernel_rfl)) (fun _ _ _ h=>h) (Or.inr ⟨by rfl,rfl⟩) ?_ ?_;rotate_left
     ·simp only [Act.put,List.setIfInBounds_toArray,List.set_cons_zero,List.set_cons_succ,b7,bC]
      rfl
     refine dK (i:=35) (N:=some 60) (v:=undef) (a':=?_) #[true,true,true,true,true,true,true,true,true,true,true,true,true,true,true,true,true,true,true,true,true,true,true,true,true,true,true,true,true,true,true,true,true,true,true,true,false,false] rfl rfl (cV a6.out (by kernel_rfl)) (fun _ _ _ h=>h) (Or.inr ⟨by rfl,rfl⟩) ?_ ?_;rotate_left
     ·simp only [Act.put,List.setIfInBounds_toArray,List.set_cons_zero,List.set_cons_succ,b7,bC]
      rfl
     refine dK (i:=36) (N:=some 61) (v:=undef) (a':=?_) #[true,true,true,true,true,true,true,true,true,true,true,true,true,true,true,true,true,true,true,true,true,true,true,true,true,true,true,true,true,true,true,true,true,true,true,true,true,false] rfl rfl (cV a6.out (by kernel_rfl)) (fun _ _ _ h=>h) (Or.inr ⟨by rfl,rfl⟩) ?_ ?_;rotate_left
     ·simp only [Act.put,List.setIfInBounds_toArray,List.set_cons_zero,List.set_cons_succ,b7,bC]
      rfl
     refine wt 37 62 a6 ?_;refine fP (e9 a6.out (by kernel_rfl)) ?_;(try go_wp2);go_meet
     case rel=>exact ⟨_,(true),ww,H',⟨by first | omega | exact Nat.le_refl _⟩,⟨AG (Kd.jf a4.out (fun _ hk=>⟨hk.2,⟨hk.1.1.1.2,⟨hk.1.1.2,hk.1.2⟩⟩⟩))⟩,⟨ac (Kd.aQ a5.out (fun _ hk=>⟨hk.1.1.2,⟨hk.1.2,hk.2⟩⟩))⟩,⟨ac (Kd.aQ X.out (fun _ hk=>⟨hk.2,⟨hk.1.1.2,hk.1.2⟩⟩))⟩,⟨ac (Kd.aQ Y.out (fun _ hk=>⟨hk.2,⟨hk.1.1.2,hk.1.2⟩⟩))⟩,⟨ac (Kd.aQ a1.out (fun _ hk=>⟨hk.2,⟨hk.1.1.2,hk.1.2⟩⟩))⟩,⟨xf j.out⟩,⟨xf y.out⟩,⟨xf z.out⟩,⟨wy⟩⟩
   ·rw [if_neg e3] at H
    have dl:(ca == cb) = false:=beq_eq_false_iff_ne.mpr e3;have f9:(ca != cb) = true:=bne_iff_ne.mpr e3;(first | rw [dl] | (simp only [b7,bC];rw [dl]) | skip);have H':=ae.mk H;clear H;(try go_wp2);replace X:=ae.mk (Kd.bY X.out);replace Y:=ae.mk (Kd.bY Y.out);replace a4:=ae.mk (Kd.iH a4.out);replace a1:=ae.mk (Kd.bY a1.out);replace a5:=ae.mk (Kd.bY a5.out);replace j:=ae.mk (cM j.out);replace y:=ae.mk (cM y.out);replace z:=ae.mk (cM z.out);replace HB:=ae.mk (bP HB.out);refine eT (n:=38) (S:=fun w'=>w'.cell? ⟨b3,0,none⟩ = some (.int .i64 am)∧w'.cell? ⟨b3,1,none⟩ = some (.slice aw a8.length aB)) (ds:=[]) #[false,false,false,false,false,false,false,false,false,false,false,false,false,false,false,false,false,false,false,false,false,false,false,false,false,false,false,false,false,false,false,false,false,false,false,false,false,false] (by kernel_rfl) rfl rfl ⟨(ah j.out 0).trans rfl,(ah j.out 1).trans rfl⟩ (fun hHeld=>?_);refine da ay.o9 ay.kL (fun a6 d5=>?_);generalize f6.drew = py at X Y a4 a1 a5 j y z HB hHeld ⊢;refine wt 1 26 a6 ?_;refine wt 4 29 a6 ?_;refine AF 0 25 a6 d5 hHeld ?_;refine AF 3 28 a6 d5 hHeld ?_;refine fe (i:=2) (N:=some 27) #[true,true,true,true,true,false,false,false,false,false,false,false,false,false,false,false,false,false,false,false,false,false,false,false,false,false,false,false,false,false,false,false,false,false,false,false,false,false] rfl rfl (cH a6.out (by kernel_rfl)) (by decide) (fun K hK=>?_);refine eK Tryz.func29 (by kernel_rfl) rfl #[.agg #[.int .i64 am,.slice aw a8.length aB],.int .i64 b2] (by rfl) rfl rfl (by (try simp only [List.map_toArray,List.map_cons,List.map_nil]);first | done | rfl) ?_;with_reducible refine (aH.calls k am _ _ a8 b2 ca _ ?side1 ?side2 f7.out).mono ?_
    (case side1=>exact yi ((Kd.az X.out).2.2));(case side2=>exact (Kd.az X.out).2.1);rintro e q0 ⟨rfl,hb⟩
    refine ⟨_,rfl,?_⟩;replace X:=z2 X hb;replace Y:=z2 Y hb;replace a4:=ae.mk (Kd.eM (AG a4.out) hb);replace a1:=z2 a1 hb;replace a5:=z2 a5 hb;replace j:=xc j hb;replace y:=xc y hb;replace z:=xc z hb;replace HB:=ae.mk (aq wy hb);(try clear hb);(try clear bs);(try clear hk);(try clear hi);refine hK.out _ _ ⟨(ah j.out 0).trans rfl,(ah j.out 1).trans rfl⟩ (fun hHeld=>?_);clear hK K;refine dN (a':=?_) ?_ ?_;rotate_left
    ·show Act.put _ (some 27) _ = _
     simp only [Act.put,List.setIfInBounds_toArray,List.set_cons_zero,List.set_cons_succ,b7,bC];rfl
    refine fe (i:=5) (N:=some 30) #[true,true,true,true,true,true,false,false,false,false,false,false,false,false,false,false,false,false,false,false,false,false,false,false,false,false,false,false,false,false,false,false,false,false,false,false,false,false] rfl rfl (cH a6.out (by kernel_rfl)) (by decide) (fun K hK=>?_);refine eK Tryz.func30 (by kernel_rfl) rfl #[.agg #[.int .i64 am,.slice aw a8.length aB],.int .i64 b2] (by rfl) rfl rfl (by (try simp only [List.map_toArray,List.map_cons,List.map_nil]);first | done | rfl) ?_;with_reducible refine (au.calls k am _ _ a8 b2 cb _ ?side1 ?side2 f8.out).mono ?_
    (case side1=>exact yi ((Kd.az X.out).2.2));(case side2=>exact (Kd.az X.out).2.1);rintro e q1 ⟨rfl,hb⟩
    refine ⟨_,rfl,?_⟩;replace X:=z2 X hb;replace Y:=z2 Y hb;replace a4:=ae.mk (Kd.eM (AG a4.out) hb);replace a1:=z2 a1 hb;replace a5:=z2 a5 hb;replace j:=xc j hb;replace y:=xc y hb;replace z:=xc z hb;replace HB:=ae.mk (aq wy hb);(try clear hb);(try clear bs);(try clear hk);(try clear hi);refine hK.out _ _ ⟨(ah j.out 0).trans rfl,(ah j.out 1).trans rfl⟩ (fun hHeld=>?_);clear hK K;refine dN (a':=?_) ?_ ?_;rotate_left
    ·show Act.put _ (some 30) _ = _
     simp only [Act.put,List.setIfInBounds_toArray,List.set_cons_zero,List.set_cons_succ,b7,bC];rfl
    refine wt 6 31 a6 ?_;refine wt 7 32 a6 ?_;refine dK (i:=8) (N:=some 33) (v:=undef) (a':=?_) #[true,true,true,true,true,true,true,true,true,false,false,false,false,false,false,false,false,false,false,false,false,false,false,false,false,false,false,false,false,false,false,false,false,false,false,false,false,false] rfl rfl (cV a6.out (by kernel_rfl)) (fun _ _ _ h=>h) (Or.inr ⟨by rfl,rfl⟩) ?_ ?_;rotate_left
    ·simp only [Act.put,List.setIfInBounds_toArray,List.set_cons_zero,List.set_cons_succ,b7,bC]
     rfl
    refine dK (i:=9) (N:=some 34) (v:=undef) (a':=?_) #[true,true,true,true,true,true,true,true,true,true,false,false,false,false,false,false,false,false,false,false,false,false,false,false,false,false,false,false,false,false,false,false,false,false,false,false,false,false] rfl rfl (cV a6.out (by kernel_rfl)) (fun _ _ _ h=>h) (Or.inr ⟨by rfl,rfl⟩) ?_ ?_;rotate_left
    ·simp only [Act.put,List.setIfInBounds_toArray,List.set_cons_zero,List.set_cons_succ,b7,bC]
     rfl
    refine dK (i:=10) (N:=some 35) (v:=undef) (a':=?_) #[true,true,true,true,true,true,true,true,true,true,true,false,false,false,false,false,false,false,false,false,false,false,false,false,false,false,false,false,false,false,false,false,false,false,false,false,false,false] rfl rfl (cV a6.out (by kernel_rfl)) (fun _ _ _ h=>h) (Or.inr ⟨by rfl,rfl⟩) ?_ ?_;rotate_left
    ·simp only [Act.put,List.setIfInBounds_toArray,List.set_cons_zero,List.set_cons_succ,b7,bC]
     rfl
    refine dK (i:=11) (N:=some 36) (v:=undef) (a':=?_) #[true,true,true,true,true,true,true,true,true,true,true,true,false,false,false,false,false,false,false,false,false,false,false,false,false,false,false,false,false,false,false,false,false,false,false,false,false,false] rfl rfl (cV a6.out (by kernel_rfl)) (fun _ _ _ h=>h) (Or.inr ⟨by rfl,rfl⟩) ?_ ?_;rotate_left
    ·simp only [Act.put,List.setIfInBounds_toArray,List.set_cons_zero,List.set_cons_succ,b7,bC]
     rfl
    refine dK (i:=12) (N:=some 37) (v:=undef) (a':=?_) #[true,true,true,true,true,true,true,true,true,true,true,true,true,false,false,false,false,false,false,false,false,false,false,false,false,false,false,false,false,false,false,false,false,false,false,false,false,false] rfl rfl (cV a6.out (by kernel_rfl)) (fun _ _ _ h=>h) (Or.inr ⟨by rfl,rfl⟩) ?_ ?_;rotate_left
    ·simp only [Act.put,List.setIfInBounds_toArray,List.set_cons_zero,List.set_cons_succ,b7,bC]
     rfl
    refine dK (i:=13) (N:=some 38) (v:=undef) (a':=?_) #[true,true,true,true,true,true,true,true,true,true,true,true,true,true,false,false,false,false,false,false,false,false,false,false,false,false,false,false,false,false,false,false,false,false,false,false,false,false] rfl rfl (cV a6.out (by kernel_rfl)) (fun _ _ _ h=>h) (Or.inr ⟨by rfl,rfl⟩) ?_ ?_;rotate_left
    ·simp only [Act.put,List.setIfInBounds_toArray,List.set_cons_zero,List.set_cons_succ,b7,bC]
     rfl
    refine dK (i:=14) (N:=some 39) (v:=undef) (a':=?_) #[true,true,true,true,true,true,true,true,true,true,true,true,true,true,true,false,false,false,false,false,false,false,false,false,false,false,false,false,false,false,false,false,false,false,false,false,false,false] rfl rfl (cV a6.out (by kernel_rfl)) (fun _ _ _ h=>h) (Or.inr ⟨by rfl,rfl⟩) ?_ ?_;rotate_left
    ·simp only [Act.put,List.setIfInBounds_toArray,List.set_cons_zero,List.set_cons_succ,b7,bC]
     rfl
    refine wt 15 40 a6 ?_;refine wt 16 41 a6 ?_;refine dK (i:=17) (N:=some 42) (v:=undef) (a':=?_) #[true,true,true,true,true,true,true,true,true,true,true,true,true,true,true,true,true,true,false,false,false,false,false,false,false,false,false,false,false,false,false,false,false,false,false,false,false,false] rfl rfl (cV a6.out (by kernel_rfl)) (fun _ _ _ h=>h) (Or.inr ⟨by rfl,rfl⟩) ?_ ?_;rotate_left
    ·simp only [Act.put,List.setIfInBounds_toArray,List.set_cons_zero,List.set_cons_succ,b7,bC]
     rfl
    refine dK (i:=18) (N:=some 43) (v:=undef) (a':=?_) #[true,true,true,true,true,true,true,true,true,true,true,true,true,true,true,true,true,true,true,false,false,false,false,false,false,false,false,false,false,false,false,false,false,false,false,false,false,false] rfl rfl (cV a6.out (by kernel_rfl)) (fun _ _ _ h=>h) (Or.inr ⟨by rfl,rfl⟩) ?_ ?_;rotate_left
    ·simp only [Act.put,List.setIfInBounds_toArray,List.set_cons_zero,List.set_cons_succ,b7,bC]
     rfl
    refine dK (i:=19) (N:=some 44) (v:=undef) (a':=?_) #[true,true,true,true,true,true,true,true,true,true,true,true,true,true,true,true,true,true,true,true,false,false,false,false,false,false,false,false,false,false,false,false,false,false,false,false,false,false] rfl rfl (cV a6.out (by kernel_rfl)) (fun _ _ _ h=>h) (Or.inr ⟨by rfl,rfl⟩) ?_ ?_;rotate_left
    ·simp only [Act.put,List.setIfInBounds_toArray,List.set_cons_zero,List.set_cons_succ,b7,bC]
     rfl
    refine dK (i:=20) (N:=some 45) (v:=undef) (a':=?_) #[true,true,true,true,true,true,true,true,true,true,true,true,true,true,true,true,true,true,true,true,true,false,false,false,false,false,false,false,false,false,false,false,false,false,false,false,false,false] rfl rfl (cV a6.out (by kernel_rfl)) (fun _ _ _ h=>h) (Or.inr ⟨by rfl,rfl⟩) ?_ ?_;rotate_left
    ·simp only [Act.put,List.setIfInBounds_toArray,List.set_cons_zero,List.set_cons_succ,b7,bC]
     rfl
    refine dK (i:=21) (N:=some 46) (v:=undef) (a':=?_) #[true,true,true,true,true,true,true,true,true,true,true,true,true,true,true,true,true,true,true,true,true,true,false,false,false,false,false,false,false,false,false,false,false,false,false,false,false,false] rfl rfl (cV a6.out (by kernel_rfl)) (fun _ _ _ h=>h) (Or.inr ⟨by rfl,rfl⟩) ?_ ?_;rotate_left
    ·simp only [Act.put,List.setIfInBounds_toArray,List.set_cons_zero,List.set_cons_succ,b7,bC]
     rfl
    refine wt 22 47 a6 ?_;refine wt 23 48 a6 ?_;refine dK (i:=24) (N:=some 49) (v:=undef) (a':=?_) #[true,true,true,true,true,true,true,true,true,true,true,true,true,true,true,true,true,true,true,true,true,true,true,true,true,false,false,false,false,false,false,false,false,false,false,false,false,false] rfl rfl (cV a6.out (by kernel_rfl)) (fun _ _ _ h=>h) (Or.inr ⟨by rfl,rfl⟩) ?_ ?_;rotate_left
    ·simp only [Act.put,List.setIfInBounds_toArray,List.set_cons_zero,List.set_cons_succ,b7,bC]
     rfl
    refine dK (i:=25) (N:=some 50) (v:=undef) (a':=?_) #[true,true,true,true,true,true,true,true,true,true,true,true,true,true,true,true,true,true,true,true,true,true,true,true,true,true,false,false,false,false,false,false,false,false,false,false,false,false] rfl rfl (cV a6.out (by kernel_rfl)) (fun _ _ _ h=>h) (Or.inr ⟨by rfl,rfl⟩) ?_ ?_;rotate_left
    ·simp only [Act.put,List.setIfInBounds_toArray,List.set_cons_zero,List.set_cons_succ,b7,bC]
     rfl
    refine dK (i:=26) (N:=some 51) (v:=undef) (a':=?_) #[true,true,true,true,true,true,true,true,true,true,true,true,true,true,true,true,true,true,true,true,true,true,true,true,true,true,true,false,false,false,false,false,false,false,false,false,false,false] rfl rfl (cV a6.out (by kernel_rfl)) (fun _ _ _ h=>h) (Or.inr ⟨by rfl,rfl⟩) ?_ ?_;rotate_left
    ·simp only [Act.put,List.setIfInBounds_toArray,List.set_cons_zero,List.set_cons_succ,b7,bC]
     rfl
    refine dK (i:=27) (N:=some 52) (v:=undef) (a':=?_) #[true,true,true,true,true,true,true,true,true,true,true,true,true,true,true,true,true,true,true,true,true,true,true,true,true,true,true,true,false,false,false,false,false,false,false,false,false,false] rfl rfl (cV a6.out (by kernel_rfl)) (fun _ _ _ h=>h) (Or.inr ⟨by rfl,rfl⟩) ?_ ?_;rotate_left
    ·simp only [Act.put,List.setIfInBounds_toArray,List.set_cons_zero,List.set_cons_succ,b7,bC]
     rfl
    refine dK (i:=28) (N:=some 53) (v:=undef) (a':=?_) #[true,true,true,true,true,true,true,true,true,true,true,true,true,true,true,true,true,true,true,true,true,true,true,true,true,true,true,true,true,false,false,false,false,false,false,false,false,false] rfl rfl (cV a6.out (by kernel_rfl)) (fun _ _ _ h=>h) (Or.inr ⟨by rfl,rfl⟩) ?_ ?_;rotate_left
    ·simp only [Act.put,List.setIfInBounds_toArray,List.set_cons_zero,List.set_cons_succ,b7,bC]
     rfl
    refine wt 29 54 a6 ?_;refine wt 30 55 a6 ?_;refine dK (i:=31) (N:=some 56) (v:=undef) (a':=?_) #[true,true,true,true,true,true,true,true,true,true,true,true,true,true,true,true,true,true,true,true,true,true,true,true,true,true,true,true,true,true,true,true,false,false,false,false,false,false] rfl rfl (cV a6.out (by kernel_rfl)) (fun _ _ _ h=>h) (Or.inr ⟨by rfl,rfl⟩) ?_ ?_;rotate_left
    ·simp only [Act.put,List.setIfInBounds_toArray,List.set_cons_zero,List.set_cons_succ,b7,bC]
     rfl
    refine dK (i:=32) (N:=some 57) (v:=undef) (a':=?_) #[true,true,true,true,true,true,true,true,true,true,true,true,true,true,true,true,true,true,true,true,true,true,true,true,true,true,true,true,true,true,true,true,true,false,false,false,false,false] rfl rfl (cV a6.out (by kernel_rfl)) (fun _ _ _ h=>h) (Or.inr ⟨by rfl,rfl⟩) ?_ ?_;rotate_left
    ·simp only [Act.put,List.setIfInBounds_toArray,List.set_cons_zero,List.set_cons_succ,b7,bC]
     rfl
    refine dK (i:=33) (N:=some 58) (v:=undef) (a':=?_) #[true,true,true,true,true,true,true,true,true,true,true,true,true,true,true,true,true,true,true,true,true,true,true,true,true,true,true,true,true,true,true,true,true,true,false,false,false,false] rfl rfl (cV a6.out (by kernel_rfl)) (fun _ _ _ h=>h) (Or.inr ⟨by rfl,rfl⟩) ?_ ?_;rotate_left
    ·simp only [Act.put,List.setIfInBounds_toArray,List.set_cons_zero,List.set_cons_succ,b7,bC]
     rfl
    refine dK (i:=34) (N:=some 59) (v:=undef) (a':=?_) #[true,true,true,true,true,true,true,true,true,true,true,true,true,true,true,true,true,true,true,true,true,true,true,true,true,true,true,true,true,true,true,true,true,true,true,false,false,false] rfl rfl (cV a6.out (by kernel_rfl)) (fun _ _ _ h=>h) (Or.inr ⟨by rfl,rfl⟩) ?_ ?_;rotate_left
    ·simp only [Act.put,List.setIfInBounds_toArray,List.set_cons_zero,List.set_cons_succ,b7,bC]
     rfl
    refine dK (i:=35) (N:=some 60) (v:=undef) (a':=?_) #[true,true,true,true,true,true,true,true,true,true,true,true,true,true,true,true,true,true,true,true,true,true,true,true,true,true,true,true,true,true,true,true,true,true,true,true,false,false] rfl rfl (cV a6.out (by kernel_rfl)) (fun _ _ _ h=>h) (Or.inr ⟨by rfl,rfl⟩) ?_ ?_;rotate_left
    ·simp only [Act.put,List.setIfInBounds_toArray,List.set_cons_zero,List.set_cons_succ,b7,bC]
     rfl
    refine dK (i:=36) (N:=some 61) (v:=undef) (a':=?_) #[true,true,true,true,true,true,true,true,true,true,true,true,true,true,true,true,true,true,true,true,true,true,true,true,true,true,true,true,true,true,true,true,true,true,true,true,true,false] rfl rfl (cV a6.out (by kernel_rfl)) (fun _ _ _ h=>h) (Or.inr ⟨by rfl,rfl⟩) ?_ ?_;rotate_left
    ·simp only [Act.put,List.setIfInBounds_toArray,List.set_cons_zero,List.set_cons_succ,b7,bC]
     rfl
    refine wt 37 62 a6 ?_;refine fP (e9 a6.out (by kernel_rfl)) ?_;(try go_wp2);go_meet
    case rel=>exact ⟨_,(true),ww,H',⟨by first | omega | exact Nat.le_refl _⟩,⟨AG (Kd.jf a4.out (fun _ hk=>⟨hk.2,⟨hk.1.1.1.2,⟨hk.1.1.2,hk.1.2⟩⟩⟩))⟩,⟨ac (Kd.aQ a5.out (fun _ hk=>⟨hk.1.1.2,⟨hk.1.2,hk.2⟩⟩))⟩,⟨ac (Kd.aQ X.out (fun _ hk=>⟨hk.2,⟨hk.1.1.2,hk.1.2⟩⟩))⟩,⟨ac (Kd.aQ Y.out (fun _ hk=>⟨hk.2,⟨hk.1.1.2,hk.1.2⟩⟩))⟩,⟨ac (Kd.aQ a1.out (fun _ hk=>⟨hk.2,⟨hk.1.1.2,hk.1.2⟩⟩))⟩,⟨xf j.out⟩,⟨xf y.out⟩,⟨xf z.out⟩,⟨wy⟩⟩
  case rest =>
   clear f4;obtain ⟨kq,dC,rfl,HA,el,d6,b0,a7,a2,a0,j,y,z,HB⟩:=hcut;cases kq with
   | zero=>exact absurd HA.out (by simp [ay.j0])
   | succ d8 =>
    have H:=HA.out;clear HA;simp only [ay.j0] at H;by_cases em:dC = true
    ·subst em
     replace H:(some false) = some r:=by rw [if_pos rfl] at H;exact H
     obtain rfl:=Option.some.inj H;exact absurd hT.out (by decide)
    ·replace em:=Bool.eq_false_iff.mpr em
     subst em;replace H:((aY.f d8 ar aa).bind fun e5=>(if e5 = true then ((bN.f d8 ar aa).bind fun d9=>((cv.f d8 b4 d9).bind fun db=>(ay.j1 d8 ab (!db) a9 a3))) else (ay.j1 d8 ab false a9 a3))) = some r:=by rw [if_neg (show ¬ (false = true) by decide)] at H;exact H
     have ef:=ae.mk H;clear H;go_upto_region 10 with (fail)
     go_cut [71] (fun lN wc=>∃ (kq:Nat) (dd:Bool),lN = .bool dd∧ae (ay.j1 kq ab dd a9 a3 = some r)∧ae (kq≤d8)∧ae (Kd.R (Kd.int .i64) 3 wc w.heap.size (fun k_=>some k_≠((.slice aw a8.length aB):Value).ownBlock∧some k_≠((.slice aS aa.length aP):Value).ownBlock∧some k_≠((.slice aL a3.length aF):Value).ownBlock) bo ab)∧ae (Kd.R (Kd.int .i64) 3 wc w.heap.size (fun k_=>some k_≠(bo:Value).ownBlock∧some k_≠((.slice aS aa.length aP):Value).ownBlock∧some k_≠((.slice aL a3.length aF):Value).ownBlock) (.slice aw a8.length aB) a8)∧ae (Kd.R (Kd.int .i64) 3 wc w.heap.size (fun k_=>some k_≠(bo:Value).ownBlock∧some k_≠((.slice aw a8.length aB):Value).ownBlock∧some k_≠((.slice aL a3.length aF):Value).ownBlock) (.slice aS aa.length aP) aa)∧ae (Kd.R (Kd.int .i64) 3 wc w.heap.size (fun k_=>some k_≠(bo:Value).ownBlock∧some k_≠((.slice aw a8.length aB):Value).ownBlock∧some k_≠((.slice aS aa.length aP):Value).ownBlock) (.slice aL a3.length aF) a3)∧ae (wc.heap[b3]? = some (.cells #[.int .i64 am,(.slice aw a8.length aB)] 37 (0,0)))∧ae (wc.heap[aR]? = some (.cells #[.int .i64 ar,(.slice aS aa.length aP)] 37 (0,0)))∧ae (wc.heap[ap]? = some (.cells #[.int .i64 a9,(.slice aL a3.length aF)] 37 (0,0)))∧ae (Below w.heap.size w wc))
     case first =>
      have H:=ef.out;clear ef;obtain ⟨e5,i3,H⟩:=xa H;(try dsimp only at H);by_cases eo:e5 = true
      ·subst eo
       replace H:((bN.f d8 ar aa).bind fun d9=>((cv.f d8 b4 d9).bind fun db=>(ay.j1 d8 ab (!db) a9 a3))) = some r:=by rw [if_pos rfl] at H;exact H
       obtain ⟨d9,m1,H⟩:=xa H;(try dsimp only at H);obtain ⟨db,m2,H⟩:=xa H;(try dsimp only at H);have H':=ae.mk H;clear H;have m5:=cq.out;have ma:=cp.out;have mf:=bi.out;have mi:=bm.out;obtain ⟨i4,i5,i6,i7⟩:=xv y.out;go_wp2_with (first | ((with_reducible refine aD (f:=39) rfl ?_);refine ws (some 64) Tryz.func39 #[.agg #[.int .i64 ar,.slice aS aa.length aP]] ?_;(with_reducible refine (aY.calls d8 ar _ _ aa true _ ?side1 ?side2 i3.out).mono ?_);(case side1=>exact yi ((Kd.az a2.out).2.2));(case side2=>exact (Kd.az a2.out).2.1);rintro e q2 ⟨rfl,hb⟩;refine ⟨_,rfl,?_⟩;replace d6:=ae.mk (Kd.eM (AG d6.out) hb);replace b0:=z2 b0 hb;replace a7:=z2 a7 hb;replace a2:=z2 a2 hb;replace a0:=z2 a0 hb;replace j:=xc j hb;replace y:=xc y hb;replace z:=xc z hb;replace HB:=ae.mk (aq wy hb);(try clear hb);(try clear bs);(try clear hk);(try clear hi);obtain ⟨i8,i9,ib,ih⟩:=xv y.out) | (go_at_call 40;(with_reducible refine (bN.calls d8 ar _ _ aa d9 _ ?side1 ?side2 m1.out).mono ?_);(case side1=>exact yi ((Kd.az a2.out).2.2));(case side2=>exact (Kd.az a2.out).2.1);rintro e q3 ⟨ml,rfl,ao,hb⟩;have dT:=ae.mk (Kd.j3 (Kd.ir (Kd.ir (Kd.ir (Kd.ir (Kd.ir ao (Kd.zb (AG d6.out))) (Kd.ek (ac b0.out))) (Kd.ek (ac a7.out))) (Kd.ek (ac a2.out))) (Kd.ek (ac a0.out))) (ak wy));replace d6:=ae.mk (Kd.fV (AG d6.out) (Kd.uL ao) hb);replace b0:=z2 b0 hb;replace a7:=z2 a7 hb;replace a2:=z2 a2 hb;replace a0:=z2 a0 hb;replace j:=xc j hb;replace y:=xc y hb;replace z:=xc z hb;replace HB:=ae.mk (aq wy hb);(try clear hb);(try clear bs);(try clear hk);(try clear hi);(try clear ao);obtain ⟨ns,nz,ii⟩:=Kd.ji d6.out;subst ii;obtain ⟨o0,o1,il⟩:=Kd.ji dT.out;subst il) | (go_at_call 33;(with_reducible refine (cv.calls d8 _ _ b4 _ _ d9 db _ ?side1 ?side2 ?side3 ?side4 m2.out).mono ?_);(case side1=>exact yi ((Kd.ez d6.out).2.2));(case side2=>exact (Kd.ez d6.out).2.1);(case side3=>exact yi ((Kd.ez dT.out).2.2));(case side4=>exact (Kd.ez dT.out).2.1);rintro e w' ⟨rfl,⟨nd,rfl⟩⟩));go_meet
       case rel=>exact ⟨_,(!db),ww,H',⟨by have:=el.out;first | omega | exact Nat.le_refl _⟩,⟨ac b0.out⟩,⟨ac a7.out⟩,⟨ac a2.out⟩,⟨ac a0.out⟩,⟨xf j.out⟩,⟨xf y.out⟩,⟨xf z.out⟩,⟨wy⟩⟩
      ·replace eo:=Bool.eq_false_iff.mpr eo
       subst eo;replace H:(ay.j1 d8 ab false a9 a3) = some r:=by rw [if_neg (show ¬ (false = true) by decide)] at H;exact H
       have H':=ae.mk H;clear H;have mn:=cq.out;have mr:=cp.out;have ms:=bi.out;have mv:=bm.out;obtain ⟨g2,g3,g4,g5⟩:=xv y.out;go_wp2_with (first | ((with_reducible refine aD (f:=39) rfl ?_);refine ws (some 64) Tryz.func39 #[.agg #[.int .i64 ar,.slice aS aa.length aP]] ?_;(with_reducible refine (aY.calls d8 ar _ _ aa false _ ?side1 ?side2 i3.out).mono ?_);(case side1=>exact yi ((Kd.az a2.out).2.2));(case side2=>exact (Kd.az a2.out).2.1);rintro e o2 ⟨rfl,hb⟩;refine ⟨_,rfl,?_⟩;replace d6:=ae.mk (Kd.eM (AG d6.out) hb);replace b0:=z2 b0 hb;replace a7:=z2 a7 hb;replace a2:=z2 a2 hb;replace a0:=z2 a0 hb;replace j:=xc j hb;replace y:=xc y hb;replace z:=xc z hb;replace HB:=ae.mk (aq wy hb);(try clear hb);(try clear bs);(try clear hk);(try clear hi)));go_meet
       case rel=>exact ⟨_,(false),ww,H',⟨by have:=el.out;first | omega | exact Nat.le_refl _⟩,⟨ac b0.out⟩,⟨ac a7.out⟩,⟨ac a2.out⟩,⟨ac a0.out⟩,⟨xf j.out⟩,⟨xf y.out⟩,⟨xf z.out⟩,⟨wy⟩⟩
     case rest =>
      clear ef;obtain ⟨kq,dd,rfl,HA,f0,b0,a7,a2,a0,j,y,z,HB⟩:=hcut;cases kq with
      | zero=>exact absurd HA.out (by simp [ay.j1])
      | succ eh =>
       have H:=HA.out;clear HA;simp only [ay.j1] at H;by_cases ea:dd = true
       ·subst ea
        replace H:(some false) = some r:=by rw [if_pos rfl] at H;exact H
        obtain rfl:=Option.some.inj H;exact absurd hT.out (by decide)
       ·replace ea:=Bool.eq_false_iff.mpr ea
        subst ea;replace H:(ay.l0 eh ab 0 a9 a3) = some r:=by rw [if_neg (show ¬ (false = true) by decide)] at H;exact H
        have H':=ae.mk H;clear H;go_wp2;go_loopg [9] eh (fun kq v9 w'=>∃ (d0:Int),v9 = .int .i64 d0∧ae (ay.l0 kq ab d0 a9 a3 = some r)∧ae (kq≤eh)∧ae (Kd.R (Kd.int .i64) 3 w' w.heap.size (fun k_=>some k_≠((.slice aw a8.length aB):Value).ownBlock∧some k_≠((.slice aS aa.length aP):Value).ownBlock∧some k_≠((.slice aL a3.length aF):Value).ownBlock) bo ab)∧ae (Kd.R (Kd.int .i64) 3 w' w.heap.size (fun k_=>some k_≠(bo:Value).ownBlock∧some k_≠((.slice aS aa.length aP):Value).ownBlock∧some k_≠((.slice aL a3.length aF):Value).ownBlock) (.slice aw a8.length aB) a8)∧ae (Kd.R (Kd.int .i64) 3 w' w.heap.size (fun k_=>some k_≠(bo:Value).ownBlock∧some k_≠((.slice aw a8.length aB):Value).ownBlock∧some k_≠((.slice aL a3.length aF):Value).ownBlock) (.slice aS aa.length aP) aa)∧ae (Kd.R (Kd.int .i64) 3 w' w.heap.size (fun k_=>some k_≠(bo:Value).ownBlock∧some k_≠((.slice aw a8.length aB):Value).ownBlock∧some k_≠((.slice aS aa.length aP):Value).ownBlock) (.slice aL a3.length aF) a3)∧ae (w'.heap[b3]? = some (.cells #[.int .i64 am,(.slice aw a8.length aB)] 37 (0,0)))∧ae (w'.heap[aR]? = some (.cells #[.int .i64 ar,(.slice aS aa.length aP)] 37 (0,0)))∧ae (w'.heap[ap]? = some (.cells #[.int .i64 a9,(.slice aL a3.length aF)] 37 (0,0)))∧ae (Below w.heap.size w w'))
        case atStart=>exact ⟨(0),ww,H',⟨Nat.le_refl _⟩,⟨ac b0.out⟩,⟨ac a7.out⟩,⟨ac a2.out⟩,⟨ac a0.out⟩,⟨xf j.out⟩,⟨xf y.out⟩,⟨xf z.out⟩,⟨wy⟩⟩
        case round =>
         clear H';obtain ⟨d0,rfl,HA,im,b0,a7,a2,a0,j,y,z,HB⟩:=hrel;cases gk with
         | zero=>exact absurd HA.out (by simp [ay.l0])
         | succ k3 =>
          have H:=HA.out;clear HA;simp only [ay.l0] at H;by_cases du:d0 < (ab.length:Int)
          ·rw [if_pos du] at H
           have eq:=decide_eq_true du;clear du;obtain ⟨f1,H⟩:=xt H;have kc:=decide_eq_true f1;clear f1;obtain ⟨fj,io,H⟩:=xa H;(try dsimp only at H);by_cases eb:fj = true
           ·subst eb
            replace H:(ay.l0 k3 ab (wrap64 (d0+1)) a9 a3) = some r:=by rw [if_pos rfl] at H;exact H
            have H':=ae.mk H;clear H;obtain ⟨mx,n0,fp⟩:=Kd.bk b0.out;subst fp;(try go_wp2);replace b0:=ae.mk (Kd.bY b0.out);replace a7:=ae.mk (Kd.bY a7.out);replace a2:=ae.mk (Kd.bY a2.out);replace a0:=ae.mk (Kd.bY a0.out);replace j:=ae.mk (cM j.out);replace y:=ae.mk (cM y.out);replace z:=ae.mk (cM z.out);replace HB:=ae.mk (bP HB.out);obtain ⟨es,fs,dv,n1,n2⟩:=At (Kd.az b0.out).2.2 d0;cases fs
            refine eT (n:=7) (S:=fun w'=>w'.cell? ⟨ap,0,none⟩ = some (.int .i64 a9)∧w'.cell? ⟨ap,1,none⟩ = some (.slice aL a3.length aF)∧w'.cell? (es.add (d0).toNat) = some (.int .i64 (rd ab d0))) (ds:=[]) #[false,false,false,false,false,false,false] (by kernel_rfl) rfl rfl ⟨(ah z.out 0).trans rfl,(ah z.out 1).trans rfl,dv⟩ (fun hHeld=>?_);generalize wr.drew = ob at b0 a7 a2 a0 j y z HB dv hHeld ⊢;refine dK (i:=1) (N:=some 79) (v:=?_) (a':=?_) #[false,true,false,false,false,false,false] rfl rfl (by kernel_rfl) (fun _ _ _ h=>h) (Or.inl ⟨by rfl,?_⟩) ?_ ?_;rotate_left
            ·intro w'
             go_simp
             with_reducible rfl
            rotate_left
            ·simp only [Act.put,List.setIfInBounds_toArray,List.set_cons_zero,List.set_cons_succ,b7,bC]
             rfl
            refine dK (i:=2) (N:=some 80) (v:=?_) (a':=?_) #[false,true,true,false,false,false,false] rfl rfl (by kernel_rfl) (fun _ _ _ h=>h) (Or.inl ⟨by rfl,?_⟩) ?_ ?_;rotate_left
            ·intro w'
             go_simp
             with_reducible rfl
            rotate_left
            ·simp only [Act.put,List.setIfInBounds_toArray,List.set_cons_zero,List.set_cons_succ,b7,bC]
             rfl
            refine dK (i:=3) (N:=some 81) (v:=?_) (a':=?_) #[false,true,true,true,false,false,false] rfl rfl (by kernel_rfl) (fun _ _ _ h=>h) (Or.inl ⟨by rfl,?_⟩) ?_ ?_;rotate_left
            ·intro w'
             go_simp
             with_reducible rfl
            rotate_left
            ·simp only [Act.put,List.setIfInBounds_toArray,List.set_cons_zero,List.set_cons_succ,b7,bC]
             rfl
            refine m6 (i:=0) (N:=some 78) (v:=?_) (a':=?_) #[true,true,true,true,false,false,false] rfl rfl (by kernel_rfl) (fun _ _ _ h=>h) (Or.inl ⟨by rfl,?_⟩) hHeld ?_ ?_;rotate_left
            ·rintro w' ⟨s0,s1,s2⟩
             go_simp
             with_reducible rfl
            rotate_left
            ·simp only [Act.put,List.setIfInBounds_toArray,List.set_cons_zero,List.set_cons_succ,b7,bC]
             rfl
            refine m6 (i:=4) (N:=some 82) (v:=?_) (a':=?_) #[true,true,true,true,true,false,false] rfl rfl (by kernel_rfl) (fun _ _ _ h=>h) (Or.inl ⟨by rfl,?_⟩) hHeld ?_ ?_;rotate_left
            ·rintro w' ⟨s0,s1,s2⟩
             go_simp
             with_reducible rfl
            rotate_left
            ·simp only [Act.put,List.setIfInBounds_toArray,List.set_cons_zero,List.set_cons_succ,b7,bC]
             rfl
            refine fe (i:=5) (N:=some 83) #[true,true,true,true,true,true,false] rfl rfl (by kernel_rfl) (by decide) (fun K hK=>?_);refine eK Tryz.func41 (by kernel_rfl) rfl #[.agg #[.int .i64 a9,.slice aL a3.length aF],.int .i64 (rd ab d0)] (by rfl) rfl rfl (by (try simp only [List.map_toArray,List.map_cons,List.map_nil]);first | done | rfl) ?_;with_reducible refine (eg.calls k3 a9 _ _ a3 (rd ab d0) true _ ?side1 ?side2 io.out).mono ?_
            (case side1=>exact yi ((Kd.az a0.out).2.2));(case side2=>exact (Kd.az a0.out).2.1);rintro e oj ⟨rfl,hb⟩
            have it:=(hb.cell (World.block_lt_of_cell? _ _ (hHeld.2.2))).trans (hHeld.2.2);refine ⟨_,rfl,?_⟩;replace b0:=z2 b0 hb;replace a7:=z2 a7 hb;replace a2:=z2 a2 hb;replace a0:=z2 a0 hb;replace j:=xc j hb;replace y:=xc y hb;replace z:=xc z hb;replace HB:=ae.mk (aq wy hb);(try clear hb);(try clear bs);(try clear hk);(try clear hi);refine hK.out _ _ ⟨(ah z.out 0).trans rfl,(ah z.out 1).trans rfl,it⟩ (fun hHeld=>?_);clear hK K;refine dN (a':=?_) ?_ ?_;rotate_left
            ·show Act.put _ (some 83) _ = _
             simp only [Act.put,List.setIfInBounds_toArray,List.set_cons_zero,List.set_cons_succ,b7,bC];rfl
            refine dK (i:=6) (N:=some 84) (v:=?_) (a':=?_) #[true,true,true,true,true,true,true] rfl rfl (by kernel_rfl) (fun _ _ _ h=>h) (Or.inl ⟨by rfl,?_⟩) ?_ ?_;rotate_left
            ·intro w'
             go_simp
             with_reducible rfl
            rotate_left
            ·simp only [Act.put,List.setIfInBounds_toArray,List.set_cons_zero,List.set_cons_succ,b7,bC]
             rfl
            refine fP (by kernel_rfl) ?_;(try go_wp2);go_roundg k3;case measure=>have:=el.out;have:=f0.out;have:=im.out;omega
            case rel=>exact ⟨(wrap64 (d0+1)),ww,H',⟨by have:=el.out;have:=f0.out;have:=im.out;omega⟩,⟨ac b0.out⟩,⟨ac a7.out⟩,⟨ac a2.out⟩,⟨ac a0.out⟩,⟨xf j.out⟩,⟨xf y.out⟩,⟨xf z.out⟩,⟨wy⟩⟩
           ·replace eb:=Bool.eq_false_iff.mpr eb
            subst eb;replace H:(some false) = some r:=by rw [if_neg (show ¬ (false = true) by decide)] at H;exact H
            obtain rfl:=Option.some.inj H;exact absurd hT.out (by decide)
          ·rw [if_neg du] at H
           have eq:decide (d0 < (ab.length:Int)) = false:=decide_eq_false du;clear du;obtain ⟨ft,f2,H⟩:=xa H;(try dsimp only at H);by_cases ec:ft = true
           ·subst ec
            replace H:((bN.f k3 a9 a3).bind fun e0=>((bw.f k3 e0 2 0).bind fun e8=>(some ((ab.length:Int) == e8)))) = some r:=by rw [if_pos rfl] at H;exact H
            obtain ⟨e0,jp,H⟩:=xa H;(try dsimp only at H);obtain ⟨e8,k0,H⟩:=xa H;(try dsimp only at H);obtain rfl:=Option.some.inj H;obtain ⟨n3,n5,fw⟩:=Kd.bk b0.out;subst fw;have kd:=cy.out;have kh:=cx.out;have kl:=bm.out;have km:=bi.out;obtain ⟨g6,g7,g8,g9⟩:=xv z.out;go_wp2_with (first | ((with_reducible refine aD (f:=39) rfl ?_);refine ws (some 86) Tryz.func39 #[.agg #[.int .i64 a9,.slice aL a3.length aF]] ?_;(with_reducible refine (aY.calls k3 a9 _ _ a3 true _ ?side1 ?side2 f2.out).mono ?_);(case side1=>exact yi ((Kd.az a0.out).2.2));(case side2=>exact (Kd.az a0.out).2.1);rintro e ol ⟨rfl,hb⟩;refine ⟨_,rfl,?_⟩;replace b0:=z2 b0 hb;replace a7:=z2 a7 hb;replace a2:=z2 a2 hb;replace a0:=z2 a0 hb;replace j:=xc j hb;replace y:=xc y hb;replace z:=xc z hb;replace HB:=ae.mk (aq wy hb);(try clear hb);(try clear bs);(try clear hk);(try clear hi);obtain ⟨gb,gc,go,gs⟩:=xv z.out) | (go_at_call 40;(with_reducible refine (bN.calls k3 a9 _ _ a3 e0 _ ?side1 ?side2 jp.out).mono ?_);(case side1=>exact yi ((Kd.az a0.out).2.2));(case side2=>exact (Kd.az a0.out).2.1);rintro e on ⟨n6,rfl,ao,hb⟩;have e1:=ae.mk (Kd.j3 (Kd.ir (Kd.ir (Kd.ir (Kd.ir ao (Kd.ek (ac b0.out))) (Kd.ek (ac a7.out))) (Kd.ek (ac a2.out))) (Kd.ek (ac a0.out))) (ak wy));replace b0:=z2 b0 hb;replace a7:=z2 a7 hb;replace a2:=z2 a2 hb;replace a0:=z2 a0 hb;replace j:=xc j hb;replace y:=xc y hb;replace z:=xc z hb;replace HB:=ae.mk (aq wy hb);(try clear hb);(try clear bs);(try clear hk);(try clear hi);(try clear ao);obtain ⟨na,nb,g0⟩:=Kd.ji e1.out;subst g0) | (go_at_call 42;(with_reducible refine (bw.calls k3 _ _ e0 2 0 e8 _ ?side1 ?side2 k0.out).mono ?_);(case side1=>exact yi ((Kd.ez e1.out).2.2));(case side2=>exact (Kd.ez e1.out).2.1);rintro e w' ⟨rfl,⟨nd,rfl⟩⟩));go_ret;exact ⟨zd,wy⟩
           ·replace ec:=Bool.eq_false_iff.mpr ec
            subst ec;replace H:(some true) = some r:=by rw [if_neg (show ¬ (false = true) by decide)] at H;exact H
            obtain rfl:=Option.some.inj H;obtain ⟨ne,no,g1⟩:=Kd.bk b0.out;subst g1;have ks:=cy.out;have kt:=cx.out;have kv:=bm.out;have kw:=bi.out;obtain ⟨gt,h0,h6,h7⟩:=xv z.out;go_wp2_with (first | ((with_reducible refine aD (f:=39) rfl ?_);refine ws (some 86) Tryz.func39 #[.agg #[.int .i64 a9,.slice aL a3.length aF]] ?_;(with_reducible refine (aY.calls k3 a9 _ _ a3 false _ ?side1 ?side2 f2.out).mono ?_);(case side1=>exact yi ((Kd.az a0.out).2.2));(case side2=>exact (Kd.az a0.out).2.1);rintro e os ⟨rfl,hb⟩;refine ⟨_,rfl,?_⟩;replace b0:=z2 b0 hb;replace a7:=z2 a7 hb;replace a2:=z2 a2 hb;replace a0:=z2 a0 hb;replace j:=xc j hb;replace y:=xc y hb;replace z:=xc z hb;replace HB:=ae.mk (aq wy hb);(try clear hb);(try clear bs);(try clear hk);(try clear hi)));go_ret;exact ⟨zd,wy⟩
end Pr
end
section
namespace cX
open Go.RowKit ag.aZ ag.bT
theorem jL {i:Int} (h0:-9223372036854775808≤i) (h1:i≤9223372036854775807):wrap64 i = i:=by
 unfold wrap64;omega
theorem dO (i:Nat) (h1:i < 9223372036854775807):wrap64 ((i:Int)+1) = ((i+1:Nat):Int):=by
 unfold wrap64;omega
theorem gN (xs:List Int) (i:Nat):rd xs (i:Int) = xs.getD i 0:=rfl
theorem oc {α β:Type} (xs:List α) (d:α) (g:α→β):(List.range xs.length).map (fun i=>g (xs.getD i d)) = xs.map g:=by
 apply List.ext_getElem?
 intro j;by_cases hj:j < xs.length
 ·simp [hj,List.getD]
 ·simp [hj]
theorem pe {α:Type} (xs:List α) (d:α):(List.range xs.length).map (fun i=>xs.getD i d) = xs:=by
 have:=oc xs d id;simpa using this
theorem j7 (L:Nat→Int→Option Bool) (n:Nat) (p:Nat→Bool) (K:Nat) (last:Bool)
  (hstep:∀ k i,K≤k→i < n→L (k+1) (i:Int) = if p i = true then L k ((i+1:Nat):Int) else some false)
  (hend:∀ k,K≤k→L (k+1) (n:Int) = some last) :
  ∀ (d i k:Nat),i+d = n→K+d < k→L k (i:Int) = some ((List.range' i d).all p && last):=by
 intro d;induction d with
 | zero =>
  intro i k hi hk;obtain rfl:i = n:=by omega
  obtain ⟨k,rfl⟩:∃ m,k = m+1:=⟨k - 1,by omega⟩
  simp [hend k (by omega)]
 | succ d ih =>
  intro i k hi hk;obtain ⟨k,rfl⟩:∃ m,k = m+1:=⟨k - 1,by omega⟩
  rw [hstep k i (by omega) (by omega),List.range'_succ];by_cases h:p i = true
  ·rw [if_pos h,ih (i+1) k (by omega) (by omega)]
   simp [h]
  ·rw [if_neg h]
   simp [h]
theorem fF {σ γ:Type} (L:Nat→σ→Int→Option γ) (n:Nat) (step:Nat→σ→σ) (P:Nat→σ→Prop) (r:γ)
  (y:∀ i s,i < n→P i s→P (i+1) (step i s)∧(Ev (fun k=>L k (step i s) ((i+1:Nat):Int)) r→Ev (fun k=>L k s (i:Int)) r)) :
  ∀ (d i:Nat) (s:σ),i+d = n→P i s→(P n ((List.range' i d).foldl (fun s j=>step j s) s)→Ev (fun k=>L k ((List.range' i d).foldl (fun s j=>step j s) s) (n:Int)) r)→Ev (fun k=>L k s (i:Int)) r:=by
 intro d;induction d with
 | zero =>
  intro i s hi hP h;obtain rfl:i = n:=by omega
  exact h (by simpa using hP)
 | succ d ih =>
  intro i s hi hP h;obtain ⟨h1,h2⟩:=y i s (by omega) hP;refine h2 (ih (i+1) (step i s) (by omega) h1 ?_);rw [List.range'_succ] at h;exact h
theorem en {γ:Type} {g:Nat→Option γ} {r:γ} (K:Nat) (h:∀ k,K≤k→g k = some r):Ev g r:=⟨K,h⟩
theorem foldl_append (p:Nat→Bool) (l:List Nat) (acc:List Int):l.foldl (fun s j=>if p j = true then s ++ [(j:Int)] else s) acc = acc ++ (l.filter p).map (fun j:Nat=>(j:Int)):=by
 induction l generalizing acc with
 | nil=>simp
 | cons a l ih =>
  rw [List.foldl_cons,ih];by_cases h:p a = true
  ·simp [h]
  ·simp [h]
theorem uV {σ:Type} (f:σ→Nat→σ) (l:List Nat) (s:σ) (h:∀ j∈l,∀ s,f s j = s):l.foldl f s = s:=by
 induction l generalizing s with
 | nil=>rfl
 | cons a l ih =>
  rw [List.foldl_cons,h a (by simp),ih _ (fun j hj=>h j (by simp [hj]))]
theorem od {σ:Type} (f:σ→Nat→σ) (m d:Nat) (s:σ) (h:∀ j,m≤j→∀ s,f s j = s):(List.range' 0 (m+d)).foldl f s = (List.range' 0 m).foldl f s:=by
 rw [← List.range'_append_1,List.foldl_append];refine uV _ _ _ fun j hj=>h j ?_
 have:=List.mem_range'_1.1 hj;omega
theorem nG (l:List Nat):(l.all fun _=>true) = true:=List.all_eq_true.2 (fun _ _=>rfl)
end cX
end
section
namespace Sets
open Go.RowKit ag.aZ ag.bT
theorem iW {γ:Type} (L:Nat→Int→Option γ) (n:Nat) (p:Nat→Bool) (S:γ→Prop)
  (hyes:∀ i,i < n→p i = true→∃ r,S r∧Ev (fun k=>L k (i:Int)) r)
  (hno:∀ i,i < n→p i = false→∀ r,Ev (fun k=>L k ((i+1:Nat):Int)) r→Ev (fun k=>L k (i:Int)) r) :
  ∀ d i:Nat,i+d = n→((List.range' i d).any p = true→∃ r,S r∧Ev (fun k=>L k (i:Int)) r)∧((List.range' i d).any p = false→∀ r,Ev (fun k=>L k (n:Int)) r→Ev (fun k=>L k (i:Int)) r):=by
 intro d;induction d with
 | zero =>
  intro i hi;obtain rfl:i = n:=by omega
  exact ⟨fun h=>by simp at h,fun _ r h=>h⟩
 | succ d ih =>
  intro i hi;obtain ⟨h1,h2⟩:=ih (i+1) (by omega);rw [List.range'_succ,List.any_cons];cases hp:p i with
  | true=>exact ⟨fun _=>hyes i (by omega) hp,fun h=>by simp at h⟩
  | false =>
   refine ⟨fun h=>?_,fun h r hr=>hno i (by omega) hp r (h2 (by simpa using h) r hr)⟩;obtain ⟨r,hr,hE⟩:=h1 (by simpa using h);exact ⟨r,hr,hno i (by omega) hp r hE⟩
theorem lq (n:Int) (h0:0≤n) (h1:n < 2 ^ 62):IntKind.i64.wrap n = n:=by
 rw [IntKind.wrap_i64];omega
theorem nH (a b:Nat) (ha:a < 2 ^ 62) (hb:b < 2 ^ 62):Go.bits .and .i64 (a:Int) (b:Int) = ((a &&& b:Nat):Int):=(bits_nat .i64 62 (by decide) lq a b ha hb).1
theorem oe (a b:Nat) (ha:a < 2 ^ 62) (hb:b < 2 ^ 62):Go.bits .or .i64 (a:Int) (b:Int) = ((a ||| b:Nat):Int):=(bits_nat .i64 62 (by decide) lq a b ha hb).2
def diff (a b:Nat):Nat:=a ^^^ (a &&& b)
theorem cD (a b i:Nat):(diff a b).testBit i = (a.testBit i && !b.testBit i):=by
 unfold diff;rw [Nat.testBit_xor,Nat.testBit_and];cases a.testBit i <;> cases b.testBit i <;> rfl
theorem eG {a b:Nat} {n:Nat} (ha:a < 2 ^ n):diff a b < 2 ^ n:=by
 apply Nat.lt_pow_two_of_testBit
 intro i hi;rw [cD,Nat.testBit_lt_two_pow (Nat.lt_of_lt_of_le ha (Nat.pow_le_pow_right (by decide) hi))];rfl
theorem fW (a b:Nat) (ha:a < 2 ^ 62):Go.bits .andNot .i64 (a:Int) (b:Int) = ((diff a b:Nat):Int):=by
 have j:(2:Nat) ^ 62≤2 ^ 64:=by decide
 have key:(BitVec.ofNat 64 a &&& ~~~(BitVec.ofNat 64 b)).toNat = diff a b:=by
  apply Nat.eq_of_testBit_eq
  intro i;rw [cD,BitVec.testBit_toNat,BitVec.getLsbD_and,BitVec.getLsbD_not,BitVec.getLsbD_ofNat,BitVec.getLsbD_ofNat];by_cases hi:i < 64
  ·simp [hi]
  ·have:a.testBit i = false:=Nat.testBit_lt_two_pow (Nat.lt_of_lt_of_le ha (Nat.pow_le_pow_right (by decide) (by omega)))
   simp [hi,this]
 show IntKind.i64.wrap ((BitVec.ofInt 64 (a:Int) &&& ~~~(BitVec.ofInt 64 (b:Int))).toNat:Int) = _;have y:BitVec.ofInt 64 (a:Int) = BitVec.ofNat 64 a:=by simp
 have z:BitVec.ofInt 64 (b:Int) = BitVec.ofNat 64 b:=by simp
 rw [y,z,key];have:=eG (b:=b) ha;exact lq _ (by omega) (by exact_mod_cast this)
theorem gp (e:Nat) (he:e < 62):shl .i64 1 (e:Int) = ((2 ^ e:Nat):Int):=by
 unfold shl;have h1:min ((e:Int)).toNat IntKind.i64.bits = e:=by
  show min e 64 = e;omega
 rw [h1,Int.one_mul];have h2:(2:Nat) ^ e < 2 ^ 62:=Nat.pow_lt_pow_right (by decide) he;rw [lq _ (by exact_mod_cast Nat.zero_le _) (by exact_mod_cast h2)];push_cast
 rfl
theorem sV (a e:Nat) (he:e < 62) (ha:a < 2 ^ 62):((Go.bits .and .i64 (shr .i64 (a:Int) (e:Int)) 1) == 1) = a.testBit e:=by
 unfold shr;have h1:min ((e:Int)).toNat IntKind.i64.bits = e:=by
  show min e 64 = e;omega
 rw [h1];have h2:((a:Int) / 2 ^ e) = ((a / 2 ^ e:Nat):Int):=by push_cast;rfl
 have h3:a / 2 ^ e < 2 ^ 62:=Nat.lt_of_le_of_lt (Nat.div_le_self _ _) ha;rw [h2,show (1:Int) = ((1:Nat):Int) from rfl,nH _ 1 h3 (by decide),Nat.testBit_eq_decide_div_mod_eq,Nat.and_one_is_mod];by_cases h:a / 2 ^ e % 2 = 1
 ·simp [h]
 ·have h4:a / 2 ^ e % 2 = 0:=by omega
  simp [h4]
theorem fX {a n e:Nat} (ha:a < 2 ^ n) (he:n≤e):a.testBit e = false:=Nat.testBit_lt_two_pow (Nat.lt_of_lt_of_le ha (Nat.pow_le_pow_right (by decide) he))
theorem swap_eq:∀ a,a < 256→∀ e,e < 8→∀ f,f < 8→a.testBit e = true→a.testBit f = false→diff a (2 ^ e) ||| 2 ^ f = a - 2 ^ e+2 ^ f:=by decide +kernel
theorem uW:∀ a,a < 256→∀ e,e < 8→a.testBit e = true→2 ^ e≤a:=by decide +kernel
def elems (s:Nat):List Nat:=(List.range' 0 8).filter fun j=>s.testBit j
def fZ (l:List Nat) (a b e:Nat):Bool:=(List.range' 0 8).any fun f=>b.testBit f && !a.testBit f && l.contains (a - 2 ^ e+2 ^ f)
def eJ (l:List Nat):Bool:=l.any fun a=>l.any fun b=>(List.range' 0 8).any fun e=>a.testBit e && !b.testBit e && !fZ l a b e
def ints (l:List Nat):List Int:=l.map fun j:Nat=>(j:Int)
theorem aA (l:List Nat):(ints l).length = l.length:=by simp [ints]
theorem jZ (l:List Nat) (i:Nat):(ints l).getD i 0 = ((l.getD i 0:Nat):Int):=by
 by_cases h:i < l.length
 ·simp [ints,List.getD,h]
 ·simp [ints,List.getD,h]
theorem dR (l:List Nat) (i:Nat):rd (ints l) (i:Int) = ((l.getD i 0:Nat):Int):=by rw [cX.gN,jZ]
theorem lJ (l:List Nat) (x:Nat):(ints l).contains (x:Int) = l.contains x:=by
 rw [Bool.eq_iff_iff];simp only [ints,List.contains_eq_mem,List.mem_map,decide_eq_true_eq];constructor
 ·rintro ⟨a,h,e⟩
  obtain rfl:a = x:=by omega
  exact h
 ·exact fun h=>⟨x,h,rfl⟩
theorem iX {α:Type} (l:List α) (d:α) (p:α→Bool):((List.range' 0 l.length).any fun i=>p (l.getD i d)) = l.any p:=by
 rw [Bool.eq_iff_iff];simp only [List.any_eq_true];constructor
 ·rintro ⟨i,hi,hp⟩
  have hlt:i < l.length:=by have:=List.mem_range'_1.1 hi;omega
  refine ⟨l[i],List.getElem_mem hlt,?_⟩;simpa [List.getD,hlt] using hp
 ·rintro ⟨x,hx,hp⟩
  obtain ⟨i,hi,rfl⟩:=List.getElem_of_mem hx;exact ⟨i,List.mem_range'_1.2 (by omega),by simpa [List.getD,hi] using hp⟩
theorem uX (p:Nat→Bool) (m d:Nat) (h:∀ j,m≤j→p j = false):(List.range' 0 (m+d)).any p = (List.range' 0 m).any p:=by
 rw [← List.range'_append_1,List.any_append];have:(List.range' (0+m) d).any p = false:=by
  rw [List.any_eq_false];intro j hj;have:=List.mem_range'_1.1 hj;rw [h j (by omega)];decide
 rw [this,Bool.or_false]
theorem uY (m:Nat) (hm:m≤8) (p:Nat→Bool) (h:∀ j,m≤j→p j = false):(List.range' 0 m).any p = (List.range' 0 8).any p:=by
 have:=uX p m (8 - m) h;rw [show m+(8 - m) = 8 by omega] at this;exact this.symm
theorem pg (s:Nat) (q:Nat→Bool):(elems s).any q = (List.range' 0 8).any fun j=>s.testBit j && q j:=by
 unfold elems;rw [List.any_filter]
theorem k6 {s j:Nat} (h:j∈elems s):j < 8∧s.testBit j = true:=by
 unfold elems at h;obtain ⟨h1,h2⟩:=List.mem_filter.1 h;have:=List.mem_range'_1.1 h1;exact ⟨by omega,h2⟩
theorem fN (s:Nat):(elems s).length≤8:=by
 unfold elems;exact Nat.le_trans (List.length_filter_le _ _) (by simp)
theorem bM {m:Nat} (hm:m≤8):(2:Nat) ^ m≤256:=Nat.pow_le_pow_right (n:=2) (by decide) hm
theorem xb:∀ a,a < 256→∀ e,e < 8→∀ f,f < 8→a.testBit e = true→a.testBit f = false→a - 2 ^ e+2 ^ f < 256:=by decide +kernel
theorem cO {α:Type} (l:List α) (d:α) (i:Nat) (h:i < l.length):l.getD i d∈l:=by
 have:l.getD i d = l[i]:=by simp [List.getD,h]
 rw [this];exact List.getElem_mem h
end Sets
end
end Go.Proofs.YtlfkfdmggpipbaaGreat
section
namespace Go.Proofs.YtlfkfdmggpipbaaGreat.Sort
open Go.RowKit Go.Proofs.YtlfkfdmggpipbaaGreat.Pr Go.Proofs.YtlfkfdmggpipbaaGreat.Sets Go.Proofs.ag.aZ Go.Proofs.ag.bR Go.Proofs.ag.bT
set_option linter.unusedVariables false
def ins (x:Int):List Int→List Int
 | []=>[x]
 | a :: l=>if a < x then a :: ins x l else if a = x then a :: l else x :: a :: l
def sset (l:List Int):List Int:=l.foldl (fun out x=>ins x out) []
theorem sW (x y:Int) (l:List Int):y∈ins x l↔y = x∨y∈l:=by
 induction l with
 | nil=>simp [ins]
 | cons a l ih =>
  unfold ins;split
  ·simp only [List.mem_cons,ih]
   constructor
   ·rintro (h | h | h) <;> simp [h]
   ·rintro (h | h | h) <;> simp [h]
  ·split
   ·rename_i h
    subst h;simp
   ·simp
theorem s8 (x:Int) (l:List Int) (h:l.Pairwise (· < ·)):(ins x l).Pairwise (· < ·):=by
 induction l with
 | nil=>simp [ins]
 | cons a l ih =>
  obtain ⟨h1,h2⟩:=List.pairwise_cons.1 h;unfold ins;split
  ·rename_i hlt
   refine List.pairwise_cons.2 ⟨fun y hy=>?_,ih h2⟩;rcases (sW x y l).1 hy with rfl | hy
   ·exact hlt
   ·exact h1 y hy
  ·split
   ·exact h
   ·rename_i ha hb
    refine List.pairwise_cons.2 ⟨fun y hy=>?_,h⟩;rcases List.mem_cons.1 hy with rfl | hy
    ·omega
    ·have:=h1 y hy
     omega
theorem og (x:Int) (l:List Int):(ins x l).length≤l.length+1:=by
 induction l with
 | nil=>simp [ins]
 | cons a l ih =>
  unfold ins;split
  ·simp only [List.length_cons];omega
  ·split <;> simp
theorem mR (l out:List Int) (ho:out.Pairwise (· < ·)):(l.foldl (fun out x=>ins x out) out).Pairwise (· < ·)∧(∀ y,y∈l.foldl (fun out x=>ins x out) out↔y∈out∨y∈l)∧(l.foldl (fun out x=>ins x out) out).length≤out.length+l.length:=by
 induction l generalizing out with
 | nil=>exact ⟨ho,fun y=>by simp,by simp⟩
 | cons a l ih =>
  rw [List.foldl_cons];obtain ⟨h1,h2,h3⟩:=ih (ins a out) (s8 a out ho);refine ⟨h1,fun y=>?_,?_⟩
  ·rw [h2 y,sW,List.mem_cons]
   constructor
   ·rintro ((h | h) | h) <;> simp [h]
   ·rintro (h | h | h) <;> simp [h]
  ·have:=og a out
   simp only [List.length_cons];omega
theorem jM (l:List Int):(sset l).Pairwise (· < ·):=(mR l [] List.Pairwise.nil).1
theorem jx (l:List Int) (y:Int):y∈sset l↔y∈l:=by
 have:=(mR l [] List.Pairwise.nil).2.1 y;simpa [sset] using this
theorem j8 (l:List Int):(sset l).length≤l.length:=by
 have:=(mR l [] List.Pairwise.nil).2.2;simpa [sset] using this
theorem q8 (a b:List Int) (ha:a.Pairwise (· < ·)) (hb:b.Pairwise (· < ·)) (h:∀ x,x∈a↔x∈b):a = b:=by
 induction a generalizing b with
 | nil =>
  cases b with
  | nil=>rfl
  | cons y b=>exact absurd ((h y).2 (by simp)) (by simp)
 | cons x a ih =>
  cases b with
  | nil=>exact absurd ((h x).1 (by simp)) (by simp)
  | cons y b =>
   obtain ⟨j,a2⟩:=List.pairwise_cons.1 ha;obtain ⟨b1,X⟩:=List.pairwise_cons.1 hb;have hxy:x = y:=by
    rcases List.mem_cons.1 ((h x).1 (by simp)) with e | e
    ·exact e
    ·rcases List.mem_cons.1 ((h y).2 (by simp)) with e' | e'
     ·exact e'.symm
     ·have:=b1 x e
      have:=j y e';omega
   subst hxy;congr 1
   refine ih b a2 X fun z=>⟨fun hz=>?_,fun hz=>?_⟩
   ·rcases List.mem_cons.1 ((h z).1 (by simp [hz])) with rfl | e
    ·exact absurd (j z hz) (by omega)
    ·exact e
   ·rcases List.mem_cons.1 ((h z).2 (by simp [hz])) with rfl | e
    ·exact absurd (b1 z hz) (by omega)
    ·exact e
theorem qa (d:Array Int) (hd:∀ i j,i≤j→j < d.size→d[i]! ≤ d[j]!):∀ m,m≤d.size→(Lib.compactUpTo d m).Pairwise (· < ·)∧(∀ y,y∈Lib.compactUpTo d m↔∃ j,j < m∧d[j]! = y):=by
 intro m;induction m with
 | zero=>exact fun _=>⟨by simp [Lib.compactUpTo],fun y=>by simp [Lib.compactUpTo]⟩
 | succ m ih =>
  intro hm;obtain ⟨h1,h2⟩:=ih (by omega);rw [Lib.compactUpTo_succ];by_cases hk:Lib.keeps d m = true
  ·rw [if_pos hk]
   refine ⟨?_,fun y=>?_⟩
   ·rw [List.pairwise_append]
    refine ⟨h1,by simp,fun x hx y hy=>?_⟩;obtain rfl:y = d[m]!:=by simpa using hy
    obtain ⟨j,hj,rfl⟩:=(h2 x).1 hx;have hne:d[m]! ≠ d[m - 1]!:=by
     unfold Lib.keeps at hk;rw [decide_eq_true_eq] at hk;rcases hk with rfl | hk
     ·omega
     ·exact hk
    have X:=hd j (m - 1) (by omega) (by omega);have Y:=hd (m - 1) m (by omega) (by omega);omega
   ·rw [List.mem_append,h2 y]
    constructor
    ·rintro (⟨j,hj,rfl⟩ | h)
     ·exact ⟨j,by omega,rfl⟩
     ·have e:y = d[m]!:=by simpa using h
      exact ⟨m,by omega,e.symm⟩
    ·rintro ⟨j,hj,rfl⟩
     by_cases e:j = m
     ·subst e
      exact .inr (by simp)
     ·exact .inl ⟨j,by omega,rfl⟩
  ·rw [if_neg hk,List.append_nil]
   refine ⟨h1,fun y=>?_⟩;rw [h2 y];constructor
   ·rintro ⟨j,hj,rfl⟩
    exact ⟨j,by omega,rfl⟩
   ·rintro ⟨j,hj,rfl⟩
    by_cases e:j = m
    ·subst e
     have hk':¬ (j = 0∨d[j]! ≠ d[j - 1]!):=by
      unfold Lib.keeps at hk;rw [decide_eq_true_eq] at hk;exact hk
     have z:j≠0:=fun h=>hk' (.inl h)
     have he:d[j]! = d[j - 1]!:=Decidable.byContradiction fun h=>hk' (.inr h)
     exact ⟨j - 1,by omega,he.symm⟩
    ·exact ⟨j,by omega,rfl⟩
theorem qb (l:List Int):Lib.compact (mH.sorted l) = sset l:=by
 have hs:(mH.sorted l).Pairwise (fun x y=>decide (x≤y) = true):=List.pairwise_mergeSort (le:=fun x y=>decide (x≤y)) (fun a b c h1 h2=>by simp only [decide_eq_true_eq] at *;omega) (fun a b=>by simp only [Bool.or_eq_true,decide_eq_true_eq];omega) l;have hmem:∀ y,y∈mH.sorted l↔y∈l:=fun y=>(List.mergeSort_perm l _).mem_iff
 generalize mH.sorted l = q at *;have hd:∀ i j,i≤j→j < q.toArray.size→q.toArray[i]! ≤ q.toArray[j]!:=fun i j hij hj=>by
  have hj':j < q.length:=by simpa using hj
  rcases Nat.lt_or_eq_of_le hij with h | rfl
  ·have:=(List.pairwise_iff_getElem.1 hs) i j (by omega) hj' h
   simp only [decide_eq_true_eq] at this;simpa [getElem!_pos,show i < q.length by omega,hj'] using this
  ·exact Int.le_refl _
 obtain ⟨h1,h2⟩:=qa q.toArray hd q.length (by simp);refine q8 _ _ h1 (jM l) fun x=>?_
 rw [jx,← hmem];refine (h2 x).trans ⟨?_,fun h=>?_⟩
 ·rintro ⟨j,hj,rfl⟩
  have:q.toArray[j]! = q[j]:=by simp [getElem!_pos,hj]
  rw [this];exact List.getElem_mem hj
 ·obtain ⟨j,hj,rfl⟩:=List.getElem_of_mem h
  exact ⟨j,hj,by simp [getElem!_pos,hj]⟩
theorem oh (l:List Int) (hn:l.length≤1048576):eU.f l = some (sset l):=by
 unfold eU.f;rw [if_pos (by omega),qb]
theorem drop_cons (l:List Int) (i:Nat) (h:i < l.length):l.drop i = l.getD i 0 :: l.drop (i+1):=by
 rw [List.drop_eq_getElem_cons h];simp [List.getD,h]
theorem uZ (x:Int) (out:List Int):∀ i,i≤out.length→(∀ j,j < i→out.getD j 0 < x)→ins x out = out.take i ++ ins x (out.drop i):=by
 intro i;induction i with
 | zero=>intro _ _;simp
 | succ i ih =>
  intro hi h;rw [ih (by omega) fun j hj=>h j (by omega),drop_cons out i (by omega)];have:=h i (by omega);rw [ins,if_pos this,List.take_succ_eq_append_getElem (by omega),List.append_assoc];simp [List.getD,show i < out.length by omega]
theorem kM (l:List Int) (hn:l.length≤1048576):Ev (fun k=>aC.f k l) (sset l):=by
 unfold aC.f sset;have e:l.foldl (fun out x=>ins x out) [] = (List.range' 0 l.length).foldl (fun out i=>ins (l.getD i 0) out) []:=by
  have y:l = (List.range' 0 l.length).map fun i=>l.getD i 0:=by rw [← List.range_eq_range',cX.pe]
  conv=>lhs;rw [y]
  rw [List.foldl_map]
 rw [e];refine cX.fF (fun k (out:List Int) i=>aC.l0 k l out i) l.length (fun i out=>ins (l.getD i 0) out) (fun i out=>out.length≤i) _ (fun i out hi hP=>⟨?_,fun h=>?_⟩) l.length 0 [] (by omega) (by simp) (fun _=>cX.en 1 (fun k hk=>?_))
 ·have:=og (l.getD i 0) out
  show (ins _ _).length≤_;omega
 ·refine Ev.step (f:=fun k=>aC.l1 k l out (i:Int) 0) (fun k=>?_) ?_
  ·simp only [aC.l0]
   rw [if_pos (by omega)]
  ·have key:∀ d a:Nat,a+d = out.length→(∀ j,j < a→out.getD j 0 < l.getD i 0)→Ev (fun k=>aC.l1 k l out (i:Int) (a:Int)) ((List.range' 0 l.length).foldl (fun out i=>ins (l.getD i 0) out) []):=by
    intro d;induction d with
    | zero =>
     intro a ha hlt;obtain rfl:a = out.length:=by omega
     have hins:ins (l.getD i 0) out = out.take out.length ++ [l.getD i 0] ++ out.drop out.length:=by
      rw [uZ _ _ out.length (Nat.le_refl _) hlt,List.drop_length,ins];simp
     rw [hins] at h;refine Ev.step (fun k=>?_) h;simp only [aC.l1];rw [if_neg (by omega)];simp only [Option.bind_some,Int.toNat_natCast,cX.gN,List.nil_append,List.length_nil,Nat.zero_add];rw [if_pos (by omega),if_pos (by omega),if_pos (by simp),if_pos (by omega),if_pos (by omega),if_pos (by rw [List.length_take];omega),if_pos (by simp;omega),cX.dO i (by omega)]
    | succ d ih =>
     intro a ha hlt;have hlen:a < out.length:=by omega
     by_cases h1:out.getD a 0 < l.getD i 0
     ·refine Ev.step (fun k=>?_) (ih (a+1) (by omega) fun j hj=>?_)
      ·simp only [aC.l1]
       rw [if_pos (by omega),if_pos (by omega),if_pos (by omega),if_pos (by omega),cX.gN,cX.gN,if_pos h1,cX.dO a (by omega)]
      ·by_cases e:j = a
       ·subst e;exact h1
       ·exact hlt j (by omega)
     ·have hat:=uZ (l.getD i 0) out a (by omega) hlt
      rw [drop_cons out a hlen,ins,if_neg h1] at hat;by_cases h2:out.getD a 0 = l.getD i 0
      ·have hins:ins (l.getD i 0) out = out:=by
        rw [hat,if_pos h2,← drop_cons out a hlen,List.take_append_drop]
       rw [hins] at h;refine Ev.step (fun k=>?_) h;simp only [aC.l1];rw [if_pos (by omega),if_pos (by omega),if_pos (by omega),if_pos (by omega),cX.gN,cX.gN,if_neg h1,if_pos h2,cX.dO i (by omega)]
      ·have hins:ins (l.getD i 0) out = out.take a ++ [l.getD i 0] ++ out.drop a:=by
        rw [hat,if_neg h2,← drop_cons out a hlen,List.append_assoc];rfl
       rw [hins] at h;refine Ev.step (fun k=>?_) h;simp only [aC.l1];rw [if_pos (by omega),if_pos (by omega),if_pos (by omega),if_pos (by omega),cX.gN,cX.gN,if_neg h1,if_neg h2];simp only [Option.bind_some,Int.toNat_natCast,List.nil_append,List.length_nil,Nat.zero_add];rw [if_pos (by omega),if_pos (by simp;omega),if_pos (by rw [List.length_take];omega),if_pos (by simp;omega),cX.dO i (by omega)]
   exact key out.length 0 (by omega) (fun j hj=>by omega)
 ·obtain ⟨q,rfl⟩:∃ q,k = q+1:=⟨k - 1,by omega⟩
  simp only [aC.l0];rw [if_neg (by omega)]
end Go.Proofs.YtlfkfdmggpipbaaGreat.Sort
end
namespace Go.Proofs.YtlfkfdmggpipbaaGreat
section
namespace kH
open Go.RowKit Go.Proofs.YtlfkfdmggpipbaaGreat.Pr Go.Proofs.YtlfkfdmggpipbaaGreat.Sets ag.aZ ag.bR ag.bT
set_option linter.unusedVariables false
def isSet (n s:Int):Bool:=decide (0≤n∧n≤8∧0≤s∧s < 2 ^ n.toNat)
theorem pn (n s:Int):fx.f n s = some (isSet n s):=by
 unfold fx.f e7.f isSet;by_cases h0:n≥0
 ·rw [if_pos h0]
  simp only [Option.bind_some];by_cases h1:n≤8
  ·rw [if_pos (decide_eq_true h1)]
   obtain ⟨m,rfl⟩:∃ m:Nat,n = m:=⟨n.toNat,by omega⟩
   by_cases h2:s≥0
   ·rw [if_pos h2,if_pos h0,gp m (by omega)]
    congr 1
    rw [decide_eq_decide];simp only [Int.toNat_natCast];push_cast
    omega
   ·rw [if_neg h2,decide_eq_false (by omega)]
  ·rw [if_neg (by rw [decide_eq_true_eq];exact h1),decide_eq_false (by omega)]
 ·rw [if_neg h0]
  simp only [Option.bind_some];rw [if_neg (by decide),decide_eq_false (by omega)]
theorem k7 (n s:Int):bL.f n s = some (isSet n s):=by
 unfold bL.f bD.f isSet;by_cases h0:n≥0
 ·rw [if_pos h0]
  simp only [Option.bind_some];by_cases h1:n≤8
  ·rw [if_pos (decide_eq_true h1)]
   obtain ⟨m,rfl⟩:∃ m:Nat,n = m:=⟨n.toNat,by omega⟩
   have hu:IntKind.u64.wrap (m:Int) = m:=by
    have:m = 0∨m = 1∨m = 2∨m = 3∨m = 4∨m = 5∨m = 6∨m = 7∨m = 8:=by omega
    rcases this with rfl | rfl | rfl | rfl | rfl | rfl | rfl | rfl | rfl <;> decide +kernel
   have hp:=bM (m:=m) (by omega);have j:1≤2 ^ m:=Nat.one_le_two_pow;rw [hu,if_pos h0,gp m (by omega),cX.jL (by omega) (by omega)];by_cases h2:s≥0
   ·rw [if_pos h2]
    simp only [Option.bind_some];congr 1
    rw [decide_eq_decide];simp only [Int.toNat_natCast];have:((2:Int) ^ m) = ((2 ^ m:Nat):Int):=by push_cast;rfl
    rw [this];omega
   ·rw [if_neg h2]
    simp only [Option.bind_some];rw [decide_eq_false (by omega)]
  ·rw [if_neg (by rw [decide_eq_true_eq];exact h1),decide_eq_false (by omega)]
 ·rw [if_neg h0]
  simp only [Option.bind_some];rw [if_neg (by decide),decide_eq_false (by omega)]
def qU (n:Int) (l:List Int):Bool:=((List.range' 0 l.length).all fun i=>isSet n (l.getD i 0) && (decide (i = 0) || decide (l.getD (i - 1) 0 < l.getD i 0))) && decide (0≤n∧n≤8)
theorem om (n:Int) (l:List Int) (hn:l.length≤1048576) (k:Nat) (hk:l.length < k):cw.f k n l = some (qU n l):=by
 unfold cw.f qU;refine cX.j7 (fun k i=>cw.l0 k n l l (l.length:Int) i) l.length (fun i=>isSet n (l.getD i 0) && (decide (i = 0) || decide (l.getD (i - 1) 0 < l.getD i 0))) 0 (decide (0≤n∧n≤8)) (fun k i _ hi=>?_) (fun k _=>?_) l.length 0 k (by omega) (by omega)
 ·simp only [cw.l0]
  rw [if_pos (by omega),if_pos (by omega),if_pos (by omega),pn,cX.gN];simp only [Option.bind_some];cases isSet n (l.getD i 0) with
  | false=>rfl
  | true =>
   rw [if_pos rfl,cX.dO i (by omega)];by_cases h0:i = 0
   ·subst h0
    rw [if_neg (by decide),if_pos (by rfl)]
   ·rw [if_pos (by omega),cX.jL (by omega) (by omega),show (i:Int) - 1 = ((i - 1:Nat):Int) by omega,if_pos (by omega),if_pos (by omega),cX.gN]
    by_cases h1:l.getD i 0≤l.getD (i - 1) 0
    ·rw [if_pos h1,decide_eq_false h0,decide_eq_false (by omega)]
     rfl
    ·rw [if_neg h1,decide_eq_false h0,decide_eq_true (by omega)]
     rfl
 ·simp only [cw.l0]
  rw [if_neg (by omega)];unfold e7.f;by_cases h0:n≥0
  ·rw [if_pos h0]
   simp only [Option.bind_some];congr 1
   rw [decide_eq_decide];omega
  ·rw [if_neg h0,decide_eq_false (by omega)]
   rfl
theorem oo (n:Int) (l:List Int) (hn:l.length≤1048576) (k:Nat) (hk:l.length < k):bp.f k n l = some (qU n l):=by
 unfold bp.f qU;refine cX.j7 (fun k i=>bp.l0 k n l i) l.length (fun i=>isSet n (l.getD i 0) && (decide (i = 0) || decide (l.getD (i - 1) 0 < l.getD i 0))) 0 (decide (0≤n∧n≤8)) (fun k i _ hi=>?_) (fun k _=>?_) l.length 0 k (by omega) (by omega)
 ·simp only [bp.l0]
  rw [if_pos (by omega),if_pos (by omega),k7,cX.gN];simp only [Option.bind_some];cases isSet n (l.getD i 0) with
  | false=>rfl
  | true =>
   rw [if_pos rfl,cX.dO i (by omega)];by_cases h0:i = 0
   ·subst h0
    rw [if_neg (by decide),if_pos (by rfl)]
   ·rw [if_pos (by omega),cX.jL (by omega) (by omega),show (i:Int) - 1 = ((i - 1:Nat):Int) by omega,if_pos (by omega),if_pos (by omega),cX.gN]
    by_cases h1:l.getD (i - 1) 0≥l.getD i 0
    ·rw [if_pos h1,decide_eq_false h0,decide_eq_false (by omega)]
     rfl
    ·rw [if_neg h1,decide_eq_false h0,decide_eq_true (by omega)]
     rfl
 ·simp only [bp.l0]
  rw [if_neg (by omega)];unfold bD.f;by_cases h0:n≥0
  ·rw [if_pos h0]
   simp only [Option.bind_some];congr 1
   rw [decide_eq_decide];omega
  ·rw [if_neg h0,decide_eq_false (by omega)]
   rfl
theorem qc {n:Int} {l:List Int} (h:qU n l = true):∃ (m:Nat) (j:List Nat),n = m∧m≤8∧l = ints j∧∀ s∈j,s < 2 ^ m:=by
 unfold qU at h;rw [Bool.and_eq_true,decide_eq_true_eq] at h;obtain ⟨hl,h0,y⟩:=h;have key:∀ s∈l,0≤s∧s < 2 ^ n.toNat:=fun s hs=>by
  obtain ⟨i,hi,rfl⟩:=List.getElem_of_mem hs;have:=List.all_eq_true.1 hl i (List.mem_range'_1.2 (by omega));rw [Bool.and_eq_true] at this;have h1:=this.1;unfold isSet at h1;rw [decide_eq_true_eq] at h1;have e:l.getD i 0 = l[i]:=by simp [List.getD,hi]
  rw [e] at h1;exact ⟨h1.2.2.1,h1.2.2.2⟩
 refine ⟨n.toNat,l.map Int.toNat,by omega,by omega,?_,fun s hs=>?_⟩
 ·unfold ints
  rw [List.map_map];conv=>lhs;rw [← List.map_id l]
  refine List.map_congr_left fun s hs=>?_
  have:=(key s hs).1;show s = ((s.toNat:Nat):Int)
  omega
 ·obtain ⟨x,hx,rfl⟩:=List.mem_map.1 hs
  obtain ⟨h1,h2⟩:=key x hx;have e:((2:Int) ^ n.toNat) = ((2 ^ n.toNat:Nat):Int):=by push_cast;rfl
  rw [e] at h2;omega
theorem index (l:List Nat) (x:Nat) (hn:l.length≤1048576):∀ (d i k:Nat),i+d = l.length→d < k→∃ r,bQ.l0 k (ints l) (x:Int) ((ints l).length:Int) (i:Int) = some r∧decide (r≥0) = (l.drop i).contains x:=by
 intro d;induction d with
 | zero =>
  intro i k hi hk;obtain ⟨k,rfl⟩:∃ m,k = m+1:=⟨k - 1,by omega⟩
  refine ⟨-1,?_,?_⟩
  ·simp only [bQ.l0]
   rw [if_neg (by rw [aA];omega)]
  ·rw [List.drop_of_length_le (by omega)]
   rfl
 | succ d ih =>
  intro i k hi hk;obtain ⟨k,rfl⟩:∃ m,k = m+1:=⟨k - 1,by omega⟩
  have hlt:i < l.length:=by omega
  simp only [bQ.l0];rw [if_pos (by rw [aA];omega),if_pos (by omega),if_pos (by rw [aA];omega),dR,cX.dO i (by omega)];have hd:l.drop i = l.getD i 0 :: l.drop (i+1):=by
   rw [List.drop_eq_getElem_cons hlt];simp [List.getD,hlt]
  rw [hd];by_cases h:x = l.getD i 0
  ·refine ⟨i,by rw [if_pos (by omega)],?_⟩
   rw [← h,List.contains_cons,beq_self_eq_true,Bool.true_or,decide_eq_true (by omega)]
  ·obtain ⟨r,h1,h2⟩:=ih (i+1) k (by omega) (by omega)
   refine ⟨r,by rw [if_neg (by omega)];exact h1,?_⟩;rw [h2,List.contains_cons,beq_eq_false_iff_ne.2 h,Bool.false_or]
theorem sX (l:List Nat) (x:Nat) (hn:l.length≤1048576) (k:Nat) (hk:l.length < k):cW.f k (ints l) (x:Int) = some (l.contains x):=by
 unfold cW.f dZ.f bQ.f;obtain ⟨r,h1,h2⟩:=index l x hn l.length 0 k (by omega) hk;rw [show (0:Int) = ((0:Nat):Int) from rfl,h1];simp only [Option.bind_some];rw [show ((0:Nat):Int) = (0:Int) from rfl,h2,List.drop_zero]
theorem qd (l:List Nat) (x:Nat) (hn:l.length≤1048576) (k:Nat) (hk:l.length < k):bj.f k (ints l) (x:Int) = some (l.contains x):=by
 unfold bj.f;have key:∀ (d i k:Nat),i+d = l.length→d < k→bj.l0 k (ints l) (x:Int) (i:Int) = some ((l.drop i).contains x):=by
  intro d;induction d with
  | zero =>
   intro i k hi hk;obtain ⟨k,rfl⟩:∃ m,k = m+1:=⟨k - 1,by omega⟩
   simp only [bj.l0];rw [if_neg (by rw [aA];omega),List.drop_of_length_le (by omega)];rfl
  | succ d ih =>
   intro i k hi hk;obtain ⟨k,rfl⟩:∃ m,k = m+1:=⟨k - 1,by omega⟩
   have hlt:i < l.length:=by omega
   simp only [bj.l0];rw [if_pos (by rw [aA];omega),if_pos (by omega),dR,cX.dO i (by omega)];have hd:l.drop i = l.getD i 0 :: l.drop (i+1):=by
    rw [List.drop_eq_getElem_cons hlt];simp [List.getD,hlt]
   rw [hd,List.contains_cons];by_cases h:l.getD i 0 = x
   ·rw [if_pos (by omega),← h,beq_self_eq_true,Bool.true_or]
   ·rw [if_neg (by omega),ih (i+1) k (by omega) (by omega),beq_eq_false_iff_ne.2 (Ne.symm h),Bool.false_or]
 have:=key l.length 0 k (by omega) hk;rw [List.drop_zero] at this;exact this
theorem vk (s:Nat) (j:Nat) (hs:s < 256) (hj:j < 8):fl.f (s:Int) (j:Int) = some (s.testBit j):=by
 unfold fl.f cK.f;rw [if_pos (by omega)];simp only [Option.bind_some];rw [if_pos (decide_eq_true (by omega)),if_pos (by omega),if_pos (by omega),if_pos (by omega),sV s j (by omega) (by omega)]
theorem qV (s:Nat):((List.range' 0 8).foldl (fun (acc:List Int) (j:Nat)=>if s.testBit j = true then acc ++ [(j:Int)] else acc) []) = ints (elems s):=by
 rw [cX.foldl_append (fun j=>s.testBit j)];rfl
theorem gO (s:Nat) (hs:s < 256):Ev (fun k=>bl.f k (s:Int)) (ints (elems s)):=by
 unfold bl.f;refine cX.fF (fun k y i=>bl.l0 k (s:Int) y i) 8 (fun j y=>if s.testBit j = true then y ++ [(j:Int)] else y) (fun i y=>y.length≤i) _ (fun i y hi hP=>⟨?_,fun h=>Ev.step (fun k=>?_) h⟩) 8 0 [] rfl (by simp) (fun _=>cX.en 1 (fun k hk=>?_))
 ·by_cases hh:s.testBit i = true
  ·rw [if_pos hh];simp;omega
  ·rw [if_neg hh];omega
 ·simp only [bl.l0]
  rw [if_pos (by omega),vk s i hs hi];simp only [Option.bind_some];rw [cX.dO i (by omega)];by_cases hh:s.testBit i = true
  ·rw [if_pos hh,if_pos (by omega),if_pos hh]
  ·rw [if_neg hh,if_neg hh]
 ·obtain ⟨m,rfl⟩:∃ m,k = m+1:=⟨k - 1,by omega⟩
  simp only [bl.l0];rw [if_neg (by omega),qV]
theorem tS (g:Int→Option Bool) (fs:List Nat) (v:Nat→Bool) (hn:fs.length≤1048576) (hg:∀ f∈fs,g (f:Int) = some (v f)) :
  ∀ (d i k:Nat),i+d = fs.length→d < k→∃ r,aW.l0 g k (ints fs) (i:Int) = some r∧decide (r≥0) = (fs.drop i).any v:=by
 intro d;induction d with
 | zero =>
  intro i k hi hk;obtain ⟨k,rfl⟩:∃ m,k = m+1:=⟨k - 1,by omega⟩
  refine ⟨-1,?_,?_⟩
  ·simp only [aW.l0]
   rw [if_neg (by rw [aA];omega)]
  ·rw [List.drop_of_length_le (by omega)]
   rfl
 | succ d ih =>
  intro i k hi hk;obtain ⟨k,rfl⟩:∃ m,k = m+1:=⟨k - 1,by omega⟩
  have hlt:i < fs.length:=by omega
  simp only [aW.l0];rw [if_pos (by rw [aA];omega),if_pos (by omega),dR,hg _ (cO fs 0 i hlt),cX.dO i (by omega)];simp only [Option.bind_some];have hd:fs.drop i = fs.getD i 0 :: fs.drop (i+1):=by
   rw [List.drop_eq_getElem_cons hlt];simp [List.getD,hlt]
  rw [hd,List.any_cons];cases hv:v (fs.getD i 0) with
  | true=>exact ⟨i,by rw [if_pos rfl],by rw [decide_eq_true (by omega),Bool.true_or]⟩
  | false =>
   obtain ⟨r,h1,h2⟩:=ih (i+1) k (by omega) (by omega);exact ⟨r,by rw [if_neg (by decide)];exact h1,by rw [h2,Bool.false_or]⟩
theorem jj (g:Int→Option Bool) (fs:List Nat) (v:Nat→Bool) (hn:fs.length≤1048576) (hg:∀ f∈fs,g (f:Int) = some (v f)) (k:Nat) (hk:fs.length < k) :
  bf.f k (ints fs) g = some (fs.any v):=by
 unfold bf.f aW.f;obtain ⟨r,h1,h2⟩:=tS g fs v hn hg fs.length 0 k (by omega) hk;rw [show (0:Int) = ((0:Nat):Int) from rfl,h1];simp only [Option.bind_some];rw [show ((0:Nat):Int) = (0:Int) from rfl,h2,List.drop_zero]
theorem qW (l:List Nat) (a e f:Nat) (hn:l.length≤1048576) (ha:a < 256) (he:e < 8) (hf:f < 8) (hae:a.testBit e = true) (j:a.testBit f = false) (k:Nat) (hk:l.length < k) :
  cI.f k (ints l) (a:Int) (e:Int) (f:Int) = some (l.contains (a - 2 ^ e+2 ^ f)):=by
 unfold cI.f;have h1:(2:Nat) ^ e < 2 ^ 62:=Nat.pow_lt_pow_right (by decide) (by omega);have h2:(2:Nat) ^ f < 2 ^ 62:=Nat.pow_lt_pow_right (by decide) (by omega);have h3:diff a (2 ^ e) < 2 ^ 8:=eG (n:=8) (by omega);rw [if_pos (by omega),if_pos (by omega),gp e (by omega),gp f (by omega),fW a _ (by omega),oe _ _ (by omega) h2,swap_eq a ha e he f hf hae j];exact sX l _ hn k hk
theorem oq (l:List Nat) (a b e:Nat):fZ l a b e = (elems (diff b a)).any fun f=>l.contains (a - 2 ^ e+2 ^ f):=by
 rw [pg];unfold fZ;congr 1
 funext f
 rw [cD]
theorem qX (l:List Nat):eJ l = l.any fun a=>l.any fun b=>(elems (diff a b)).any fun e=>!fZ l a b e:=by
 unfold eJ;congr 1
 funext a
 congr 1
 funext b
 rw [pg];congr 1
 funext e
 rw [cD]
theorem tT (m:Nat) (hm:m≤8) (l:List Nat) (hl:∀ s∈l,s < 2 ^ m) (hn:l.length≤1048576) (hf:qU (m:Int) (ints l) = true) :
  ∃ x y z,Ev (fun k=>aK.f k (m:Int) (ints l)) (x,y,z,eJ l):=by
 have a1:=bM hm;have hlt:∀ i,i < l.length→l.getD i 0 < 256:=fun i hi=>Nat.lt_of_lt_of_le (hl _ (cO l 0 i hi)) a1
 have inner:∀ x y:Nat,x < l.length→y < l.length→∀ d i:Nat,i+d = (elems (diff (l.getD x 0) (l.getD y 0))).length→_:=fun x y hx hy =>
  iW (fun k z=>aK.l2 k (m:Int) (ints l) (x:Int) ((l.getD x 0:Nat):Int) (y:Int) ((l.getD y 0:Nat):Int) (ints (elems (diff (l.getD x 0) (l.getD y 0)))) z) (elems (diff (l.getD x 0) (l.getD y 0))).length
   (fun z=>!fZ l (l.getD x 0) (l.getD y 0) ((elems (diff (l.getD x 0) (l.getD y 0))).getD z 0)) (fun r=>r.2.2.2 = true)
   (by
    intro z hz hp;have ha:=hlt x hx;have hb:=hlt y hy;obtain ⟨he,hbit⟩:=k6 (cO _ 0 z hz);rw [cD,Bool.and_eq_true] at hbit;have a2:=fN (diff (l.getD x 0) (l.getD y 0));have hd:diff (l.getD y 0) (l.getD x 0) < 2 ^ 8:=eG (n:=8) (by omega);refine ⟨(((l.getD x 0:Nat):Int),((l.getD y 0:Nat):Int),(((elems (diff (l.getD x 0) (l.getD y 0))).getD z 0:Nat):Int),true),rfl,?_⟩;refine Ev.step (f:=fun k=>(bl.f k (Go.bits .andNot .i64 ((l.getD y 0:Nat):Int) ((l.getD x 0:Nat):Int))).bind fun fs=>((bf.f k fs (fun f=>cI.f k (ints l) ((l.getD x 0:Nat):Int) (((elems (diff (l.getD x 0) (l.getD y 0))).getD z 0:Nat):Int) f)).bind fun t=>(if t = true then (aK.l2 k (m:Int) (ints l) (x:Int) ((l.getD x 0:Nat):Int) (y:Int) ((l.getD y 0:Nat):Int) (ints (elems (diff (l.getD x 0) (l.getD y 0)))) ((z+1:Nat):Int)) else (some (((l.getD x 0:Nat):Int),((l.getD y 0:Nat):Int),(((elems (diff (l.getD x 0) (l.getD y 0))).getD z 0:Nat):Int),true))))) (fun k=>?_) ?_
    ·simp only [aK.l2]
     rw [if_pos (by rw [aA];omega),if_pos (by omega),dR,cX.dO z (by omega)]
    ·rw [fW _ _ (by omega)]
     refine Ev.bind (gO _ (by omega)) ?_;refine Ev.bind (a:=fZ l (l.getD x 0) (l.getD y 0) ((elems (diff (l.getD x 0) (l.getD y 0))).getD z 0)) (cX.en (1048577+8) (fun k hk=>?_)) ?_
     ·rw [oq]
      refine jj _ _ _ (by have:=fN (diff (l.getD y 0) (l.getD x 0));omega) (fun f hf=>?_) k (by have:=fN (diff (l.getD y 0) (l.getD x 0));omega);obtain ⟨a0,hfb⟩:=k6 hf;rw [cD,Bool.and_eq_true] at hfb;exact qW l _ _ _ hn ha he a0 hbit.1 (by simpa using hfb.2) k (by omega)
     ·have hp':fZ l (l.getD x 0) (l.getD y 0) ((elems (diff (l.getD x 0) (l.getD y 0))).getD z 0) = false:=by simpa using hp
      rw [hp'];exact Ev.now _)
   (by
    intro z hz hp r hr;have ha:=hlt x hx;have hb:=hlt y hy;obtain ⟨he,hbit⟩:=k6 (cO _ 0 z hz);rw [cD,Bool.and_eq_true] at hbit;have a2:=fN (diff (l.getD x 0) (l.getD y 0));have hd:diff (l.getD y 0) (l.getD x 0) < 2 ^ 8:=eG (n:=8) (by omega);refine Ev.step (f:=fun k=>(bl.f k (Go.bits .andNot .i64 ((l.getD y 0:Nat):Int) ((l.getD x 0:Nat):Int))).bind fun fs=>((bf.f k fs (fun f=>cI.f k (ints l) ((l.getD x 0:Nat):Int) (((elems (diff (l.getD x 0) (l.getD y 0))).getD z 0:Nat):Int) f)).bind fun t=>(if t = true then (aK.l2 k (m:Int) (ints l) (x:Int) ((l.getD x 0:Nat):Int) (y:Int) ((l.getD y 0:Nat):Int) (ints (elems (diff (l.getD x 0) (l.getD y 0)))) ((z+1:Nat):Int)) else (some (((l.getD x 0:Nat):Int),((l.getD y 0:Nat):Int),(((elems (diff (l.getD x 0) (l.getD y 0))).getD z 0:Nat):Int),true))))) (fun k=>?_) ?_
    ·simp only [aK.l2]
     rw [if_pos (by rw [aA];omega),if_pos (by omega),dR,cX.dO z (by omega)]
    ·rw [fW _ _ (by omega)]
     refine Ev.bind (gO _ (by omega)) ?_;refine Ev.bind (a:=fZ l (l.getD x 0) (l.getD y 0) ((elems (diff (l.getD x 0) (l.getD y 0))).getD z 0)) (cX.en (1048577+8) (fun k hk=>?_)) ?_
     ·rw [oq]
      refine jj _ _ _ (by have:=fN (diff (l.getD y 0) (l.getD x 0));omega) (fun f hf=>?_) k (by have:=fN (diff (l.getD y 0) (l.getD x 0));omega);obtain ⟨a0,hfb⟩:=k6 hf;rw [cD,Bool.and_eq_true] at hfb;exact qW l _ _ _ hn ha he a0 hbit.1 (by simpa using hfb.2) k (by omega)
     ·have hp':fZ l (l.getD x 0) (l.getD y 0) ((elems (diff (l.getD x 0) (l.getD y 0))).getD z 0) = true:=by simpa using hp
      rw [hp'];simp only [if_true];exact hr)
 have X:∀ x y:Nat,((List.range' 0 (elems (diff (l.getD x 0) (l.getD y 0))).length).any fun z=>!fZ l (l.getD x 0) (l.getD y 0) ((elems (diff (l.getD x 0) (l.getD y 0))).getD z 0)) = (elems (diff (l.getD x 0) (l.getD y 0))).any fun e=>!fZ l (l.getD x 0) (l.getD y 0) e:=fun x y=>iX (elems (diff (l.getD x 0) (l.getD y 0))) 0 (fun e=>!fZ l (l.getD x 0) (l.getD y 0) e)
 have middle:∀ x:Nat,x < l.length→∀ d i:Nat,i+d = l.length→_:=fun x hx =>
  iW (fun k y=>aK.l1 k (m:Int) (ints l) (x:Int) ((l.getD x 0:Nat):Int) y) l.length
   (fun y=>(elems (diff (l.getD x 0) (l.getD y 0))).any fun e=>!fZ l (l.getD x 0) (l.getD y 0) e) (fun r=>r.2.2.2 = true)
   (by
    intro y hy hp;have ha:=hlt x hx;obtain ⟨h1,_⟩:=inner x y hx hy (elems (diff (l.getD x 0) (l.getD y 0))).length 0 (by omega);rw [X] at h1;obtain ⟨r,hr,hE⟩:=h1 hp;refine ⟨r,hr,Ev.step (f:=fun k=>(bl.f k (Go.bits .andNot .i64 ((l.getD x 0:Nat):Int) ((l.getD y 0:Nat):Int))).bind fun es=>(aK.l2 k (m:Int) (ints l) (x:Int) ((l.getD x 0:Nat):Int) (y:Int) ((l.getD y 0:Nat):Int) es 0)) (fun k=>?_) ?_⟩
    ·simp only [aK.l1]
     rw [if_pos (by rw [aA];omega),if_pos (by omega),dR]
    ·rw [fW _ _ (by omega)]
     have hd:diff (l.getD x 0) (l.getD y 0) < 2 ^ 8:=eG (n:=8) (by omega);exact Ev.bind (gO _ (by omega)) hE)
   (by
    intro y hy hp r hr;have ha:=hlt x hx;obtain ⟨_,h2⟩:=inner x y hx hy (elems (diff (l.getD x 0) (l.getD y 0))).length 0 (by omega);rw [X] at h2;refine Ev.step (f:=fun k=>(bl.f k (Go.bits .andNot .i64 ((l.getD x 0:Nat):Int) ((l.getD y 0:Nat):Int))).bind fun es=>(aK.l2 k (m:Int) (ints l) (x:Int) ((l.getD x 0:Nat):Int) (y:Int) ((l.getD y 0:Nat):Int) es 0)) (fun k=>?_) ?_
    ·simp only [aK.l1]
     rw [if_pos (by rw [aA];omega),if_pos (by omega),dR]
    ·rw [fW _ _ (by omega)]
     have hd:diff (l.getD x 0) (l.getD y 0) < 2 ^ 8:=eG (n:=8) (by omega);refine Ev.bind (gO _ (by omega)) (h2 hp r (Ev.step (fun k=>?_) hr));simp only [aK.l2];rw [if_neg (by rw [aA];omega),cX.dO y (by omega)])
 have j:∀ x:Nat,((List.range' 0 l.length).any fun y=>(elems (diff (l.getD x 0) (l.getD y 0))).any fun e=>!fZ l (l.getD x 0) (l.getD y 0) e) = l.any fun b=>(elems (diff (l.getD x 0) b)).any fun e=>!fZ l (l.getD x 0) b e:=fun x=>iX l 0 (fun b=>(elems (diff (l.getD x 0) b)).any fun e=>!fZ l (l.getD x 0) b e)
 obtain ⟨o1,o2⟩:=iW (fun k x=>aK.l0 k (m:Int) (ints l) x) l.length
   (fun x=>l.any fun b=>(elems (diff (l.getD x 0) b)).any fun e=>!fZ l (l.getD x 0) b e) (fun r=>r.2.2.2 = true)
   (by
    intro x hx hp;obtain ⟨h1,_⟩:=middle x hx l.length 0 (by omega);rw [j] at h1;obtain ⟨r,hr,hE⟩:=h1 hp;refine ⟨r,hr,Ev.step (fun k=>?_) hE⟩;simp only [aK.l0];rw [if_pos (by rw [aA];omega),if_pos (by omega),dR];rfl)
   (by
    intro x hx hp r hr;obtain ⟨_,h2⟩:=middle x hx l.length 0 (by omega);rw [j] at h2;have h3:=h2 hp r (Ev.step (fun k=>by
     simp only [aK.l1];rw [if_neg (by rw [aA];omega),cX.dO x (by omega)]) hr)
    refine Ev.step (fun k=>?_) h3;simp only [aK.l0];rw [if_pos (by rw [aA];omega),if_pos (by omega),dR];rfl) l.length 0 (by omega)
 have Y:((List.range' 0 l.length).any fun x=>l.any fun b=>(elems (diff (l.getD x 0) b)).any fun e=>!fZ l (l.getD x 0) b e) = eJ l:=by
  rw [qX];exact iX l 0 (fun a=>l.any fun b=>(elems (diff a b)).any fun e=>!fZ l a b e)
 rw [Y] at o1 o2;have start:∀ r,Ev (fun k=>aK.l0 k (m:Int) (ints l) 0) r→Ev (fun k=>aK.f k (m:Int) (ints l)) r:=fun r hr=>by
  unfold aK.f;refine Ev.bind (cX.en (l.length+1) (fun k hk=>om (m:Int) (ints l) (by rw [aA];exact hn) k (by rw [aA];omega))) ?_;rw [hf];simp only [if_true];exact hr
 cases hfl:eJ l with
 | true =>
  obtain ⟨⟨x,y,z,b⟩,hb,hE⟩:=o1 hfl;simp only at hb;subst hb;exact ⟨x,y,z,start _ hE⟩
 | false =>
  refine ⟨0,0,0,start _ (o2 hfl _ (cX.en 1 (fun k hk=>?_)))⟩;obtain ⟨q,rfl⟩:∃ q,k = q+1:=⟨k - 1,by omega⟩
  simp only [aK.l0];rw [if_neg (by rw [aA];omega)]
theorem k8 (e:Nat) (he:e < 62):IntKind.u64.wrap (e:Int) = e:=by
 unfold IntKind.wrap;simp only [IntKind.bits,IntKind.signed,Bool.false_and,Bool.false_eq_true,if_false];omega
theorem jy (s e:Nat) (hs:s < 256) (he:e < 8):bZ.f (s:Int) (e:Int) = some (s.testBit e):=by
 unfold bZ.f;rw [k8 e (by omega),if_pos (by omega),sV s e (by omega) (by omega)]
theorem qe (m:Nat) (hm:m≤8) (l:List Nat) (hn:l.length≤1048576) (a b e:Nat) (ha:a < 256) (hb:b < 2 ^ m) (he:e < 8) (hae:a.testBit e = true):Ev (fun k=>aT.f k (m:Int) (ints l) (a:Int) (b:Int) (e:Int)) (fZ l a b e):=by
 have z:=bM hm;unfold aT.f;have hle:=uW a ha e he hae;have key:∀ f:Nat,f < m→a.testBit f = false→wrap64 ((wrap64 ((a:Int) - ((2 ^ e:Nat):Int)))+((2 ^ f:Nat):Int)) = ((a - 2 ^ e+2 ^ f:Nat):Int):=fun f hf y=>by
  have h1:=xb a ha e he f (by omega) hae y;have h2:2 ^ f≤256:=bM (by omega);clear hae;generalize (2:Nat) ^ e = P at *;generalize (2:Nat) ^ f = Q at *;rw [cX.jL (i:=(a:Int) - (P:Int)) (by omega) (by omega),cX.jL (by omega) (by omega)];omega
 obtain ⟨X,Y⟩:=iW (fun k f=>aT.l0 k (a:Int) (b:Int) (e:Int) f (m:Int) (ints l)) m (fun f=>b.testBit f && !a.testBit f && l.contains (a - 2 ^ e+2 ^ f)) (fun r=>r = true)
  (by
   intro f hf hp;rw [Bool.and_eq_true,Bool.and_eq_true] at hp;obtain ⟨⟨h1,h2⟩,h3⟩:=hp;have h2':a.testBit f = false:=by simpa using h2
   refine ⟨true,rfl,cX.en (l.length+2) (fun k hk=>?_)⟩;obtain ⟨q,rfl⟩:∃ q,k = q+1:=⟨k - 1,by omega⟩
   simp only [aT.l0];rw [if_pos (by omega),jy b f (by omega) (by omega),h1];simp only [Option.bind_some,if_true];rw [jy a f ha (by omega),h2'];simp only [Option.bind_some,Bool.false_eq_true,if_false];rw [k8 e (by omega),k8 f (by omega),if_pos (by omega),if_pos (by omega),gp e (by omega),gp f (by omega),key f hf h2',qd l _ hn q (by omega),h3];rfl)
  (by
   intro f hf hp r hr;by_cases h1:b.testBit f = true
   ·by_cases h2:a.testBit f = true
    ·refine Ev.step (fun k=>?_) hr
     simp only [aT.l0];rw [if_pos (by omega),jy b f (by omega) (by omega),h1];simp only [Option.bind_some,if_true];rw [jy a f ha (by omega),h2];simp only [Option.bind_some,if_true];rw [cX.dO f (by omega)]
    ·have h2':a.testBit f = false:=by simpa using h2
     have h3:l.contains (a - 2 ^ e+2 ^ f) = false:=by
      rw [h1,h2'] at hp;simpa using hp
     refine Ev.step (f:=fun k=>(bj.f k (ints l) ((a - 2 ^ e+2 ^ f:Nat):Int)).bind fun t=>(if t = true then (some true) else (aT.l0 k (a:Int) (b:Int) (e:Int) ((f+1:Nat):Int) (m:Int) (ints l)))) (fun k=>?_) ?_
     ·simp only [aT.l0]
      rw [if_pos (by omega),jy b f (by omega) (by omega),h1];simp only [Option.bind_some,if_true];rw [jy a f ha (by omega),h2'];simp only [Option.bind_some,Bool.false_eq_true,if_false];rw [k8 e (by omega),k8 f (by omega),if_pos (by omega),if_pos (by omega),gp e (by omega),gp f (by omega),key f hf h2',cX.dO f (by omega)]
     ·refine Ev.bind (cX.en (l.length+1) (fun k hk=>qd l _ hn k (by omega))) ?_
      rw [h3];exact hr
   ·have h1':b.testBit f = false:=by simpa using h1
    refine Ev.step (fun k=>?_) hr;simp only [aT.l0];rw [if_pos (by omega),jy b f (by omega) (by omega),h1'];simp only [Option.bind_some,Bool.false_eq_true,if_false];rw [cX.dO f (by omega)]) m 0 (by omega)
 have e8:((List.range' 0 m).any fun f=>b.testBit f && !a.testBit f && l.contains (a - 2 ^ e+2 ^ f)) = fZ l a b e:=uY m hm _ (fun j hj=>by rw [fX hb hj];rfl);rw [e8] at X Y;cases hx:fZ l a b e with
 | true =>
  obtain ⟨r,rfl,hE⟩:=X hx;exact hE
 | false =>
  refine Y hx _ (cX.en 1 (fun k hk=>?_));obtain ⟨q,rfl⟩:∃ q,k = q+1:=⟨k - 1,by omega⟩
  simp only [aT.l0];rw [if_neg (by omega)]
theorem tU (m:Nat) (hm:m≤8) (l:List Nat) (hl:∀ s∈l,s < 2 ^ m) (hn:l.length≤1048576) (hf:qU (m:Int) (ints l) = true) :
  ∃ x y z,Ev (fun k=>av.f k (m:Int) (ints l)) (x,y,z,eJ l):=by
 have a3:=bM hm;have hlt:∀ i,i < l.length→l.getD i 0 < 256:=fun i hi=>Nat.lt_of_lt_of_le (hl _ (cO l 0 i hi)) a3
 have a2:∀ i,i < l.length→l.getD i 0 < 2 ^ m:=fun i hi=>hl _ (cO l 0 i hi)
 have round:∀ x y z:Nat,x < l.length→y < l.length→z < m→∀ r,(((l.getD x 0).testBit z && !(l.getD y 0).testBit z && !fZ l (l.getD x 0) (l.getD y 0) z) = true→r.2.2.2 = true→r = (((l.getD x 0:Nat):Int),((l.getD y 0:Nat):Int),(z:Int),true)→Ev (fun k=>av.l2 k (x:Int) (y:Int) (z:Int) (m:Int) (ints l)) r) ∧
   (((l.getD x 0).testBit z && !(l.getD y 0).testBit z && !fZ l (l.getD x 0) (l.getD y 0) z) = false→Ev (fun k=>av.l2 k (x:Int) (y:Int) ((z+1:Nat):Int) (m:Int) (ints l)) r→Ev (fun k=>av.l2 k (x:Int) (y:Int) (z:Int) (m:Int) (ints l)) r):=by
  intro x y z hx hy hz r;have ha:=hlt x hx;have hb:=hlt y hy;have a1:∀ k,av.l2 (k+1) (x:Int) (y:Int) (z:Int) (m:Int) (ints l) = (if (l.getD x 0).testBit z = true then (if (l.getD y 0).testBit z = true then av.l2 k (x:Int) (y:Int) ((z+1:Nat):Int) (m:Int) (ints l) else ((aT.f k (m:Int) (ints l) ((l.getD x 0:Nat):Int) ((l.getD y 0:Nat):Int) (z:Int)).bind fun t=>(if t = true then av.l2 k (x:Int) (y:Int) ((z+1:Nat):Int) (m:Int) (ints l) else some (((l.getD x 0:Nat):Int),((l.getD y 0:Nat):Int),(z:Int),true)))) else av.l2 k (x:Int) (y:Int) ((z+1:Nat):Int) (m:Int) (ints l)):=fun k=>by
   simp only [av.l2];rw [if_pos (by omega),if_pos (by omega),if_pos (by rw [aA];omega),if_pos (by omega),if_pos (by rw [aA];omega),dR,dR,jy _ z ha (by omega)];simp only [Option.bind_some];rw [jy _ z hb (by omega)];simp only [Option.bind_some];rw [cX.dO z (by omega)]
  cases h1:(l.getD x 0).testBit z with
  | false =>
   refine ⟨fun h=>by simp at h,fun _ hr=>Ev.step (fun k=>?_) hr⟩;rw [a1,h1,if_neg (by decide)]
  | true =>
   cases h2:(l.getD y 0).testBit z with
   | true =>
    refine ⟨fun h=>by simp at h,fun _ hr=>Ev.step (fun k=>?_) hr⟩;rw [a1,h1,h2,if_pos rfl,if_pos rfl]
   | false =>
    have hE:=qe m hm l hn (l.getD x 0) (l.getD y 0) z ha (a2 y hy) (by omega) h1;cases h3:fZ l (l.getD x 0) (l.getD y 0) z with
    | true =>
     rw [h3] at hE;refine ⟨fun h=>by simp at h,fun _ hr=>Ev.step (fun k=>?_) (Ev.bind hE (f:=fun k t=>(if t = true then av.l2 k (x:Int) (y:Int) ((z+1:Nat):Int) (m:Int) (ints l) else some (((l.getD x 0:Nat):Int),((l.getD y 0:Nat):Int),(z:Int),true))) (by simp only [if_true];exact hr))⟩;rw [a1,h1,h2,if_pos rfl,if_neg (by decide)]
    | false =>
     rw [h3] at hE;refine ⟨fun _ _ e=>?_,fun h=>by simp at h⟩;subst e;refine Ev.step (fun k=>?_) (Ev.bind hE (f:=fun k t=>(if t = true then av.l2 k (x:Int) (y:Int) ((z+1:Nat):Int) (m:Int) (ints l) else some (((l.getD x 0:Nat):Int),((l.getD y 0:Nat):Int),(z:Int),true))) (by simp only [Bool.false_eq_true,if_false];exact Ev.now _));rw [a1,h1,h2,if_pos rfl,if_neg (by decide)]
 have inner:∀ x y:Nat,x < l.length→y < l.length→∀ d i:Nat,i+d = m→_:=fun x y hx hy =>
  iW (fun k z=>av.l2 k (x:Int) (y:Int) z (m:Int) (ints l)) m
   (fun z=>(l.getD x 0).testBit z && !(l.getD y 0).testBit z && !fZ l (l.getD x 0) (l.getD y 0) z) (fun r=>r.2.2.2 = true)
   (fun z hz hp=>⟨_,rfl,(round x y z hx hy hz (((l.getD x 0:Nat):Int),((l.getD y 0:Nat):Int),(z:Int),true)).1 hp rfl rfl⟩)
   (fun z hz hp r hr=>(round x y z hx hy hz r).2 hp hr)
 have Y:∀ x y:Nat,x < l.length→((List.range' 0 m).any fun z=>(l.getD x 0).testBit z && !(l.getD y 0).testBit z && !fZ l (l.getD x 0) (l.getD y 0) z) = (List.range' 0 8).any fun e=>(l.getD x 0).testBit e && !(l.getD y 0).testBit e && !fZ l (l.getD x 0) (l.getD y 0) e:=fun x y hx=>uY m hm _ (fun j hj=>by rw [fX (a2 x hx) hj];rfl)
 have middle:∀ x:Nat,x < l.length→∀ d i:Nat,i+d = l.length→_:=fun x hx =>
  iW (fun k y=>av.l1 k (x:Int) y (m:Int) (ints l)) l.length
   (fun y=>(List.range' 0 8).any fun e=>(l.getD x 0).testBit e && !(l.getD y 0).testBit e && !fZ l (l.getD x 0) (l.getD y 0) e) (fun r=>r.2.2.2 = true)
   (by
    intro y hy hp;obtain ⟨h1,_⟩:=inner x y hx hy m 0 (by omega);rw [Y x y hx] at h1;obtain ⟨r,hr,hE⟩:=h1 hp;refine ⟨r,hr,Ev.step (fun k=>?_) hE⟩;simp only [av.l1];rw [if_pos (by rw [aA];omega)];rfl)
   (by
    intro y hy hp r hr;obtain ⟨_,h2⟩:=inner x y hx hy m 0 (by omega);rw [Y x y hx] at h2;refine Ev.step (fun k=>?_) (h2 hp r (Ev.step (fun k=>by
     simp only [av.l2];rw [if_neg (by omega),cX.dO y (by omega)]) hr))
    simp only [av.l1];rw [if_pos (by rw [aA];omega)];rfl)
 have X:∀ x:Nat,((List.range' 0 l.length).any fun y=>(List.range' 0 8).any fun e=>(l.getD x 0).testBit e && !(l.getD y 0).testBit e && !fZ l (l.getD x 0) (l.getD y 0) e) = l.any fun b=>(List.range' 0 8).any fun e=>(l.getD x 0).testBit e && !b.testBit e && !fZ l (l.getD x 0) b e:=fun x=>iX l 0 (fun b=>(List.range' 0 8).any fun e=>(l.getD x 0).testBit e && !b.testBit e && !fZ l (l.getD x 0) b e)
 obtain ⟨o1,o2⟩:=iW (fun k x=>av.l0 k x (m:Int) (ints l)) l.length
   (fun x=>l.any fun b=>(List.range' 0 8).any fun e=>(l.getD x 0).testBit e && !b.testBit e && !fZ l (l.getD x 0) b e) (fun r=>r.2.2.2 = true)
   (by
    intro x hx hp;obtain ⟨h1,_⟩:=middle x hx l.length 0 (by omega);rw [X] at h1;obtain ⟨r,hr,hE⟩:=h1 hp;refine ⟨r,hr,Ev.step (fun k=>?_) hE⟩;simp only [av.l0];rw [if_pos (by rw [aA];omega)];rfl)
   (by
    intro x hx hp r hr;obtain ⟨_,h2⟩:=middle x hx l.length 0 (by omega);rw [X] at h2;refine Ev.step (fun k=>?_) (h2 hp r (Ev.step (fun k=>by
     simp only [av.l1];rw [if_neg (by rw [aA];omega),cX.dO x (by omega)]) hr))
    simp only [av.l0];rw [if_pos (by rw [aA];omega)];rfl) l.length 0 (by omega)
 have a0:((List.range' 0 l.length).any fun x=>l.any fun b=>(List.range' 0 8).any fun e=>(l.getD x 0).testBit e && !b.testBit e && !fZ l (l.getD x 0) b e) = eJ l:=by
  unfold eJ;exact iX l 0 (fun a=>l.any fun b=>(List.range' 0 8).any fun e=>a.testBit e && !b.testBit e && !fZ l a b e)
 rw [a0] at o1 o2;have start:∀ r,Ev (fun k=>av.l0 k 0 (m:Int) (ints l)) r→Ev (fun k=>av.f k (m:Int) (ints l)) r:=fun r hr=>by
  unfold av.f;refine Ev.bind (cX.en (l.length+1) (fun k hk=>oo (m:Int) (ints l) (by rw [aA];exact hn) k (by rw [aA];omega))) ?_;rw [hf];simp only [if_true];exact hr
 cases hfl:eJ l with
 | true =>
  obtain ⟨⟨x,y,z,b⟩,hb,hE⟩:=o1 hfl;simp only at hb;subst hb;exact ⟨x,y,z,start _ hE⟩
 | false =>
  refine ⟨0,0,0,start _ (o2 hfl _ (cX.en 1 (fun k hk=>?_)))⟩;obtain ⟨q,rfl⟩:∃ q,k = q+1:=⟨k - 1,by omega⟩
  simp only [av.l0];rw [if_neg (by rw [aA];omega)]
def dm (n:Int) (l:List Int):Bool:=qU n l && decide (0 < l.length) && !eJ (l.map Int.toNat)
theorem cu (l:List Nat):(ints l).map Int.toNat = l:=by
 unfold ints;rw [List.map_map];conv=>rhs;rw [← List.map_id l]
 exact List.map_congr_left fun x _=>by simp
theorem kx (n:Int) (l:List Int) (hn:l.length≤1048576):Ev (fun k=>ct.f k n l) (dm n l):=by
 unfold ct.f dm;have hF:Ev (fun k=>cw.f k n l) (qU n l):=cX.en (l.length+1) (fun k hk=>om n l hn k (by omega));cases hf:qU n l with
 | false =>
  rw [hf] at hF;refine Ev.bind (a:=(0,0,0,false)) ?_ (Ev.bind hF (by simp only [Bool.false_eq_true,if_false];exact Ev.now _));unfold aK.f;exact Ev.bind hF (by simp only [Bool.false_eq_true,if_false];exact Ev.now _)
 | true =>
  rw [hf] at hF;obtain ⟨m,j,rfl,hm,rfl,hl⟩:=qc hf;rw [cu];rw [aA] at hn;obtain ⟨x,y,z,hE⟩:=tT m hm j hl hn hf;refine Ev.bind hE (Ev.bind hF ?_);simp only [if_true,aA];by_cases h0:0 < j.length
  ·simp only [if_pos (show (j.length:Int) > 0 by omega),decide_eq_true h0,Bool.true_and]
   exact Ev.now _
  ·simp only [if_neg (show ¬ (j.length:Int) > 0 by omega),decide_eq_false h0,Bool.true_and,Bool.false_and]
   exact Ev.now _
theorem iI (n:Int) (l:List Int) (hn:l.length≤1048576):Ev (fun k=>aY.f k n l) (dm n l):=by
 unfold aY.f dm;have hF:Ev (fun k=>bp.f k n l) (qU n l):=cX.en (l.length+1) (fun k hk=>oo n l hn k (by omega));cases hf:qU n l with
 | false =>
  rw [hf] at hF;refine Ev.bind (a:=(0,0,0,false)) ?_ (Ev.bind hF (by simp only [Bool.false_eq_true,if_false];exact Ev.now _));unfold av.f;exact Ev.bind hF (by simp only [Bool.false_eq_true,if_false];exact Ev.now _)
 | true =>
  rw [hf] at hF;obtain ⟨m,j,rfl,hm,rfl,hl⟩:=qc hf;rw [cu];rw [aA] at hn;obtain ⟨x,y,z,hE⟩:=tU m hm j hl hn hf;refine Ev.bind hE (Ev.bind hF ?_);simp only [if_true,aA];by_cases h0:0 < j.length
  ·simp only [if_pos (show (j.length:Int) > 0 by omega),decide_eq_true h0,Bool.true_and]
   exact Ev.now _
  ·simp only [if_neg (show ¬ (j.length:Int) > 0 by omega),decide_eq_false h0,Bool.true_and,Bool.false_and]
   exact Ev.now _
end kH
end
section
namespace gz
open Go.RowKit Go.Proofs.YtlfkfdmggpipbaaGreat.Pr Go.Proofs.YtlfkfdmggpipbaaGreat.Sets kH ag.aZ ag.bR ag.bT
set_option linter.unusedVariables false
def cnt (s:Nat):Nat:=(elems s).length
theorem jg (s:Nat):cnt s≤8:=fN s
set_option maxRecDepth 100000 in
theorem s9:∀ s:Nat,s < 256→eu.f (s:Int) = some (cnt s:Int):=by decide +kernel
theorem mS (s:Nat) (h:s < 256):eu.f (s:Int) = some (cnt s:Int):=s9 s h
set_option maxRecDepth 100000 in
theorem si:∀ s:Nat,s < 256→b9.f 10 (s:Int) = some (cnt s:Int):=by decide +kernel
theorem tV (s:Nat) (h:s < 256) (k:Nat) (hk:10≤k):b9.f k (s:Int) = some (cnt s:Int):=by
 induction k with
 | zero=>omega
 | succ k ih =>
  by_cases e:10≤k
  ·exact b9.mono _ _ _ (ih e)
  ·obtain rfl:k = 9:=by omega
   exact si s h
theorem fI (s:Nat) (h:s < 256):Ev (fun k=>b9.f k (s:Int)) (cnt s:Int):=cX.en 10 (fun k hk=>tV s h k hk)
def bW (l:List Nat) (s:Nat):Nat:=l.foldl (fun m b=>max m (cnt (s &&& b))) 0
theorem j9 {σ:Type} (l:List Nat) (f:σ→Nat→σ) (s:σ):(List.range' 0 l.length).foldl (fun s i=>f s (l.getD i 0)) s = l.foldl f s:=by
 have e:l = (List.range' 0 l.length).map fun i=>l.getD i 0:=by
  rw [← List.range_eq_range',cX.pe]
 conv=>rhs;rw [e]
 rw [List.foldl_map]
theorem vl {a b n:Nat} (ha:a < 2 ^ n):a &&& b < 2 ^ n:=Nat.lt_of_le_of_lt Nat.and_le_left ha
theorem k9 (m:Nat) (l:List Nat) (s:Nat) (hs:s < 256) (hl:∀ b∈l,b < 256) (hn:l.length≤1048576):Ev (fun k=>cS.f k (m:Int) (ints l) (s:Int)) (bW l s:Int):=by
 unfold cS.f;have e:bW l s = (List.range' 0 l.length).foldl (fun o i=>max o (cnt (s &&& l.getD i 0))) 0:=(j9 l (fun o b=>max o (cnt (s &&& b))) 0).symm;rw [e];have key:=cX.fF (fun k (o:Nat) i=>cS.l0 k (s:Int) (o:Int) i (m:Int) (ints l)) l.length (fun i o=>max o (cnt (s &&& l.getD i 0))) (fun _ _=>True) (((List.range' 0 l.length).foldl (fun o i=>max o (cnt (s &&& l.getD i 0))) 0:Nat):Int) (fun i o hi _=>⟨trivial,fun h=>?_⟩) l.length 0 0 (by omega) trivial (fun _=>cX.en 1 (fun k hk=>?_))
 ·exact key
 ·have hb:=hl _ (cO l 0 i hi)
  refine Ev.step (f:=fun k=>(b9.f k (Go.bits .and .i64 (rd (ints l) (i:Int)) (s:Int))).bind fun j=>((fH.f (o:Int) j).bind fun y=>(cS.l0 k (s:Int) y (wrap64 ((i:Int)+1)) (m:Int) (ints l)))) (fun k=>?_) ?_
  ·simp only [cS.l0]
   rw [if_pos (by rw [aA];omega),if_pos (by omega)]
  ·rw [dR,nH _ s (by omega) (by omega),Nat.and_comm,cX.dO i (by omega)]
   refine Ev.bind (fI _ (vl (n:=8) hs)) ?_;have hx:fH.f (o:Int) (cnt (s &&& l.getD i 0):Int) = some ((max o (cnt (s &&& l.getD i 0)):Nat):Int):=by
    unfold fH.f;split <;> · congr 1;omega
   rw [hx];exact h
 ·obtain ⟨q,rfl⟩:∃ q,k = q+1:=⟨k - 1,by omega⟩
  simp only [cS.l0];rw [if_neg (by rw [aA];omega)]
theorem mc (p:Nat→Bool) (q:List Nat) (o:Nat) (j:Nat):(q.foldl (fun o e=>if p e = true then o ||| 2 ^ e else o) o).testBit j = (o.testBit j || q.any fun e=>p e && decide (e = j)):=by
 induction q generalizing o with
 | nil=>simp
 | cons a q ih =>
  rw [List.foldl_cons,ih,List.any_cons];cases h:p a with
  | false=>simp
  | true =>
   simp only [if_true,Nat.testBit_or,Nat.testBit_two_pow,Bool.true_and];rw [Bool.or_assoc]
theorem hJ {a b n:Nat} (ha:a < 2 ^ n) (hb:b < 2 ^ n):a ||| b < 2 ^ n:=Nat.or_lt_two_pow ha hb
theorem gP {e m:Nat} (h:e < m):2 ^ e < 2 ^ m:=Nat.pow_lt_pow_right (by decide) h
theorem nI (m:Nat) (h:m < 2 ^ 62):IntKind.u64.wrap (m:Int) = m:=by
 rw [IntKind.wrap_u64];omega
end gz
end
section
namespace Flat
open Go.RowKit Go.Proofs.YtlfkfdmggpipbaaGreat.Pr Go.Proofs.YtlfkfdmggpipbaaGreat.Sets kH gz ag.aZ ag.bR ag.bT
set_option linter.unusedVariables false
theorem sj {γ:Type} (l:List Int) (x:Int) (L:Nat→Int→Option γ) (yes no:γ) (hn:l.length≤1048576)
  (hstep:∀ k i,i < l.length→L (k+1) (i:Int) = if l.getD i 0 = x then some yes else L k ((i+1:Nat):Int))
  (hend:∀ k,L (k+1) (l.length:Int) = some no):Ev (fun k=>L k 0) (if l.contains x = true then yes else no):=by
 have key:∀ d i:Nat,i+d = l.length→Ev (fun k=>L k (i:Int)) (if (l.drop i).contains x = true then yes else no):=by
  intro d;induction d with
  | zero =>
   intro i hi;obtain rfl:i = l.length:=by omega
   rw [List.drop_length];refine cX.en 1 (fun k hk=>?_);obtain ⟨q,rfl⟩:∃ q,k = q+1:=⟨k - 1,by omega⟩
   rw [hend];rfl
  | succ d ih =>
   intro i hi;have hlt:i < l.length:=by omega
   have hd:l.drop i = l.getD i 0 :: l.drop (i+1):=by
    rw [List.drop_eq_getElem_cons hlt];simp [List.getD,hlt]
   rw [hd,List.contains_cons];by_cases e:l.getD i 0 = x
   ·refine cX.en 1 (fun k hk=>?_)
    obtain ⟨q,rfl⟩:∃ q,k = q+1:=⟨k - 1,by omega⟩
    rw [hstep q i hlt,if_pos e,e];simp
   ·have e':(x == l.getD i 0) = false:=by
     rw [beq_eq_false_iff_ne];exact fun h=>e h.symm
    rw [e',Bool.false_or];exact Ev.step (fun k=>by rw [hstep k i hlt,if_neg e]) (ih (i+1) (by omega))
 have:=key l.length 0 (by omega);rw [List.drop_zero] at this;exact this
theorem me (l:List Int) (x:Int) (hn:l.length≤1048576):Ev (fun k=>bj.f k l x) (l.contains x):=by
 unfold bj.f;have:=sj l x (fun k i=>bj.l0 k l x i) true false hn (fun k i hi=>by
  simp only [bj.l0];rw [if_pos (by omega),if_pos (by omega),cX.gN,cX.dO i (by omega)]) (fun k=>by
  simp only [bj.l0];rw [if_neg (by omega)])
 cases h:l.contains x <;> rw [h] at this <;> exact this
theorem qY (l:List Int) (x:Int) (hn:l.length≤1048576):Ev (fun k=>cW.f k l x) (l.contains x):=by
 unfold cW.f dZ.f bQ.f;have key:∀ d i:Nat,i+d = l.length→∃ r,Ev (fun k=>bQ.l0 k l x (l.length:Int) (i:Int)) r∧decide (r≥0) = (l.drop i).contains x:=by
  intro d;induction d with
  | zero =>
   intro i hi;obtain rfl:i = l.length:=by omega
   refine ⟨-1,cX.en 1 (fun k hk=>?_),by rw [List.drop_length];rfl⟩;obtain ⟨q,rfl⟩:∃ q,k = q+1:=⟨k - 1,by omega⟩
   simp only [bQ.l0];rw [if_neg (by omega)]
  | succ d ih =>
   intro i hi;have hlt:i < l.length:=by omega
   have hd:l.drop i = l.getD i 0 :: l.drop (i+1):=by
    rw [List.drop_eq_getElem_cons hlt];simp [List.getD,hlt]
   rw [hd,List.contains_cons];by_cases e:x = l.getD i 0
   ·refine ⟨(i:Int),cX.en 1 (fun k hk=>?_),?_⟩
    ·obtain ⟨q,rfl⟩:∃ q,k = q+1:=⟨k - 1,by omega⟩
     simp only [bQ.l0];rw [if_pos (by omega),if_pos (by omega),if_pos (by omega),cX.gN,if_pos e]
    ·rw [beq_iff_eq.2 e,Bool.true_or,decide_eq_true (by omega)]
   ·obtain ⟨r,h1,h2⟩:=ih (i+1) (by omega)
    refine ⟨r,Ev.step (fun k=>?_) h1,?_⟩
    ·simp only [bQ.l0]
     rw [if_pos (by omega),if_pos (by omega),if_pos (by omega),cX.gN,if_neg e,cX.dO i (by omega)]
    ·rw [h2,beq_eq_false_iff_ne.2 e,Bool.false_or]
 obtain ⟨r,h1,h2⟩:=key l.length 0 (by omega);rw [List.drop_zero] at h2;refine Ev.bind (a:=decide (r≥0)) (Ev.bind h1 (Ev.now _)) ?_;rw [h2];exact Ev.now _
theorem fq {n:Int} {l:List Int} (h:dm n l = true):∃ (m:Nat) (j:List Nat),n = m∧m≤8∧l = ints j∧(∀ s∈j,s < 2 ^ m)∧0 < j.length∧eJ j = false:=by
 unfold dm at h;rw [Bool.and_eq_true,Bool.and_eq_true,decide_eq_true_eq] at h;obtain ⟨⟨h1,h2⟩,h3⟩:=h;obtain ⟨m,j,rfl,hm,rfl,hl⟩:=qc h1;rw [cu] at h3;rw [aA] at h2;exact ⟨m,j,rfl,hm,rfl,hl,h2,by simpa using h3⟩
theorem tW {m:Nat} {s:Int} (h:isSet (m:Int) s = true):∃ x:Nat,s = x∧x < 2 ^ m:=by
 unfold isSet at h;rw [decide_eq_true_eq] at h;obtain ⟨_,_,h1,h2⟩:=h;rw [Int.toNat_natCast] at h2;refine ⟨s.toNat,by omega,?_⟩;have:((s.toNat:Nat):Int) < ((2 ^ m:Nat):Int):=by push_cast;omega
 exact_mod_cast this
theorem ke {m:Nat} {x:Nat} (hm:m≤8) (h:x < 2 ^ m):isSet (m:Int) (x:Int) = true:=by
 unfold isSet;rw [decide_eq_true_eq,Int.toNat_natCast];refine ⟨by omega,by omega,by omega,?_⟩;exact_mod_cast h
theorem ic (m:Nat) (hm:m≤8):dH.f (m:Int) = some ((2 ^ m - 1:Nat):Int):=by
 have:∀ m:Nat,m < 9→dH.f (m:Int) = some ((2 ^ m - 1:Nat):Int):=by decide +kernel
 exact this m (by omega)
theorem fh (m:Nat) (hm:m≤8):cn.f (m:Int) = some ((2 ^ m - 1:Nat):Int):=by
 have:∀ m:Nat,m < 9→cn.f (m:Int) = some ((2 ^ m - 1:Nat):Int):=by decide +kernel
 exact this m (by omega)
theorem foldl_filter (p:Nat→Bool) (q:List Nat):(q.foldl (fun (s:List Int) j=>if p j = true then s ++ [(j:Int)] else s) []) = ints (q.filter p):=by
 rw [cX.foldl_append,List.nil_append];rfl
theorem tX (L:Nat→List Int→Int→Option (List Int)) (n:Nat) (p:Nat→Bool)
  (j:∀ i s,i < n→s.length≤i→∀ r,Ev (fun k=>L k (if p i = true then s ++ [(i:Int)] else s) ((i+1:Nat):Int)) r→Ev (fun k=>L k s (i:Int)) r)
  (hend:∀ k s,L (k+1) s (n:Int) = some s):Ev (fun k=>L k [] 0) (ints ((List.range' 0 n).filter p)):=by
 rw [← foldl_filter];refine cX.fF L n (fun i s=>if p i = true then s ++ [(i:Int)] else s) (fun i s=>s.length≤i) _ (fun i s hi hP=>⟨?_,j i s hi hP _⟩) n 0 [] (by omega) (by simp) (fun _=>cX.en 1 (fun k hk=>?_))
 ·show (if _ then _ else _:List Int).length≤_
  split
  ·simp;omega
  ·omega
 ·obtain ⟨q,rfl⟩:∃ q,k = q+1:=⟨k - 1,by omega⟩
  exact hend _ _
theorem ot (m:Nat) (hm:m≤8) (g:Nat→Int→Option Bool) (p:Nat→Bool) (hg:∀ s:Nat,s < 2 ^ m→Ev (fun k=>g k (s:Int)) (p s)) (hmono:∀ k s,gW (g k s) (g (k+1) s)):Ev (fun k=>cC.f k (m:Int) (g k)) (ints ((List.range' 0 (2 ^ m)).filter p)):=by
 have X:=bM hm;have hpos:0 < 2 ^ m:=Nat.pow_pos (by decide);have hup:∀ s:Int,∀ a d r,g a s = some r→g (a+d) s = some r:=by
  intro s a d r h;induction d with
  | zero=>exact h
  | succ d ih=>exact hmono _ _ _ ih
 have all:∀ n:Nat,n≤2 ^ m→∃ K,∀ k,K≤k→∀ s:Nat,s < n→g k (s:Int) = some (p s):=by
  intro n;induction n with
  | zero=>exact fun _=>⟨0,fun k _ s hs=>by omega⟩
  | succ n ih =>
   intro hn;obtain ⟨K,hK⟩:=ih (by omega);obtain ⟨K',hK'⟩:=hg n (by omega);refine ⟨max K K',fun k hk s hs=>?_⟩;by_cases e:s = n
   ·subst e
    exact hK' k (by omega)
   ·exact hK k (by omega) s (by omega)
 obtain ⟨K,hK⟩:=all (2 ^ m) (Nat.le_refl _);have fixed:∀ j,K≤j→Ev (fun k=>cC.l0 (g j) k (m:Int) [] 0) (ints ((List.range' 0 (2 ^ m)).filter p)):=fun j y=>by
  refine tX (fun k s i=>cC.l0 (g j) k (m:Int) s i) (2 ^ m) p (fun i s hi hs r h=>Ev.step (fun k=>?_) h) (fun k s=>?_)
  ·simp only [cC.l0]
   rw [ic m hm];simp only [Option.bind_some];rw [if_pos (by omega),hK j y i hi];simp only [Option.bind_some];rw [cX.dO i (by omega)];cases p i with
   | false=>rfl
   | true=>rw [if_pos rfl,if_pos (by omega),if_pos rfl]
  ·simp only [cC.l0]
   rw [ic m hm];simp only [Option.bind_some];rw [if_neg (by omega)]
 have count:∀ j,K≤j→∀ (d i:Nat) (s:List Int) (k:Nat),i+d = 2 ^ m→d < k→s.length≤i→cC.l0 (g j) k (m:Int) s (i:Int) = cC.l0 (g K) k (m:Int) s (i:Int)∧∀ e,cC.l0 (g j) (k+e) (m:Int) s (i:Int) = cC.l0 (g j) k (m:Int) s (i:Int):=by
  intro j y d;induction d with
  | zero =>
   intro i s k hi hk hs;obtain rfl:i = 2 ^ m:=by omega
   obtain ⟨k,rfl⟩:∃ q,k = q+1:=⟨k - 1,by omega⟩
   refine ⟨?_,fun e=>?_⟩
   ·simp only [cC.l0]
    rw [ic m hm];simp only [Option.bind_some];rw [if_neg (by omega),if_neg (by omega)]
   ·rw [show k+1+e = (k+e)+1 by omega]
    simp only [cC.l0];rw [ic m hm];simp only [Option.bind_some];rw [if_neg (by omega),if_neg (by omega)]
  | succ d ih =>
   intro i s k hi hk hs;obtain ⟨k,rfl⟩:∃ q,k = q+1:=⟨k - 1,by omega⟩
   obtain ⟨Y,a2⟩:=ih (i+1) (s ++ [(i:Int)]) k (by omega) (by omega) (by simp;omega);obtain ⟨b1,b2⟩:=ih (i+1) s k (by omega) (by omega) (by omega);refine ⟨?_,fun e=>?_⟩
   ·simp only [cC.l0]
    rw [ic m hm];simp only [Option.bind_some];simp only [if_pos (show (i:Int)≤((2 ^ m - 1:Nat):Int) by omega),if_pos (show s.length < 17592186044416 by omega),hK j y i (by omega),hK K (Nat.le_refl _) i (by omega),cX.dO i (by omega),Option.bind_some,Y,b1]
   ·rw [show k+1+e = (k+e)+1 by omega]
    simp only [cC.l0];rw [ic m hm];simp only [Option.bind_some];simp only [if_pos (show (i:Int)≤((2 ^ m - 1:Nat):Int) by omega),if_pos (show s.length < 17592186044416 by omega),hK j y i (by omega),cX.dO i (by omega),Option.bind_some,a2,b2]
 obtain ⟨K2,z⟩:=fixed K (Nat.le_refl _);refine ⟨max (max K K2) (2 ^ m+1),fun k hk=>?_⟩;show cC.l0 (g k) k (m:Int) [] ((0:Nat):Int) = _;rw [(count k (by omega) (2 ^ m) 0 [] k (by omega) (by omega) (by simp)).1];exact z k (by omega)
end Flat
end
section
namespace wL
open Go.RowKit Go.Proofs.YtlfkfdmggpipbaaGreat.Pr Go.Proofs.YtlfkfdmggpipbaaGreat.Sets kH gz Go.Proofs.YtlfkfdmggpipbaaGreat.Flat ag.aZ ag.bR ag.bT
set_option linter.unusedVariables false
def iu (t s:Nat):Bool:=decide (t &&& s = t)
theorem tY (t s:Nat):diff t s = 0↔t &&& s = t:=by
 constructor
 ·intro h
  apply Nat.eq_of_testBit_eq
  intro i;have:=cD t s i;rw [h,Nat.zero_testBit] at this;rw [Nat.testBit_and];cases h1:t.testBit i <;> cases h2:s.testBit i <;> simp_all
 ·intro h
  apply Nat.eq_of_testBit_eq
  intro i;rw [cD,Nat.zero_testBit];have:=congrArg (fun x=>x.testBit i) h;simp only [Nat.testBit_and] at this;cases h1:t.testBit i <;> cases h2:s.testBit i <;> simp_all
theorem qf (t s:Nat) (ht:t < 256) (hs:s < 256):ep.f (t:Int) (s:Int) = some (iu t s):=by
 have ha:∀ x:Nat,x < 256→cK.f (x:Int) = some true:=fun x hx=>by
  unfold cK.f;rw [if_pos (by omega),decide_eq_true (by omega)]
 unfold ep.f iu;rw [ha t ht,ha s hs];simp only [Option.bind_some,if_true];rw [fW t s (by omega)];congr 1
 rw [Bool.eq_iff_iff,beq_iff_eq,decide_eq_true_eq,← tY];omega
end wL
end
section
namespace jd
open Go.RowKit Go.Proofs.YtlfkfdmggpipbaaGreat.Sets gz
set_option linter.unusedVariables false
theorem gf (s:Nat):cnt s = (List.range' 0 8).countP fun j=>s.testBit j:=by
 unfold cnt elems;rw [List.countP_eq_length_filter]
theorem jz {a b:Nat} (h:∀ j,j < 8→a.testBit j = true→b.testBit j = true):cnt a≤cnt b:=by
 rw [gf,gf];refine List.countP_mono_left fun j hj=>h j ?_
 have:=List.mem_range'_1.1 hj;omega
theorem sk (s b:Nat):cnt (s &&& b)≤cnt b:=jz fun j _ h=>by
 rw [Nat.testBit_and,Bool.and_eq_true] at h;exact h.2
theorem ou:∀ a,a < 256→∀ e,e < 8→∀ f,f < 8→a.testBit e = true→a.testBit f = false→cnt (diff a (2 ^ e) ||| 2 ^ f) = cnt a:=by decide +kernel
theorem qZ:∀ a,a < 256→∀ e,e < 8→a.testBit e = true→cnt (diff a (2 ^ e)) < cnt a:=by decide +kernel
theorem r5:∀ a,a < 256→0 < cnt a→∃ e,e < 8∧a.testBit e = true:=by decide +kernel
theorem iJ:∀ a,a < 256→cnt a = 0→a = 0:=by decide +kernel
theorem mT {l:List Nat} {a b e:Nat} (hf:eJ l = false) (ha:a∈l) (hb:b∈l) (he:e < 8) (h1:a.testBit e = true) (h2:b.testBit e = false):∃ f,f < 8∧b.testBit f = true∧a.testBit f = false∧(a - 2 ^ e+2 ^ f)∈l:=by
 have hx:fZ l a b e = true:=by
  cases h:fZ l a b e with
  | true=>rfl
  | false =>
   have:eJ l = true:=by
    unfold eJ;rw [List.any_eq_true];refine ⟨a,ha,List.any_eq_true.2 ⟨b,hb,List.any_eq_true.2 ⟨e,List.mem_range'_1.2 (by omega),?_⟩⟩⟩;rw [h1,h2,h];rfl
   rw [hf] at this;exact Bool.noConfusion this
 unfold fZ at hx;obtain ⟨f,y,j⟩:=List.any_eq_true.1 hx;have:=List.mem_range'_1.1 y;rw [Bool.and_eq_true,Bool.and_eq_true] at j;exact ⟨f,by omega,j.1.1,by simpa using j.1.2,by simpa using j.2⟩
theorem r6 (l:List Nat) (hl:∀ s∈l,s < 256) (hf:eJ l = false):∀ n a b:Nat,a∈l→b∈l→cnt (diff a b)≤n→cnt a≤cnt b:=by
 intro n;induction n with
 | zero =>
  intro a b ha hb h;have y:=hl a ha;have hz:diff a b = 0:=iJ _ (eG (n:=8) y) (by omega);refine jz fun j hj hbit=>?_
  have:=cD a b j;rw [hz,Nat.zero_testBit,hbit] at this;simpa using this.symm
 | succ n ih =>
  intro a b ha hb h;have y:=hl a ha;by_cases hle:cnt (diff a b)≤n
  ·exact ih a b ha hb hle
  ·obtain ⟨e,he,hbit⟩:=r5 _ (eG (n:=8) y) (show 0 < cnt (diff a b) by omega)
   have z:=hbit;rw [cD,Bool.and_eq_true] at z;obtain ⟨h1,h2⟩:=z;have h2':b.testBit e = false:=by simpa using h2
   obtain ⟨f,Y,hbf,X,hmem⟩:=mT hf ha hb he h1 h2';rw [← swap_eq a y e he f Y h1 X] at hmem;have hd:diff (diff a (2 ^ e) ||| 2 ^ f) b = diff (diff a b) (2 ^ e):=by
    apply Nat.eq_of_testBit_eq
    intro j;rw [cD,Nat.testBit_or,cD,cD,cD,Nat.testBit_two_pow,Nat.testBit_two_pow];by_cases ej:f = j
    ·subst ej
     rw [hbf,X];simp
    ·rw [decide_eq_false ej,Bool.or_false]
     cases a.testBit j <;> cases b.testBit j <;> cases decide (e = j) <;> rfl
   have hlt:=qZ _ (eG (n:=8) y) e he hbit;rw [← hd] at hlt;have:=ih _ b hmem hb (by omega);rw [ou a y e he f Y h1 X] at this;exact this
theorem hO {l:List Nat} (hl:∀ s∈l,s < 256) (hf:eJ l = false) {a b:Nat} (ha:a∈l) (hb:b∈l):cnt a = cnt b :=
 Nat.le_antisymm (r6 l hl hf _ a b ha hb (Nat.le_refl _)) (r6 l hl hf _ b a hb ha (Nat.le_refl _))
theorem gx (l:List Nat) (s r:Nat) (h:∀ b∈l,cnt (s &&& b)≤r):bW l s≤r:=by
 have:∀ (l:List Nat) (o:Nat),o≤r→(∀ b∈l,cnt (s &&& b)≤r)→l.foldl (fun m b=>max m (cnt (s &&& b))) o≤r:=by
  intro l;induction l with
  | nil=>exact fun o ho _=>ho
  | cons a l ih =>
   intro o ho h;rw [List.foldl_cons];have:=h a (by simp);exact ih _ (by omega) fun b hb=>h b (by simp [hb])
 exact this l 0 (by omega) h
theorem fO (l:List Nat) (s b:Nat) (hb:b∈l):cnt (s &&& b)≤bW l s:=by
 have mono:∀ (l:List Nat) (o:Nat),o≤l.foldl (fun m b=>max m (cnt (s &&& b))) o:=by
  intro l;induction l with
  | nil=>exact fun o=>Nat.le_refl _
  | cons a l ih =>
   intro o;rw [List.foldl_cons];exact Nat.le_trans (by omega) (ih _)
 have:∀ (l:List Nat) (o:Nat),b∈l→cnt (s &&& b)≤l.foldl (fun m b=>max m (cnt (s &&& b))) o:=by
  intro l;induction l with
  | nil=>exact fun o h=>by simp at h
  | cons a l ih =>
   intro o h;rw [List.foldl_cons];rcases List.mem_cons.1 h with rfl | h
   ·exact Nat.le_trans (by omega) (mono l _)
   ·exact ih _ h
 exact this l 0 hb
def top (l:List Nat):Nat:=cnt (l.getD 0 0)
theorem lu {l:List Nat} (hl:∀ s∈l,s < 256) (hf:eJ l = false) (hn:0 < l.length) (s:Nat):bW l s≤top l :=
 gx l s _ fun b hb=>Nat.le_trans (sk s b) (Nat.le_of_eq (hO hl hf hb (cO l 0 0 hn)))
end jd
end
section
namespace eP
open Go.RowKit Go.Proofs.YtlfkfdmggpipbaaGreat.Sets gz jd
set_option linter.unusedVariables false
def indep (l:List Nat) (s:Nat):Bool:=l.any fun b=>decide (s &&& b = s)
theorem vm {s b:Nat} (hs:s < 256) (h:s &&& b≠s):cnt (s &&& b) < cnt s:=by
 have hex:∃ j,s.testBit j = true∧b.testBit j = false:=by
  refine Classical.byContradiction fun hn=>h ?_
  apply Nat.eq_of_testBit_eq
  intro j;rw [Nat.testBit_and];cases h1:s.testBit j with
  | false=>rfl
  | true =>
   cases h2:b.testBit j with
   | true=>rfl
   | false=>exact absurd ⟨j,h1,h2⟩ hn
 obtain ⟨j,h1,h2⟩:=hex;have hj:j < 8:=by
  refine Nat.lt_of_not_le fun hle=>?_
  rw [fX (n:=8) hs hle] at h1;exact Bool.noConfusion h1
 refine Nat.lt_of_le_of_lt (jz fun i _ hi=>?_) (qZ s hs j hj h1);rw [Nat.testBit_and,Bool.and_eq_true] at hi;rw [cD,Nat.testBit_two_pow,hi.1,Bool.true_and];by_cases e:j = i
 ·subst e
  rw [h2] at hi;exact absurd hi.2 (by decide)
 ·rw [decide_eq_false e]
  rfl
theorem lU {l:List Nat} {s:Nat} (hs:s < 256) (hn:0 < l.length):decide (bW l s < cnt s) = !indep l s:=by
 cases h:indep l s with
 | true =>
  unfold indep at h;obtain ⟨b,hb,he⟩:=List.any_eq_true.1 h;rw [decide_eq_true_eq] at he;have:=fO l s b hb;rw [he] at this;rw [decide_eq_false (by omega)];rfl
 | false =>
  unfold indep at h;rw [List.any_eq_false] at h;have hlt:∀ b∈l,cnt (s &&& b) < cnt s:=fun b hb=>vm hs (by simpa using h b hb)
  have h0:=hlt _ (cO l 0 0 hn);have:=gx l s (cnt s - 1) fun b hb=>by have:=hlt b hb;omega
  rw [decide_eq_true (by omega)];rfl
theorem nr {l:List Nat} {s:Nat} (hs:s < 256) (hn:0 < l.length):decide (bW l s = cnt s) = indep l s:=by
 have h:=lU (l:=l) hs hn;have hle:bW l s≤cnt s:=gx l s _ fun b _=>jz fun j _ hj=>by
  rw [Nat.testBit_and,Bool.and_eq_true] at hj;exact hj.1
 cases hi:indep l s with
 | true =>
  rw [hi,Bool.not_true,decide_eq_false_iff_not] at h;rw [decide_eq_true (by omega)]
 | false =>
  rw [hi,Bool.not_false,decide_eq_true_eq] at h;rw [decide_eq_false (by omega)]
theorem lV {l:List Nat} (hn:0 < l.length):indep l 0 = true:=by
 unfold indep;rw [List.any_eq_true];exact ⟨_,cO l 0 0 hn,by simp⟩
end eP
end
section
namespace qH
open Go.RowKit Go.Proofs.YtlfkfdmggpipbaaGreat.Pr Go.Proofs.YtlfkfdmggpipbaaGreat.Sets kH gz Go.Proofs.YtlfkfdmggpipbaaGreat.Flat Go.Proofs.YtlfkfdmggpipbaaGreat.Sort wL eP ag.aZ ag.bR ag.bT
set_option linter.unusedVariables false
theorem xd (l:List Nat) (hl:∀ s∈l,s < 256) (hn:l.length≤1048576):Ev (fun k=>dI.f k (ints l)) true:=by
 refine cX.en (l.length+1) (fun k hk=>?_);unfold dI.f;have:=cX.j7 (fun k i=>dI.l0 k (ints l) ((ints l).length:Int) i) l.length (fun _=>true) 0 true (fun k i _ hi=>by
  simp only [dI.l0];have hb:=hl _ (cO l 0 i hi);unfold cK.f;rw [if_pos (by rw [aA];omega),if_pos (by omega),if_pos (by rw [aA];omega),dR,if_pos (by omega),decide_eq_true (by omega),cX.dO i (by omega)];rfl) (fun k _=>by
  simp only [dI.l0];rw [if_neg (by rw [aA];omega)]) l.length 0 k (by omega) (by omega)
 simpa [cX.nG] using this
theorem xe (l:List Nat) (hl:∀ s∈l,s < 256) (hn:l.length≤1048576):Ev (fun k=>bB.f k 8 (ints l)) true:=by
 refine cX.en (l.length+1) (fun k hk=>?_);unfold bB.f;have:=cX.j7 (fun k i=>bB.l0 k 8 (ints l) i) l.length (fun _=>true) 0 true (fun k i _ hi=>by
  simp only [bB.l0];have hb:=hl _ (cO l 0 i hi);have e:=ke (m:=8) (by omega) (x:=l.getD i 0) (by omega);rw [if_pos (by rw [aA];omega),if_pos (by omega),dR,k7,show (8:Int) = ((8:Nat):Int) from rfl,e,cX.dO i (by omega)];rfl) (fun k _=>by
  simp only [bB.l0];rw [if_neg (by rw [aA];omega)]) l.length 0 k (by omega) (by omega)
 simpa [cX.nG] using this
def kept (p:Nat→Nat→Bool) (l:List Nat):List Int:=sset (ints (l.filter fun s=>!l.any fun t=>!decide (t = s) && p t s))
theorem jA {l:List Nat} {x:Int}:x∈ints l↔∃ y∈l,x = (y:Int):=by
 unfold ints;rw [List.mem_map];constructor
 ·rintro ⟨y,h,rfl⟩;exact ⟨y,h,rfl⟩
 ·rintro ⟨y,h,rfl⟩;exact ⟨y,h,rfl⟩
theorem r7 (l:List Nat) (p:Nat→Bool):(sset (ints l)).filter (fun x=>p x.toNat) = sset (ints (l.filter p)):=by
 refine q8 _ _ ((jM _).filter _) (jM _) fun x=>?_
 rw [List.mem_filter,jx,jx,jA,jA];constructor
 ·rintro ⟨⟨y,h1,rfl⟩,h2⟩
  exact ⟨y,List.mem_filter.2 ⟨h1,by simpa using h2⟩,rfl⟩
 ·rintro ⟨y,h1,rfl⟩
  obtain ⟨h2,h3⟩:=List.mem_filter.1 h1;exact ⟨⟨y,h2,rfl⟩,by simpa using h3⟩
theorem mg (l:List Nat):∃ q:List Nat,sset (ints l) = ints q∧(∀ s,s∈q↔s∈l)∧q.length≤l.length:=by
 have h:∀ x∈sset (ints l),∃ y∈l,x = (y:Int):=fun x hx=>jA.1 ((jx _ _).1 hx)
 refine ⟨(sset (ints l)).map Int.toNat,?_,fun s=>?_,?_⟩
 ·unfold ints
  rw [List.map_map];conv=>lhs;rw [← List.map_id (sset _)]
  refine List.map_congr_left fun x hx=>?_
  obtain ⟨y,_,rfl⟩:=h x hx;rfl
 ·rw [List.mem_map]
  constructor
  ·rintro ⟨x,hx,rfl⟩
   obtain ⟨y,hy,rfl⟩:=h x hx;simpa using hy
  ·intro hs
   exact ⟨(s:Int),(jx _ _).2 (jA.2 ⟨s,hs,rfl⟩),by simp⟩
 ·rw [List.length_map]
  have:=j8 (ints l);rw [aA] at this;exact this
theorem sY {α:Type} (l:List α) (p:α→Bool):(l.all fun x=>!p x) = !l.any p:=by
 induction l with
 | nil=>rfl
 | cons a l ih=>rw [List.all_cons,List.any_cons,ih];cases p a <;> cases l.any p <;> rfl
theorem vn (l:List Nat) (hn:l.length≤1048576) (p:Nat→Nat→Bool) (C:Int→Int→Option Bool) (L:Nat→List Int→List Int→List Int→Int→Option (List Int))
  (hC:∀ s∈l,∀ t∈l,C (s:Int) (t:Int) = some (!decide (t = s) && p t s))
  (hL:∀ k q y j,L (k+1) (ints l) q y j = if j < (q.length:Int) then (if 0≤j then ((bf.f k (ints l) (fun t=>C (rd q j) t)).bind fun b=>(if b = true then (L k (ints l) q y (wrap64 (j+1))) else (if y.length < 17592186044416 then (L k (ints l) q (y ++ [rd q j]) (wrap64 (j+1))) else (none)))) else (none)) else (some y)) :
  Ev (fun k=>L k (ints l) (sset (ints l)) [] 0) (kept p l):=by
 obtain ⟨q,hq,hmem,hlen⟩:=mg l;unfold kept;rw [← r7,hq];have key:=cX.fF (fun k (s:List Int) i=>L k (ints l) (ints q) s i) q.length (fun i s=>if (!l.any fun t=>!decide (t = q.getD i 0) && p t (q.getD i 0)) = true then s ++ [((q.getD i 0:Nat):Int)] else s) (fun i s=>s.length≤i) ((ints q).filter fun x=>!l.any fun t=>!decide (t = x.toNat) && p t x.toNat) (fun i s hi hP=>⟨?_,fun h=>?_⟩) q.length 0 [] (by omega) (by simp) (fun _=>?_)
 ·exact key
 ·show (if _ then _ else _:List Int).length≤_
  split
  ·simp;omega
  ·omega
 ·have hqi:q.getD i 0∈l:=(hmem _).1 (cO q 0 i hi)
  refine Ev.step (f:=fun k=>(bf.f k (ints l) (fun t=>C ((q.getD i 0:Nat):Int) t)).bind fun b=>(if b = true then (L k (ints l) (ints q) s ((i+1:Nat):Int)) else (L k (ints l) (ints q) (s ++ [((q.getD i 0:Nat):Int)]) ((i+1:Nat):Int)))) (fun k=>?_) ?_
  ·show L (k+1) (ints l) (ints q) s (i:Int) = _
   rw [hL,if_pos (by rw [aA];omega),if_pos (by omega),dR,cX.dO i (by omega),if_pos (by omega)]
  ·refine Ev.bind (cX.en (l.length+1) (fun k hk=>kH.jj _ l (fun t=>!decide (t = q.getD i 0) && p t (q.getD i 0)) hn (fun t ht=>hC _ hqi t ht) k (by omega))) ?_
   cases hb:l.any fun t=>!decide (t = q.getD i 0) && p t (q.getD i 0) with
   | true =>
    rw [hb] at h;simpa using h
   | false =>
    rw [hb] at h;simpa using h
 ·refine Ev.step (f:=fun _=>some ((ints q).filter fun x=>!l.any fun t=>!decide (t = x.toNat) && p t x.toNat)) (fun k=>?_) (Ev.now _)
  show L (k+1) (ints l) (ints q) _ _ = _;rw [hL,if_neg (by rw [aA];omega)];congr 1
  have e:∀ (r:List Nat) (s:List Int),r.foldl (fun s i=>if (!l.any fun t=>!decide (t = i) && p t i) = true then s ++ [((i:Nat):Int)] else s) s = s ++ (ints r).filter fun x=>!l.any fun t=>!decide (t = x.toNat) && p t x.toNat:=by
   intro r;induction r with
   | nil=>intro s;simp [ints]
   | cons a r ih =>
    intro s;rw [List.foldl_cons,ih];show _ = s ++ ((a:Int) :: ints r).filter _;rw [List.filter_cons];simp only [Int.toNat_natCast];split
    ·simp
    ·rfl
  rw [j9 q (fun s i=>if (!l.any fun t=>!decide (t = i) && p t i) = true then s ++ [((i:Nat):Int)] else s) [],e];simp
def sn (l:List Nat):List Int:=kept iu l
theorem vo (l:List Nat) (hl:∀ s∈l,s < 256) (hn:l.length≤1048576):Ev (fun k=>cN.f k (ints l)) (sn l):=by
 unfold cN.f;refine Ev.bind (xd l hl hn) ?_;simp only [if_true];have hs:=oh (ints l) (by rw [aA];exact hn);rw [hs];simp only [Option.bind_some];refine vn l hn iu dc.f cN.l0 (fun s hs t ht=>?_) (fun k q y j=>by rw [cN.l0]);unfold dc.f;by_cases e:t = s
 ·subst e
  rw [if_pos rfl];simp
 ·rw [if_neg (by omega),qf t s (hl t ht) (hl s hs),decide_eq_false e]
  simp
theorem vp (l:List Nat) (hl:∀ s∈l,s < 256) (hn:l.length≤1048576) (p:Nat→Nat→Bool) (z:Nat→List Int→List Int→Int→Option (List Int)) (X:Nat→List Int→List Int→Int→Bool→Int→Option (List Int))
  (h0:∀ k y (i:Nat),i < l.length→z (k+1) (ints l) y (i:Int) = X k (ints l) y (i:Int) true 0)
  (hend:∀ k y,z (k+1) (ints l) y (l.length:Int) = (aC.f k y).bind fun t=>some t)
  (h1:∀ k y (i j:Nat) (b:Bool),i < l.length→j < l.length→X (k+1) (ints l) y (i:Int) b (j:Int) = X k (ints l) y (i:Int) (b && !(!decide (l.getD j 0 = l.getD i 0) && p (l.getD j 0) (l.getD i 0))) ((j+1:Nat):Int))
  (h2:∀ k y (i:Nat) (b:Bool),i < l.length→y.length < 17592186044416→X (k+1) (ints l) y (i:Int) b (l.length:Int) = if b = true then z k (ints l) (y ++ [((l.getD i 0:Nat):Int)]) ((i+1:Nat):Int) else z k (ints l) y ((i+1:Nat):Int)) :
  Ev (fun k=>z k (ints l) [] 0) (kept p l):=by
 have key:=cX.fF (fun k (s:List Int) i=>z k (ints l) s i) l.length (fun i s=>if (!l.any fun t=>!decide (t = l.getD i 0) && p t (l.getD i 0)) = true then s ++ [((l.getD i 0:Nat):Int)] else s) (fun i s=>s.length≤i) (kept p l) (fun i s hi hP=>⟨?_,fun h=>?_⟩) l.length 0 [] (by omega) (by simp) (fun hP=>?_)
 ·exact key
 ·show (if _ then _ else _:List Int).length≤_
  split
  ·simp;omega
  ·omega
 ·refine Ev.step (f:=fun k=>X k (ints l) s (i:Int) true 0) (fun k=>h0 k s i hi) ?_
  have inner:=cX.fF (fun k (b:Bool) j=>X k (ints l) s (i:Int) b j) l.length (fun j b=>b && !(!decide (l.getD j 0 = l.getD i 0) && p (l.getD j 0) (l.getD i 0))) (fun _ _=>True) (kept p l) (fun j b hj _=>⟨trivial,fun h=>Ev.step (fun k=>h1 k s i j b hi hj) h⟩) l.length 0 true (by omega) trivial (fun _=>?_)
  ·exact inner
  ·have e:∀ (r:List Nat) (b:Bool),r.foldl (fun b t=>b && !(!decide (t = l.getD i 0) && p t (l.getD i 0))) b = (b && !r.any fun t=>!decide (t = l.getD i 0) && p t (l.getD i 0)):=by
    intro r;induction r with
    | nil=>intro b;simp
    | cons a r ih =>
     intro b;rw [List.foldl_cons,ih,List.any_cons,Bool.not_or,Bool.and_assoc]
   have Y:=j9 l (fun b t=>b && !(!decide (t = l.getD i 0) && p t (l.getD i 0))) true;rw [e,Bool.true_and] at Y;rw [Y];refine Ev.step (fun k=>h2 k s i _ hi (by omega)) ?_;split
   ·rename_i hb
    rw [if_pos hb] at h;exact h
   ·rename_i hb
    rw [if_neg hb] at h;exact h
 ·have e:∀ (r:List Nat) (s:List Int),r.foldl (fun s i=>if (!l.any fun t=>!decide (t = i) && p t i) = true then s ++ [((i:Nat):Int)] else s) s = s ++ ints (r.filter fun i=>!l.any fun t=>!decide (t = i) && p t i):=by
   intro r;induction r with
   | nil=>intro s;simp [ints]
   | cons a r ih =>
    intro s;rw [List.foldl_cons,ih,List.filter_cons];split
    ·simp [ints]
    ·rfl
  have Y:=j9 l (fun s i=>if (!l.any fun t=>!decide (t = i) && p t i) = true then s ++ [((i:Nat):Int)] else s) ([]:List Int);rw [e,List.nil_append] at Y;rw [Y];refine Ev.step (f:=fun k=>(aC.f k (ints (l.filter fun i=>!l.any fun t=>!decide (t = i) && p t i))).bind fun t=>some t) (fun k=>hend k _) ?_;refine Ev.bind (kM _ ?_) (Ev.now _);rw [aA];exact Nat.le_trans (List.length_filter_le _ _) hn
theorem vt (l:List Nat) (hl:∀ s∈l,s < 256) (hn:l.length≤1048576):Ev (fun k=>bh.f k (ints l)) (sn l):=by
 unfold bh.f;simp only [Option.bind_some];refine Ev.bind (xe l hl hn) ?_;simp only [if_true];refine vp l hl hn iu bh.l0 bh.l1 (fun k y i hi=>?_) (fun k y=>?_) (fun k y i j b hi hj=>?_) (fun k y i b hi hx=>?_)
 ·rw [bh.l0,if_pos (by rw [aA];omega)]
 ·rw [bh.l0,if_neg (by rw [aA];omega)]
 ·rw [bh.l1,if_pos (by rw [aA];omega),cX.dO j (by omega)]
  cases b with
  | false=>rw [if_neg (by decide),Bool.false_and]
  | true =>
   rw [if_pos rfl,if_pos (by omega),if_pos (by omega),if_pos (by rw [aA];omega),dR,dR,Bool.true_and];have hi':=hl _ (cO l 0 i hi);have hj':=hl _ (cO l 0 j hj);by_cases e:l.getD j 0 = l.getD i 0
   ·rw [if_pos (by omega),decide_eq_true e]
    rfl
   ·rw [if_neg (by omega),decide_eq_false e,nH _ _ (by omega) (by omega),Bool.not_false,Bool.true_and]
    congr 1
    unfold iu;by_cases z:l.getD j 0 &&& l.getD i 0 = l.getD j 0
    ·rw [z,decide_eq_true rfl]
     simp
    ·rw [decide_eq_false z]
     simp only [Bool.not_false,bne_iff_ne,ne_eq];omega
 ·rw [bh.l1,if_neg (by rw [aA];omega)]
  cases b with
  | false=>rw [if_neg (by decide),if_neg (by decide),cX.dO i (by omega)]
  | true=>rw [if_pos rfl,if_pos rfl,if_pos (by omega),if_pos (by rw [aA];omega),if_pos hx,dR,cX.dO i (by omega)]
theorem r8 (l:List Nat):(sn l).length≤l.length:=by
 unfold sn kept;refine Nat.le_trans (j8 _) ?_;rw [aA];exact List.length_filter_le _ _
theorem tZ (n:Int) (l:List Nat) (s:Nat) (hs:s < 256) (hl:∀ b∈l,b < 256) (hn:l.length≤1048576):Ev (fun k=>bE.f k n (ints l) (s:Int)) (indep l s):=by
 refine cX.en (l.length+1) (fun k hk=>?_);unfold bE.f;have:=cX.j7 (fun k i=>(bE.l0 k (s:Int) (ints l) ((ints l).length:Int) i).map fun b=>!b) l.length (fun i=>!iu s (l.getD i 0)) 0 true (fun k i _ hi=>by
  have hb:=hl _ (cO l 0 i hi);simp only [bE.l0];rw [if_pos (by rw [aA];omega),if_pos (by omega),if_pos (by rw [aA];omega),dR,qf s _ hs hb,cX.dO i (by omega)];simp only [Option.bind_some];cases iu s (l.getD i 0) <;> rfl) (fun k _=>by
  simp only [bE.l0];rw [if_neg (by rw [aA];omega)];rfl) l.length 0 k (by omega) (by omega)
 rw [Bool.and_true,sY,iX l 0 (fun b=>iu s b)] at this;obtain ⟨b,j,y⟩:=Option.map_eq_some_iff.1 this;have:b = l.any fun b=>iu s b:=by
  cases b <;> cases h:l.any fun b=>iu s b <;> simp_all
 rw [show ((0:Int)) = ((0:Nat):Int) from rfl,j,this];rfl
def dep (m:Nat) (l:List Nat):List Nat:=(List.range' 0 (2 ^ m)).filter fun s=>!indep l s
def kf (m:Nat) (l:List Nat):List Int:=sn (dep m l)
theorem sq {m:Nat} {l:List Nat} {s:Nat} (h:s∈dep m l):s < 2 ^ m:=by
 unfold dep at h;have:=List.mem_range'_1.1 (List.mem_filter.1 h).1;omega
theorem lW (m:Nat) (hm:m≤8) (l:List Nat):(dep m l).length≤256:=by
 have j:=bM hm;unfold dep;refine Nat.le_trans (List.length_filter_le _ _) ?_;rw [List.length_range'];exact j
def mU (n:Int) (l:List Int):List Int:=if dm n l = true then kf n.toNat (l.map Int.toNat) else []
theorem qg (n:Int) (l:List Int) (hn:l.length≤1048576):Ev (fun k=>fA.f k n l) (mU n l):=by
 unfold fA.f mU;refine Ev.bind (kx n l hn) ?_;cases hM:dm n l with
 | false=>simp only [Bool.false_eq_true,if_false];exact Ev.now _
 | true =>
  simp only [if_true];obtain ⟨m,j,rfl,hm,rfl,hl,h0,hf⟩:=fq hM;rw [aA] at hn;rw [cu,Int.toNat_natCast];have y:=bM hm;have z:∀ b∈j,b < 256:=fun b hb=>Nat.lt_of_lt_of_le (hl b hb) y
  refine Ev.bind (ot m hm (fun k s=>dz.f k (m:Int) (ints j) s) (fun s=>!indep j s) (fun s hs=>?_) (fun k s=>dz.mono _ _ _ _)) (vo (dep m j) (fun s hs=>by have:=sq hs;omega) (by have:=lW m hm j;omega));unfold dz.f;exact Ev.bind (tZ (m:Int) j s (by omega) z hn) (Ev.now _)
theorem qh (n:Int) (l:List Int) (hn:l.length≤1048576):Ev (fun k=>fQ.f k n l) (mU n l):=by
 unfold fQ.f mU;refine Ev.bind (iI n l hn) ?_;cases hM:dm n l with
 | false=>simp only [Bool.false_eq_true,if_false];exact Ev.now _
 | true =>
  simp only [if_true];obtain ⟨m,j,rfl,hm,rfl,hl,h0,hf⟩:=fq hM;rw [aA] at hn;rw [cu,Int.toNat_natCast];have y:=bM hm;have z:∀ b∈j,b < 256:=fun b hb=>Nat.lt_of_lt_of_le (hl b hb) y
  refine Ev.bind ?_ (Ev.now _);unfold cE.f;have key:=cX.fF (fun k (s:List Int) i=>cE.l0 k s i (m:Int) (ints j)) (2 ^ m) (fun i s=>if (!indep j i) = true then s ++ [(i:Int)] else s) (fun i s=>s.length≤i) (kf m j) (fun i s hi hP=>⟨?_,fun h=>?_⟩) (2 ^ m) 0 [] (by omega) (by simp) (fun _=>?_)
  ·exact key
  ·show (if _ then _ else _:List Int).length≤_
   split
   ·simp;omega
   ·omega
  ·refine Ev.step (f:=fun k=>(cS.f k (m:Int) (ints j) (i:Int)).bind fun t=>((b9.f k (i:Int)).bind fun c=>(if t < c then (cE.l0 k (s ++ [(i:Int)]) ((i+1:Nat):Int) (m:Int) (ints j)) else (cE.l0 k s ((i+1:Nat):Int) (m:Int) (ints j))))) (fun k=>?_) ?_
   ·simp only [cE.l0]
    rw [fh m hm];simp only [Option.bind_some];rw [if_pos (by have:=Nat.one_le_two_pow (n:=m);omega),cX.dO i (by omega),if_pos (show s.length < 17592186044416 by omega)]
   ·refine Ev.bind (k9 m j i (by omega) z hn) (Ev.bind (fI i (by omega)) ?_)
    have hd:=lU (l:=j) (s:=i) (by omega) h0;cases hi':indep j i with
    | true =>
     rw [hi'] at h hd;simp only [Bool.not_true,decide_eq_false_iff_not] at hd;simp only [if_neg (show ¬ ((bW j i:Nat):Int) < (cnt i:Int) by omega)];simpa using h
    | false =>
     rw [hi'] at h hd;simp only [Bool.not_false,decide_eq_true_eq] at hd;simp only [if_pos (show ((bW j i:Nat):Int) < (cnt i:Int) by omega)];simpa using h
  ·refine Ev.step (f:=fun k=>(bh.f k (ints (dep m j))).bind fun t=>some t) (fun k=>?_) (Ev.bind (vt (dep m j) (fun s hs=>by have:=sq hs;omega) (by have:=lW m hm j;omega)) (Ev.now _))
   simp only [cE.l0];rw [fh m hm];simp only [Option.bind_some];rw [if_neg (by have:=Nat.one_le_two_pow (n:=m);omega),foldl_filter];rfl
theorem po {m:Nat} {l:List Nat} (hm:m≤8) (hn:0 < l.length) {x:Int} (h:x∈kf m l):∃ c:Nat,x = c∧c < 2 ^ m∧c≠0:=by
 unfold kf sn kept at h;rw [jx,jA] at h;obtain ⟨y,hy,rfl⟩:=h;have hd:=(List.mem_filter.1 hy).1;refine ⟨y,rfl,sq hd,?_⟩;rintro rfl
 unfold dep at hd;have:=(List.mem_filter.1 hd).2;rw [lV hn] at this;exact Bool.noConfusion this
theorem mh (m:Nat) (hm:m≤8) (l:List Nat):(kf m l).length≤256:=Nat.le_trans (r8 _) (lW m hm l)
end qH
end
section
namespace Act
open Go.RowKit Go.Proofs.YtlfkfdmggpipbaaGreat.Pr Go.Proofs.YtlfkfdmggpipbaaGreat.Sets kH gz Go.Proofs.YtlfkfdmggpipbaaGreat.Flat ag.aZ ag.bR ag.bT
set_option linter.unusedVariables false
theorem lz {σ γ:Type} (L:Nat→σ→Int→Option γ) (q:List Nat) (f:σ→Nat→σ) (P:Nat→σ→Prop) (r:γ) (s:σ)
  (j:∀ i s,i < q.length→P i s→P (i+1) (f s (q.getD i 0))∧(Ev (fun k=>L k (f s (q.getD i 0)) ((i+1:Nat):Int)) r→Ev (fun k=>L k s (i:Int)) r))
  (hs:P 0 s) (hend:P q.length (q.foldl f s)→Ev (fun k=>L k (q.foldl f s) (q.length:Int)) r):Ev (fun k=>L k s 0) r:=by
 have:=cX.fF L q.length (fun i s=>f s (q.getD i 0)) P r (fun i s hi hp=>j i s hi hp) q.length 0 s (by omega) hs;rw [j9 q f s] at this;exact this hend
theorem ov {s i:Nat} (h:i < (elems s).length):(elems s).getD i 0 < 8∧s.testBit ((elems s).getD i 0) = true:=k6 (cO _ 0 i h)
def iF (l:List Nat) (b e:Nat):Nat:=(elems b).foldl (fun c f=>if l.contains (b - 2 ^ f+2 ^ e) = true then c ||| 2 ^ f else c) (2 ^ e)
theorem r9 (n:Int) (l:List Nat) (b e:Nat) (hb:b < 256) (he:e < 8) (hbe:b.testBit e = false) (hn:l.length≤1048576):Ev (fun k=>cB.f k n (ints l) (b:Int) (e:Int)) (iF l b e:Int)∧iF l b e < 256∧(iF l b e).testBit e = true:=by
 have hp:2 ^ e < 2 ^ 8:=gP he;have hinv:iF l b e < 256∧(iF l b e).testBit e = true:=by
  unfold iF;have:∀ (q:List Nat) (c:Nat),(∀ f∈q,f < 8)→c < 2 ^ 8→c.testBit e = true→(q.foldl (fun c f=>if l.contains (b - 2 ^ f+2 ^ e) = true then c ||| 2 ^ f else c) c) < 2 ^ 8∧(q.foldl (fun c f=>if l.contains (b - 2 ^ f+2 ^ e) = true then c ||| 2 ^ f else c) c).testBit e = true:=by
   intro q;induction q with
   | nil=>exact fun c _ h1 h2=>⟨h1,h2⟩
   | cons a q ih =>
    intro c hq h1 h2;rw [List.foldl_cons];have ha:=hq a (by simp);refine ih _ (fun f hf=>hq f (by simp [hf])) ?_ ?_
    ·split
     ·exact hJ h1 (gP ha)
     ·exact h1
    ·split
     ·rw [Nat.testBit_or,h2];rfl
     ·exact h2
  exact this (elems b) (2 ^ e) (fun f hf=>(k6 hf).1) hp (by rw [Nat.testBit_two_pow];simp)
 refine ⟨?_,hinv⟩;unfold cB.f;simp only [if_pos (show (0:Int)≤(e:Int) by omega)];refine Ev.bind (gO b hb) ?_;rw [gp e (by omega)];refine lz (fun k (c:Nat) i=>cB.l0 k (b:Int) (e:Int) (c:Int) (ints (elems b)) ((ints (elems b)).length:Int) i n (ints l)) (elems b) (fun c f=>if l.contains (b - 2 ^ f+2 ^ e) = true then c ||| 2 ^ f else c) (fun _ c=>c < 256) (iF l b e:Int) (2 ^ e) (fun i c hi hc=>?_) hp (fun _=>cX.en 1 (fun k hk=>?_))
 ·obtain ⟨j,hbit⟩:=ov hi
  have hrd:=dR (elems b) i;generalize hf:(elems b).getD i 0 = f at *;have hpf:2 ^ f < 2 ^ 8:=gP j;refine ⟨?_,fun h=>?_⟩
  ·show (if _ then _ else _) < _
   split
   ·exact hJ (n:=8) hc hpf
   ·exact hc
  ·refine Ev.step (f:=fun k=>(cW.f k (ints l) ((b - 2 ^ f+2 ^ e:Nat):Int)).bind fun t=>(if t = true then (cB.l0 k (b:Int) (e:Int) ((c ||| 2 ^ f:Nat):Int) (ints (elems b)) ((ints (elems b)).length:Int) ((i+1:Nat):Int) n (ints l)) else (cB.l0 k (b:Int) (e:Int) (c:Int) (ints (elems b)) ((ints (elems b)).length:Int) ((i+1:Nat):Int) n (ints l)))) (fun k=>?_) ?_
   ·simp only [cB.l0]
    rw [if_pos (by rw [aA];omega),if_pos (by omega),if_pos (by rw [aA];omega),hrd,if_pos (by omega),if_pos (by omega),gp f (by omega),gp e (by omega),fW b _ (by omega),oe _ _ (by have:=eG (b:=2 ^ f) (n:=8) hb;omega) (by omega),swap_eq b hb f j e he hbit hbe,oe c _ (by omega) (by omega),cX.dO i (by have:=fN b;omega)]
   ·refine Ev.bind (cX.en (l.length+1) (fun k hk=>sX l _ hn k (by omega))) ?_
    by_cases hx:l.contains (b - 2 ^ f+2 ^ e) = true
    ·rw [if_pos hx] at h
     simp only [hx,if_true];exact h
    ·rw [if_neg hx] at h
     simp only [if_neg hx];exact h
 ·obtain ⟨q,rfl⟩:∃ q,k = q+1:=⟨k - 1,by omega⟩
  simp only [cB.l0];rw [if_neg (by rw [aA];omega)];rfl
theorem ow {σ:Type} (p:Nat→Bool) (f:σ→Nat→σ) (q:List Nat) (s:σ):(q.filter p).foldl f s = q.foldl (fun s j=>if p j = true then f s j else s) s:=by
 rw [List.foldl_filter]
theorem foldl_congr {σ:Type} (f g:σ→Nat→σ) (q:List Nat) (s:σ) (h:∀ e∈q,∀ s,f s e = g s e):q.foldl f s = q.foldl g s:=by
 induction q generalizing s with
 | nil=>rfl
 | cons a q ih =>
  rw [List.foldl_cons,List.foldl_cons,h a (by simp)];exact ih _ fun e he=>h e (by simp [he])
theorem yA:∀ c,c < 256→∀ f,f < 8→c.testBit f = false→c+2 ^ f = c ||| 2 ^ f:=by decide +kernel
theorem vu (m:Nat) (hm:m≤8) (l:List Nat) (b e:Nat) (hb:b < 2 ^ m) (he:e < m) (hbe:b.testBit e = false) (hn:l.length≤1048576) (hM:dm (m:Int) (ints l) = true) (hmem:l.contains b = true):Ev (fun k=>aI.f k (m:Int) (ints l) (b:Int) (e:Int)) (iF l b e:Int):=by
 have X:=bM hm;have hp:2 ^ e < 2 ^ 8:=gP (by omega);have hMe:=iI (m:Int) (ints l) (by rw [aA];exact hn);rw [hM] at hMe;unfold aI.f;refine Ev.bind hMe ?_;simp only [if_true];refine Ev.bind (me (ints l) (b:Int) (by rw [aA];exact hn)) ?_;rw [lJ,hmem];have hin:bD.f (e:Int) 0 (wrap64 ((m:Int) - 1)) = some true:=by
  unfold bD.f;rw [cX.jL (by omega) (by omega),if_pos (by omega),decide_eq_true (by omega)]
 simp only [if_true,hin,Option.bind_some,jy b e (by omega) (by omega),hbe];refine Ev.step (f:=fun k=>aI.l0 k (b:Int) (e:Int) ((2 ^ e:Nat):Int) 0 (m:Int) (ints l)) (fun k=>?_) ?_ |> fun h=>h
 ·simp only [aI.j0]
  rw [if_neg (by decide),nI e (by omega),if_pos (by omega),gp e (by omega)]
 ·have z:iF l b e = (List.range' 0 m).foldl (fun c f=>if b.testBit f = true then (if l.contains (b - 2 ^ f+2 ^ e) = true then c ||| 2 ^ f else c) else c) (2 ^ e):=by
   unfold iF elems;rw [ow,show (8:Nat) = m+(8 - m) by omega,cX.od _ m (8 - m) _ (fun j hj s=>by rw [fX hb hj];simp)]
  refine cX.fF (fun k (c:Nat) i=>aI.l0 k (b:Int) (e:Int) (c:Int) i (m:Int) (ints l)) m (fun f c=>if b.testBit f = true then (if l.contains (b - 2 ^ f+2 ^ e) = true then c ||| 2 ^ f else c) else c) (fun i c=>c < 256∧∀ j,i≤j→j≠e→c.testBit j = false) (iF l b e:Int) (fun f c hf hc=>⟨?_,fun h=>?_⟩) m 0 (2 ^ e) (by omega) ⟨hp,fun j _ hj=>by rw [Nat.testBit_two_pow];exact decide_eq_false (fun h=>hj h.symm)⟩ (fun _=>cX.en 1 (fun k hk=>?_))
  ·have hpf:2 ^ f < 2 ^ 8:=gP (by omega)
   have y:c < 256∧∀ j,f+1≤j→j≠e→c.testBit j = false:=⟨hc.1,fun j hj=>hc.2 j (by omega)⟩
   split
   ·split
    ·refine ⟨hJ (n:=8) hc.1 hpf,fun j hj hje=>?_⟩
     rw [Nat.testBit_or,hc.2 j (by omega) hje,Nat.testBit_two_pow,decide_eq_false (by omega)];rfl
    ·exact y
   ·exact y
  ·have hpf:2 ^ f < 2 ^ 8:=gP (by omega)
   cases hbf:b.testBit f with
   | false =>
    rw [hbf] at h;simp only [Bool.false_eq_true,if_false] at h;refine Ev.step (fun k=>?_) h;simp only [aI.l0];rw [if_pos (by omega),jy b f (by omega) (by omega),hbf,cX.dO f (by omega)];rfl
   | true =>
    rw [hbf] at h;simp only [if_true] at h;have hfe:f≠e:=fun h=>by rw [h,hbe] at hbf;exact Bool.noConfusion hbf
    have hle:=uW b (by omega) f (by omega) hbf;have hw:wrap64 ((wrap64 ((b:Int) - ((2 ^ f:Nat):Int)))+((2 ^ e:Nat):Int)) = ((b - 2 ^ f+2 ^ e:Nat):Int):=by
     clear hbf h;generalize (2:Nat) ^ f = P at *;generalize (2:Nat) ^ e = Q at *;rw [cX.jL (i:=(b:Int) - (P:Int)) (by omega) (by omega),cX.jL (by omega) (by omega)];omega
    have hadd:wrap64 ((c:Int)+((2 ^ f:Nat):Int)) = ((c ||| 2 ^ f:Nat):Int):=by
     rw [← yA c hc.1 f (by omega) (hc.2 f (by omega) hfe)];have Y:=hc.1;generalize (2:Nat) ^ f = P at hpf ⊢;rw [cX.jL (by omega) (by omega)];omega
    refine Ev.step (f:=fun k=>(bj.f k (ints l) ((b - 2 ^ f+2 ^ e:Nat):Int)).bind fun t=>(if t = true then (aI.l0 k (b:Int) (e:Int) ((c ||| 2 ^ f:Nat):Int) ((f+1:Nat):Int) (m:Int) (ints l)) else (aI.l0 k (b:Int) (e:Int) (c:Int) ((f+1:Nat):Int) (m:Int) (ints l)))) (fun k=>?_) ?_
    ·simp only [aI.l0]
     rw [if_pos (by omega),jy b f (by omega) (by omega),hbf];simp only [Option.bind_some,if_true];rw [nI f (by omega),nI e (by omega),if_pos (by omega),if_pos (by omega),gp f (by omega),gp e (by omega),hw,hadd,cX.dO f (by omega)]
    ·refine Ev.bind (cX.en (l.length+1) (fun k hk=>qd l _ hn k (by omega))) ?_
     by_cases hx:l.contains (b - 2 ^ f+2 ^ e) = true
     ·rw [if_pos hx] at h
      simp only [hx,if_true];exact h
     ·rw [if_neg hx] at h
      simp only [if_neg hx];exact h
  ·obtain ⟨q,rfl⟩:∃ q,k = q+1:=⟨k - 1,by omega⟩
   simp only [aI.l0];rw [if_neg (by omega),z]
theorem qi (n:Int) (l:List Int) (a e:Int) (hn:l.length≤1048576) (h:(dm n l && l.contains a) = false):Ev (fun k=>aI.f k n l a e) 0:=by
 have hend:∀ n l,Ev (fun k=>aI.j0 k a e true n l) 0:=fun n l=>cX.en 1 (fun k hk=>by
  obtain ⟨q,rfl⟩:∃ q,k = q+1:=⟨k - 1,by omega⟩
  simp only [aI.j0];rw [if_pos trivial])
 unfold aI.f;refine Ev.bind (iI n l hn) ?_;cases hM:dm n l with
 | false=>simp only [Bool.false_eq_true,if_false];exact hend _ _
 | true =>
  rw [hM,Bool.true_and] at h;simp only [if_true];refine Ev.bind (me l a hn) ?_;rw [h];simp only [Bool.false_eq_true,if_false];exact hend _ _
theorem sr (m:Nat) (hm:m≤8) (l:List Nat) (b e:Nat) (hb:b < 2 ^ m) (he:e < m) (hbe:b.testBit e = true) (hn:l.length≤1048576) (hM:dm (m:Int) (ints l) = true) (hmem:l.contains b = true):Ev (fun k=>aI.f k (m:Int) (ints l) (b:Int) (e:Int)) 0:=by
 have j:=bM hm;have hMe:=iI (m:Int) (ints l) (by rw [aA];exact hn);rw [hM] at hMe;unfold aI.f;refine Ev.bind hMe ?_;simp only [if_true];refine Ev.bind (me (ints l) (b:Int) (by rw [aA];exact hn)) ?_;rw [lJ,hmem];have hin:bD.f (e:Int) 0 (wrap64 ((m:Int) - 1)) = some true:=by
  unfold bD.f;rw [cX.jL (by omega) (by omega),if_pos (by omega),decide_eq_true (by omega)]
 simp only [if_true,hin,Option.bind_some,jy b e (by omega) (by omega),hbe];exact cX.en 1 (fun k hk=>by
  obtain ⟨q,rfl⟩:∃ q,k = q+1:=⟨k - 1,by omega⟩
  simp only [aI.j0];rw [if_pos trivial])
def least (c:Nat):Nat:=(elems c).headD 0
theorem pq:∀ c:Nat,c < 256→c≠0→eE.f (c:Int) = some ((2 ^ least c:Nat):Int):=by decide +kernel
theorem u0:∀ c:Nat,c < 256→c≠0→0 < (elems c).length:=by decide +kernel
theorem pz (c:Nat) (h:c < 256) (h0:c≠0):Ev (fun k=>dD.f k (c:Int)) (least c:Int):=by
 unfold dD.f;refine Ev.bind (gO c h) ?_;have:=u0 c h h0;simp only [if_pos (show (0:Int) < ((ints (elems c)).length:Int) by rw [aA];omega)];have e:rd (ints (elems c)) 0 = ((least c:Nat):Int):=by
  have:=dR (elems c) 0;rw [show ((0:Nat):Int) = (0:Int) from rfl] at this;rw [this];unfold least;cases elems c <;> rfl
 rw [e];exact Ev.now _
def ie (m:Nat) (l:List Nat) (b:Nat):Nat:=(List.range' 0 m).foldl (fun o e=>if b.testBit e = true then o else if least (iF l b e) = e then o ||| 2 ^ e else o) 0
def iP (n:Int) (l:List Int) (a:Int):Int:=if (dm n l && l.contains a) = true then (ie n.toNat (l.map Int.toNat) a.toNat:Int) else 0
theorem kN {n:Int} {l:List Int} {a:Int} (h:(dm n l && l.contains a) = true):∃ (m:Nat) (j:List Nat) (b:Nat),n = m∧m≤8∧l = ints j∧(∀ s∈j,s < 2 ^ m)∧a = b∧b < 2 ^ m∧j.contains b = true:=by
 rw [Bool.and_eq_true] at h;obtain ⟨h1,h2⟩:=h;obtain ⟨m,j,rfl,hm,rfl,hl,_,_⟩:=fq h1;have h3:=h2;simp only [ints,List.contains_eq_mem,List.mem_map,decide_eq_true_eq] at h3;obtain ⟨b,hb,rfl⟩:=h3;exact ⟨m,j,b,rfl,hm,rfl,hl,rfl,hl b hb,by simpa using hb⟩
theorem ox (n:Int) (l:List Int) (a:Int) (hn:l.length≤1048576):Ev (fun k=>au.f k n l a) (iP n l a):=by
 unfold au.f;cases h:(dm n l && l.contains a) with
 | false =>
  unfold iP;rw [h];simp only [Bool.false_eq_true,if_false];have hend:∀ X j,Ev (fun k=>au.j1 k a X j false n l) X:=fun X j=>cX.en 1 (fun k hk=>by
   obtain ⟨q,rfl⟩:∃ q,k = q+1:=⟨k - 1,by omega⟩
   simp only [au.j1];rw [if_neg (by decide)])
  by_cases hin:0≤n∧n≤8
  ·have hIn:bD.f n 0 8 = some true:=by
    unfold bD.f;rw [if_pos (by omega),decide_eq_true (by omega)]
   have loop:∀ d:Nat,∀ j:Int,0≤j→j+d = n→Ev (fun k=>au.l0 k a 0 j n l) 0:=by
    intro d;induction d with
    | zero =>
     intro j h0 h1;refine Ev.step (fun k=>?_) (hend 0 j);simp only [au.l0];rw [if_neg (by omega)]
    | succ d ih =>
     intro j h0 h1;refine Ev.step (f:=fun k=>au.j1 k a 0 j true n l) (fun k=>?_) ?_
     ·simp only [au.l0]
      rw [if_pos (by omega),hIn];rfl
     ·refine Ev.step (f:=fun k=>(aI.f k n l a j).bind fun t139=>(if t139 = 0 then (au.l0 k a 0 (wrap64 (j+1)) n l) else ((eE.f t139).bind fun t140=>(if 0≤(IntKind.u64.wrap (j)) then (if t140 = (shl .i64 1 (IntKind.u64.wrap (j))) then (au.l0 k a (Go.bits .or .i64 0 (shl .i64 1 (IntKind.u64.wrap (j)))) (wrap64 (j+1)) n l) else (au.l0 k a 0 (wrap64 (j+1)) n l)) else (none))))) (fun k=>?_) ?_
      ·simp only [au.j1]
       rw [if_pos trivial]
      ·refine Ev.bind (qi n l a j hn h) ?_
       simp only [if_true];rw [cX.jL (by omega) (by omega)];exact ih (j+1) (by omega) (by omega)
   exact loop n.toNat 0 (by omega) (by omega)
  ·have hIn:bD.f n 0 8 = some false:=by
    unfold bD.f;by_cases h0:n≥0
    ·rw [if_pos h0,decide_eq_false (by omega)]
    ·rw [if_neg h0]
   refine Ev.step (f:=fun k=>au.j1 k a 0 0 false n l) (fun k=>?_) (hend 0 0);simp only [au.l0];rw [hIn];simp only [Option.bind_some];by_cases h0:(0:Int) < n
   ·rw [if_pos h0]
   ·rw [if_neg h0]
 | true =>
  have hM:dm n l = true:=by rw [Bool.and_eq_true] at h;exact h.1
  unfold iP;rw [if_pos h];obtain ⟨m,y,b,rfl,hm,rfl,hl,rfl,hb,hmem⟩:=kN h;have a1:=bM hm;rw [aA] at hn;simp only [cu,Int.toNat_natCast];have hIn:bD.f (m:Int) 0 8 = some true:=by
   unfold bD.f;rw [if_pos (by omega),decide_eq_true (by omega)]
  refine cX.fF (fun k (o:Nat) i=>au.l0 k (b:Int) (o:Int) i (m:Int) (ints y)) m (fun e o=>if b.testBit e = true then o else if least (iF y b e) = e then o ||| 2 ^ e else o) (fun _ o=>o < 2 ^ m) (ie m y b:Int) (fun e o he ho=>⟨?_,fun h=>?_⟩) m 0 0 (by omega) (by exact Nat.pow_pos (by decide)) (fun _=>?_)
  ·show (if _ then _ else if _ then _ else _) < _
   split
   ·exact ho
   ·split
    ·exact hJ ho (gP he)
    ·exact ho
  ·have hp:=gP he
   refine Ev.step (f:=fun k=>au.j1 k (b:Int) (o:Int) (e:Int) true (m:Int) (ints y)) (fun k=>?_) ?_
   ·simp only [au.l0]
    rw [if_pos (by omega),hIn];rfl
   ·refine Ev.step (f:=fun k=>(aI.f k (m:Int) (ints y) (b:Int) (e:Int)).bind fun t139=>(if t139 = 0 then (au.l0 k (b:Int) (o:Int) ((e+1:Nat):Int) (m:Int) (ints y)) else ((eE.f t139).bind fun t140=>(if t140 = ((2 ^ e:Nat):Int) then (au.l0 k (b:Int) ((o ||| 2 ^ e:Nat):Int) ((e+1:Nat):Int) (m:Int) (ints y)) else (au.l0 k (b:Int) (o:Int) ((e+1:Nat):Int) (m:Int) (ints y)))))) (fun k=>?_) ?_
    ·simp only [au.j1]
     rw [if_pos trivial,nI e (by omega),gp e (by omega),oe o _ (by omega) (by omega),cX.dO e (by omega)];simp only [if_pos (show (0:Int)≤(e:Int) by omega)]
    ·cases hbe:b.testBit e with
     | true =>
      rw [hbe] at h;simp only [if_true] at h;refine Ev.bind (sr m hm y b e hb he hbe hn hM hmem) ?_;simp only [if_true];exact h
     | false =>
      rw [hbe] at h;simp only [Bool.false_eq_true,if_false] at h;obtain ⟨_,Y,z⟩:=r9 (m:Int) y b e (by omega) (by omega) hbe hn;have a0:iF y b e≠0:=fun hz=>by rw [hz,Nat.zero_testBit] at z;exact Bool.noConfusion z
      refine Ev.bind (vu m hm y b e hb he hbe hn hM hmem) ?_;simp only [if_neg (show ¬ ((iF y b e:Nat):Int) = 0 by omega),pq _ Y a0,Option.bind_some];by_cases hx:least (iF y b e) = e
      ·rw [if_pos hx] at h
       rw [hx];simp only [if_true];exact h
      ·rw [if_neg hx] at h
       have hne:¬ ((2 ^ least (iF y b e):Nat):Int) = ((2 ^ e:Nat):Int):=fun hh=>hx ((Nat.pow_right_inj (by decide)).1 (by exact_mod_cast hh:(2:Nat) ^ least (iF y b e) = 2 ^ e))
       simp only [if_neg hne];exact h
  ·refine Ev.step (f:=fun k=>au.j1 k (b:Int) ((ie m y b:Nat):Int) (m:Int) false (m:Int) (ints y)) (fun k=>?_) (cX.en 1 (fun k hk=>?_))
   ·simp only [au.l0]
    rw [if_neg (by omega)];rfl
   ·obtain ⟨q,rfl⟩:∃ q,k = q+1:=⟨k - 1,by omega⟩
    simp only [au.j1];rw [if_neg (by decide)]
theorem oy (n:Int) (l:List Int) (a:Int) (hn:l.length≤1048576):Ev (fun k=>aH.f k n l a) (iP n l a):=by
 unfold aH.f;refine Ev.bind (kx n l hn) ?_;have hend:Ev (fun k=>aH.j0 k a true n l) 0:=cX.en 1 (fun k hk=>by
  obtain ⟨q,rfl⟩:∃ q,k = q+1:=⟨k - 1,by omega⟩
  simp only [aH.j0];rw [if_pos trivial])
 cases hM:dm n l with
 | false =>
  unfold iP;simp only [hM,Bool.false_and,Bool.false_eq_true,if_false];exact hend
 | true =>
  simp only [if_true];refine Ev.bind (qY l a hn) ?_;cases z:l.contains a with
  | false =>
   unfold iP;simp only [hM,z,Bool.and_false,Bool.false_eq_true,if_false,Bool.not_false];exact hend
  | true =>
   have h:(dm n l && l.contains a) = true:=by rw [hM,z];rfl
   unfold iP;rw [if_pos h];obtain ⟨m,y,b,rfl,hm,rfl,hl,rfl,hb,hmem⟩:=kN h;have a2:=bM hm;rw [aA] at hn;simp only [cu,Int.toNat_natCast,Bool.not_true];have hfull:2 ^ m - 1 < 2 ^ m:=by have:0 < 2 ^ m:=Nat.pow_pos (by decide);omega
   have hd:=eG (b:=b) hfull;refine Ev.step (f:=fun k=>(bl.f k ((diff (2 ^ m - 1) b:Nat):Int)).bind fun t190=>(aH.l0 k (b:Int) 0 t190 (t190.length:Int) 0 (m:Int) (ints y))) (fun k=>?_) ?_
   ·simp only [aH.j0]
    rw [if_neg (by decide),ic m hm];simp only [Option.bind_some];rw [fW _ b (by omega)]
   ·refine Ev.bind (gO _ (by omega)) ?_
    have X:ie m y b = (elems (diff (2 ^ m - 1) b)).foldl (fun o e=>if least (iF y b e) = e then o ||| 2 ^ e else o) 0:=by
     unfold elems;rw [ow,show (8:Nat) = m+(8 - m) by omega,cX.od _ m (8 - m) _ (fun j hj s=>by rw [fX hd hj];simp)];unfold ie;refine foldl_congr _ _ _ _ fun e he o=>?_
     have:=List.mem_range'_1.1 he;rw [cD,Nat.testBit_two_pow_sub_one,decide_eq_true (by omega),Bool.true_and];cases b.testBit e <;> rfl
    rw [X];refine lz (fun k (o:Nat) i=>aH.l0 k (b:Int) (o:Int) (ints (elems (diff (2 ^ m - 1) b))) ((ints (elems (diff (2 ^ m - 1) b))).length:Int) i (m:Int) (ints y)) (elems (diff (2 ^ m - 1) b)) (fun o e=>if least (iF y b e) = e then o ||| 2 ^ e else o) (fun _ o=>o < 256) _ 0 (fun i o hi ho=>?_) (by decide) (fun _=>cX.en 1 (fun k hk=>?_))
    ·obtain ⟨h8,hbit⟩:=ov hi
     have hrd:=dR (elems (diff (2 ^ m - 1) b)) i;have hlen:=fN (diff (2 ^ m - 1) b);generalize hf:(elems (diff (2 ^ m - 1) b)).getD i 0 = e at *;have hp:2 ^ e < 2 ^ 8:=gP h8;have hbe:b.testBit e = false:=by
      rw [cD,Bool.and_eq_true] at hbit;simpa using hbit.2
     refine ⟨?_,fun h=>?_⟩
     ·show (if _ then _ else _) < _
      split
      ·exact hJ (n:=8) ho hp
      ·exact ho
     ·obtain ⟨hc,a0,Y⟩:=r9 (m:Int) y b e (by omega) h8 hbe hn
      have a1:iF y b e≠0:=fun hz=>by rw [hz,Nat.zero_testBit] at Y;exact Bool.noConfusion Y
      refine Ev.step (f:=fun k=>(cB.f k (m:Int) (ints y) (b:Int) (e:Int)).bind fun t194=>((dD.f k t194).bind fun t195=>(if t195 = (e:Int) then (aH.l0 k (b:Int) ((o ||| 2 ^ e:Nat):Int) (ints (elems (diff (2 ^ m - 1) b))) ((ints (elems (diff (2 ^ m - 1) b))).length:Int) ((i+1:Nat):Int) (m:Int) (ints y)) else (aH.l0 k (b:Int) (o:Int) (ints (elems (diff (2 ^ m - 1) b))) ((ints (elems (diff (2 ^ m - 1) b))).length:Int) ((i+1:Nat):Int) (m:Int) (ints y))))) (fun k=>?_) ?_
      ·simp only [aH.l0]
       rw [if_pos (by rw [aA];omega),if_pos (by omega),if_pos (by rw [aA];omega),hrd,gp e (by omega),oe o _ (by omega) (by omega),cX.dO i (by omega)];simp only [if_pos (show (0:Int)≤(e:Int) by omega)]
      ·refine Ev.bind hc (Ev.bind (pz _ a0 a1) ?_)
       by_cases hx:least (iF y b e) = e
       ·rw [if_pos hx] at h
        rw [hx];simp only [if_true];exact h
       ·rw [if_neg hx] at h
        simp only [if_neg (show ¬ ((least (iF y b e):Nat):Int) = (e:Int) by omega)];exact h
    ·obtain ⟨q,rfl⟩:∃ q,k = q+1:=⟨k - 1,by omega⟩
     simp only [aH.l0];rw [if_neg (by rw [aA];omega)]
end Act
end
section
namespace gT
open Go.RowKit Go.Proofs.YtlfkfdmggpipbaaGreat.Pr Go.Proofs.YtlfkfdmggpipbaaGreat.Sets kH gz Go.Proofs.YtlfkfdmggpipbaaGreat.Flat Go.Proofs.YtlfkfdmggpipbaaGreat.Sort wL eP Go.Proofs.YtlfkfdmggpipbaaGreat.Act qH ag.aZ ag.bR ag.bT
set_option linter.unusedVariables false
theorem oz:∀ c,c < 256→c≠0→c - 2 ^ least c = diff c (2 ^ least c)∧least c < 8∧2 ^ least c≤c:=by decide +kernel
def less (c:Nat):Nat:=diff c (2 ^ least c)
theorem sZ {c n:Nat} (h:c < 2 ^ n):less c < 2 ^ n:=eG h
def mV (m:Nat) (l:List Nat):List Int:=sset (ints (((kf m l).map Int.toNat).map less))
def nt (n:Int) (l:List Int):List Int:=if dm n l = true then mV n.toNat (l.map Int.toNat) else []
theorem mW {m:Nat} {l:List Nat} (hm:m≤8) (hn:0 < l.length):∃ q:List Nat,kf m l = ints q∧(∀ c∈q,c < 2 ^ m∧c≠0)∧q.length≤256∧(kf m l).map Int.toNat = q:=by
 refine ⟨(kf m l).map Int.toNat,?_,fun c hc=>?_,by rw [List.length_map];exact mh m hm l,rfl⟩
 ·unfold ints
  rw [List.map_map];conv=>lhs;rw [← List.map_id (kf m l)]
  refine List.map_congr_left fun x hx=>?_
  obtain ⟨c,rfl,_⟩:=po hm hn hx;rfl
 ·obtain ⟨x,hx,rfl⟩:=List.mem_map.1 hc
  obtain ⟨c,rfl,h1,h2⟩:=po hm hn hx;exact ⟨h1,h2⟩
theorem pA (q:List Nat) (g:Nat→Nat):ints (q.map g) = (List.range' 0 q.length).foldl (fun (s:List Int) i=>s ++ [((g (q.getD i 0):Nat):Int)]) []:=by
 have:∀ (q:List Nat) (f:Nat→Int) (o:List Int),q.foldl (fun (s:List Int) i=>s ++ [f i]) o = o ++ q.map f:=by
  intro q f;induction q with
  | nil=>intro o;simp
  | cons a q ih=>intro o;rw [List.foldl_cons,ih];simp
 rw [this,List.nil_append];unfold ints;rw [List.map_map,← List.range_eq_range'];exact (cX.oc q 0 (fun x=>((g x:Nat):Int))).symm
theorem rf (n:Int) (l:List Int) (hn:l.length≤1048576):Ev (fun k=>bA.f k n l) (nt n l):=by
 unfold bA.f nt;refine Ev.bind (kx n l hn) ?_;have hc:=qg n l hn;unfold mU at hc;cases hM:dm n l with
 | false=>simp only [Bool.false_eq_true,if_false];exact Ev.now _
 | true =>
  rw [hM] at hc;simp only [if_true] at hc ⊢;refine Ev.bind hc ?_;obtain ⟨m,z,rfl,hm,rfl,hl,h0,hf⟩:=fq hM;rw [cu,Int.toNat_natCast];have y:=bM hm;obtain ⟨q,hq,hqc,hlen,hqe⟩:=mW (l:=z) hm h0;unfold mV;rw [hqe,hq];refine cX.fF (fun k (s:List Int) i=>bA.l0 k s (ints q) ((ints q).length:Int) i) q.length (fun i s=>s ++ [((less (q.getD i 0):Nat):Int)]) (fun i s=>s.length≤i) _ (fun i s hi hP=>⟨by simp;omega,fun h=>?_⟩) q.length 0 [] (by omega) (by simp) (fun _=>?_)
  ·obtain ⟨X,j⟩:=hqc _ (cO q 0 i hi)
   obtain ⟨_,Y,_⟩:=oz _ (by omega) j;refine Ev.step (f:=fun k=>(dD.f k ((q.getD i 0:Nat):Int)).bind fun t=>((er.f ((q.getD i 0:Nat):Int) t).bind fun u=>(bA.l0 k (s ++ [u]) (ints q) ((ints q).length:Int) ((i+1:Nat):Int)))) (fun k=>?_) ?_
   ·simp only [bA.l0]
    rw [if_pos (by rw [aA];omega),if_pos (by omega),if_pos (by rw [aA];omega),dR,cX.dO i (by omega)];simp only [if_pos (show s.length < 17592186044416 by omega)]
   ·refine Ev.bind (pz _ (by omega) j) ?_
    have hw:er.f ((q.getD i 0:Nat):Int) (least (q.getD i 0):Int) = some ((less (q.getD i 0):Nat):Int):=by
     unfold er.f cK.f;rw [if_pos (by omega)];simp only [Option.bind_some];rw [if_pos (decide_eq_true (by omega)),if_neg (by omega),if_neg (by omega),if_pos (by omega),gp _ (by omega),fW _ _ (by omega)];rfl
    rw [hw];exact h
  ·refine Ev.step (f:=fun k=>some (sset (ints (q.map less)))) (fun k=>?_) (Ev.now _)
   simp only [bA.l0];rw [if_neg (by rw [aA];omega),← pA,oh _ (by rw [aA,List.length_map];omega)];rfl
theorem rh (n:Int) (l:List Int) (hn:l.length≤1048576):Ev (fun k=>aX.f k n l) (nt n l):=by
 unfold aX.f nt;have hc:=qh n l hn;unfold mU at hc;refine Ev.bind hc ?_;cases hM:dm n l with
 | false =>
  simp only [Bool.false_eq_true,if_false];refine Ev.step (f:=fun k=>(aC.f k []).bind fun t=>some t) (fun k=>?_) (Ev.bind (kM [] (by simp)) (Ev.now _));simp only [aX.l0];rw [if_neg (by simp)]
 | true =>
  simp only [if_true];obtain ⟨m,z,rfl,hm,rfl,hl,h0,hf⟩:=fq hM;rw [cu,Int.toNat_natCast];have y:=bM hm;obtain ⟨q,hq,hqc,hlen,hqe⟩:=mW (l:=z) hm h0;unfold mV;rw [hqe,hq];refine cX.fF (fun k (s:List Int) i=>aX.l0 k s (ints q) i) q.length (fun i s=>s ++ [((less (q.getD i 0):Nat):Int)]) (fun i s=>s.length≤i) _ (fun i s hi hP=>⟨by simp;omega,fun h=>Ev.step (fun k=>?_) h⟩) q.length 0 [] (by omega) (by simp) (fun _=>?_)
  ·obtain ⟨X,j⟩:=hqc _ (cO q 0 i hi)
   obtain ⟨Y,h8,h9⟩:=oz _ (by omega) j;have hsub:wrap64 (((q.getD i 0:Nat):Int) - ((2 ^ least (q.getD i 0):Nat):Int)) = ((less (q.getD i 0):Nat):Int):=by
    unfold less;rw [← Y];generalize 2 ^ least (q.getD i 0) = P at *;rw [cX.jL (by omega) (by omega)];omega
   simp only [aX.l0];rw [if_pos (by rw [aA];omega),if_pos (by omega),dR,pq _ (by omega) j,cX.dO i (by omega)];simp only [Option.bind_some];rw [if_pos (by omega),hsub]
  ·refine Ev.step (f:=fun k=>(aC.f k (ints (q.map less))).bind fun t=>some t) (fun k=>?_) (Ev.bind (kM _ (by rw [aA,List.length_map];omega)) (Ev.now _))
   simp only [aX.l0];rw [if_neg (by rw [aA];omega),← pA]
theorem qj (n:Int) (l:List Int):(nt n l).length≤256:=by
 unfold nt;cases hM:dm n l with
 | false=>simp
 | true =>
  simp only [if_true];obtain ⟨m,j,rfl,hm,rfl,hl,h0,hf⟩:=fq hM;rw [cu,Int.toNat_natCast];unfold mV;refine Nat.le_trans (j8 _) ?_;rw [aA,List.length_map,List.length_map];exact mh m hm j
theorem ri {m:Nat} {l:List Nat} (hm:m≤8) (hn:0 < l.length):∃ q:List Nat,mV m l = ints q∧(∀ c∈q,c < 2 ^ m)∧q.length≤256:=by
 unfold mV;obtain ⟨q,hq,hqc,hlen,hqe⟩:=mW (l:=l) hm hn;rw [hqe];obtain ⟨p,hp,hmem,hpl⟩:=mg (q.map less);refine ⟨p,hp,fun c hc=>?_,by rw [List.length_map] at hpl;omega⟩;obtain ⟨d,hd,rfl⟩:=List.mem_map.1 ((hmem c).1 hc);exact sZ (hqc d hd).1
def nC (m:Nat) (l:List Nat):List Nat:=(List.range' 0 (2 ^ m)).filter fun s=>!((mV m l).map Int.toNat).any fun c=>iu c s
def ik (n:Int) (l:List Int):List Int:=if dm n l = true then ints (nC n.toNat (l.map Int.toNat)) else []
theorem mj (n:Int) (l:List Int):(ik n l).length≤256:=by
 unfold ik;cases hM:dm n l with
 | false=>simp
 | true =>
  simp only [if_true];obtain ⟨m,y,rfl,hm,rfl,hl,h0,hf⟩:=fq hM;rw [Int.toNat_natCast,aA];have j:=bM hm;unfold nC;refine Nat.le_trans (List.length_filter_le _ _) ?_;rw [List.length_range'];exact j
theorem vv (n:Int) (l:List Int) (hn:l.length≤1048576):Ev (fun k=>eO.f k n l) (ik n l):=by
 unfold eO.f ik;refine Ev.bind (kx n l hn) ?_;have hb:=rf n l hn;unfold nt at hb;cases hM:dm n l with
 | false=>simp only [Bool.false_eq_true,if_false];exact Ev.now _
 | true =>
  rw [hM] at hb;simp only [if_true] at hb ⊢;obtain ⟨m,y,rfl,hm,rfl,hl,h0,hf⟩:=fq hM;rw [cu,Int.toNat_natCast] at hb;rw [cu,Int.toNat_natCast];have j:=bM hm;refine Ev.bind hb ?_;obtain ⟨q,hq,hqc,hlen⟩:=ri (l:=y) hm h0;unfold nC;rw [hq,cu];refine ot m hm (fun k s=>cJ.f k (ints q) s) (fun s=>!q.any fun c=>iu c s) (fun s hs=>?_) (fun k s=>cJ.mono _ _ _);unfold cJ.f;refine Ev.bind (cX.en (q.length+1) (fun k hk=>kH.jj _ q (fun c=>iu c s) (by omega) (fun c hc=>?_) k (by omega))) (Ev.now _);unfold dJ.f;exact qf c s (by have:=hqc c hc;omega) (by omega)
theorem su (q:List Nat) (s:Nat) (hq:∀ c∈q,c < 256) (hs:s < 256) (hn:q.length≤1048576):Ev (fun k=>dx.f k (ints q) (s:Int)) (q.any fun c=>iu c s):=by
 refine cX.en (q.length+1) (fun k hk=>?_);unfold dx.f;have:=cX.j7 (fun k i=>(dx.l0 k (ints q) (s:Int) i).map fun b=>!b) q.length (fun i=>!iu (q.getD i 0) s) 0 true (fun k i _ hi=>by
  have hb:=hq _ (cO q 0 i hi);simp only [dx.l0];rw [if_pos (by rw [aA];omega),if_pos (by omega),dR,nH _ _ (by omega) (by omega),cX.dO i (by omega)];unfold iu;by_cases e:q.getD i 0 &&& s = q.getD i 0
  ·rw [if_pos (by omega),decide_eq_true e];rfl
  ·rw [if_neg (by omega),decide_eq_false e];rfl) (fun k _=>by
  simp only [dx.l0];rw [if_neg (by rw [aA];omega)];rfl) q.length 0 k (by omega) (by omega)
 rw [Bool.and_true,sY,iX q 0 (fun c=>iu c s)] at this;obtain ⟨b,j,y⟩:=Option.map_eq_some_iff.1 this;have:b = q.any fun c=>iu c s:=by
  cases b <;> cases h:q.any fun c=>iu c s <;> simp_all
 rw [show ((0:Int)) = ((0:Nat):Int) from rfl,j,this]
theorem vw (n:Int) (l:List Int) (hn:l.length≤1048576):Ev (fun k=>bJ.f k n l) (ik n l):=by
 unfold bJ.f ik;simp only [Option.bind_some];refine Ev.bind (iI n l hn) ?_;have hb:=rh n l hn;unfold nt at hb;cases hM:dm n l with
 | false=>simp only [Bool.false_eq_true,if_false];exact Ev.now _
 | true =>
  rw [hM] at hb;simp only [if_true] at hb ⊢;obtain ⟨m,j,rfl,hm,rfl,hl,h0,hf⟩:=fq hM;rw [cu,Int.toNat_natCast] at hb;rw [cu,Int.toNat_natCast];have y:=bM hm;refine Ev.bind hb ?_;obtain ⟨q,hq,hqc,hlen⟩:=ri (l:=j) hm h0;unfold nC;rw [hq,cu];refine cX.fF (fun k (s:List Int) i=>bJ.l0 k s (ints q) i (m:Int) (ints j)) (2 ^ m) (fun i s=>if (!q.any fun c=>iu c i) = true then s ++ [(i:Int)] else s) (fun i s=>s.length≤i) _ (fun i s hi hP=>⟨?_,fun h=>?_⟩) (2 ^ m) 0 [] (by omega) (by simp) (fun _=>?_)
  ·show (if _ then _ else _:List Int).length≤_
   split
   ·simp;omega
   ·omega
  ·refine Ev.step (f:=fun k=>(dx.f k (ints q) (i:Int)).bind fun t=>(if t = true then (bJ.l0 k s (ints q) ((i+1:Nat):Int) (m:Int) (ints j)) else (bJ.l0 k (s ++ [(i:Int)]) (ints q) ((i+1:Nat):Int) (m:Int) (ints j)))) (fun k=>?_) ?_
   ·simp only [bJ.l0]
    rw [fh m hm];simp only [Option.bind_some];rw [if_pos (by have:=Nat.one_le_two_pow (n:=m);omega),cX.dO i (by omega),if_pos (show s.length < 17592186044416 by omega)]
   ·refine Ev.bind (su q i (fun c hc=>by have:=hqc c hc;omega) (by omega) (by omega)) ?_
    cases hb':q.any fun c=>iu c i with
    | true =>
     rw [hb'] at h;simpa using h
    | false =>
     rw [hb'] at h;simpa using h
  ·refine Ev.step (f:=fun k=>some (ints ((List.range' 0 (2 ^ m)).filter fun s=>!q.any fun c=>iu c s))) (fun k=>?_) (Ev.now _)
   simp only [bJ.l0];rw [fh m hm];simp only [Option.bind_some];rw [if_neg (by have:=Nat.one_le_two_pow (n:=m);omega),foldl_filter]
end gT
end
section
namespace Gr
def S:Nat→(Nat→Int)→Int
 | 0,_=>0
 | n+1,f=>S n f+f n
theorem iB {f g:Nat→Int}:∀ n,(∀ i,i < n→f i = g i)→S n f = S n g
 | 0,_=>rfl
 | n+1,h=>by rw [S,S,iB n fun i hi=>h i (by omega),h n (by omega)]
theorem sv:∀ n,S n (fun _=>0) = 0
 | 0=>rfl
 | n+1=>by rw [S,sv n];rfl
theorem xU (f g:Nat→Int):∀ n,S n (fun i=>f i+g i) = S n f+S n g
 | 0=>rfl
 | n+1=>by rw [S,S,S,xU f g n];omega
theorem vx (c:Int) (f:Nat→Int):∀ n,S n (fun i=>c * f i) = c * S n f
 | 0=>by rw [S,S,Int.mul_zero]
 | n+1=>by rw [S,S,vx c f n,Int.mul_add]
theorem xV (a:Nat) (f:Nat→Int):∀ b,S (a+b) f = S a f+S b fun i=>f (a+i)
 | 0=>by rw [S,Nat.add_zero];omega
 | b+1=>by rw [← Nat.add_assoc,S,xV a f b,S];omega
theorem jf {f g:Nat→Int}:∀ n,(∀ i,i < n→f i≤g i)→S n f≤S n g
 | 0,_=>Int.le_refl _
 | n+1,h=>by
  have h1:=jf n fun i hi=>h i (by omega)
  have h2:=h n (by omega);rw [S,S];omega
def al:Nat→(Nat→Bool)→Bool
 | 0,_=>true
 | n+1,p=>al n p && p n
def b1 (b:Bool):Int:=if b = true then 1 else 0
abbrev Ed:=List (Nat×Nat)
def Ok (V:Nat) (L:Ed):Prop:=∀ e∈L,e.1 < V∧e.2 < V
def dg (q n v:Nat):Nat:=n / q ^ v % q
def eL (E:Nat→Nat×Nat):Nat→Nat→Ed
 | 0,_=>[]
 | k+1,s=>if s.testBit k = true then E k :: eL E k s else eL E k s
def T (E:Nat→Nat×Nat) (m:Nat) (W:Ed→Int):Int:=S (2 ^ m) fun s=>W (eL E m s)
def bd (e:Nat×Nat) (v:Nat):Int:=(if v = e.1 then 1 else 0) - (if v = e.2 then 1 else 0)
def sm (E:Nat→Nat×Nat) (q n:Nat):Nat→Nat→Int
 | 0,_=>0
 | k+1,v=>(sm E q n k v+if v = (E k).1 then ((1+dg (q - 1) n k:Nat):Int) else 0)+if v = (E k).2 then (q:Int) - ((1+dg (q - 1) n k:Nat):Int) else 0
def Al (q V:Nat) (b:Nat→Int):Bool:=al V fun v=>b v % (q:Int) == 0
def F (E:Nat→Nat×Nat) (q V m:Nat) (b:Nat→Int):Int:=S ((q - 1) ^ m) fun n=>b1 (Al q V fun v=>sm E q n m v+b v)
def M (q V:Nat):Ed→(Nat→Int)→Int
 | [],b=>b1 (Al q V b)
 | e :: L,b=>S q fun t=>M q V L fun v=>b v+(t:Int) * bd e v
end Gr
end
section
namespace m3
open Go.RowKit Go.Proofs.YtlfkfdmggpipbaaGreat.Pr ag.aZ ag.bR ag.bT
theorem zv (xs:List (List Int)) (i:Nat):di xs (i:Int) = xs.getD i []:=rfl
def Small (xs:List (List Int)):Prop:=xs.length≤1048576∧∀ x∈xs,x.length≤1048576
theorem Small.at_ {xs:List (List Int)} (h:Small xs) (i:Nat):(xs.getD i []).length≤1048576:=by
 by_cases hi:i < xs.length
 ·have:=h.2 (xs[i]) (List.getElem_mem hi)
  simpa [List.getD,hi] using this
 ·simp [List.getD,hi]
theorem pB {α:Type} (xs:List α) (d:α) (i:Nat) (h:i < xs.length):xs.drop i = xs.getD i d :: xs.drop (i+1):=by
 rw [List.drop_eq_getElem_cons h];simp [List.getD,h]
def zO (xs:List (List Int)):Prop:=xs.length≤2097152∧∀ x∈xs,x.length≤2097152
theorem Small.mid {xs:List (List Int)} (h:Small xs):zO xs:=⟨by have:=h.1;omega,fun x hx=>by have:=h.2 x hx;omega⟩
theorem yB (ds rs:List (List Int)) (x:List Int):(ds ++ x :: rs).getD ds.length [] = x:=by simp [List.getD]
end m3
end
end Go.Proofs.YtlfkfdmggpipbaaGreat
