/- The claim FnExactFindKind: every text that its row comes to, laid together by slim.py (the words of the kit's print, the printed walks, the pure law, the row). -/
import Derived.Lib.OwnBridge
import Derived.Lib.RowBridge
import Derived.RowKit
import Derived.Shelf.SlGeneric
import Derived.Shelf.SlLaysF0
import Derived.Shelf.SlSortCmp.NoneTotal
import Derived.Shelf.Slices.CompactI
import Derived.Shelf.Slices.In.SortNone
import Derived.Shelf.Sort.Plain
import Derived.Sort.Grow
import Derived.Sort.OwnSortedInts
import Derived.Test.YtlfkfdmggpipbaaGreatProg
import Derived.Test.YtlfkfdmggpipbaaGreatYFnExactFindKind2
namespace Go.Proofs.YtlfkfdmggpipbaaGreat
section
namespace Pr
open Go.RowKit ag.b8 ag.ct ag.cu
attribute [local go_sem] fW fZ gK gM fE fF ga gf
set_option linter.unusedVariables false
set_option linter.unusedSimpArgs false
def eL.f (a0:Int):Option (Int):=some (Go.bits .and .i64 (wrap64 (IntKind.u64.wrap ((IntKind.u64.wrap ((IntKind.u64.wrap ((Go.bits .and .u64 (IntKind.u64.wrap (((IntKind.u64.wrap ((Go.bits .and .u64 ((IntKind.u64.wrap ((Go.bits .and .u64 (a0 / 2) 6148914691236517205)+(Go.bits .and .u64 a0 6148914691236517205))) / 4) 3689348814741910323)+(Go.bits .and .u64 (IntKind.u64.wrap ((Go.bits .and .u64 (a0 / 2) 6148914691236517205)+(Go.bits .and .u64 a0 6148914691236517205))) 3689348814741910323))) / 16)+(IntKind.u64.wrap ((Go.bits .and .u64 ((IntKind.u64.wrap ((Go.bits .and .u64 (a0 / 2) 6148914691236517205)+(Go.bits .and .u64 a0 6148914691236517205))) / 4) 3689348814741910323)+(Go.bits .and .u64 (IntKind.u64.wrap ((Go.bits .and .u64 (a0 / 2) 6148914691236517205)+(Go.bits .and .u64 a0 6148914691236517205))) 3689348814741910323))))) 1085102592571150095)+((Go.bits .and .u64 (IntKind.u64.wrap (((IntKind.u64.wrap ((Go.bits .and .u64 ((IntKind.u64.wrap ((Go.bits .and .u64 (a0 / 2) 6148914691236517205)+(Go.bits .and .u64 a0 6148914691236517205))) / 4) 3689348814741910323)+(Go.bits .and .u64 (IntKind.u64.wrap ((Go.bits .and .u64 (a0 / 2) 6148914691236517205)+(Go.bits .and .u64 a0 6148914691236517205))) 3689348814741910323))) / 16)+(IntKind.u64.wrap ((Go.bits .and .u64 ((IntKind.u64.wrap ((Go.bits .and .u64 (a0 / 2) 6148914691236517205)+(Go.bits .and .u64 a0 6148914691236517205))) / 4) 3689348814741910323)+(Go.bits .and .u64 (IntKind.u64.wrap ((Go.bits .and .u64 (a0 / 2) 6148914691236517205)+(Go.bits .and .u64 a0 6148914691236517205))) 3689348814741910323))))) 1085102592571150095) / 256)))+((IntKind.u64.wrap ((Go.bits .and .u64 (IntKind.u64.wrap (((IntKind.u64.wrap ((Go.bits .and .u64 ((IntKind.u64.wrap ((Go.bits .and .u64 (a0 / 2) 6148914691236517205)+(Go.bits .and .u64 a0 6148914691236517205))) / 4) 3689348814741910323)+(Go.bits .and .u64 (IntKind.u64.wrap ((Go.bits .and .u64 (a0 / 2) 6148914691236517205)+(Go.bits .and .u64 a0 6148914691236517205))) 3689348814741910323))) / 16)+(IntKind.u64.wrap ((Go.bits .and .u64 ((IntKind.u64.wrap ((Go.bits .and .u64 (a0 / 2) 6148914691236517205)+(Go.bits .and .u64 a0 6148914691236517205))) / 4) 3689348814741910323)+(Go.bits .and .u64 (IntKind.u64.wrap ((Go.bits .and .u64 (a0 / 2) 6148914691236517205)+(Go.bits .and .u64 a0 6148914691236517205))) 3689348814741910323))))) 1085102592571150095)+((Go.bits .and .u64 (IntKind.u64.wrap (((IntKind.u64.wrap ((Go.bits .and .u64 ((IntKind.u64.wrap ((Go.bits .and .u64 (a0 / 2) 6148914691236517205)+(Go.bits .and .u64 a0 6148914691236517205))) / 4) 3689348814741910323)+(Go.bits .and .u64 (IntKind.u64.wrap ((Go.bits .and .u64 (a0 / 2) 6148914691236517205)+(Go.bits .and .u64 a0 6148914691236517205))) 3689348814741910323))) / 16)+(IntKind.u64.wrap ((Go.bits .and .u64 ((IntKind.u64.wrap ((Go.bits .and .u64 (a0 / 2) 6148914691236517205)+(Go.bits .and .u64 a0 6148914691236517205))) / 4) 3689348814741910323)+(Go.bits .and .u64 (IntKind.u64.wrap ((Go.bits .and .u64 (a0 / 2) 6148914691236517205)+(Go.bits .and .u64 a0 6148914691236517205))) 3689348814741910323))))) 1085102592571150095) / 256))) / 65536)))+((IntKind.u64.wrap ((IntKind.u64.wrap ((Go.bits .and .u64 (IntKind.u64.wrap (((IntKind.u64.wrap ((Go.bits .and .u64 ((IntKind.u64.wrap ((Go.bits .and .u64 (a0 / 2) 6148914691236517205)+(Go.bits .and .u64 a0 6148914691236517205))) / 4) 3689348814741910323)+(Go.bits .and .u64 (IntKind.u64.wrap ((Go.bits .and .u64 (a0 / 2) 6148914691236517205)+(Go.bits .and .u64 a0 6148914691236517205))) 3689348814741910323))) / 16)+(IntKind.u64.wrap ((Go.bits .and .u64 ((IntKind.u64.wrap ((Go.bits .and .u64 (a0 / 2) 6148914691236517205)+(Go.bits .and .u64 a0 6148914691236517205))) / 4) 3689348814741910323)+(Go.bits .and .u64 (IntKind.u64.wrap ((Go.bits .and .u64 (a0 / 2) 6148914691236517205)+(Go.bits .and .u64 a0 6148914691236517205))) 3689348814741910323))))) 1085102592571150095)+((Go.bits .and .u64 (IntKind.u64.wrap (((IntKind.u64.wrap ((Go.bits .and .u64 ((IntKind.u64.wrap ((Go.bits .and .u64 (a0 / 2) 6148914691236517205)+(Go.bits .and .u64 a0 6148914691236517205))) / 4) 3689348814741910323)+(Go.bits .and .u64 (IntKind.u64.wrap ((Go.bits .and .u64 (a0 / 2) 6148914691236517205)+(Go.bits .and .u64 a0 6148914691236517205))) 3689348814741910323))) / 16)+(IntKind.u64.wrap ((Go.bits .and .u64 ((IntKind.u64.wrap ((Go.bits .and .u64 (a0 / 2) 6148914691236517205)+(Go.bits .and .u64 a0 6148914691236517205))) / 4) 3689348814741910323)+(Go.bits .and .u64 (IntKind.u64.wrap ((Go.bits .and .u64 (a0 / 2) 6148914691236517205)+(Go.bits .and .u64 a0 6148914691236517205))) 3689348814741910323))))) 1085102592571150095) / 256)))+((IntKind.u64.wrap ((Go.bits .and .u64 (IntKind.u64.wrap (((IntKind.u64.wrap ((Go.bits .and .u64 ((IntKind.u64.wrap ((Go.bits .and .u64 (a0 / 2) 6148914691236517205)+(Go.bits .and .u64 a0 6148914691236517205))) / 4) 3689348814741910323)+(Go.bits .and .u64 (IntKind.u64.wrap ((Go.bits .and .u64 (a0 / 2) 6148914691236517205)+(Go.bits .and .u64 a0 6148914691236517205))) 3689348814741910323))) / 16)+(IntKind.u64.wrap ((Go.bits .and .u64 ((IntKind.u64.wrap ((Go.bits .and .u64 (a0 / 2) 6148914691236517205)+(Go.bits .and .u64 a0 6148914691236517205))) / 4) 3689348814741910323)+(Go.bits .and .u64 (IntKind.u64.wrap ((Go.bits .and .u64 (a0 / 2) 6148914691236517205)+(Go.bits .and .u64 a0 6148914691236517205))) 3689348814741910323))))) 1085102592571150095)+((Go.bits .and .u64 (IntKind.u64.wrap (((IntKind.u64.wrap ((Go.bits .and .u64 ((IntKind.u64.wrap ((Go.bits .and .u64 (a0 / 2) 6148914691236517205)+(Go.bits .and .u64 a0 6148914691236517205))) / 4) 3689348814741910323)+(Go.bits .and .u64 (IntKind.u64.wrap ((Go.bits .and .u64 (a0 / 2) 6148914691236517205)+(Go.bits .and .u64 a0 6148914691236517205))) 3689348814741910323))) / 16)+(IntKind.u64.wrap ((Go.bits .and .u64 ((IntKind.u64.wrap ((Go.bits .and .u64 (a0 / 2) 6148914691236517205)+(Go.bits .and .u64 a0 6148914691236517205))) / 4) 3689348814741910323)+(Go.bits .and .u64 (IntKind.u64.wrap ((Go.bits .and .u64 (a0 / 2) 6148914691236517205)+(Go.bits .and .u64 a0 6148914691236517205))) 3689348814741910323))))) 1085102592571150095) / 256))) / 65536))) / 4294967296)))) 127)
set_option maxHeartbeats 8000000 in
set_option maxRecDepth 100000 in
theorem eL.calls (a0:Int) (r:Int) (w:World) (h:eL.f a0 = some r) :
  Calls Tryz.prog 182 #[.int .u64 a0] w fun e w'=>e = .returned (.int .i64 r)∧cw w w':=by
 unfold eL.f at h;have H:=h;clear h;obtain rfl:=Option.some.inj H;go_enter Tryz.func182,Tryz.ntmps182;go_wp2;go_ret;exact ⟨nb,pf⟩
def eM.f (a0:Int):Option (Int):=(eL.f a0).bind fun j=>(some j)
set_option maxHeartbeats 8000000 in
set_option maxRecDepth 100000 in
theorem eM.calls (a0:Int) (r:Int) (w:World) (h:eM.f a0 = some r) :
  Calls Tryz.prog 129 #[.int .u64 a0] w fun e w'=>e = .returned (.int .i64 r)∧cw w w':=by
 unfold eM.f at h;have H:=h;clear h;obtain ⟨j,y,H⟩:=oX H;(try dsimp only at H);obtain rfl:=Option.some.inj H;go_enter Tryz.func129,Tryz.ntmps129;go_wp2_with (first | (refine nm (some 7) Tryz.func182 #[.int .u64 a0] ?_;(with_reducible refine (eL.calls a0 j _ y.out).mono ?_);rintro e w' ⟨rfl,⟨nd,rfl⟩⟩;refine ⟨_,rfl,?_⟩));go_ret;exact ⟨nb,pf⟩
def dL.f (a0:Int):Option (Int):=(dR.f a0).bind fun j=>(if j = true then ((eM.f (IntKind.u64.wrap (a0))).bind fun y=>(some y)) else (some 0))
set_option maxHeartbeats 8000000 in
set_option maxRecDepth 100000 in
theorem dL.calls (a0:Int) (r:Int) (w:World) (h:dL.f a0 = some r) :
  Calls Tryz.prog 67 #[.int .i64 a0] w fun e w'=>e = .returned (.int .i64 r)∧cw w w':=by
 unfold dL.f at h;have H:=h;clear h;obtain ⟨y,z,H⟩:=oX H;(try dsimp only at H);by_cases c3:y = true
 ·subst c3
  replace H:((eM.f (IntKind.u64.wrap (a0))).bind fun j=>(some j)) = some r:=by rw [if_pos rfl] at H;exact H
  obtain ⟨j,I,H⟩:=oX H;(try dsimp only at H);obtain rfl:=Option.some.inj H;go_enter Tryz.func67,Tryz.ntmps67;go_wp2_with (first | (refine nm (some 4) Tryz.func128 #[.int .i64 a0] ?_;(with_reducible refine (dR.calls a0 true _ z.out).mono ?_);rintro e w' ⟨rfl,⟨nd,rfl⟩⟩;refine ⟨_,rfl,?_⟩) | (refine nm (some 8) Tryz.func129 #[.int .u64 (IntKind.u64.wrap (a0))] ?_;(with_reducible refine (eM.calls (IntKind.u64.wrap (a0)) j _ I.out).mono ?_);rintro e w' ⟨rfl,⟨nd,rfl⟩⟩;refine ⟨_,rfl,?_⟩));go_ret;exact ⟨nb,pf⟩
 ·replace c3:=Bool.eq_false_iff.mpr c3
  subst c3;replace H:(some 0) = some r:=by rw [if_neg (show ¬ (false = true) by decide)] at H;exact H
  obtain rfl:=Option.some.inj H;go_enter Tryz.func67,Tryz.ntmps67;go_wp2_with (first | (refine nm (some 4) Tryz.func128 #[.int .i64 a0] ?_;(with_reducible refine (dR.calls a0 false _ z.out).mono ?_);rintro e w' ⟨rfl,⟨nd,rfl⟩⟩;refine ⟨_,rfl,?_⟩));go_ret;exact ⟨nb,pf⟩
def cV.f (k:Nat) (y:Int) (j:List Int):Option (Int):=(cj.f k y j).bind fun z=>(if z = true then (if 0 < (j.length:Int) then ((dL.f (rd j 0)).bind fun I=>(some I)) else (none)) else (some (-1)))
set_option maxHeartbeats 8000000 in
set_option maxRecDepth 100000 in
theorem cV.calls (k:Nat) (I:Int) (J:Option Addr) (M:Nat) (j:List Int) (r:Int) (w:World) (X:Kd.C (Kd.int .i64) w J j.length j) (Y:j.length≤M) (h:cV.f k I j = some r) :
  Calls Tryz.prog 62 #[.agg #[.int .i64 I,.slice J j.length M]] w fun e w'=>e = .returned (.int .i64 r)∧Below w.heap.size w w':=by
 have aR:=Tryz.underlying37;have U:=ae.mk X;have a0:=ae.mk Y;clear X Y;have HB:=ae.mk (Below.refl w.heap.size w);unfold cV.f at h;have H:=h;clear h;obtain ⟨a7,A2,H⟩:=oX H;(try dsimp only at H);by_cases c3:a7 = true
 ·subst c3
  replace H:(if 0 < (j.length:Int) then ((dL.f (rd j 0)).bind fun a1=>(some a1)) else (none)) = some r:=by rw [if_pos rfl] at H;exact H
  obtain ⟨c4,H⟩:=oY H;have aS:=decide_eq_true c4;have b0:decide (0 < j.length) = true:=decide_eq_true (by omega);clear c4;obtain ⟨a1,A5,H⟩:=oX H;(try dsimp only at H);obtain rfl:=Option.some.inj H;go_enter Tryz.func62,Tryz.ntmps62;go_wp2_with (first | (refine pd 1 #[.int .i64 I,.slice J j.length M] 37 ?_;intro a4 hg w6 hbox hb;have y:=ae.mk hbox;have a5:=no hg HB;have a6:=no hg HB;replace HB:=np HB hb;clear hb hbox hg;obtain ⟨am,ao,ap,ar⟩:=nz y.out) | (refine nm (some 4) Tryz.func61 #[.agg #[.int .i64 I,.slice J j.length M]] ?_;(with_reducible refine (cj.calls k I _ _ j true _ ?side1 ?side2 A2.out).mono ?_);(case side1=>exact ol (Kd.aJ U.out HB.out));(case side2=>exact a0.out);rintro e w8 ⟨rfl,hb⟩;refine ⟨_,rfl,?_⟩;replace y:=ne y hb;replace HB:=np HB hb;(try clear hb);(try clear aL);(try clear hk);(try clear hi);obtain ⟨aw,aB,aE,aF⟩:=nz y.out;have a2:0≤(0:Int):=(by omega);have a3:0 < (j.length:Int):=pa;obtain ⟨aO,a8,z⟩:=Kd.cT U.out 0 a2 a3;cases a8;have aP:(0 < j.length) = True:=eq_true (by omega);(try rw [show ((0:Int)).toNat = 0 from rfl] at z);(try rw [Addr.add_zero'] at z);replace z:=(HB.out.cell (World.block_lt_of_cell? w _ z)).trans z;replace a2:=eq_true a2;replace a3:=eq_true a3) | (refine nm (some 10) Tryz.func67 #[.int .i64 (rd j 0)] ?_;(with_reducible refine (dL.calls (rd j 0) a1 _ A5.out).mono ?_);rintro e w' ⟨rfl,⟨nd,rfl⟩⟩;refine ⟨_,rfl,?_⟩));go_ret;exact ⟨pj,na⟩
 ·replace c3:=Bool.eq_false_iff.mpr c3
  subst c3;replace H:(some (-1)) = some r:=by rw [if_neg (show ¬ (false = true) by decide)] at H;exact H
  obtain rfl:=Option.some.inj H;go_enter Tryz.func62,Tryz.ntmps62;go_wp2_with (first | (refine pd 1 #[.int .i64 I,.slice J j.length M] 37 ?_;intro a4 hg b1 hbox hb;have y:=ae.mk hbox;have a5:=no hg HB;have a6:=no hg HB;replace HB:=np HB hb;clear hb hbox hg;obtain ⟨a9,aa,ab,al⟩:=nz y.out) | (refine nm (some 4) Tryz.func61 #[.agg #[.int .i64 I,.slice J j.length M]] ?_;(with_reducible refine (cj.calls k I _ _ j false _ ?side1 ?side2 A2.out).mono ?_);(case side1=>exact ol (Kd.aJ U.out HB.out));(case side2=>exact a0.out);rintro e b2 ⟨rfl,hb⟩;refine ⟨_,rfl,?_⟩;replace y:=ne y hb;replace HB:=np HB hb;(try clear hb);(try clear aL);(try clear hk);(try clear hi)));go_ret;exact ⟨pj,na⟩
def bW.f (z:Int) (y:List Int):Option (Int×List Int):=(some (([]:List Int):List Int)).bind fun j=>(if j.length+y.length < 17592186044416 then (some (z,(j ++ y))) else (none))
def bW.T1:Bool×List (List Nat×List Nat):=(true,[([],[]),([0],[0]),([],[]),([],[]),([3],[3]),([2,4],[2,4]),([1,5],[1,5]),([6,5,0,1,2,3,4,5,6],[6])])
def bW.B1:List Nat:=[0,1,0,0,8,28,63,127]
theorem bW.sg:fc .any (opsOf Tryz.f110 1) = bW.T1:=by kernel_rfl
theorem bW.pC:eT bW.T1.2 bW.B1 = true:=by kernel_rfl
set_option maxHeartbeats 8000000 in
set_option maxRecDepth 100000 in
theorem bW.calls (M:Int) (a4:Option Addr) (a5:Nat) (J:List Int) (r1:Int) (r2:List Int) (w:World) (a9:Kd.C (Kd.int .i64) w a4 J.length J) (aa:J.length≤a5) (h:bW.f M J = some (r1,r2)) :
  Calls Tryz.prog 110 #[.agg #[.int .i64 M,.slice a4 J.length a5]] w fun e w'=>∃ ar:Value,e = .returned (.agg #[.int .i64 r1,ar])∧Kd.R (Kd.int .i64) 3 w' w.heap.size (fun _=>True) ar r2∧Below w.heap.size w w':=by
 have cl:=Tryz.underlying37;have am:=ae.mk a9;have ca:=ae.mk aa;clear a9 aa;have HB:=ae.mk (Below.refl w.heap.size w);unfold bW.f at h;have H:=h;clear h;obtain ⟨Y,a0⟩:∃ y_:List Int,y_ = (([]:List Int)):=⟨_,rfl⟩
 replace H:(if Y.length+J.length < 17592186044416 then (some (M,(Y ++ J))) else (none)) = some (r1,r2):=by (try rw [a0]);exact pp
 have a7:=ae.mk a0;clear a0;obtain ⟨c2,H⟩:=oY H;have aw:=ae.mk c2;clear c2;obtain ⟨a6,a1⟩:∃ y_:List Int,y_ = (Y ++ J):=⟨_,rfl⟩
 replace H:(some (M,a6)) = some (r1,r2):=by (try rw [a1]);exact pp
 have al:=ae.mk a1;clear a1;simp only [Option.some.injEq,Prod.mk.injEq] at H;obtain ⟨rfl,rfl⟩:=H;go_enter Tryz.func110,Tryz.ntmps110;(try go_wp2_with (first | (refine pd 1 #[.int .i64 M,.slice a4 J.length a5] 37 ?_;intro a2 hg w3 hbox hb;have j:=ae.mk hbox;have bs:=no hg HB;have bv:=no hg HB;replace HB:=np HB hb;clear hb hbox hg) | (refine pd 2 #[.int .i64 0,.slice none 0 0] 37 ?_;intro I hg w4 hbox hb;have y:=ae.mk hbox;have c0:=no hg HB;have c1:=no hg HB;replace HB:=np HB hb;have z:=pk hg j;have U:=pl hg j;replace j:=ne j hb;clear hb hbox hg)));replace j:=ae.mk (cW j.out);replace y:=ae.mk (cW y.out);replace HB:=ae.mk (bZ HB.out);refine e9 (n:=8) (S:=fun w'=>w'.cell? ⟨a2,0,none⟩ = some (.int .i64 M)∧w'.cell? ⟨a2,1,none⟩ = some (.slice a4 J.length a5)) (ds:=[]) #[false,false,false,false,false,false,false,false] (by kernel_rfl) rfl rfl ⟨(ah j.out 0).trans rfl,(ah j.out 1).trans rfl⟩ (fun hHeld=>?_);refine dm bW.sg bW.pC (fun a3 aE=>?_);generalize w4.drew = w5 at j y HB hHeld ⊢;refine ob 0 3 a3 ?_;refine ob 3 6 a3 ?_;refine pv 1 4 a3 aE hHeld ?_;refine pv 4 7 a3 aE hHeld ?_;refine eW (i:=2) (N:=some 5) #[true,true,true,true,true,false,false,false] rfl rfl (dn a3.out (by kernel_rfl)) (by decide) (fun K hK=>?_);refine Kd.cR (Kd.int .i64) _ 3 ?hg (N:=5) ?hd (xs:=([]:List Int)) (inner:=[]) (ok:=fun _=>True) (okp:=fun _=>True) ?hr ?hp (fun _ hk=>hk) trivial (Below.refl _ _) (Nat.le_refl _) (by simp) ?_;(case hd=>rfl);(case hg=>rfl);(case hr=>first | (go_simp;done) | (go_simp;rfl));(case hp=>exact (cm.none _ _));intro ao w6 ab hb cb ap;clear cb ap;(first | rw [← a7.out] at ab | (simp only [Int.reduceToNat] at ab;rw [← a7.out] at ab));have X:=ae.mk (Kd.bE ab (an (n8 HB.out)));replace j:=ne j hb;replace y:=ne y hb;replace HB:=np HB hb;clear hb ab;refine hK.out _ _ ⟨(ah j.out 0).trans rfl,(ah j.out 1).trans rfl⟩ (fun hHeld=>?_);clear hK K;refine bX (a':=?_) ?_ ?_;rotate_left
 ·show Act.put _ (some 5) _ = _
  simp only [Act.put,List.setIfInBounds_toArray,List.set_cons_zero,List.set_cons_succ,b9,bB];rfl
 refine eW (i:=5) (N:=some 8) #[true,true,true,true,true,true,false,false] rfl rfl (dn a3.out (by kernel_rfl)) (by decide) (fun K hK=>?_);refine Kd.cU (Kd.int .i64) (w0:=w) w.heap.size (by rfl) (.tmp 5) (.tmp 7) 22 3 (.int .i64 0) 8 rfl Tryz.underlying22 eF rfl (by decide) (by omega) ao Y J _ _ _ (fun _=>True) (fun _=>False) rfl rfl ?aO ?aR (fun _ _ h=>h) (fun _ h=>h.elim) ?aF ?aB ?aS ?aL ?_;(case aR=>repeat (first | exact (Kd.aJ am.out HB.out) | (with_reducible refine Kd.cG ?_ _) | (with_reducible refine Kd.cH ?_ _) | (with_reducible refine Kd.cQ ?_)));(case aB=>exact (n8 HB.out));(case aF=>exact (fun _ _=>trivial));(case aO=>exact (ac X.out));(case aS=>exact (an (n8 HB.out)));(case aL=>have:=aw.out;omega);intro cc w8 ho hb hg hat;rw [← al.out] at ho;have aP:=ae.mk (cM (g:=a2) (o:=.cells #[.int .i64 M,.slice a4 J.length a5] 37 (0,0)) (o0 j.out) hg (Kd.iD X.out j.out (by decide)));have b0:=ae.mk (cM (g:=I) (o:=.cells #[.int .i64 0,.slice none 0 0] 37 (0,0)) (o0 y.out) hg (Kd.iD X.out y.out (by decide)));have b1:=ae.mk hb;have b2:=ae.mk ho;clear j;clear y;clear HB;clear X;have j:=aP;have y:=b0;have HB:=b1;have a8:=b2;clear aP b0 b1 b2;clear ho hb hg hat;obtain ⟨b3,b4,ba⟩:=Kd.bG a8.out;(first | subst ba | (injection ba with bc cd bd;have ce:=bc.symm;have cf:=bd.symm;clear bc cd bd;subst ce;subst cf));refine hK.out _ _ ⟨(ah j.out 0).trans rfl,(ah j.out 1).trans rfl⟩ (fun hHeld=>?_);clear hK K;refine bX (a':=?_) ?_ ?_;rotate_left
 ·show Act.put _ (some 8) _ = _
  simp only [Act.put,List.setIfInBounds_toArray,List.set_cons_zero,List.set_cons_succ,b9,bB];rfl
 refine ob 6 9 a3 ?_;refine eW (i:=7) (N:=none) #[true,true,true,true,true,true,true,true] rfl rfl (dn a3.out (by kernel_rfl)) (by decide) (fun K hK=>?_);have co:w8.cell? ⟨I,0,none⟩ = some (.int .i64 0):=(ah y.out 0).trans rfl;have ch:=aj y.out 0;have bi:=z.out;have bk:=U.out;have cp:w8.cell? ⟨I,1,none⟩ = some (.slice none 0 0):=(ah y.out 1).trans rfl;have ci:=aj y.out 1;have bm:=z.out;have bo:=U.out;refine nD (w1:=?_) (by rfl) rfl ?_ ?_;rotate_left
 ·go_simp
  rfl
 refine hK.out _ _ ⟨((cell_far (p:=⟨I,_,none⟩) z.out _).trans (((cell_far (p:=⟨I,_,none⟩) z.out _).trans (hHeld.1)))),((cell_far (p:=⟨I,_,none⟩) z.out _).trans (((cell_far (p:=⟨I,_,none⟩) z.out _).trans (hHeld.2))))⟩ (fun hHeld=>?_);clear hK K;refine eZ (en a3.out (by kernel_rfl)) ?_;(try go_wp2);refine bodyPost_ret (results_cell_row rfl _ _ I 37 #[.int .i64 M,.slice b3 a6.length b4] (0,0) _ rfl ph Tryz.underlying37 rfl (by kernel_rfl)) rfl ?_;exact ⟨_,pj,by (with_reducible repeat (first | apply Kd.eY | apply Kd.eR | apply Kd.dw));exact Kd.aX (Kd.bF (p:=⟨I,1,none⟩) (Kd.bF (p:=⟨I,0,none⟩) (Kd.bf a8.out y.out (by decide)) (fun _ hk=>hk.2) (.int .i64 M)) (fun _ hk=>hk.2) (.slice b3 a6.length b4)) (fun _ hk=>trivial),na⟩
structure ak.Kp (gb:Nat) (w w':World):Prop where
 b:Below gb w w'
 k:bu w w' gb none
theorem ak.Kp.refl (gb:Nat) (w:World):ak.Kp gb w w:=⟨Below.refl _ _,bu.refl _ _ _⟩
theorem ak.Kp.trans {gb:Nat} {w w1 j:World} (h:ak.Kp gb w w1) (k:ak.Kp gb w1 j):ak.Kp gb w j :=
 ⟨⟨k.b.os.trans h.b.os,k.b.tape.trans h.b.tape,k.b.output.trans h.b.output,Nat.le_trans h.b.size k.b.size,fun i hi=>(k.b.block i hi).trans (h.b.block i hi)⟩,bu.trans h.k k.k (.inl rfl)⟩
theorem ak.Kp.of {gb:Nat} {w w':World} (h:Below w.heap.size w w') (hg:gb < w.heap.size):ak.Kp gb w w' :=
 ⟨⟨h.os,h.tape,h.output,h.size,fun i hi=>h.block i (by omega)⟩,bu.fz h gb none⟩
structure ak.mW (w:World) (gb base:Nat) (b:Int×List Int):Prop where
 out:∃ (A:Option Addr) (c:Nat),w.heap[gb]? = some (.cells #[.int .i64 b.1,.slice A b.2.length c] 37 (0,0))∧base≤gb∧∀ W_,bu w W_ gb none→Kd.R (Kd.int .i64) 3 W_ base (fun _=>True) (.slice A b.2.length c) b.2
theorem ak.mW.below {w w':World} {gb base:Nat} {b:Int×List Int} (h:ak.mW w gb base b) (hb:Below w.heap.size w w'):ak.mW w' gb base b:=by
 obtain ⟨A,c,h1,h2,h3⟩:=h.out;exact ⟨A,c,aN h1 hb,h2,fun W_ hk=>h3 W_ (bu.trans (bu.fz hb gb none) hk (.inl rfl))⟩
theorem ak.mW.lt {w:World} {gb base:Nat} {b:Int×List Int} (h:ak.mW w gb base b):gb < w.heap.size:=by
 obtain ⟨A,c,h1,h2,h3⟩:=h.out;exact gV h1
structure ak.tj (P:Program) (W:World) (fv:Value) (gb base:Nat) (g:List Int→Int×List Int→Option (Int×List Int)):Prop where
 out:∃ (f:Nat) (caps:Array Value) (fn:Func),fv = .func (.func f) #[] caps∧P.funcs[f]? = some fn∧(fn.name == "runtime.NumGoroutine") = false∧fn.body.isSome = true ∧
  ∀ (A:Option Addr) (c:Nat) (xs:List Int) (b b':Int×List Int) (w:World),ak.Kp gb W w→ak.mW w gb base b→Kd.C (Kd.int .i64) w A xs.length xs→xs.length≤c→g xs b = some b'→Calls P f (#[.slice A xs.length c] ++ caps) w fun e w'=>e = .returned (.bool true)∧ak.mW w' gb base b'∧ak.Kp gb w w'
theorem ak.si {P:Program} {ops:Array Oper} {Q:Exit→Act→World→Prop} {rest:List Oper} {oi:Oper} {a:Act} {W w:World} {fv:Value} {gb base:Nat} {g:List Int→Int×List Int→Option (Int×List Int)} {A:Option Addr} {c:Nat} {xs:List Int} {b b':Int×List Int} (N:Option Tmp) (hd:oi.dst = N) (hg:oi.guard = none) (t:Tmp) {ars:Array Operand} {ts:Array TypeId}
  (hop:oi.op = .call { callee:=.value (.tmp t),args:=ars,argTypes:=ts }) (hF:ak.tj P W fv gb base g) (hb:g xs b = some b') (hK:ak.Kp gb W w) (hJ:ak.mW w gb base b) (hC:Kd.C (Kd.int .i64) w A xs.length xs) (hc:xs.length≤c) (hv:a.eval (.tmp t) = fv) (hargs:ars.map a.eval = #[.slice A xs.length c])
  (h:∀ w',ak.mW w' gb base b'→ak.Kp gb w w'→wpList P ops Q rest (a.put N (.bool true)) w'):wpList P ops Q (oi :: rest) a w:=by
 obtain ⟨f,caps,fn,rfl,hf,hname,hbody,hcl⟩:=hF.out;refine wpList_plain hg fun K hK'=>?_
 have he:=iX hf hname hbody (#[.slice A xs.length c] ++ caps) w;have hrun:(execOp a.eval oi).run P w = .ok (.enter f (#[.slice A xs.length c] ++ caps)) w:=by
  unfold execOp;simp [hop,resolve,Deferred.ofValue,invoke,hv,hargs];simpa using he
 unfold Oper.wp;rw [hrun,Oper.upon_enter];refine (hcl A c xs b b' w hK hJ hC hc hb).mono fun e w'' hh=>?_
 obtain ⟨rfl,hj,hk⟩:=hh;subst hd;exact hK' _ _ (h _ hj hk)
mutual
def ak.l0 (g:List Int→Int×List Int→Option (Int×List Int)):Nat→Int→List Int→Int→Int×List Int→Option (Int×List Int)
 | 0,_,_,_,_=>none
 | k+1,I,y,z,b=>if z < I then ((aY.f k y z).bind fun j=>(if j = true then (ak.l0 g k I y (wrap64 (z+1)) b) else (if y.length < 17592186044416 then ((ak.f g k I (y ++ [z]) b).bind fun J=>(ak.l0 g k I y (wrap64 (z+1)) J)) else none))) else (some b)
def ak.f (g:List Int→Int×List Int→Option (Int×List Int)):Nat→Int→List Int→Int×List Int→Option (Int×List Int)
 | 0,_,_,_=>none
 | k+1,a0,l1,b=>if (l1.length:Int) = a0 then (g l1 b) else (ak.l0 g k a0 l1 0 b)
end
theorem ak.eK {g g':List Int→Int×List Int→Option (Int×List Int)} (hg:∀ x b,fh (g x b) (g' x b)):∀ k,(∀ y0 y1 y2,fh (ak.f g k y0 y1 y2) (ak.f g' (k+1) y0 y1 y2))∧(∀ y0 y1 y2 y3,fh (ak.l0 g k y0 y1 y2 y3) (ak.l0 g' (k+1) y0 y1 y2 y3))
 | 0=>⟨fun _ _ _ r h=>by simp [ak.f] at h,fun _ _ _ _ r h=>by simp [ak.l0] at h⟩
 | k+1=>by
  obtain ⟨y,j⟩:=ak.eK hg k;refine ⟨fun y0 y1 y2=>?_,fun y0 y1 y2 y3=>?_⟩
  ·unfold ak.f
   exact fh.ite (hg _ _) (j _ _ _ _)
  ·unfold ak.l0
   exact fh.ite (fh.bind (aY.mono _ _ _) fun _=>fh.ite (j _ _ _ _) (fh.ite (fh.bind (y _ _ _) fun _=>j _ _ _ _) (fh.refl _))) (fh.refl _)
theorem ak.mono {g g':List Int→Int×List Int→Option (Int×List Int)} (hg:∀ x b,fh (g x b) (g' x b)) (k:Nat) (n:Int) (l:List Int) (b:Int×List Int):fh (ak.f g k n l b) (ak.f g' (k+1) n l b):=(ak.eK hg k).1 n l b
set_option maxHeartbeats 8000000 in
set_option maxRecDepth 100000 in
theorem ak.calls {fv:Value} {gb base:Nat} {W:World} {g:List Int→Int×List Int→Option (Int×List Int)} (hF:ak.tj Tryz.prog W fv gb base g) (k:Nat):∀ (a0:Int) (A1:Option Addr) (c1:Nat) (l1:List Int) (b r:Int×List Int) (w:World) (hK:ak.Kp gb W w) (hJ:ak.mW w gb base b) (al:∀ W_,bu w W_ gb none→Kd.C (Kd.int .i64) W_ A1 l1.length l1) (am:l1.length≤c1) (h:ak.f g k a0 l1 b = some r),
  Calls Tryz.prog 111 #[.int .i64 a0,.slice A1 l1.length c1,fv] w fun e w'=>e = .returned (.bool true)∧ak.mW w' gb base r∧ak.Kp gb w w':=by
 induction k using Nat.strongRecOn with
 | _ k ih =>
 intro a0 A1 c1 l1 b r w hK hJ al am h;cases k with
 | zero=>exact absurd h (by simp [ak.f])
 | succ k =>
 simp only [ak.f] at h;have a9:=ae.mk al;have ao:=ae.mk am;have HKK:=ae.mk hK;have aF:=ae.mk hJ;clear al am hK hJ;have H:(if (l1.length:Int) = a0 then (g l1 b) else (ak.l0 g k a0 l1 0 b)) = some r:=h;clear h;by_cases c4:(l1.length:Int) = a0
 ·rw [if_pos c4] at H
  have aL:((l1.length:Int) == a0) = true:=beq_iff_eq.mpr c4;have aO:((l1.length:Int) != a0) = false:=bne_eq_false_iff_eq.mpr c4;clear c4;have A5:=ae.mk H;clear H;go_enter Tryz.func111,Tryz.ntmps111;go_wp2_with (first | ((with_reducible refine aZ (N:=14) rfl ?_);refine ak.si (some 14) rfl rfl 12 rfl hF A5.out HKK.out aF.out (a9.out _ (bu.refl _ _ _)) ao.out rfl (by (try simp only [List.map_toArray,List.map_cons,List.map_nil]);first | done | rfl) ?_;intro w5 hj hk;have b3:=ae.mk hj;have b4:=ae.mk hk;clear hj hk));go_ret;exact ⟨rfl,b3.out,b4.out⟩
 ·rw [if_neg c4] at H
  have aL:((l1.length:Int) == a0) = false:=beq_eq_false_iff_ne.mpr c4;have aO:((l1.length:Int) != a0) = true:=bne_iff_ne.mpr c4;have H':=ae.mk H;clear H;go_enter Tryz.func111,Tryz.ntmps111;go_wp2;go_loopg [7] k (fun kq v7 w'=>∃ (j:Int) (b1:Int×List Int),v7 = .int .i64 j∧ae (ak.l0 g kq a0 l1 j b1 = some r)∧ae (kq≤k)∧ae (ak.mW w' gb base b1)∧ae (ak.Kp gb w w'))
  case atStart=>exact ⟨0,b,nb,H',⟨Nat.le_refl _⟩,aF,⟨ak.Kp.refl _ _⟩⟩
  case round =>
   clear H';obtain ⟨j,b1,rfl,HA,a6,HJ,HP⟩:=hrel;have HB:=ae.mk (Below.refl wr.heap.size wr);cases gk with
   | zero=>exact absurd HA.out (by simp [ak.l0])
   | succ k1 =>
    have H:=HA.out;clear HA;simp only [ak.l0] at H;by_cases c6:j < a0
    ·rw [if_pos c6] at H
     have aP:=decide_eq_true c6;clear c6;obtain ⟨ap,A7,H⟩:=oX H;(try dsimp only at H);by_cases c8:ap = true
     ·subst c8
      replace H:(ak.l0 g k1 a0 l1 (wrap64 (j+1)) b1) = some r:=by rw [if_pos rfl] at H;exact H
      have H':=ae.mk H;clear H;go_wp2_with (first | ((with_reducible refine aW (f:=131) rfl ?_);refine nm (some 22) Tryz.func131 #[.slice A1 l1.length c1,.int .i64 j] ?_;(with_reducible refine (aY.calls k1 _ _ l1 j true _ ?side1 ?side2 A7.out).mono ?_);(case side1=>exact a9.out _ HP.out.k);(case side2=>exact ao.out);rintro e w' ⟨rfl,hd⟩;refine ⟨_,rfl,?_⟩;have HD:=ae.mk hd.below;clear hd));go_roundg k1;case measure=>have:=a6.out;omega
      case rel=>exact ⟨(wrap64 (j+1)),b1,nb,H',⟨by have:=a6.out;omega⟩,⟨HJ.out.below HD.out⟩,⟨HP.out.trans (ak.Kp.of HD.out HJ.out.lt)⟩⟩
     ·replace c8:=Bool.eq_false_iff.mpr c8
      subst c8;replace H:(if l1.length < 17592186044416 then ((ak.f g k1 a0 (l1 ++ [j]) b1).bind fun b1=>(ak.l0 g k1 a0 l1 (wrap64 (j+1)) b1)) else none) = some r:=by rw [if_neg (show ¬ (false = true) by decide)] at H;exact H
      obtain ⟨c9,H⟩:=oY H;obtain ⟨a1,y⟩:∃ y_:List Int,y_ = (([]:List Int)):=⟨_,rfl⟩
      have aR:=ae.mk (show a1.length+l1.length < 17592186044416 by rw [y,List.length_nil,Nat.zero_add];exact c9);have a3:=ae.mk y;obtain ⟨z,I⟩:∃ y_:List Int,y_ = (a1 ++ l1):=⟨_,rfl⟩
      have a2:z = l1:=by rw [I,y,List.nil_append]
      have ar:=ae.mk (show z.length < 17592186044416 by rw [a2];exact c9);have aa:=ae.mk I;obtain ⟨J,U⟩:∃ y_:List Int,y_ = (z ++ [j]):=⟨_,rfl⟩
      replace H:((ak.f g k1 a0 J b1).bind fun b1=>(ak.l0 g k1 a0 l1 (wrap64 (j+1)) b1)) = some r:=by rw [U,a2];exact H
      have ab:=ae.mk U;clear U I y a2 c9;obtain ⟨b2,ba,H⟩:=oX H;(try dsimp only at H);have H':=ae.mk H;clear H;go_wp2_with (first | ((with_reducible refine aW (f:=131) rfl ?_);refine nm (some 22) Tryz.func131 #[.slice A1 l1.length c1,.int .i64 j] ?_;(with_reducible refine (aY.calls k1 _ _ l1 j false _ ?side1 ?side2 A7.out).mono ?_);(case side1=>exact a9.out _ HP.out.k);(case side2=>exact ao.out);rintro e w' ⟨rfl,⟨nd,rfl⟩⟩;refine ⟨_,rfl,?_⟩) | ((with_reducible refine aZ (N:=26) rfl ?_);(try (refine cK (by rfl) ?_;dsimp only));refine Kd.mh (Kd.int .i64) _ 3 ?hg (N:=26) ?hd (xs:=([]:List Int)) (inner:=[]) (ok:=fun _=>True) (okp:=fun _=>True) ?hr ?hp (fun _ hk=>hk) trivial (Below.refl _ _) (Nat.le_refl _) (by simp) ?_;(case hd=>rfl);(case hg=>rfl);(case hr=>first | (go_simp;done) | (go_simp;rfl));(case hp=>exact (cm.none _ _));intro aw c0 Y hb bc aB;clear bc aB;(first | rw [← a3.out] at Y | (simp only [Int.reduceToNat] at Y;rw [← a3.out] at Y));have a4:=ae.mk (Kd.bE Y (an (n8 HB.out)));replace HB:=np HB hb;clear hb Y) | ((with_reducible refine cD (b:=.append) (xs:=#[.tmp 26,.tmp 27]) rfl ?_);(try (refine cK (by rfl) ?_;dsimp only));at_builtin;refine Kd.fI (Kd.int .i64) (w0:=wr) wr.heap.size rfl (.tmp 26) (.tmp 27) 22 3 (.int .i64 0) 8 rfl Tryz.underlying22 eF rfl (by decide) (by omega) aw a1 l1 _ _ _ (fun _=>True) (fun _=>False) rfl rfl (by exact ac a4.out) (by exact a9.out _ (HP.out.k.trans (bu.fz (n8 HB.out) gb none) (.inl rfl))) (fun _ _ h=>h) (fun _ h=>h.elim) (by exact fun _ _=>trivial) (by exact n8 HB.out) (by exact an (n8 HB.out)) (by have:=aR.out;omega) ?_;intro aE ca ho hb hg hat;rw [← aa.out] at ho;have a7:=ae.mk hb;have a8:=ae.mk ho;clear HB;clear a4;have HB:=a7;have a5:=a8;clear a7 a8;clear ho hb hg hat) | ((with_reducible refine cD (b:=.append) (xs:=#[.tmp 28,.tmp 30]) rfl ?_);(try (refine cK (by rfl) ?_;dsimp only));at_builtin;refine Kd.fB (Kd.int .i64) (w0:=wr) wr.heap.size rfl (.tmp 28) (.tmp 30) 22 3 (.int .i64 0) 8 rfl Tryz.underlying22 eF rfl (by decide) (by omega) aE z j [.int .i64 j] (fun _=>True) (fun _=>False) rfl rfl (by exact rfl) (fun _ hk=>hk.elim) (by exact fun _ _=>trivial) (by exact ac a5.out) (by exact n8 HB.out) (by exact an (n8 HB.out)) (by have:=ar.out;omega) ?_;intro bd bi ho hb hg hat;rw [← ab.out] at ho;have a7:=ae.mk hb;have a8:=ae.mk ho;clear HB;clear a5;have HB:=a7;have X:=a8;clear a7 a8;clear ho hb hg hat;obtain ⟨aS,bv,b0⟩:=Kd.bG X.out;subst b0;have bk:=ae.mk (show ∀ W_,bu bi W_ gb none→Kd.C (Kd.int .i64) W_ aS J.length J from fun W_ bm=>(Kd.aC (Kd.oT (Kd.aX (ok':=fun k_=>k_≠gb) (Kd.eC (M:=fun k_=>(wr.heap.size≤k_)) X.out (Nat.le_refl _) (fun k_ h_=>h_)) (fun k_ h_=>by have cb:=HJ.out.lt;have cc:=h_.1;omega)) bm (fun k_ h_=>h_))).2.2)) | (go_at_call 111;(refine (ih k1 (by have:=a6.out;omega) a0 _ _ J b1 b2 _ ?side1 ?side2 ?side3 ?side4 ba.out).mono ?_);(case side1=>exact HKK.out.trans (HP.out.trans (ak.Kp.of (n8 HB.out) HJ.out.lt)));(case side2=>exact HJ.out.below (n8 HB.out));(case side3=>exact bk.out);(case side4=>exact (Kd.aC X.out).2.1);rintro e cd ⟨rfl,hj,hk⟩;have bo:=ae.mk hj;have bs:=ae.mk ((HP.out.trans (ak.Kp.of (n8 HB.out) HJ.out.lt)).trans hk);clear hj hk));go_roundg k1;case measure=>have:=a6.out;omega
      case rel=>exact ⟨(wrap64 (j+1)),b2,nb,H',⟨by have:=a6.out;omega⟩,bo,bs⟩
    ·rw [if_neg c6] at H
     have aP:decide (j < a0) = false:=decide_eq_false c6;clear c6;obtain rfl:=Option.some.inj H;go_wp2;go_ret;exact ⟨rfl,HJ.out,HP.out⟩
end Pr
end
section
namespace Lay
open Go.Shelf Go.Proofs
def lI:Go.Shelf.Ren:=⟨fun | 189=>140 | 125=>117 | 257=>188 | 128=>172 | 129=>173 | 294=>204 | 295=>205 | 296=>206 | 297=>207 | 298=>208 | 299=>209 | 216=>210 | 300=>211 | 301=>212 | 328=>227 | 329=>197 | 330=>198 | 331=>228 | 332=>229 | 215=>195 | 343=>237 | n=>n,fun | 28=>22 | 3=>3 | 46=>58 | 0=>0 | 51=>118 | 53=>120 | 4=>4 | 183=>112 | 182=>111 | 131=>35 | 5=>5 | 9=>9 | 218=>126 | 222=>130 | 228=>146 | 229=>147 | n=>n,fun | n=>n⟩
theorem my:Go.Proofs.Lays.n189 Tryz.prog lI:={
 mixed:=by kernel_rfl
 f125:=Tryz.func117.trans (congrArg some (by kernel_rfl))
 f128:=Tryz.func172.trans (congrArg some (by kernel_rfl))
 f129:=Tryz.func173.trans (congrArg some (by kernel_rfl))
 f189:=Tryz.func140.trans (congrArg some (by kernel_rfl))
 f215:=Tryz.func195.trans (congrArg some (by kernel_rfl))
 f216:=Tryz.func210.trans (congrArg some (by kernel_rfl))
 f257:=Tryz.func188.trans (congrArg some (by kernel_rfl))
 f294:=Tryz.func204.trans (congrArg some (by kernel_rfl))
 f295:=Tryz.func205.trans (congrArg some (by kernel_rfl))
 f296:=Tryz.func206.trans (congrArg some (by kernel_rfl))
 f297:=Tryz.func207.trans (congrArg some (by kernel_rfl))
 f298:=Tryz.func208.trans (congrArg some (by kernel_rfl))
 f299:=Tryz.func209.trans (congrArg some (by kernel_rfl))
 f300:=Tryz.func211.trans (congrArg some (by kernel_rfl))
 f301:=Tryz.func212.trans (congrArg some (by kernel_rfl))
 f328:=Tryz.func227.trans (congrArg some (by kernel_rfl))
 f329:=Tryz.func197.trans (congrArg some (by kernel_rfl))
 f330:=Tryz.func198.trans (congrArg some (by kernel_rfl))
 f331:=Tryz.func228.trans (congrArg some (by kernel_rfl))
 f332:=Tryz.func229.trans (congrArg some (by kernel_rfl))
 f343:=Tryz.func237.trans (congrArg some (by kernel_rfl))
 t0:=Tryz.underlying0
 a0:=Tryz.isAgg0
 z0:=Tryz.sizeOf0
 v0:=Tryz.zeroValue0
 t3:=Tryz.underlying3
 a3:=Tryz.isAgg3
 z3:=Tryz.sizeOf3
 v3:=Tryz.zeroValue3
 t4:=Tryz.underlying4
 a4:=Tryz.isAgg4
 z4:=Tryz.sizeOf4
 v4:=Tryz.zeroValue4
 t5:=Tryz.underlying5
 a5:=Tryz.isAgg5
 z5:=Tryz.sizeOf5
 v5:=Tryz.zeroValue5
 t9:=Tryz.underlying9
 a9:=Tryz.isAgg9
 z9:=Tryz.sizeOf9
 v9:=Tryz.zeroValue9
 t28:=Tryz.underlying22
 a28:=Tryz.isAgg22
 z28:=Tryz.sizeOf22
 v28:=Tryz.zeroValue22
 t46:=Tryz.underlying58
 a46:=Tryz.isAgg58
 z46:=Tryz.sizeOf58
 v46:=Tryz.zeroValue58
 t51:=Tryz.underlying118
 a51:=Tryz.isAgg118
 z51:=Tryz.sizeOf118
 v51:=Tryz.zeroValue118
 t53:=Tryz.underlying120
 a53:=Tryz.isAgg120
 z53:=Tryz.sizeOf120
 v53:=Tryz.zeroValue120
 t131:=Tryz.underlying35
 a131:=Tryz.isAgg35
 z131:=Tryz.sizeOf35
 v131:=Tryz.zeroValue35
 t182:=Tryz.underlying111
 a182:=Tryz.isAgg111
 z182:=Tryz.sizeOf111
 v182:=Tryz.zeroValue111
 t183:=Tryz.underlying112
 a183:=Tryz.isAgg112
 z183:=Tryz.sizeOf112
 v183:=Tryz.zeroValue112
 t218:=Tryz.underlying126
 a218:=Tryz.isAgg126
 z218:=Tryz.sizeOf126
 v218:=Tryz.zeroValue126
 t222:=Tryz.underlying130
 a222:=Tryz.isAgg130
 z222:=Tryz.sizeOf130
 v222:=Tryz.zeroValue130
 t228:=Tryz.underlying146
 a228:=Tryz.isAgg146
 z228:=Tryz.sizeOf146
 v228:=Tryz.zeroValue146
 t229:=Tryz.underlying147
 a229:=Tryz.isAgg147
 z229:=Tryz.sizeOf147
 v229:=Tryz.zeroValue147 }
def jC:Go.Shelf.Ren:=⟨fun | 20=>141 | n=>n,fun | 22=>22 | 3=>3 | 4=>4 | 0=>0 | n=>n,fun | n=>n⟩
theorem jw:Go.Proofs.Lays2.n20 Tryz.prog jC:={
 mixed:=by kernel_rfl
 f20:=Tryz.func141.trans (congrArg some (by kernel_rfl))
 t0:=Tryz.underlying0
 a0:=Tryz.isAgg0
 z0:=Tryz.sizeOf0
 v0:=Tryz.zeroValue0
 t3:=Tryz.underlying3
 a3:=Tryz.isAgg3
 z3:=Tryz.sizeOf3
 v3:=Tryz.zeroValue3
 t4:=Tryz.underlying4
 a4:=Tryz.isAgg4
 z4:=Tryz.sizeOf4
 v4:=Tryz.zeroValue4
 t22:=Tryz.underlying22
 a22:=Tryz.isAgg22
 z22:=Tryz.sizeOf22
 v22:=Tryz.zeroValue22
 i3:=by kernel_rfl }
end Lay
end
section
namespace j8
open Go.RowKit Go.Shelf Go.Sort ag.b8
def sorted (xs:List Int):List Int:=xs.mergeSort fun x y=>decide (x≤y)
theorem fJ (xs:List Int):(sorted xs).length = xs.length:=List.length_mergeSort xs
theorem iR {w:World} {base:Nat} {ok:Nat→Prop} {v:Value} {xs:List Int} (h:(Kd.int .i64).R 3 w base ok v xs) (hs:xs.length < 4611686018427387904) :
  Calls Tryz.prog 140 #[v] w fun e w'=>e = .returned (.tuple #[])∧(Kd.int .i64).R 3 w' base ok v (sorted xs)∧(∀ w0:World,Below base w0 w→Below base w0 w')∧w.grownBy w' v.ownBlock:=by
 have ho:=Kd.iU h;rcases ho.2 with ⟨rfl,I⟩ | ⟨g,cap,cur,rfl,hbase,hb,h1,h2,h3,h4⟩
 ·have hx:xs = []:=List.length_eq_zero_iff.1 I
  subst hx;refine (Any.slices_Sort_int_none Lay.my none 0 w).mono ?_;rintro e w' ⟨rfl,rfl⟩
  exact ⟨rfl,by simpa [sorted] using h,fun _ hb=>hb,⟨rfl,rfl,rfl,Nat.le_refl _,fun _ _ _=>rfl⟩⟩
 ·have hH:Holds (Value.int .i64) w g 0 xs.toArray:=by
   obtain ⟨g',cap',he,_,_,_,_,_,hH⟩:=Lib.holds_of_ownsRow ho (by simp);injection he with y _ _
   injection y with y
   injection y with y _ _
   subst y;exact hH
  have hlt:g < w.heap.size:=(Array.getElem?_eq_some_iff.1 hb).1;refine (Any.slices_Sort_int Lay.my g 0 cap xs w hH hlt hs).mono ?_;rintro e w' ⟨rfl,n,os,rfl⟩
  have hown:=ownsRow_sortedI (n:=n) (os:=os) (ts:=sorted xs) (fJ xs) hbase hb h1 h2 h3;rw [← fJ xs] at hown;have hg:w.grownBy (grow (putRow (Value.int .i64) (Sort.ahead w n) g 0 (sorted xs).toArray) os) (some g):=grownBy_sortedI _;refine ⟨rfl,?_,fun w0 z=>?_,?_⟩
  ·have:=Kd.jT (enc:=Value.int .i64) (h1:=fun _=>rfl) (ok:=ok) hown (fun k hk=>h.1 k (by simpa [Value.ownBlock] using hk))
   rw [fJ xs] at this;exact this
  ·exact z.grown hg (by omega) (fun j hj=>by cases hj;exact hbase)
  ·exact hg
theorem kA {w:World} {base:Nat} {ok:Nat→Prop} {v:Value} {xs:List Int} (h:(Kd.int .i64).R 3 w base ok v xs) (hs:xs.length≤9223372036854775807) :
  Calls Tryz.prog 141 #[v] w fun e w'=>∃ v',e = .returned v'∧(Kd.int .i64).R 3 w' base ok v' (Lib.compact xs)∧(∀ w0:World,Below base w0 w→Below base w0 w'):=by
 have ho:=Kd.iU h;rcases ho.2 with ⟨rfl,z⟩ | ⟨g,cap,cur,rfl,hbase,hb,h1,h2,h3,h4⟩
 ·have hx:xs = []:=List.length_eq_zero_iff.1 z
  subst hx;refine (Any.slices_Compact_int_empty Lay.jw none 0 w).mono ?_;rintro e w' ⟨rfl,rfl⟩
  exact ⟨_,rfl,by simpa [Lib.compact,Lib.compactUpTo] using h,fun _ hb=>hb⟩
 ·have hH:Holds (Value.int .i64) w g 0 xs.toArray:=by
   obtain ⟨g',cap',he,_,_,_,_,_,hH⟩:=Lib.holds_of_ownsRow ho (by simp);injection he with j _ _
   injection j with j
   injection j with j _ _
   subst j;exact hH
  refine (Any.slices_Compact_int Lay.jw g 0 cap xs w hH hs h1).mono ?_;rintro e w' ⟨rfl,q,rfl⟩
  have hle:=Lib.compact_length_le xs;have hc:=Lib.ownsRow_putRow (q:=q) (k:=(Lib.compact xs).length) (ys:=Lib.compact xs ++ List.replicate (xs.length - (Lib.compact xs).length) 0) ho (by simp;omega) hle;rw [List.take_left] at hc;refine ⟨_,rfl,?_,fun w0 y=>Lib.below_putRow y hbase⟩;exact Kd.jT (enc:=Value.int .i64) (h1:=fun _=>rfl) (ok:=ok) hc (fun k hk=>h.1 k (by simpa [Value.ownBlock] using hk))
end j8
end
section
namespace Pr
open Go.RowKit ag.b8 ag.ct ag.cu
attribute [local go_sem] fW fZ gK gM fE fF ga gf
set_option linter.unusedVariables false
set_option linter.unusedSimpArgs false
def eE.f (l0:List Int):Option (List Int):=if l0.length < 17592186044416 then (some (Lib.compact (j8.sorted l0))) else (none)
set_option maxHeartbeats 8000000 in
set_option maxRecDepth 100000 in
theorem eE.calls (A0:Option Addr) (c0:Nat) (l0:List Int) (r:List Int) (w:World) (z:Kd.C (Kd.int .i64) w A0 l0.length l0) (I:l0.length≤c0) (h:eE.f l0 = some r) :
  Calls Tryz.prog 88 #[.slice A0 l0.length c0] w fun e w'=>∃ J:Value,e = .returned (J)∧Kd.R (Kd.int .i64) 3 w' w.heap.size (fun _=>True) J r∧Below w.heap.size w w':=by
 unfold eE.f at h;by_cases hl:l0.length < 17592186044416
 ·rw [if_pos hl] at h
  obtain rfl:=Option.some.inj h;have HL:=ae.mk hl;have HR:=ae.mk z;have HC:=ae.mk I;clear z I h hl;go_enter Tryz.func88,Tryz.ntmps88;go_wp2_with (first | (refine af.lt (Kd.int .i64) 3 4 ?_;intro v4 w1 M j a6 y;have a7:=ae.mk M;have U:=ae.mk j;have a8:=ae.mk (Kd.aJ HR.out j);clear a6 y M j) | ((with_reducible refine cD (b:=.append) (xs:=#[.tmp 4,.tmp 5]) rfl ?_);at_builtin;refine Kd.fI (Kd.int .i64) (w0:=w) w.heap.size rfl (.tmp 4) (.tmp 5) 22 3 (.int .i64 0) 8 rfl Tryz.underlying22 eF rfl (by decide) (by omega) v4 ([]:List Int) l0 _ _ _ (fun _=>True) (fun _=>False) rfl rfl a7.out a8.out (fun _ _ h=>h) (fun _ h=>h.elim) (fun _ _=>trivial) U.out U.out.size (by have:=HL.out;simp;omega) ?_;intro v6 w2 X Y a9 a0;have a1:=ae.mk X;have aa:=ae.mk Y;clear X Y a9 a0;simp only [List.nil_append] at a1) | (refine nm (some 8) Tryz.func140 #[v6] ?_;(with_reducible refine (j8.iR a1.out (by have:=HL.out;omega)).mono ?_);rintro e w3 ⟨rfl,a2,a3,ab⟩;refine ⟨_,rfl,?_⟩;have al:=ae.mk a2;have am:=ae.mk (a3 w aa.out);clear a2 a3 ab) | (refine nm (some 10) Tryz.func141 #[v6] ?_;(with_reducible refine (j8.kA al.out (by have:=HL.out;have:=j8.fJ l0;omega)).mono ?_);rintro e w4 ⟨v10,rfl,a4,a5⟩;refine ⟨_,rfl,?_⟩;have ao:=ae.mk a4;have ap:=ae.mk (a5 w am.out);clear a4 a5));go_ret;exact ⟨_,rfl,ao.out,ap.out⟩
 ·rw [if_neg hl] at h
  exact absurd h (by simp)
def bn.l0:Nat→List Int→Int→List Int→Int→Int→Option (Int)
 | 0,_,_,_,_,_=>none
 | k+1,I,J,y,z,j=>if j < z then (if 0≤j then (if j < (y.length:Int) then (if 0≤(rd y j) then (if (rd y j) < (I.length:Int) then (if 0≤(rd I (rd y j)) then (bn.l0 k I (Go.bits .or .i64 J (shl .i64 1 (rd I (rd y j)))) y z (wrap64 (j+1))) else (none)) else (none)) else (none)) else (none)) else (none)) else (some J)
def bn.f (k:Nat) (l0:List Int) (y:Int):Option (Int):=(aM.f k y).bind fun j=>(bn.l0 k l0 0 j (j.length:Int) 0)
theorem bn.eK:∀ k,af.S5 bn.l0 k
 | 0=>by and_intros <;> (repeat intro _) <;> exact af.mz rfl
 | k+1=>by
  have j:=bn.eK k;and_intros <;> (repeat intro _) <;> unfold bn.l0 <;> exact ⟨pw⟩
theorem bn.mono:∀ a0 j k,fh (bn.f k a0 j) (bn.f (k+1) a0 j):=by
 intro a0 j k;have y:=bn.eK k;unfold bn.f;exact pw
instance bn.m:af.V2 bn.f:=fun _ _ _=>⟨bn.mono _ _ _⟩
set_option maxHeartbeats 8000000 in
set_option maxRecDepth 100000 in
theorem bn.calls (k:Nat) (A0:Option Addr) (c0:Nat) (l0:List Int) (a1:Int) (r:Int) (w:World) (a6:Kd.C (Kd.int .i64) w A0 l0.length l0) (a7:l0.length≤c0) (h:bn.f k l0 a1 = some r) :
  Calls Tryz.prog 162 #[.slice A0 l0.length c0,.int .i64 a1] w fun e w'=>e = .returned (.int .i64 r)∧Below w.heap.size w w':=by
 have aB:=ae.mk a6;have bd:=ae.mk a7;clear a6 a7;have HB:=ae.mk (Below.refl w.heap.size w);unfold bn.f at h;have H:=h;clear h;obtain ⟨j,A3,H⟩:=oX H;(try dsimp only at H);have H':=ae.mk H;clear H;go_enter Tryz.func162,Tryz.ntmps162;go_wp2_with (first | (refine nm (some 9) Tryz.func74 #[.int .i64 a1] ?_;(with_reducible refine (aM.calls k a1 j _ A3.out).mono ?_);rintro e w4 ⟨aE,rfl,a8,hb⟩;refine ⟨_,rfl,?_⟩;have U:=ae.mk (Kd.bE a8 (an (n8 HB.out)));replace HB:=np HB hb;(try clear hb);(try clear bi);(try clear hk);(try clear hi);(try clear a8);obtain ⟨aF,aL,aO⟩:=Kd.bG U.out;subst aO));go_loopg [5,11] k (fun kq v5 v11 w'=>∃ (M:Int) (y:Int),v5 = .int .i64 M∧v11 = .int .i64 y∧ae (bn.l0 kq l0 M j (j.length:Int) y = some r)∧ae (kq≤k)∧ae (Kd.R (Kd.int .i64) 3 w' w.heap.size (fun _=>True) (.slice aF j.length aL) j)∧ae (Below w.heap.size w w'))
 case atStart=>exact ⟨(0),(0),nb,nb,H',⟨Nat.le_refl _⟩,⟨ac U.out⟩,⟨n8 HB.out⟩⟩
 case round =>
  clear H';obtain ⟨M,y,rfl,rfl,HA,a9,a0,HB⟩:=hrel;cases gk with
  | zero=>exact absurd HA.out (by simp [bn.l0])
  | succ k1 =>
   have H:=HA.out;clear HA;simp only [bn.l0] at H;by_cases c6:y < (j.length:Int)
   ·rw [if_pos c6] at H
    have aa:=decide_eq_true c6;clear c6;obtain ⟨c7,H⟩:=oY H;have b4:=decide_eq_true c7;clear c7;obtain ⟨c8,H⟩:=oY H;have ba:=decide_eq_true c8;clear c8;obtain ⟨c9,H⟩:=oY H;have bc:=decide_eq_true c9;clear c9;obtain ⟨iE,H⟩:=oY H;have aP:=decide_eq_true iE;clear iE;obtain ⟨a2,H⟩:=oY H;have aR:=eq_true a2;have aS:decide (0≤(rd l0 (rd j y))) = true:=decide_eq_true a2;clear a2;obtain ⟨I,J⟩:∃ j_:Int,(shl .i64 1 (rd l0 (rd j y))) = j_:=⟨_,rfl⟩
    replace H:(bn.l0 k1 l0 (Go.bits .or .i64 M (I)) j (j.length:Int) (wrap64 (y+1))) = some r:=by first | (rw [J] at H;exact H) | (simp only [J] at H ⊢;exact H)
    have X:(IntKind.i64.wrap (1 * 2 ^ min (rd l0 (rd j y)).toNat 64)) = I:=J;have Y:(rd l0 (rd j y))≤64→(IntKind.i64.wrap (1 * 2 ^ (rd l0 (rd j y)).toNat)) = I:=eu J;have al:(IntKind.i64.wrap (2 ^ min (rd l0 (rd j y)).toNat 64)) = I:=by have h_:=X;rw [Int.one_mul] at h_;exact h_
    have am:(rd l0 (rd j y))≤64→(IntKind.i64.wrap (2 ^ (rd l0 (rd j y)).toNat)) = I:=fun ab=>by have h_:=Y ab;rw [Int.one_mul] at h_;exact h_
    have ao:(wrap64 (1 * 2 ^ min (rd l0 (rd j y)).toNat 64)) = I:=(b9 _).symm.trans X;have ap:(rd l0 (rd j y))≤64→(wrap64 (1 * 2 ^ (rd l0 (rd j y)).toNat)) = I:=fun h_=>(b9 _).symm.trans (Y h_)
    have H':=ae.mk H;clear H;obtain ⟨ar,a3,a5,b0,b1⟩:=pi (Kd.aC a0.out).2.2 y;cases a3
    obtain ⟨aw,a4,z,b2,b3⟩:=pi aB.out (rd j y);cases a4
    (try replace z:=(HB.out.cell (World.block_lt_of_cell? w _ z)).trans z);go_wp2;go_roundg k1;case measure=>have:=a9.out;omega
    case rel=>exact ⟨(Go.bits .or .i64 M (I)),(wrap64 (y+1)),(by first | rfl | (simp;done) | (simp only [← J] <;> (first | rfl | simp)) | (simp [*];done)),nb,H',⟨by have:=a9.out;omega⟩,⟨ac a0.out⟩,⟨n8 HB.out⟩⟩
   ·rw [if_neg c6] at H
    have aa:decide (y < (j.length:Int)) = false:=decide_eq_false c6;clear c6;obtain rfl:=Option.some.inj H;go_wp2;go_ret;exact ⟨pj,na⟩
def b7.l0:Nat→List Int→List Int→Int→Int→Int→List Int→Option (Int×List Int)
 | 0,_,_,_,_,_,_=>none
 | k+1,X,I,U,z,y,j=>if z < U then (if 0≤z then (if z < (I.length:Int) then ((bn.f k X (rd I z)).bind fun J=>(if j.length < 17592186044416 then (b7.l0 k X I U (wrap64 (z+1)) y (j ++ [J])) else (none))) else (none)) else (none)) else ((eE.f j).bind fun M=>(some (y,M)))
def b7.f (k:Nat) (y:Int) (j:List Int) (l1:List Int):Option (Int×List Int):=b7.l0 k l1 j (j.length:Int) 0 y ([]:List Int)
theorem b7.eK:∀ k,af.S6 b7.l0 k
 | 0=>by and_intros <;> (repeat intro _) <;> exact af.mz rfl
 | k+1=>by
  have j:=b7.eK k;and_intros <;> (repeat intro _) <;> unfold b7.l0 <;> exact ⟨pw⟩
theorem b7.mono:∀ a0 j a2 k,fh (b7.f k a0 j a2) (b7.f (k+1) a0 j a2):=by
 intro a0 j a2 k;have y:=b7.eK k;unfold b7.f;exact pw
instance b7.m:af.V3 b7.f:=fun _ _ _ _=>⟨b7.mono _ _ _ _⟩
def b7.T5:Bool×List (List Nat×List Nat):=(true,[([],[]),([0],[0]),([],[]),([],[]),([2,3],[2,3]),([4],[4]),([1,5,4],[1,5]),([0,1,2,3,4,5,6],[]),([7,6,6,0,1,2,3,4,5,6],[6,7])])
def b7.B5:List Nat:=[0,1,0,0,12,28,63,127,255]
theorem b7.tn:fc .any (opsOf Tryz.f113 5) = b7.T5:=by kernel_rfl
theorem b7.sU:eT b7.T5.2 b7.B5 = true:=by kernel_rfl
set_option maxHeartbeats 8000000 in
set_option maxRecDepth 100000 in
theorem b7.calls (k:Nat) (a4:Int) (ap:Option Addr) (ao:Nat) (U:List Int) (A1:Option Addr) (c1:Nat) (l1:List Int) (r1:Int) (r2:List Int) (w:World) (b0:Kd.C (Kd.int .i64) w ap U.length U) (b1:U.length≤ao) (c0:Kd.C (Kd.int .i64) w A1 l1.length l1) (ca:l1.length≤c1) (h:b7.f k a4 U l1 = some (r1,r2)) :
  Calls Tryz.prog 113 #[.agg #[.int .i64 a4,.slice ap U.length ao],.slice A1 l1.length c1] w fun e w'=>∃ cb:Value,e = .returned (.agg #[.int .i64 r1,cb])∧Kd.R (Kd.int .i64) 3 w' w.heap.size (fun _=>True) cb r2∧Below w.heap.size w w':=by
 have ft:=Tryz.underlying37;have bk:=ae.mk b0;have eh:=ae.mk b1;clear b0 b1;have el:=ae.mk c0;have em:=ae.mk ca;clear c0 ca;have HB:=ae.mk (Below.refl w.heap.size w);unfold b7.f at h;have H:=h;clear h;have H':=ae.mk H;clear H;go_enter Tryz.func113,Tryz.ntmps113;go_wp2_with (first | (refine pd 2 #[.int .i64 a4,.slice ap U.length ao] 37 ?_;intro ar hg w3 hbox hb;have z:=ae.mk hbox;have e2:=no hg HB;have e3:=no hg HB;replace HB:=np HB hb;clear hb hbox hg) | (refine pd 4 #[.int .i64 0,.slice none 0 0] 37 ?_;intro a5 hg w4 hbox hb;have I:=ae.mk hbox;have e4:=pt (w:=w) hg na;have e8:=pt (w:=w) hg na;replace HB:=ae.mk (az na hb);have a6:=pk hg z;have a7:=pl hg z;replace z:=ne z hb;clear hb hbox hg;have fw:=a6.out;have fx:=a7.out;obtain ⟨ea,eb,ed,ee⟩:=nz z.out) | (refine pd 5 #[.int .i64 0,.slice none 0 0] 37 ?_;intro Y hg w7 hbox hb;have y:=ae.mk hbox;have ef:=pt (w:=w) hg na;have eg:=pt (w:=w) hg na;replace HB:=ae.mk (az na hb);have a0:=pk hg z;have a1:=pl hg z;replace z:=ne z hb;have a2:=pk hg I;have a3:=pl hg I;replace I:=ne I hb;clear hb hbox hg;have fy:=a1.out;have fX:=a0.out;have fY:=a3.out;have g0:=a2.out;obtain ⟨cc,cd,ce,cf⟩:=nz y.out;obtain ⟨ch,ci,cl,co⟩:=nz z.out));go_loopg [14] k (fun kq eo w'=>∃ (X:Int) (J:List Int) (M:Value),eo = .int .i64 X∧ae (b7.l0 kq l1 U (U.length:Int) X a4 J = some (r1,r2))∧ae (kq≤k)∧ae (Kd.R (Kd.int .i64) 3 w' w.heap.size (fun _=>True) M J)∧ae (w'.heap[ar]? = some (.cells #[.int .i64 a4,(.slice ap U.length ao)] 37 (0,0)))∧ae (w'.heap[a5]? = some (.cells #[.int .i64 0,(.slice none 0 0)] 37 (0,0)))∧ae (w'.heap[Y]? = some (.cells #[.int .i64 a4,M] 37 (0,0)))∧ae (Below w.heap.size w w'))
 case atStart=>exact ⟨(0),(([]:List Int)),(.slice none 0 0),nb,H',⟨Nat.le_refl _⟩,⟨af.N⟩,⟨ph⟩,⟨ph⟩,⟨ph⟩,⟨na⟩⟩
 case round =>
  clear H';obtain ⟨X,J,M,rfl,HA,cp,j,z,I,y,HB⟩:=hrel;cases gk with
  | zero=>exact absurd HA.out (by simp [b7.l0])
  | succ k1 =>
   have H:=HA.out;clear HA;simp only [b7.l0] at H;by_cases aR:X < (U.length:Int)
   ·rw [if_pos aR] at H
    have bm:=decide_eq_true aR;clear aR;obtain ⟨cr,H⟩:=oY H;have eq:=decide_eq_true cr;clear cr;obtain ⟨cx,H⟩:=oY H;have es:=decide_eq_true cx;clear cx;obtain ⟨aa,et,H⟩:=oX H;(try dsimp only at H);obtain ⟨cy,H⟩:=oY H;have bo:=ae.mk cy;clear cy;obtain ⟨ab,al⟩:∃ y_:List Int,y_ = (J ++ [aa]):=⟨_,rfl⟩
    replace H:(b7.l0 k1 l1 U (U.length:Int) (wrap64 (X+1)) a4 ab) = some (r1,r2):=by (try rw [al]);exact pp
    have b4:=ae.mk al;clear al;have H':=ae.mk H;clear H;obtain ⟨ba,bs,a8,ev,ex⟩:=pi bk.out X;cases bs
    (try replace a8:=(HB.out.cell (World.block_lt_of_cell? w _ a8)).trans a8);(try go_wp2);replace j:=ae.mk (Kd.dw j.out);replace z:=ae.mk (cW z.out);replace I:=ae.mk (cW I.out);replace y:=ae.mk (cW y.out);replace HB:=ae.mk (bZ HB.out);refine e9 (n:=9) (S:=fun w'=>w'.cell? ⟨Y,0,none⟩ = some (.int .i64 a4)∧w'.cell? ⟨Y,1,none⟩ = some (M)) (ds:=[8]) #[false,false,false,false,false,false,false,false,false] (by kernel_rfl) rfl rfl ⟨(ah y.out 0).trans rfl,(ah y.out 1).trans rfl⟩ (fun hHeld=>?_);refine dm b7.tn b7.sU (fun a9 eQ=>?_);generalize wr.drew = g2 at j z I y HB hHeld ⊢;refine ob 0 18 a9 ?_;refine ob 2 20 a9 ?_;refine ob 3 21 a9 ?_;refine pv 1 19 a9 eQ hHeld ?_;refine eW (i:=4) (N:=some 22) #[true,true,true,true,true,false,false,false,false] rfl rfl (dn a9.out (by kernel_rfl)) (by decide) (fun K hK=>?_);refine fV Tryz.func162 (by kernel_rfl) rfl #[.slice A1 l1.length c1,.int .i64 (rd U X)] (by rfl) rfl rfl (by (try simp only [List.map_toArray,List.map_cons,List.map_nil]);first | done | rfl) ?_;with_reducible refine (bn.calls k1 _ _ l1 (rd U X) aa _ ?side1 ?side2 et.out).mono ?_
    (case side1=>exact ol (Kd.aJ el.out HB.out));(case side2=>exact em.out);rintro e g3 ⟨rfl,hb⟩
    refine ⟨_,rfl,?_⟩;replace j:=pm j hb;replace z:=ne z hb;replace I:=ne I hb;replace y:=ne y hb;replace HB:=ae.mk (az na hb);(try clear hb);(try clear f0);(try clear hk);(try clear hi);refine hK.out _ _ ⟨(ah y.out 0).trans rfl,(ah y.out 1).trans rfl⟩ (fun hHeld=>?_);clear hK K;refine bX (a':=?_) ?_ ?_;rotate_left
    ·show Act.put _ (some 22) _ = _
     simp only [Act.put,List.setIfInBounds_toArray,List.set_cons_zero,List.set_cons_succ,b9,bB];rfl
    refine eW (i:=5) (N:=some 23) #[true,true,true,true,true,true,false,false,false] rfl rfl (dn a9.out (by kernel_rfl)) (by decide) (fun K hK=>?_);refine mS (w1:=?_) (v:=?_) (by rfl) rfl ?_ ?_;rotate_left 2
    ·go_simp
     constructor
     ·rfl
     ·rfl
    refine hK.out _ _ ⟨(ah (ja y.out _) 0).trans rfl,(ah (ja y.out _) 1).trans rfl⟩ (fun hHeld=>?_);clear hK K;refine bX (a':=?_) ?_ ?_;rotate_left
    ·show Act.put _ (some 23) _ = _
     simp only [Act.put,List.setIfInBounds_toArray,List.set_cons_zero,List.set_cons_succ,b9,bB];rfl
    refine eW (i:=6) (N:=some 24) #[true,true,true,true,true,true,true,false,false] rfl rfl (dn a9.out (by kernel_rfl)) (by decide) (fun K hK=>?_);refine Kd.gu (Kd.int .i64) (w0:=w) w.heap.size (by rfl) (.tmp 19) (.tmp 23) 22 3 (.int .i64 0) 8 rfl Tryz.underlying22 eF rfl (by decide) (by omega) M J aa [.int .i64 aa] (fun _=>True) (fun _=>False) rfl rfl ?aP (fun _ hk=>hk.elim) ?aF ?aO ?aB ?aS ?aL ?_;(case aP=>exact rfl);(case aB=>exact na);(case aF=>exact (fun _ _=>trivial));(case aO=>exact (ac j.out));(case aS=>exact (an na));(case aL=>have:=bo.out;omega);intro f1 f2 ho hb hg hat;rw [← b4.out] at ho;have cX:=ae.mk (cM (g:=ar) (o:=.cells #[.int .i64 a4,.slice (some ba) U.length ao] 37 (0,0)) (o0 z.out) hg (Kd.iD j.out z.out (by decide)));have cY:=ae.mk (cM (g:=a5) (o:=.cells #[.int .i64 0,.slice none 0 0] 37 (0,0)) (o0 I.out) hg (Kd.iD j.out I.out (by decide)));have d0:=ae.mk (cM (g:=Y) (o:=.cells #[.int .i64 a4,M] 37 (0,0)) (o0 y.out) hg (Kd.iD j.out y.out (by decide)));have d1:=ae.mk hb;have d2:=ae.mk ho;clear z;clear I;clear y;clear HB;clear j;have z:=cX;have I:=cY;have y:=d0;have HB:=d1;have aw:=d2;clear cX cY d0 d1 d2;clear ho hb hg hat;obtain ⟨bc,bd,bi⟩:=Kd.bG aw.out;(first | subst bi | (injection bi with d3 f3 d4;have f4:=d3.symm;have f5:=d4.symm;clear d3 f3 d4;subst f4;subst f5));refine hK.out _ _ ⟨(ah y.out 0).trans rfl,(ah y.out 1).trans rfl⟩ (fun hHeld=>?_);clear hK K;refine bX (a':=?_) ?_ ?_;rotate_left
    ·show Act.put _ (some 24) _ = _
     simp only [Act.put,List.setIfInBounds_toArray,List.set_cons_zero,List.set_cons_succ,b9,bB];rfl
    refine ob 7 25 a9 ?_;refine sG (i:=8) (N:=none) #[true,true,true,true,true,true,true,true,true] rfl rfl (dn a9.out (by kernel_rfl)) (by decide) (fun K hK=>?_);have g1:f2.cell? ⟨Y,1,none⟩ = some (M):=(ah y.out 1).trans rfl;have f6:=aj y.out 1;have d5:=a0.out;have d6:=a2.out;have d7:=a1.out;have d8:=a3.out;refine nD (w1:=?_) (by rfl) rfl ?_ ?_;rotate_left
    ·go_simp
     rfl
    refine hK.out _ _ ?_;clear hK K;refine eZ (en a9.out (by kernel_rfl)) ?_;(try go_wp2);go_roundg k1;case measure=>have:=cp.out;omega
    case rel=>exact ⟨(wrap64 (X+1)),(ab),(.slice bc ab.length bd),nb,H',⟨by have:=cp.out;omega⟩,⟨ac (Kd.aX (Kd.bF (p:=⟨Y,1,none⟩) (Kd.bf aw.out y.out (by decide)) (fun _ hk=>hk.2) (.slice bc ab.length bd)) (fun _ hk=>trivial))⟩,⟨ph⟩,⟨ph⟩,⟨ph⟩,⟨na⟩⟩
   ·rw [if_neg aR] at H
    have bm:decide (X < (U.length:Int)) = false:=decide_eq_false aR;clear aR;obtain ⟨am,f7,H⟩:=oX H;(try dsimp only at H);simp only [Option.some.injEq,Prod.mk.injEq] at H;obtain ⟨rfl,rfl⟩:=H;have f8:=a1.out;have f9:=a0.out;have fd:=a3.out;have fi:=a2.out;obtain ⟨d9,db,dd,df⟩:=nz y.out;obtain ⟨dk,dl,dp⟩:=Kd.bG j.out;subst dp;go_wp2_with (first | (refine nm (some 29) Tryz.func88 #[.slice dk J.length dl] ?_;(with_reducible refine (eE.calls _ _ J am _ ?side1 ?side2 f7.out).mono ?_);(case side1=>exact ol ((Kd.aC j.out).2.2));(case side2=>exact (Kd.aC j.out).2.1);rintro e g4 ⟨fj,rfl,bv,hb⟩;refine ⟨_,rfl,?_⟩;have aE:=ae.mk (Kd.bE (Kd.dx bv (Kd.dB (ac j.out))) (an na));replace j:=ae.mk (Kd.cF (ac j.out) (Kd.bY bv) hb);replace z:=ne z hb;replace I:=ne I hb;replace y:=ne y hb;replace HB:=ae.mk (az na hb);(try clear hb);(try clear f0);(try clear hk);(try clear hi);(try clear bv);obtain ⟨b2,b3,dq⟩:=Kd.bG aE.out;subst dq;obtain ⟨dt,du,dv,dC⟩:=nz y.out;have fp:=a7.out;have fs:=a6.out;obtain ⟨dE,dT,e0,e1⟩:=nz I.out));refine bodyPost_ret (results_cell_row rfl _ _ a5 37 #[.int .i64 a4,.slice b2 am.length b3] (0,0) _ rfl ph Tryz.underlying37 rfl (by kernel_rfl)) rfl ?_;exact ⟨_,pj,by (with_reducible repeat (first | apply Kd.eY | apply Kd.eR | apply Kd.dw));exact Kd.aX (Kd.bF (p:=⟨a5,1,none⟩) (Kd.bF (p:=⟨a5,0,none⟩) (Kd.bF (p:=⟨Y,1,none⟩) (Kd.bf (Kd.bf aE.out y.out (by decide)) I.out (by decide)) (fun _ hk=>hk.1.2) (.slice b2 am.length b3)) (fun _ hk=>hk.2) (.int .i64 a4)) (fun _ hk=>hk.2) (.slice b2 am.length b3)) (fun _ hk=>trivial),na⟩
def cmp_isNaN_int.f (a0:Int):Option (Bool):=some (a0 != a0)
set_option maxHeartbeats 8000000 in
set_option maxRecDepth 100000 in
theorem cmp_isNaN_int.calls (a0:Int) (r:Bool) (w:World) (h:cmp_isNaN_int.f a0 = some r) :
  Calls Tryz.prog 195 #[.int .i64 a0] w fun e w'=>e = .returned (.bool r)∧cw w w':=by
 unfold cmp_isNaN_int.f at h;have H:=h;clear h;obtain rfl:=Option.some.inj H;go_enter Tryz.func195,Tryz.ntmps195;go_wp2;go_ret;exact ⟨nb,pf⟩
def da.f (a0:Int) (z:Int):Option (Int):=(cmp_isNaN_int.f a0).bind fun y=>((cmp_isNaN_int.f z).bind fun j=>(if y = true then (if j = true then (some 0) else (some (-1))) else (if j = true then (some 1) else (if a0 < z then (some (-1)) else (if a0 > z then (some 1) else (some 0))))))
set_option maxHeartbeats 8000000 in
set_option maxRecDepth 100000 in
theorem da.calls (a0:Int) (j:Int) (r:Int) (w:World) (h:da.f a0 j = some r) :
  Calls Tryz.prog 163 #[.int .i64 a0,.int .i64 j] w fun e w'=>e = .returned (.int .i64 r)∧cw w w':=by
 unfold da.f at h;have H:=h;clear h;obtain ⟨z,I,H⟩:=oX H;(try dsimp only at H);obtain ⟨y,J,H⟩:=oX H;(try dsimp only at H);by_cases c5:z = true
 ·subst c5
  replace H:(if y = true then (some 0) else (some (-1))) = some r:=by rw [if_pos rfl] at H;exact H
  by_cases c6:y = true
  ·subst c6
   replace H:(some 0) = some r:=by rw [if_pos rfl] at H;exact H
   obtain rfl:=Option.some.inj H;go_enter Tryz.func163,Tryz.ntmps163;go_wp2_with (first | (refine nm (some 8) Tryz.func195 #[.int .i64 a0] ?_;(with_reducible refine (cmp_isNaN_int.calls a0 true _ I.out).mono ?_);rintro e w' ⟨rfl,⟨nd,rfl⟩⟩;refine ⟨_,rfl,?_⟩) | (refine nm (some 10) Tryz.func195 #[.int .i64 j] ?_;(with_reducible refine (cmp_isNaN_int.calls j true _ J.out).mono ?_);rintro e w' ⟨rfl,⟨nd,rfl⟩⟩;refine ⟨_,rfl,?_⟩));go_ret;exact ⟨nb,pf⟩
  ·replace c6:=Bool.eq_false_iff.mpr c6
   subst c6;replace H:(some (-1)) = some r:=by rw [if_neg (show ¬ (false = true) by decide)] at H;exact H
   obtain rfl:=Option.some.inj H;go_enter Tryz.func163,Tryz.ntmps163;go_wp2_with (first | (refine nm (some 8) Tryz.func195 #[.int .i64 a0] ?_;(with_reducible refine (cmp_isNaN_int.calls a0 true _ I.out).mono ?_);rintro e w' ⟨rfl,⟨nd,rfl⟩⟩;refine ⟨_,rfl,?_⟩) | (refine nm (some 10) Tryz.func195 #[.int .i64 j] ?_;(with_reducible refine (cmp_isNaN_int.calls j false _ J.out).mono ?_);rintro e w' ⟨rfl,⟨nd,rfl⟩⟩;refine ⟨_,rfl,?_⟩));go_ret;exact ⟨nb,pf⟩
 ·replace c5:=Bool.eq_false_iff.mpr c5
  subst c5;replace H:(if y = true then (some 1) else (if a0 < j then (some (-1)) else (if a0 > j then (some 1) else (some 0)))) = some r:=by rw [if_neg (show ¬ (false = true) by decide)] at H;exact H
  by_cases c7:y = true
  ·subst c7
   replace H:(some 1) = some r:=by rw [if_pos rfl] at H;exact H
   obtain rfl:=Option.some.inj H;go_enter Tryz.func163,Tryz.ntmps163;go_wp2_with (first | (refine nm (some 8) Tryz.func195 #[.int .i64 a0] ?_;(with_reducible refine (cmp_isNaN_int.calls a0 false _ I.out).mono ?_);rintro e w' ⟨rfl,⟨nd,rfl⟩⟩;refine ⟨_,rfl,?_⟩) | (refine nm (some 10) Tryz.func195 #[.int .i64 j] ?_;(with_reducible refine (cmp_isNaN_int.calls j true _ J.out).mono ?_);rintro e w' ⟨rfl,⟨nd,rfl⟩⟩;refine ⟨_,rfl,?_⟩));go_ret;exact ⟨nb,pf⟩
  ·replace c7:=Bool.eq_false_iff.mpr c7
   subst c7;replace H:(if a0 < j then (some (-1)) else (if a0 > j then (some 1) else (some 0))) = some r:=by rw [if_neg (show ¬ (false = true) by decide)] at H;exact H
   by_cases c8:a0 < j
   ·rw [if_pos c8] at H
    have M:=decide_eq_true c8;clear c8;obtain rfl:=Option.some.inj H;go_enter Tryz.func163,Tryz.ntmps163;go_wp2_with (first | (refine nm (some 8) Tryz.func195 #[.int .i64 a0] ?_;(with_reducible refine (cmp_isNaN_int.calls a0 false _ I.out).mono ?_);rintro e w' ⟨rfl,⟨nd,rfl⟩⟩;refine ⟨_,rfl,?_⟩) | (refine nm (some 10) Tryz.func195 #[.int .i64 j] ?_;(with_reducible refine (cmp_isNaN_int.calls j false _ J.out).mono ?_);rintro e w' ⟨rfl,⟨nd,rfl⟩⟩;refine ⟨_,rfl,?_⟩));go_ret;exact ⟨nb,pf⟩
   ·rw [if_neg c8] at H
    have M:decide (a0 < j) = false:=decide_eq_false c8;clear c8;by_cases c9:a0 > j
    ·rw [if_pos c9] at H
     have U:=decide_eq_true c9;clear c9;obtain rfl:=Option.some.inj H;go_enter Tryz.func163,Tryz.ntmps163;go_wp2_with (first | (refine nm (some 8) Tryz.func195 #[.int .i64 a0] ?_;(with_reducible refine (cmp_isNaN_int.calls a0 false _ I.out).mono ?_);rintro e w' ⟨rfl,⟨nd,rfl⟩⟩;refine ⟨_,rfl,?_⟩) | (refine nm (some 10) Tryz.func195 #[.int .i64 j] ?_;(with_reducible refine (cmp_isNaN_int.calls j false _ J.out).mono ?_);rintro e w' ⟨rfl,⟨nd,rfl⟩⟩;refine ⟨_,rfl,?_⟩));go_ret;exact ⟨nb,pf⟩
    ·rw [if_neg c9] at H
     have U:decide (j < a0) = false:=decide_eq_false c9;clear c9;obtain rfl:=Option.some.inj H;go_enter Tryz.func163,Tryz.ntmps163;go_wp2_with (first | (refine nm (some 8) Tryz.func195 #[.int .i64 a0] ?_;(with_reducible refine (cmp_isNaN_int.calls a0 false _ I.out).mono ?_);rintro e w' ⟨rfl,⟨nd,rfl⟩⟩;refine ⟨_,rfl,?_⟩) | (refine nm (some 10) Tryz.func195 #[.int .i64 j] ?_;(with_reducible refine (cmp_isNaN_int.calls j false _ J.out).mono ?_);rintro e w' ⟨rfl,⟨nd,rfl⟩⟩;refine ⟨_,rfl,?_⟩));go_ret;exact ⟨nb,pf⟩
def ay.l0:Nat→List Int→List Int→List Int→Int→Int→Option (Int)
 | 0,_,_,_,_,_=>none
 | k+1,M,z,J,I,j=>if j < I then (if 0≤j then (if j < (J.length:Int) then (if j≥(z.length:Int) then (some 1) else (if j < (z.length:Int) then ((da.f (rd J j) (rd z j)).bind fun y=>(if y = 0 then (ay.l0 k M z J I (wrap64 (j+1))) else (some y))) else (none))) else (none)) else (none)) else (if (M.length:Int) < (z.length:Int) then (some (-1)) else (some 0))
def ay.f (k:Nat) (l0:List Int) (l1:List Int):Option (Int):=ay.l0 k l0 l1 l0 (l0.length:Int) 0
theorem ay.eK:∀ k,af.S5 ay.l0 k
 | 0=>by and_intros <;> (repeat intro _) <;> exact af.mz rfl
 | k+1=>by
  have j:=ay.eK k;and_intros <;> (repeat intro _) <;> unfold ay.l0 <;> exact ⟨pw⟩
theorem ay.mono:∀ a0 j k,fh (ay.f k a0 j) (ay.f (k+1) a0 j):=by
 intro a0 j k;have y:=ay.eK k;unfold ay.f;exact pw
instance ay.m:af.V2 ay.f:=fun _ _ _=>⟨ay.mono _ _ _⟩
set_option maxHeartbeats 8000000 in
set_option maxRecDepth 100000 in
theorem ay.calls (k:Nat) (A0:Option Addr) (c0:Nat) (l0:List Int) (A1:Option Addr) (c1:Nat) (l1:List Int) (r:Int) (w:World) (a6:Kd.C (Kd.int .i64) w A0 l0.length l0) (a7:l0.length≤c0) (a8:Kd.C (Kd.int .i64) w A1 l1.length l1) (a9:l1.length≤c1) (h:ay.f k l0 l1 = some r) :
  Calls Tryz.prog 114 #[.slice A0 l0.length c0,.slice A1 l1.length c1] w fun e w'=>e = .returned (.int .i64 r)∧cw w w':=by
 have a1:=ae.mk a6;have aE:=ae.mk a7;clear a6 a7;have aa:=ae.mk a8;have aF:=ae.mk a9;clear a8 a9;unfold ay.f at h;have H:=h;clear h;have H':=ae.mk H;clear H;go_enter Tryz.func114,Tryz.ntmps114;go_wp2;go_loopg [11] k (fun kq v11 w'=>∃ (j:Int),v11 = .int .i64 j∧ae (ay.l0 kq l0 l1 l0 (l0.length:Int) j = some r)∧ae (kq≤k)∧cw w w')
 case atStart=>exact ⟨(0),nb,H',⟨Nat.le_refl _⟩,pf⟩
 case round =>
  clear H';obtain ⟨j,rfl,HA,ab,⟨m1,rfl⟩⟩:=hrel;cases gk with
  | zero=>exact absurd HA.out (by simp [ay.l0])
  | succ k1 =>
   have H:=HA.out;clear HA;simp only [ay.l0] at H;by_cases c3:j < (l0.length:Int)
   ·rw [if_pos c3] at H
    have al:=decide_eq_true c3;clear c3;obtain ⟨c4,H⟩:=oY H;have ar:=decide_eq_true c4;clear c4;obtain ⟨c5,H⟩:=oY H;have aw:=decide_eq_true c5;clear c5;by_cases c6:j≥(l1.length:Int)
    ·rw [if_pos c6] at H
     have am:=decide_eq_true c6;clear c6;obtain rfl:=Option.some.inj H;obtain ⟨M,z,I,X,Y⟩:=pi a1.out j;cases z
     go_wp2;go_ret;exact ⟨nb,pf⟩
    ·rw [if_neg c6] at H
     have am:decide ((l1.length:Int)≤j) = false:=decide_eq_false c6;clear c6;obtain ⟨c7,H⟩:=oY H;have aB:=decide_eq_true c7;clear c7;obtain ⟨y,A8,H⟩:=oX H;(try dsimp only at H);by_cases c9:y = 0
     ·rw [if_pos c9] at H
      have ao:(y == 0) = true:=beq_iff_eq.mpr c9;have ap:(y != 0) = false:=bne_eq_false_iff_eq.mpr c9;clear c9;have H':=ae.mk H;clear H;obtain ⟨M,z,I,X,Y⟩:=pi a1.out j;cases z
      obtain ⟨a0,J,U,a2,a3⟩:=pi aa.out j;cases J
      go_wp2_with (first | (refine nm (some 26) Tryz.func163 #[.int .i64 (rd l0 j),.int .i64 (rd l1 j)] ?_;(with_reducible refine (da.calls (rd l0 j) (rd l1 j) y _ A8.out).mono ?_);rintro e w' ⟨rfl,⟨nd,rfl⟩⟩;refine ⟨_,rfl,?_⟩));go_roundg k1;case measure=>have:=ab.out;omega
      case rel=>exact ⟨(wrap64 (j+1)),nb,H',⟨by have:=ab.out;omega⟩,pf⟩
     ·rw [if_neg c9] at H
      have ao:(y == 0) = false:=beq_eq_false_iff_ne.mpr c9;have ap:(y != 0) = true:=bne_iff_ne.mpr c9;obtain rfl:=Option.some.inj H;obtain ⟨M,z,I,X,Y⟩:=pi a1.out j;cases z
      obtain ⟨a0,J,U,a2,a3⟩:=pi aa.out j;cases J
      go_wp2_with (first | (refine nm (some 26) Tryz.func163 #[.int .i64 (rd l0 j),.int .i64 (rd l1 j)] ?_;(with_reducible refine (da.calls (rd l0 j) (rd l1 j) y _ A8.out).mono ?_);rintro e w' ⟨rfl,⟨nd,rfl⟩⟩;refine ⟨_,rfl,?_⟩));go_ret;exact ⟨nb,pf⟩
   ·rw [if_neg c3] at H
    have al:decide (j < (l0.length:Int)) = false:=decide_eq_false c3;clear c3;by_cases iE:(l0.length:Int) < (l1.length:Int)
    ·rw [if_pos iE] at H
     have a4:=decide_eq_true iE;have a5:decide (l0.length < l1.length) = true:=decide_eq_true (Int.ofNat_lt.mp iE);clear iE;obtain rfl:=Option.some.inj H;go_wp2;go_ret;exact ⟨nb,pf⟩
    ·rw [if_neg iE] at H
     have a4:decide ((l0.length:Int) < (l1.length:Int)) = false:=decide_eq_false iE;have a5:decide (l0.length < l1.length) = false:=decide_eq_false (fun h=>iE (Int.ofNat_lt.mpr h));clear iE;obtain rfl:=Option.some.inj H;go_wp2;go_ret;exact ⟨nb,pf⟩
theorem ak.sV {W:World} {gb base j:Nat} {A:Option Addr} {c:Nat} {s:Int} {xs:List Int} {ok:Nat→Prop} (hb:W.heap[gb]? = some (.cells #[.int .i64 s,.slice A xs.length c] 37 (0,0))) (hg:base≤gb) (hl:base≤j) (h:Kd.R (Kd.int .i64) 3 W j ok (.slice A xs.length c) xs) (hok:∀ k,ok k→k≠gb):ak.mW W gb base (s,xs) :=
 ⟨A,c,hb,hg,fun W_ hk=>Kd.bE (Kd.aX (Kd.oT h hk hok) (fun _ _=>trivial)) hl⟩
def bM.f (k:Nat) (y:Int) (z:List Int) (l0:List Int) (b:Int×List Int):Option (Int×List Int):=(b7.f k y z l0).bind fun x=>((ay.f k x.2 b.2).bind fun j=>(if j < 0 then (some x) else (some b)))
theorem bM.mono (j:Int) (y l0:List Int) (b:Int×List Int) (k:Nat):fh (bM.f k j y l0 b) (bM.f (k+1) j y l0 b):=fh.bind (b7.mono _ _ _ _) fun _=>fh.bind (ay.mono _ _ _) fun _=>fh.refl _
set_option maxHeartbeats 8000000 in
set_option maxRecDepth 100000 in
theorem bM.calls (k:Nat) (gm gb base:Nat) (a5:Int) (al:Option Addr) (am:Nat) (a2:List Int) (W:World) (hbm:W.heap[gm]? = some (.cells #[.int .i64 a5,.slice al a2.length am] 37 (0,0))) (hne:gm≠gb) (ap:∀ W_,bu W W_ gb none→Kd.C (Kd.int .i64) W_ al a2.length a2) (ar:a2.length≤am) (A0:Option Addr) (c0:Nat) (l0:List Int) (b b':Int×List Int) (w:World) (hK:ak.Kp gb W w) (hJ:ak.mW w gb base b) (cd:Kd.C (Kd.int .i64) w A0 l0.length l0) (ce:l0.length≤c0) (h:bM.f k a5 a2 l0 b = some b') :
  Calls Tryz.prog 112 #[.slice A0 l0.length c0,.pointer (some ⟨gm,0,none⟩),.pointer (some ⟨gb,0,none⟩)] w fun e w'=>e = .returned (.bool true)∧ak.mW w' gb base b'∧ak.Kp gb w w':=by
 have cY:=Tryz.underlying37;have cf:=ae.mk cd;have ch:=ae.mk ce;clear cd ce;have aw:=ae.mk (ap w hK.k);have aB:=ae.mk ar;have y:=ae.mk (hK.k.blk hbm hne (by simp));clear ap ar hbm hK;have LT:=ae.mk hJ.lt;obtain ⟨d0,ao⟩:=b;obtain ⟨aE,aF,bk,hbase,a8⟩:=hJ.out;have BS:=ae.mk hbase;have j:=ae.mk bk;have aL:=ae.mk a8;have aa:=ae.mk (Kd.aC (a8 w (bu.refl _ _ _))).2.2;have ab:=ae.mk (Kd.aC (a8 w (bu.refl _ _ _))).2.1;clear a8 bk hJ hbase;dsimp only at j aa ab aL;have HB:=ae.mk (Below.refl w.heap.size w);unfold bM.f at h;have H:=h;clear h;obtain ⟨⟨a4,U⟩,A4,H⟩:=oX H;(try dsimp only at H);obtain ⟨a9,A5,H⟩:=oX H;(try dsimp only at H);have NB:=ae.mk hne;have NC:=ae.mk hne.symm;clear hne;by_cases c6:a9 < 0
 ·rw [if_pos c6] at H
  have ci:=decide_eq_true c6;clear c6;obtain rfl:=Option.some.inj H;go_enter Tryz.func112,Tryz.ntmps112;have cl:=NB.out;have co:=NC.out;obtain ⟨aO,aP,aR,aS⟩:=nz y.out;go_wp2_with (first | (refine nm (some 8) Tryz.func113 #[.agg #[.int .i64 a5,.slice al a2.length am],.slice A0 l0.length c0] ?_;(with_reducible refine (b7.calls k a5 _ _ a2 _ _ l0 a4 U _ ?side1 ?side2 ?side3 ?side4 A4.out).mono ?_);(case side1=>exact ol (Kd.aJ aw.out HB.out));(case side2=>exact aB.out);(case side3=>exact ol (Kd.aJ cf.out HB.out));(case side4=>exact ch.out);rintro e cr ⟨bv,rfl,b0,hb⟩;refine ⟨_,rfl,?_⟩;have z:=ae.mk (Kd.eC (M:=fun k_=>(w.heap.size≤k_)) b0 (an (n8 HB.out)) (fun k_ h_=>h_));replace y:=ne y hb;replace j:=ne j hb;replace HB:=np HB hb;(try clear hb);(try clear cx);(try clear hk);(try clear hi);(try clear b0)) | (refine pd 5 #[.int .i64 0,.slice none 0 0] 37 ?_;intro J hg cy hbox hb;replace z:=pm z hb;have a3:=ae.mk hbox;have I:=no hg HB;have bo:=no hg HB;replace HB:=np HB hb;have X:=pk hg y;have Y:=pl hg y;replace y:=ne y hb;have a0:=pk hg j;have a1:=pl hg j;replace j:=ne j hb;clear hb hbox hg;have c1:=Y.out;have ca:=X.out;have cb:=a1.out;have cc:=a0.out;obtain ⟨b1,b2,b3,b4⟩:=nz a3.out;obtain ⟨a6,a7,ba⟩:=Kd.bG z.out;subst ba;obtain ⟨bc,bd,bi,bm⟩:=nz j.out;have bs:=ae.mk (Kd.bF (p:=⟨J,1,none⟩) (Kd.bF (p:=⟨J,0,none⟩) (Kd.bf z.out a3.out (by decide)) (fun _ hk=>hk.2) (.int .i64 a4)) (fun _ hk=>hk.2) (.slice a6 U.length a7))) | (refine nm (some 13) Tryz.func114 #[.slice a6 U.length a7,.slice aE ao.length aF] ?_;(with_reducible refine (ay.calls k _ _ U _ _ ao a9 _ ?side1 ?side2 ?side3 ?side4 A5.out).mono ?_);(case side1=>exact (Kd.aC bs.out).2.2);(case side2=>exact (Kd.aC z.out).2.1);(case side3=>exact Kd.aJ aa.out na);(case side4=>exact ab.out);rintro e w' ⟨rfl,⟨nd,rfl⟩⟩;refine ⟨_,rfl,?_⟩));go_ret;have hlt:=LT.out;refine ⟨rfl,ak.sV ph BS.out (Nat.le_trans BS.out (Nat.le_of_lt hlt)) (Kd.bF (p:=⟨gb,1,none⟩) (Kd.bF (p:=⟨gb,0,none⟩) (Kd.eR bs.out nd) (fun k_ h_=>by have cp:=h_.1.1;show k_≠gb;omega) (.int .i64 a4)) (fun k_ h_=>by have cp:=h_.1.1;show k_≠gb;omega) (.slice a6 U.length a7)) (fun k_ h_=>by have cp:=h_.1.1;omega),⟨?_,?_⟩⟩
  ·exact ((dh (((ak.Kp.of HB.out hlt).b.setCell (p:=⟨J,0,none⟩) (Nat.le_trans (Nat.le_of_lt hlt) I.out) _).setCell (p:=⟨J,1,none⟩) (Nat.le_trans (Nat.le_of_lt hlt) I.out) _) nd).setCell (p:=⟨gb,0,none⟩) (Nat.le_refl _) _).setCell (p:=⟨gb,1,none⟩) (Nat.le_refl _) _
  ·exact bu.o4 (bu.o4 (gF (fU (fU (bu.fz HB.out gb none) I.out _) I.out _) nd) 0 _) 1 _
 ·rw [if_neg c6] at H
  have ci:decide (a9 < 0) = false:=decide_eq_false c6;clear c6;obtain rfl:=Option.some.inj H;go_enter Tryz.func112,Tryz.ntmps112;have cl:=NB.out;have co:=NC.out;obtain ⟨aO,aP,aR,aS⟩:=nz y.out;go_wp2_with (first | (refine nm (some 8) Tryz.func113 #[.agg #[.int .i64 a5,.slice al a2.length am],.slice A0 l0.length c0] ?_;(with_reducible refine (b7.calls k a5 _ _ a2 _ _ l0 a4 U _ ?side1 ?side2 ?side3 ?side4 A4.out).mono ?_);(case side1=>exact ol (Kd.aJ aw.out HB.out));(case side2=>exact aB.out);(case side3=>exact ol (Kd.aJ cf.out HB.out));(case side4=>exact ch.out);rintro e cr ⟨bv,rfl,b0,hb⟩;refine ⟨_,rfl,?_⟩;have z:=ae.mk (Kd.eC (M:=fun k_=>(w.heap.size≤k_)) b0 (an (n8 HB.out)) (fun k_ h_=>h_));replace y:=ne y hb;replace j:=ne j hb;replace HB:=np HB hb;(try clear hb);(try clear cx);(try clear hk);(try clear hi);(try clear b0)) | (refine pd 5 #[.int .i64 0,.slice none 0 0] 37 ?_;intro J hg cy hbox hb;replace z:=pm z hb;have a3:=ae.mk hbox;have I:=no hg HB;have bo:=no hg HB;replace HB:=np HB hb;have X:=pk hg y;have Y:=pl hg y;replace y:=ne y hb;have a0:=pk hg j;have a1:=pl hg j;replace j:=ne j hb;clear hb hbox hg;have c1:=Y.out;have ca:=X.out;have cb:=a1.out;have cc:=a0.out;obtain ⟨b1,b2,b3,b4⟩:=nz a3.out;obtain ⟨a6,a7,ba⟩:=Kd.bG z.out;subst ba;obtain ⟨bc,bd,bi,bm⟩:=nz j.out;have bs:=ae.mk (Kd.bF (p:=⟨J,1,none⟩) (Kd.bF (p:=⟨J,0,none⟩) (Kd.bf z.out a3.out (by decide)) (fun _ hk=>hk.2) (.int .i64 a4)) (fun _ hk=>hk.2) (.slice a6 U.length a7))) | (refine nm (some 13) Tryz.func114 #[.slice a6 U.length a7,.slice aE ao.length aF] ?_;(with_reducible refine (ay.calls k _ _ U _ _ ao a9 _ ?side1 ?side2 ?side3 ?side4 A5.out).mono ?_);(case side1=>exact (Kd.aC bs.out).2.2);(case side2=>exact (Kd.aC z.out).2.1);(case side3=>exact Kd.aJ aa.out na);(case side4=>exact ab.out);rintro e w' ⟨rfl,⟨nd,rfl⟩⟩;refine ⟨_,rfl,?_⟩));go_ret;have hlt:=LT.out;refine ⟨rfl,⟨aE,aF,ph,BS.out,fun W_ cX=>aL.out W_ (bu.trans (gF (fU (fU (bu.fz HB.out gb none) I.out _) I.out _) nd) cX (.inl rfl))⟩,⟨?_,?_⟩⟩
  ·exact dh (((ak.Kp.of HB.out hlt).b.setCell (p:=⟨J,0,none⟩) (Nat.le_trans (Nat.le_of_lt hlt) I.out) _).setCell (p:=⟨J,1,none⟩) (Nat.le_trans (Nat.le_of_lt hlt) I.out) _) nd
  ·exact gF (fU (fU (bu.fz HB.out gb none) I.out _) I.out _) nd
theorem bM.use (k:Nat) (U gb base:Nat) (y:Int) (z:Option Addr) (I:Nat) (j:List Int) (W:World) (hbm:W.heap[U]? = some (.cells #[.int .i64 y,.slice z j.length I] 37 (0,0))) (hne:U≠gb) (J:∀ W_,bu W W_ gb none→Kd.C (Kd.int .i64) W_ z j.length j) (M:j.length≤I) :
  ak.tj Tryz.prog W (.func (.func 112) #[] #[.pointer (some ⟨U,0,none⟩),.pointer (some ⟨gb,0,none⟩)]) gb base (fun xs b=>bM.f k y j xs b) :=
 ⟨112,#[.pointer (some ⟨U,0,none⟩),.pointer (some ⟨gb,0,none⟩)],Tryz.f112,rfl,Tryz.func112,by kernel_rfl,rfl,fun A c xs b b' w hK hJ hC hc h=>bM.calls k U gb base y z I j W hbm hne J M A c xs b b' w hK hJ hC hc h⟩
def bV.j0:Nat→Bool→Int→List Int→Option (Int×List Int×Bool)
 | 0,_,_,_=>none
 | k+1,J,j,y=>if J = true then (some (0,([]:List Int),false)) else ((bW.f j y).bind fun I=>((ak.f (fun xs b=>bM.f k j y xs b) k j ([]:List Int) I).bind fun z=>(some (z.1,z.2,true))))
def bV.f (k:Nat) (j:Int) (y:List Int):Option (Int×List Int×Bool):=(cj.f k j y).bind fun z=>(if z = true then (bV.j0 k (decide (j > 6)) j y) else (bV.j0 k true j y))
set_option maxHeartbeats 8000000 in
set_option maxRecDepth 100000 in
theorem bV.calls (k:Nat) (z:Int) (a1:Option Addr) (a2:Nat) (I:List Int) (r1:Int) (r2:List Int) (r3:Bool) (w:World) (ap:Kd.C (Kd.int .i64) w a1 I.length I) (ar:I.length≤a2) (h:bV.f k z I = some (r1,r2,r3)) :
  Calls Tryz.prog 54 #[.agg #[.int .i64 z,.slice a1 I.length a2]] w fun e w'=>∃ aR:Value,e = .returned (.tuple #[.agg #[.int .i64 r1,aR],.bool r3])∧Kd.R (Kd.int .i64) 3 w' w.heap.size (fun _=>True) aR r2∧Below w.heap.size w w':=by
 have eb:=Tryz.underlying37;have a7:=ae.mk ap;have a8:=ae.mk ar;clear ap ar;have HB:=ae.mk (Below.refl w.heap.size w);unfold bV.f at h;have H:=h;clear h;have aO:=ae.mk H;clear H;go_enter Tryz.func54,Tryz.ntmps54;go_upto_region 1 with (first | (refine pd 1 #[.int .i64 z,.slice a1 I.length a2] 37 ?_;intro a5 hg w3 hbox hb;have j:=ae.mk hbox;have d6:=no hg HB;have d7:=no hg HB;replace HB:=np HB hb;clear hb hbox hg) | (refine pd 2 #[.int .i64 0,.slice none 0 0] 37 ?_;intro Y hg w4 hbox hb;have y:=ae.mk hbox;have d8:=no hg HB;have d9:=no hg HB;replace HB:=np HB hb;have J:=pk hg j;have M:=pl hg j;replace j:=ne j hb;clear hb hbox hg))
 (try simp only [Act.put,List.setIfInBounds_toArray,List.set_cons_zero,List.set_cons_succ]);go_cut [12] (fun v12 wc=>∃ (kq:Nat) (a9:Bool),v12 = .bool a9∧ae (bV.j0 kq a9 z I = some (r1,r2,r3))∧ae (kq≤k)∧ae (wc.heap[a5]? = some (.cells #[.int .i64 z,(.slice a1 I.length a2)] 37 (0,0)))∧ae (wc.heap[Y]? = some (.cells #[.int .i64 0,(.slice none 0 0)] 37 (0,0)))∧ae (Below w.heap.size w wc))
 case first =>
  have H:=aO.out;clear aO;obtain ⟨aP,A5,H⟩:=oX H;(try dsimp only at H);by_cases c6:aP = true
  ·subst c6
   replace H:(bV.j0 k (decide (z > 6)) z I) = some (r1,r2,r3):=by rw [if_pos rfl] at H;exact H
   have H':=ae.mk H;clear H;have ed:=J.out;have ee:=M.out;obtain ⟨db,dd,df,dk⟩:=nz j.out;go_wp2_with (first | (refine nm (some 6) Tryz.func61 #[.agg #[.int .i64 z,.slice a1 I.length a2]] ?_;(with_reducible refine (cj.calls k z _ _ I true _ ?side1 ?side2 A5.out).mono ?_);(case side1=>exact ol (Kd.aJ a7.out HB.out));(case side2=>exact a8.out);rintro e w9 ⟨rfl,hb⟩;refine ⟨_,rfl,?_⟩;replace j:=ne j hb;replace y:=ne y hb;replace HB:=np HB hb;(try clear hb);(try clear aS);(try clear hk);(try clear hi);obtain ⟨b0,b1,b2,b3⟩:=nz j.out));go_meet
   case rel=>exact ⟨_,(decide (z > 6)),nb,H',⟨by first | omega | exact Nat.le_refl _⟩,⟨o0 j.out⟩,⟨o0 y.out⟩,⟨n8 HB.out⟩⟩
  ·replace c6:=Bool.eq_false_iff.mpr c6
   subst c6;replace H:(bV.j0 k true z I) = some (r1,r2,r3):=by rw [if_neg (show ¬ (false = true) by decide)] at H;exact H
   have H':=ae.mk H;clear H;have dp:=J.out;have dq:=M.out;obtain ⟨b4,ba,bc,bd⟩:=nz j.out;go_wp2_with (first | (refine nm (some 6) Tryz.func61 #[.agg #[.int .i64 z,.slice a1 I.length a2]] ?_;(with_reducible refine (cj.calls k z _ _ I false _ ?side1 ?side2 A5.out).mono ?_);(case side1=>exact ol (Kd.aJ a7.out HB.out));(case side2=>exact a8.out);rintro e ef ⟨rfl,hb⟩;refine ⟨_,rfl,?_⟩;replace j:=ne j hb;replace y:=ne y hb;replace HB:=np HB hb;(try clear hb);(try clear aS);(try clear hk);(try clear hi)));go_meet
   case rel=>exact ⟨_,(true),nb,H',⟨by first | omega | exact Nat.le_refl _⟩,⟨o0 j.out⟩,⟨o0 y.out⟩,⟨n8 HB.out⟩⟩
 case rest =>
  clear aO;obtain ⟨kq,a9,rfl,HA,eg,j,y,HB⟩:=hcut;cases kq with
  | zero=>exact absurd HA.out (by simp [bV.j0])
  | succ aw =>
   have H:=HA.out;clear HA;simp only [bV.j0] at H;by_cases aB:a9 = true
   ·subst aB
    replace H:(some (0,([]:List Int),false)) = some (r1,r2,r3):=by rw [if_pos rfl] at H;exact H
    simp only [Option.some.injEq,Prod.mk.injEq] at H;obtain ⟨rfl,rfl,rfl⟩:=H;have dt:=M.out;have du:=J.out;obtain ⟨bi,bk,bm,bo⟩:=nz y.out;go_wp2;refine bodyPost_ret (e7 rfl _ _ Y 37 #[.int .i64 0,.slice none 0 0] (0,0) _ rfl ph Tryz.underlying37 rfl (by kernel_rfl)) rfl ?_;exact ⟨_,pj,af.N,na⟩
   ·replace aB:=Bool.eq_false_iff.mpr aB
    subst aB;replace H:((bW.f z I).bind fun aE=>((ak.f (fun xs b=>bM.f aw z I xs b) aw z ([]:List Int) aE).bind fun X=>(some (X.1,X.2,true)))) = some (r1,r2,r3):=by rw [if_neg (show ¬ (false = true) by decide)] at H;exact H
    obtain ⟨⟨am,ao⟩,dv,H⟩:=oX H;(try dsimp only at H);obtain ⟨X,dC,H⟩:=oX H;(try dsimp only at H);simp only [Option.some.injEq,Prod.mk.injEq] at H;obtain ⟨rfl,rfl,rfl⟩:=H;have dE:=J.out;have dT:=M.out;obtain ⟨bs,bv,c0,c1⟩:=nz j.out;go_wp2_with (first | (refine nm (some 15) Tryz.func110 #[.agg #[.int .i64 z,.slice a1 I.length a2]] ?_;(with_reducible refine (bW.calls z _ _ I am ao _ ?side1 ?side2 dv.out).mono ?_);(case side1=>exact ol (Kd.aJ a7.out HB.out));(case side2=>exact a8.out);rintro e eh ⟨e0,rfl,ca,hb⟩;refine ⟨_,rfl,?_⟩;have a0:=ae.mk (Kd.bE ca (an (n8 HB.out)));replace j:=ne j hb;replace y:=ne y hb;replace HB:=np HB hb;(try clear hb);(try clear aS);(try clear hk);(try clear hi);(try clear ca)) | (refine pd 4 #[.int .i64 0,.slice none 0 0] 37 ?_;intro a3 hg el hbox hb;replace a0:=pm a0 hb;have a6:=ae.mk hbox;have aa:=no hg HB;have dl:=no hg HB;replace HB:=np HB hb;have U:=pk hg j;have ab:=pl hg j;replace j:=ne j hb;have a4:=pk hg y;have al:=pl hg y;replace y:=ne y hb;clear hb hbox hg;have e1:=ab.out;have e2:=U.out;have e3:=al.out;have e4:=a4.out;obtain ⟨cb,cc,cd,ce⟩:=nz a6.out;obtain ⟨cf,ch,ci⟩:=Kd.bG a0.out;subst ci;obtain ⟨cl,co,cp,cx⟩:=nz j.out) | (refine nm (some 19) Tryz.func111 #[.int .i64 z,.slice none 0 0,.func (.func 112) #[] #[.pointer (some ⟨a5,0,none⟩),.pointer (some ⟨a3,0,none⟩)]] ?_;refine (ak.calls (base:=w.heap.size) (bM.use aw a5 a3 w.heap.size z a1 a2 I _ ?u1 U.out ?u3 a8.out) aw z none 0 [] (am,ao) X _ (ak.Kp.refl _ _) ?side1 (fun _ _=>Kd.rh _ _) (Nat.le_refl _) dC.out).mono ?_;(case u1=>exact ph);(case u3=>exact fun W_ e8=>Kd.rM (0:Int) a7.out (bu.trans (bu.o4 (bu.o4 (bu.fz HB.out a3 none) 0 _) 1 _) e8 (.inl rfl)) (Kd.sF (0:Int) a7.out aa.out));(case side1=>exact ak.sV ph aa.out (Nat.le_refl _) (Kd.bF (p:=⟨a3,1,none⟩) (Kd.bF (p:=⟨a3,0,none⟩) (Kd.bf a0.out a6.out (by decide)) (fun _ hk=>hk.2) (.int .i64 am)) (fun _ hk=>hk.2) (.slice cf ao.length ch)) (fun _ hk=>hk.2));rintro e cy ⟨rfl,hj,hkp⟩;refine ⟨_,rfl,?_⟩;obtain ⟨Ar,cr,aF,_,aL⟩:=hj.out;have a0:=ae.mk (aL cy (bu.refl _ _ _));replace j:=ae.mk (bu.blk hkp.k (g':=a5) (o:=.cells #[.int .i64 z,.slice a1 I.length a2] 37 (0,0)) ph U.out (by simp));replace y:=ae.mk (bu.blk hkp.k (g':=Y) (o:=.cells #[.int .i64 0,.slice none 0 0] 37 (0,0)) ph a4.out (by simp));replace a6:=ae.mk aF;replace HB:=ae.mk (Below.trans (show Below w.heap.size w _ from na) (⟨hkp.b.os,hkp.b.tape,hkp.b.output,hkp.b.size,fun i_ ea=>hkp.b.block i_ (Nat.lt_of_lt_of_le ea aa.out)⟩:Below w.heap.size _ cy));clear hj hkp aF aL;obtain ⟨cX,cY,d0,d1⟩:=nz a6.out;obtain ⟨d2,d3,d4,d5⟩:=nz y.out));refine bodyPost_ret (e7 rfl _ _ Y 37 #[.int .i64 X.1,.slice Ar X.2.length cr] (0,0) _ rfl ph Tryz.underlying37 rfl (by kernel_rfl)) rfl ?_;exact ⟨_,pj,by (with_reducible repeat (first | apply Kd.eY | apply Kd.eR | apply Kd.dw));exact Kd.aX (Kd.bF (p:=⟨Y,1,none⟩) (Kd.bF (p:=⟨Y,0,none⟩) (Kd.bf a0.out y.out (by decide)) (fun _ hk=>hk.2) (.int .i64 X.1)) (fun _ hk=>hk.2) (.slice Ar X.2.length cr)) (fun _ hk=>trivial),na⟩
def bK.l0:Nat→List Int→List Int→Int→Int→Option (Bool)
 | 0,_,_,_,_=>none
 | k+1,z,I,y,j=>if j < y then (if 0≤j then (if j < (z.length:Int) then (if j < (I.length:Int) then (if (rd z j) = (rd I j) then (bK.l0 k z I y (wrap64 (j+1))) else (some false)) else (none)) else (none)) else (none)) else (some true)
def bK.f (k:Nat) (l0:List Int) (l1:List Int):Option (Bool):=if (l0.length:Int) = (l1.length:Int) then (bK.l0 k l0 l1 (l0.length:Int) 0) else (some false)
set_option maxHeartbeats 8000000 in
set_option maxRecDepth 100000 in
theorem bK.calls (k:Nat) (A0:Option Addr) (c0:Nat) (l0:List Int) (A1:Option Addr) (c1:Nat) (l1:List Int) (r:Bool) (w:World) (a2:Kd.C (Kd.int .i64) w A0 l0.length l0) (a3:l0.length≤c0) (a4:Kd.C (Kd.int .i64) w A1 l1.length l1) (a5:l1.length≤c1) (h:bK.f k l0 l1 = some r) :
  Calls Tryz.prog 115 #[.slice A0 l0.length c0,.slice A1 l1.length c1] w fun e w'=>e = .returned (.bool r)∧cw w w':=by
 have a6:=ae.mk a2;have aE:=ae.mk a3;clear a2 a3;have a7:=ae.mk a4;have aF:=ae.mk a5;clear a4 a5;unfold bK.f at h;have H:=h;clear h;by_cases c3:(l0.length:Int) = (l1.length:Int)
 ·rw [if_pos c3] at H
  have a8:((l0.length:Int) == (l1.length:Int)) = true:=beq_iff_eq.mpr c3;have a9:((l0.length:Int) != (l1.length:Int)) = false:=bne_eq_false_iff_eq.mpr c3;have aa:(l0.length == l1.length) = true:=by first | simpa using c3 | (simp at c3 ⊢;omega)
  clear c3;have H':=ae.mk H;clear H;go_enter Tryz.func115,Tryz.ntmps115;go_wp2;repeat (go_quiet (fail);try go_wp2)
  go_loopg [13] k (fun kq ap w'=>∃ (j:Int),ap = .int .i64 j∧ae (bK.l0 kq l0 l1 (l0.length:Int) j = some r)∧ae (kq≤k)∧cw w w')
  case atStart=>exact ⟨(0),nb,H',⟨Nat.le_refl _⟩,pf⟩
  case round =>
   clear H';obtain ⟨j,rfl,HA,ab,⟨m1,rfl⟩⟩:=hrel;cases gk with
   | zero=>exact absurd HA.out (by simp [bK.l0])
   | succ k1 =>
    have H:=HA.out;clear HA;simp only [bK.l0] at H;by_cases c4:j < (l0.length:Int)
    ·rw [if_pos c4] at H
     have al:=decide_eq_true c4;clear c4;obtain ⟨c5,H⟩:=oY H;have ar:=decide_eq_true c5;clear c5;obtain ⟨c6,H⟩:=oY H;have aw:=decide_eq_true c6;clear c6;obtain ⟨c7,H⟩:=oY H;have aB:=decide_eq_true c7;clear c7;by_cases c8:(rd l0 j) = (rd l1 j)
     ·rw [if_pos c8] at H
      have am:((rd l0 j) == (rd l1 j)) = true:=beq_iff_eq.mpr c8;have ao:((rd l0 j) != (rd l1 j)) = false:=bne_eq_false_iff_eq.mpr c8;clear c8;have H':=ae.mk H;clear H;obtain ⟨M,y,I,X,Y⟩:=pi a6.out j;cases y
      obtain ⟨U,z,J,a0,a1⟩:=pi a7.out j;cases z
      go_wp2;repeat (go_quiet (fail);try go_wp2)
      go_roundg k1;case measure=>have:=ab.out;omega
      case rel=>exact ⟨(wrap64 (j+1)),nb,H',⟨by have:=ab.out;omega⟩,pf⟩
     ·rw [if_neg c8] at H
      have am:((rd l0 j) == (rd l1 j)) = false:=beq_eq_false_iff_ne.mpr c8;have ao:((rd l0 j) != (rd l1 j)) = true:=bne_iff_ne.mpr c8;obtain rfl:=Option.some.inj H;obtain ⟨M,y,I,X,Y⟩:=pi a6.out j;cases y
      obtain ⟨U,z,J,a0,a1⟩:=pi a7.out j;cases z
      go_wp2;repeat (go_quiet (fail);try go_wp2)
      go_ret;exact ⟨nb,pf⟩
    ·rw [if_neg c4] at H
     have al:decide (j < (l0.length:Int)) = false:=decide_eq_false c4;clear c4;obtain rfl:=Option.some.inj H;go_wp2;repeat (go_quiet (fail);try go_wp2)
     go_ret;exact ⟨nb,pf⟩
 ·rw [if_neg c3] at H
  have a8:((l0.length:Int) == (l1.length:Int)) = false:=beq_eq_false_iff_ne.mpr c3;have a9:((l0.length:Int) != (l1.length:Int)) = true:=bne_iff_ne.mpr c3;have aa:(l0.length == l1.length) = false:=by first | simpa using c3 | (simp at c3 ⊢;omega)
  obtain rfl:=Option.some.inj H;go_enter Tryz.func115,Tryz.ntmps115;go_wp2;repeat (go_quiet (fail);try go_wp2)
  go_ret;exact ⟨nb,pf⟩
def cn.f (k:Nat) (y:Int) (z:List Int) (I:Int) (J:List Int):Option (Bool):=if y = I then ((bK.f k z J).bind fun j=>(some j)) else (some false)
set_option maxHeartbeats 8000000 in
set_option maxRecDepth 100000 in
theorem cn.calls (k:Nat) (I:Int) (Y:Option Addr) (a0:Nat) (M:List Int) (J:Int) (a1:Option Addr) (a2:Nat) (U:List Int) (r:Bool) (w:World) (a3:Kd.C (Kd.int .i64) w Y M.length M) (a4:M.length≤a0) (a5:Kd.C (Kd.int .i64) w a1 U.length U) (a6:U.length≤a2) (h:cn.f k I M J U = some r) :
  Calls Tryz.prog 55 #[.agg #[.int .i64 I,.slice Y M.length a0],.agg #[.int .i64 J,.slice a1 U.length a2]] w fun e w'=>e = .returned (.bool r)∧Below w.heap.size w w':=by
 have bs:=Tryz.underlying37;have am:=ae.mk a3;have ao:=ae.mk a4;clear a3 a4;have ap:=ae.mk a5;have ar:=ae.mk a6;clear a5 a6;have HB:=ae.mk (Below.refl w.heap.size w);unfold cn.f at h;have H:=h;clear h;by_cases c3:I = J
 ·rw [if_pos c3] at H
  have aB:(I == J) = true:=beq_iff_eq.mpr c3;have aE:(I != J) = false:=bne_eq_false_iff_eq.mpr c3;clear c3;obtain ⟨aw,A4,H⟩:=oX H;(try dsimp only at H);obtain rfl:=Option.some.inj H;go_enter Tryz.func55,Tryz.ntmps55;go_wp2_with (first | ((with_reducible refine aZ (N:=2) rfl ?_);refine pd 2 #[.int .i64 I,.slice Y M.length a0] 37 ?_;intro a7 hg w5 hbox hb;have j:=ae.mk hbox;have a8:=no hg HB;have a9:=no hg HB;replace HB:=np HB hb;clear hb hbox hg) | ((with_reducible refine aZ (N:=3) rfl ?_);refine pd 3 #[.int .i64 J,.slice a1 U.length a2] 37 ?_;intro aa hg w6 hbox hb;have X:=ae.mk hbox;have ab:=no hg HB;have al:=no hg HB;replace HB:=np HB hb;have y:=pk hg j;have z:=pl hg j;replace j:=ne j hb;clear hb hbox hg;have bv:=y.out;have c0:=z.out;obtain ⟨b2,b3,b4,ba⟩:=nz j.out;obtain ⟨bc,bd,bi,bk⟩:=nz X.out) | (go_at_call 115;(with_reducible refine (bK.calls k _ _ M _ _ U aw _ ?side1 ?side2 ?side3 ?side4 A4.out).mono ?_);(case side1=>exact ol (Kd.aJ am.out HB.out));(case side2=>exact ao.out);(case side3=>exact ol (Kd.aJ ap.out HB.out));(case side4=>exact ar.out);rintro e w' ⟨rfl,⟨nd,rfl⟩⟩));go_ret;exact ⟨pj,na⟩
 ·rw [if_neg c3] at H
  have aB:(I == J) = false:=beq_eq_false_iff_ne.mpr c3;have aE:(I != J) = true:=bne_iff_ne.mpr c3;obtain rfl:=Option.some.inj H;go_enter Tryz.func55,Tryz.ntmps55;go_wp2_with (first | ((with_reducible refine aZ (N:=2) rfl ?_);refine pd 2 #[.int .i64 I,.slice Y M.length a0] 37 ?_;intro a7 hg c1 hbox hb;have j:=ae.mk hbox;have a8:=no hg HB;have a9:=no hg HB;replace HB:=np HB hb;clear hb hbox hg) | ((with_reducible refine aZ (N:=3) rfl ?_);refine pd 3 #[.int .i64 J,.slice a1 U.length a2] 37 ?_;intro aa hg ca hbox hb;have X:=ae.mk hbox;have ab:=no hg HB;have al:=no hg HB;replace HB:=np HB hb;have y:=pk hg j;have z:=pl hg j;replace j:=ne j hb;clear hb hbox hg;have bm:=y.out;have bo:=z.out;obtain ⟨aF,aL,aO,aP⟩:=nz j.out;obtain ⟨aR,aS,b0,b1⟩:=nz X.out));go_ret;exact ⟨pj,na⟩
def dy.f (a0:Int) (j:Int):Option (Bool):=if a0≥0 then (if a0≤5 then (if j≥0 then (some (decide (j≤a0))) else (some false)) else (some false)) else (some false)
set_option maxHeartbeats 8000000 in
set_option maxRecDepth 100000 in
theorem dy.calls (a0:Int) (I:Int) (r:Bool) (w:World) (h:dy.f a0 I = some r) :
  Calls Tryz.prog 52 #[.int .i64 a0,.int .i64 I] w fun e w'=>e = .returned (.bool r)∧cw w w':=by
 unfold dy.f at h;have H:=h;clear h;by_cases c3:a0≥0
 ·rw [if_pos c3] at H
  have j:=decide_eq_true c3;clear c3;by_cases c4:a0≤5
  ·rw [if_pos c4] at H
   have y:=decide_eq_true c4;clear c4;by_cases c5:I≥0
   ·rw [if_pos c5] at H
    have z:=decide_eq_true c5;clear c5;obtain rfl:=Option.some.inj H;go_enter Tryz.func52,Tryz.ntmps52;go_wp2;go_ret;exact ⟨nb,pf⟩
   ·rw [if_neg c5] at H
    have z:decide (0≤I) = false:=decide_eq_false c5;clear c5;obtain rfl:=Option.some.inj H;go_enter Tryz.func52,Tryz.ntmps52;go_wp2;go_ret;exact ⟨nb,pf⟩
  ·rw [if_neg c4] at H
   have y:decide (a0≤5) = false:=decide_eq_false c4;clear c4;obtain rfl:=Option.some.inj H;go_enter Tryz.func52,Tryz.ntmps52;go_wp2;go_ret;exact ⟨nb,pf⟩
 ·rw [if_neg c3] at H
  have j:decide (0≤a0) = false:=decide_eq_false c3;clear c3;obtain rfl:=Option.some.inj H;go_enter Tryz.func52,Tryz.ntmps52;go_wp2;go_ret;exact ⟨nb,pf⟩
def dY.f (a0:Int):Option (Int):=(cB.f a0).bind fun j=>(if j = true then (if 0≤a0 then (some (wrap64 ((shl .i64 1 a0) - 1))) else (none)) else (some 0))
set_option maxHeartbeats 8000000 in
set_option maxRecDepth 100000 in
theorem dY.calls (a0:Int) (r:Int) (w:World) (h:dY.f a0 = some r) :
  Calls Tryz.prog 75 #[.int .i64 a0] w fun e w'=>e = .returned (.int .i64 r)∧cw w w':=by
 unfold dY.f at h;have H:=h;clear h;obtain ⟨M,X,H⟩:=oX H;(try dsimp only at H);by_cases c3:M = true
 ·subst c3
  replace H:(if 0≤a0 then (some (wrap64 ((shl .i64 1 a0) - 1))) else (none)) = some r:=by rw [if_pos rfl] at H;exact H
  obtain ⟨c4,H⟩:=oY H;have a4:=eq_true c4;have a5:decide (0≤a0) = true:=decide_eq_true c4;clear c4;obtain ⟨y,j⟩:∃ j_:Int,(shl .i64 1 a0) = j_:=⟨_,rfl⟩
  replace H:(some (wrap64 ((y) - 1))) = some r:=by first | (rw [j] at H;exact H) | (simp only [j] at H ⊢;exact H)
  (try rw [j] at X);have z:(IntKind.i64.wrap (1 * 2 ^ min a0.toNat 64)) = y:=j;have I:a0≤64→(IntKind.i64.wrap (1 * 2 ^ a0.toNat)) = y:=eu j;have Y:(IntKind.i64.wrap (2 ^ min a0.toNat 64)) = y:=by have J:=z;rw [Int.one_mul] at J;exact J
  have a1:a0≤64→(IntKind.i64.wrap (2 ^ a0.toNat)) = y:=fun U=>by have J:=I U;rw [Int.one_mul] at J;exact J
  have a2:(wrap64 (1 * 2 ^ min a0.toNat 64)) = y:=(b9 _).symm.trans z;have a3:a0≤64→(wrap64 (1 * 2 ^ a0.toNat)) = y:=fun J=>(b9 _).symm.trans (I J)
  obtain rfl:=Option.some.inj H;go_enter Tryz.func75,Tryz.ntmps75;go_wp2_with (first | (refine nm (some 4) Tryz.func133 #[.int .i64 a0] ?_;(with_reducible refine (cB.calls a0 true _ X.out).mono ?_);rintro e w' ⟨rfl,⟨nd,rfl⟩⟩;refine ⟨_,rfl,?_⟩));go_ret;exact ⟨by first | rfl | (simp;done) | (simp only [← j] <;> (first | rfl | simp)) | (simp [*];done),pf⟩
 ·replace c3:=Bool.eq_false_iff.mpr c3
  subst c3;replace H:(some 0) = some r:=by rw [if_neg (show ¬ (false = true) by decide)] at H;exact H
  obtain rfl:=Option.some.inj H;go_enter Tryz.func75,Tryz.ntmps75;go_wp2_with (first | (refine nm (some 4) Tryz.func133 #[.int .i64 a0] ?_;(with_reducible refine (cB.calls a0 false _ X.out).mono ?_);rintro e w' ⟨rfl,⟨nd,rfl⟩⟩;refine ⟨_,rfl,?_⟩));go_ret;exact ⟨nb,pf⟩
def bQ.l0 (g:Int→Option Bool):Nat→Int→List Int→Int→Option (List Int)
 | 0,_,_,_=>none
 | k+1,z,y,j=>(dY.f z).bind fun t=>(if j≤t then ((g j).bind fun b=>(if b = true then (if y.length < 17592186044416 then (bQ.l0 g k z (y ++ [j]) (wrap64 (j+1))) else (none)) else (bQ.l0 g k z y (wrap64 (j+1))))) else (some y))
def bQ.f (k:Nat) (a0:Int) (g:Int→Option Bool):Option (List Int):=bQ.l0 g k a0 [] 0
set_option maxHeartbeats 8000000 in
set_option maxRecDepth 100000 in
theorem bQ.calls (k:Nat) (a0:Int) (fv:Value) (g:Int→Option Bool) (r:List Int) (w:World) (hF:af.lE Tryz.prog w fv g) (h:bQ.f k a0 g = some r) :
  Calls Tryz.prog 68 #[.int .i64 a0,fv] w fun e w'=>∃ a8:Value,e = .returned (a8)∧Kd.R (Kd.int .i64) 3 w' w.heap.size (fun _=>True) a8 r∧Below w.heap.size w w':=by
 have HB:=ae.mk (Below.refl w.heap.size w);obtain ⟨a1,M⟩:∃ y_:List Int,y_ = (([]:List Int)):=⟨_,rfl⟩
 have H:(bQ.l0 g k a0 a1 0) = some r:=by rw [M];exact h
 clear h;have a3:=ae.mk M;clear M;have H':=ae.mk H;clear H;go_enter Tryz.func68,Tryz.ntmps68;go_wp2_with (first | (refine af.lt (Kd.int .i64) 3 7 ?_;intro ao w2 a4 hb am a5;clear am a5;rw [← a3.out] at a4;have X:=ae.mk (Kd.bE a4 (an HB.out));replace HB:=ae.mk (az HB.out hb);clear hb a4));go_loopg [5,6] k (fun kq v5 v6 w'=>∃ (J:List Int) (y:Int),v6 = .int .i64 y∧ae (bQ.l0 g kq a0 J y = some r)∧ae (kq≤k)∧ae (Kd.R (Kd.int .i64) 3 w' w.heap.size (fun _=>True) v5 J)∧ae (Below w.heap.size w w'))
 case atStart=>exact ⟨a1,0,rfl,H',⟨Nat.le_refl _⟩,X,HB⟩
 case round =>
  clear H';(try clear HB);(try clear X);obtain ⟨J,y,rfl,HA,Y,j,HB⟩:=hrel;cases gk with
  | zero=>exact absurd HA.out (by simp [bQ.l0])
  | succ k1 =>
   have H:=HA.out;clear HA;simp only [bQ.l0] at H;obtain ⟨t,a9,H⟩:=Option.bind_eq_some_iff.mp H;have A4:=ae.mk a9;clear a9;by_cases c4:y≤t
   ·rw [if_pos c4] at H
    have aa:=decide_eq_true c4;clear c4;obtain ⟨t127,ab,H⟩:=Option.bind_eq_some_iff.mp H;have A5:=ae.mk ab;clear ab;by_cases c6:t127 = true
    ·subst c6
     replace H:(if J.length < 17592186044416 then (bQ.l0 g k1 a0 (J ++ [y]) (wrap64 (y+1))) else (none)) = some r:=by rw [if_pos rfl] at H;exact H
     obtain ⟨c7,H⟩:=oY H;have al:=ae.mk c7;clear c7;obtain ⟨a2,U⟩:∃ y_:List Int,y_ = (J ++ [y]):=⟨_,rfl⟩
     replace H:(bQ.l0 g k1 a0 a2 (wrap64 (y+1))) = some r:=by rw [U];exact H
     have a6:=ae.mk U;clear U;have H':=ae.mk H;clear H;go_wp2_with (first | (refine nm (some 10) Tryz.func75 #[.int .i64 a0] ?_;(with_reducible refine (dY.calls a0 t _ A4.out).mono ?_);rintro e w' ⟨rfl,hd⟩;refine ⟨_,rfl,?_⟩;have z:=ae.mk (az HB.out hd.below);have I:=ae.mk (Kd.cN j.out hd.below);clear HB j hd;have HB:=z;have j:=I;clear I z) | ((with_reducible refine aZ (N:=16) rfl ?_);refine af.lF (some 16) rfl rfl 14 rfl hF A5.out HB.out rfl (by (try simp only [List.map_toArray,List.map_cons,List.map_nil]);first | done | rfl) ?_;intro w5 hb;have z:=ae.mk (az HB.out hb);have I:=ae.mk (Kd.cN j.out hb);clear HB j hb;have HB:=z;have j:=I;clear I z) | ((with_reducible refine cD (b:=.append) (xs:=#[.tmp 17,.tmp 19]) rfl ?_);at_builtin;refine Kd.fB (Kd.int .i64) (w0:=w) w.heap.size rfl (.tmp 17) (.tmp 19) 22 3 (.int .i64 0) 8 rfl Tryz.underlying22 eF rfl (by decide) (by omega) u5 J y [.int .i64 y] (fun _=>True) (fun _=>False) rfl rfl (by exact rfl) (fun _ hk=>hk.elim) (by exact fun _ _=>trivial) (by exact by (with_reducible repeat (first | apply Kd.eY | apply Kd.eR | apply Kd.dw));exact j.out) (by exact na) (by exact an na) (by have:=al.out;omega) ?_;intro ap w8 ho hb hg hat;rw [← a6.out] at ho;have I:=ae.mk (hb);have z:=ae.mk (ho);clear HB;clear j;have HB:=I;have a7:=z;clear I z;clear ho hb hg hat));go_roundg k1;case measure=>have:=Y.out;omega
     case rel=>exact ⟨(a2),(wrap64 (y+1)),rfl,H',⟨by have:=Y.out;omega⟩,a7,HB⟩
    ·replace c6:=Bool.eq_false_iff.mpr c6
     subst c6;have H1:(bQ.l0 g k1 a0 J (wrap64 (y+1))) = some r:=by rw [if_neg (show ¬ (false = true) by decide)] at H;exact H
     clear H;have H':=ae.mk H1;clear H1;go_wp2_with (first | (refine nm (some 10) Tryz.func75 #[.int .i64 a0] ?_;(with_reducible refine (dY.calls a0 t _ A4.out).mono ?_);rintro e w' ⟨rfl,hd⟩;refine ⟨_,rfl,?_⟩;have z:=ae.mk (az HB.out hd.below);have I:=ae.mk (Kd.cN j.out hd.below);clear HB j hd;have HB:=z;have j:=I;clear I z) | ((with_reducible refine aZ (N:=16) rfl ?_);refine af.lF (some 16) rfl rfl 14 rfl hF A5.out HB.out rfl (by (try simp only [List.map_toArray,List.map_cons,List.map_nil]);first | done | rfl) ?_;intro w5 hb;have z:=ae.mk (az HB.out hb);have I:=ae.mk (Kd.cN j.out hb);clear HB j hb;have HB:=z;have j:=I;clear I z));go_roundg k1;case measure=>have:=Y.out;omega
     case rel=>exact ⟨J,(wrap64 (y+1)),rfl,H',⟨by have:=Y.out;omega⟩,j,HB⟩
   ·rw [if_neg c4] at H
    have aa:decide (y≤t) = false:=decide_eq_false c4;clear c4;obtain rfl:=Option.some.inj H;go_wp2_with (first | (refine nm (some 10) Tryz.func75 #[.int .i64 a0] ?_;(with_reducible refine (dY.calls a0 t _ A4.out).mono ?_);rintro e w' ⟨rfl,hd⟩;refine ⟨_,rfl,?_⟩;have z:=ae.mk (az HB.out hd.below);have I:=ae.mk (Kd.cN j.out hd.below);clear HB j hd;have HB:=z;have j:=I;clear I z));go_ret;exact ⟨_,rfl,j.out,HB.out⟩
def di.f (kC:Int) (s:Int):Option Bool:=(dL.f s).bind fun t=>some (t == kC)
def eU.f (k:Nat) (a0:Int) (j:Int):Option (Int×List Int):=(cB.f j).bind fun t=>(if t = true then (if a0 < 0 then (some (0,[])) else (if a0 > j then (some (0,[])) else ((bQ.f k j (fun s=>di.f a0 s)).bind fun l=>(some (j,l))))) else (some (0,[])))
set_option maxHeartbeats 8000000 in
set_option maxRecDepth 100000 in
theorem di.calls (kC:Int) (s:Int) (b:Bool) (gb:Nat) (w:World) (hbk:w.heap[gb]? = some (.cells #[.int .i64 kC] 3 (0,0))) (h:di.f kC s = some b) :
  Calls Tryz.prog 161 #[.int .i64 s,.pointer (some ⟨gb,0,none⟩)] w fun e w'=>e = .returned (.bool b)∧Below w.heap.size w w':=by
 have j:w.cell? ⟨gb,0,none⟩ = some (.int .i64 kC):=(ah hbk 0).trans rfl;clear hbk;unfold di.f at h;obtain ⟨t,h1,h⟩:=Option.bind_eq_some_iff.mp h;have y:=ae.mk h1;clear h1;obtain rfl:=Option.some.inj h;clear h;go_enter Tryz.func161,Tryz.ntmps161;go_wp2_with fail;go_quiet (first | (go_at_call 67;(with_reducible refine (dL.calls s t _ y.out).mono ?_);rintro e w' ⟨rfl,⟨nd,rfl⟩⟩;(first | exact ⟨rfl,_,World.drewN_drewN _ _ _⟩ | exact ⟨rfl,_,Eq.trans (World.drewN_drewN _ _ _) (congrArg (World.drewN _) (Nat.add_assoc _ _ _))⟩)))
 go_wp2;go_ret;exact ⟨rfl,by first | exact dh (Below.refl _ _) _ | exact Below.refl _ _⟩
theorem di.qP (kC:Int) (gb:Nat) (w:World) (hbk:w.heap[gb]? = some (.cells #[.int .i64 kC] 3 (0,0))) :
  af.lE Tryz.prog w (.func (.func 161) #[] #[.pointer (some ⟨gb,0,none⟩)]) (fun s=>di.f kC s) :=
 ⟨⟨161,#[.pointer (some ⟨gb,0,none⟩)],Tryz.f161,rfl,Tryz.func161,by kernel_rfl,rfl,fun s b w' hw hg=>di.calls kC s b gb w' (aN hbk hw) hg⟩⟩
set_option maxHeartbeats 8000000 in
set_option maxRecDepth 100000 in
theorem eU.calls (k:Nat) (a0:Int) (a1:Int) (r1:Int) (r2:List Int) (w:World) (h:eU.f k a0 a1 = some (r1,r2)) :
  Calls Tryz.prog 109 #[.int .i64 a0,.int .i64 a1] w fun e w'=>∃ a6:Value,e = .returned (.agg #[.int .i64 r1,a6])∧Kd.R (Kd.int .i64) 3 w' w.heap.size (fun _=>True) a6 r2∧Below w.heap.size w w':=by
 have a9:=Tryz.underlying37;have HB:=ae.mk (Below.refl w.heap.size w);unfold eU.f at h;obtain ⟨t,h1,h⟩:=Option.bind_eq_some_iff.mp h;have A1:=ae.mk h1;clear h1;cases t with
 | false =>
  rw [if_neg (by decide)] at h;simp only [Option.some.injEq,Prod.mk.injEq] at h;obtain ⟨rfl,rfl⟩:=h;go_enter Tryz.func109,Tryz.ntmps109;go_wp2_with (first | ((with_reducible refine aZ (N:=2) rfl ?_);refine pd 2 #[.int .i64 a0] 3 ?_;intro a3 hg w3 hbox hb;have a2:=ae.mk (az HB.out hb);have a5:=ae.mk ((by rw [hg];exact an HB.out):w.heap.size≤a3);clear HB;have HB:=a2;have y:=ae.mk hbox;clear a2;have z:w3.cell? ⟨a3,0,none⟩ = some (.int .i64 a0):=(ah y.out 0).trans rfl;have I:=aj y.out 0;clear hb hbox hg) | ((with_reducible refine aZ (N:=4) rfl ?_);refine pd 4 #[.int .i64 0,.slice none 0 0] 37 ?_;intro J hg w4 hbox hb;have a2:=ae.mk (az HB.out hb);have a4:=ae.mk ((by rw [hg];exact an HB.out):w.heap.size≤J);clear HB;have HB:=a2;have j:=ae.mk hbox;clear a2;have m_:=ae.mk (aN y.out hb);clear y;have y:=m_;clear m_;have z:w4.cell? ⟨a3,0,none⟩ = some (.int .i64 a0):=(ah y.out 0).trans rfl;have I:=aj y.out 0;have M:w4.cell? ⟨J,0,none⟩ = some (.int .i64 0):=(ah j.out 0).trans rfl;have U:=aj j.out 0;have X:w4.cell? ⟨J,1,none⟩ = some (.slice none 0 0):=(ah j.out 1).trans rfl;have Y:=aj j.out 1;clear hb hbox hg) | ((with_reducible refine aW (f:=133) rfl ?_);refine nm (some 6) Tryz.func133 #[.int .i64 a1] ?_;(with_reducible refine (cB.calls a1 false _ A1.out).mono ?_);rintro e w5 ⟨rfl,hd⟩;refine ⟨_,rfl,?_⟩;have hb:=hd.below;clear hd;replace HB:=ae.mk (az HB.out hb);have m_:=ae.mk (aN y.out hb);clear y;have y:=m_;clear m_;have m_:=ae.mk (aN j.out hb);clear j;have j:=m_;clear m_;clear hb;have z:w5.cell? ⟨a3,0,none⟩ = some (.int .i64 a0):=(ah y.out 0).trans rfl;have I:=aj y.out 0;have M:w5.cell? ⟨J,0,none⟩ = some (.int .i64 0):=(ah j.out 0).trans rfl;have U:=aj j.out 0;have X:w5.cell? ⟨J,1,none⟩ = some (.slice none 0 0):=(ah j.out 1).trans rfl;have Y:=aj j.out 1));refine bodyPost_ret (results_cell_row rfl _ _ J 37 #[.int .i64 0,.slice none 0 0] (0,0) _ rfl ph Tryz.underlying37 rfl (by kernel_rfl)) rfl ?_;exact ⟨_,rfl,Kd.jt _ _ _ _ _,by repeat (first | exact HB.out | refine er ?_ a4.out)⟩
 | true =>
  rw [if_pos rfl] at h;by_cases c1:a0 < 0
  ·rw [if_pos c1] at h
   simp only [Option.some.injEq,Prod.mk.injEq] at h;obtain ⟨rfl,rfl⟩:=h;have a7:decide (a0 < 0) = true:=decide_eq_true c1;clear c1;go_enter Tryz.func109,Tryz.ntmps109;go_wp2_with (first | ((with_reducible refine aZ (N:=2) rfl ?_);refine pd 2 #[.int .i64 a0] 3 ?_;intro a3 hg w3 hbox hb;have a2:=ae.mk (az HB.out hb);have a5:=ae.mk ((by rw [hg];exact an HB.out):w.heap.size≤a3);clear HB;have HB:=a2;have y:=ae.mk hbox;clear a2;have z:w3.cell? ⟨a3,0,none⟩ = some (.int .i64 a0):=(ah y.out 0).trans rfl;have I:=aj y.out 0;clear hb hbox hg) | ((with_reducible refine aZ (N:=4) rfl ?_);refine pd 4 #[.int .i64 0,.slice none 0 0] 37 ?_;intro J hg w4 hbox hb;have a2:=ae.mk (az HB.out hb);have a4:=ae.mk ((by rw [hg];exact an HB.out):w.heap.size≤J);clear HB;have HB:=a2;have j:=ae.mk hbox;clear a2;have m_:=ae.mk (aN y.out hb);clear y;have y:=m_;clear m_;have z:w4.cell? ⟨a3,0,none⟩ = some (.int .i64 a0):=(ah y.out 0).trans rfl;have I:=aj y.out 0;have M:w4.cell? ⟨J,0,none⟩ = some (.int .i64 0):=(ah j.out 0).trans rfl;have U:=aj j.out 0;have X:w4.cell? ⟨J,1,none⟩ = some (.slice none 0 0):=(ah j.out 1).trans rfl;have Y:=aj j.out 1;clear hb hbox hg) | ((with_reducible refine aW (f:=133) rfl ?_);refine nm (some 6) Tryz.func133 #[.int .i64 a1] ?_;(with_reducible refine (cB.calls a1 true _ A1.out).mono ?_);rintro e w5 ⟨rfl,hd⟩;refine ⟨_,rfl,?_⟩;have hb:=hd.below;clear hd;replace HB:=ae.mk (az HB.out hb);have m_:=ae.mk (aN y.out hb);clear y;have y:=m_;clear m_;have m_:=ae.mk (aN j.out hb);clear j;have j:=m_;clear m_;clear hb;have z:w5.cell? ⟨a3,0,none⟩ = some (.int .i64 a0):=(ah y.out 0).trans rfl;have I:=aj y.out 0;have M:w5.cell? ⟨J,0,none⟩ = some (.int .i64 0):=(ah j.out 0).trans rfl;have U:=aj j.out 0;have X:w5.cell? ⟨J,1,none⟩ = some (.slice none 0 0):=(ah j.out 1).trans rfl;have Y:=aj j.out 1));refine bodyPost_ret (results_cell_row rfl _ _ J 37 #[.int .i64 0,.slice none 0 0] (0,0) _ rfl ph Tryz.underlying37 rfl (by kernel_rfl)) rfl ?_;exact ⟨_,rfl,Kd.jt _ _ _ _ _,by repeat (first | exact HB.out | refine er ?_ a4.out)⟩
  ·rw [if_neg c1] at h
   have a7:decide (a0 < 0) = false:=decide_eq_false c1;clear c1;by_cases c2:a0 > a1
   ·rw [if_pos c2] at h
    simp only [Option.some.injEq,Prod.mk.injEq] at h;obtain ⟨rfl,rfl⟩:=h;have a8:decide (a1 < a0) = true:=decide_eq_true c2;clear c2;go_enter Tryz.func109,Tryz.ntmps109;go_wp2_with (first | ((with_reducible refine aZ (N:=2) rfl ?_);refine pd 2 #[.int .i64 a0] 3 ?_;intro a3 hg w3 hbox hb;have a2:=ae.mk (az HB.out hb);have a5:=ae.mk ((by rw [hg];exact an HB.out):w.heap.size≤a3);clear HB;have HB:=a2;have y:=ae.mk hbox;clear a2;have z:w3.cell? ⟨a3,0,none⟩ = some (.int .i64 a0):=(ah y.out 0).trans rfl;have I:=aj y.out 0;clear hb hbox hg) | ((with_reducible refine aZ (N:=4) rfl ?_);refine pd 4 #[.int .i64 0,.slice none 0 0] 37 ?_;intro J hg w4 hbox hb;have a2:=ae.mk (az HB.out hb);have a4:=ae.mk ((by rw [hg];exact an HB.out):w.heap.size≤J);clear HB;have HB:=a2;have j:=ae.mk hbox;clear a2;have m_:=ae.mk (aN y.out hb);clear y;have y:=m_;clear m_;have z:w4.cell? ⟨a3,0,none⟩ = some (.int .i64 a0):=(ah y.out 0).trans rfl;have I:=aj y.out 0;have M:w4.cell? ⟨J,0,none⟩ = some (.int .i64 0):=(ah j.out 0).trans rfl;have U:=aj j.out 0;have X:w4.cell? ⟨J,1,none⟩ = some (.slice none 0 0):=(ah j.out 1).trans rfl;have Y:=aj j.out 1;clear hb hbox hg) | ((with_reducible refine aW (f:=133) rfl ?_);refine nm (some 6) Tryz.func133 #[.int .i64 a1] ?_;(with_reducible refine (cB.calls a1 true _ A1.out).mono ?_);rintro e w5 ⟨rfl,hd⟩;refine ⟨_,rfl,?_⟩;have hb:=hd.below;clear hd;replace HB:=ae.mk (az HB.out hb);have m_:=ae.mk (aN y.out hb);clear y;have y:=m_;clear m_;have m_:=ae.mk (aN j.out hb);clear j;have j:=m_;clear m_;clear hb;have z:w5.cell? ⟨a3,0,none⟩ = some (.int .i64 a0):=(ah y.out 0).trans rfl;have I:=aj y.out 0;have M:w5.cell? ⟨J,0,none⟩ = some (.int .i64 0):=(ah j.out 0).trans rfl;have U:=aj j.out 0;have X:w5.cell? ⟨J,1,none⟩ = some (.slice none 0 0):=(ah j.out 1).trans rfl;have Y:=aj j.out 1));refine bodyPost_ret (results_cell_row rfl _ _ J 37 #[.int .i64 0,.slice none 0 0] (0,0) _ rfl ph Tryz.underlying37 rfl (by kernel_rfl)) rfl ?_;exact ⟨_,rfl,Kd.jt _ _ _ _ _,by repeat (first | exact HB.out | refine er ?_ a4.out)⟩
   ·rw [if_neg c2] at h
    have a8:decide (a1 < a0) = false:=decide_eq_false c2;clear c2;obtain ⟨l,h2,h⟩:=Option.bind_eq_some_iff.mp h;have A2:=ae.mk h2;clear h2;simp only [Option.some.injEq,Prod.mk.injEq] at h;obtain ⟨rfl,rfl⟩:=h;go_enter Tryz.func109,Tryz.ntmps109;go_wp2_with (first | ((with_reducible refine aZ (N:=2) rfl ?_);refine pd 2 #[.int .i64 a0] 3 ?_;intro a3 hg w3 hbox hb;have a2:=ae.mk (az HB.out hb);have a5:=ae.mk ((by rw [hg];exact an HB.out):w.heap.size≤a3);clear HB;have HB:=a2;have y:=ae.mk hbox;clear a2;have z:w3.cell? ⟨a3,0,none⟩ = some (.int .i64 a0):=(ah y.out 0).trans rfl;have I:=aj y.out 0;clear hb hbox hg) | ((with_reducible refine aZ (N:=4) rfl ?_);refine pd 4 #[.int .i64 0,.slice none 0 0] 37 ?_;intro J hg w4 hbox hb;have a2:=ae.mk (az HB.out hb);have a4:=ae.mk ((by rw [hg];exact an HB.out):w.heap.size≤J);clear HB;have HB:=a2;have j:=ae.mk hbox;clear a2;have m_:=ae.mk (aN y.out hb);clear y;have y:=m_;clear m_;have z:w4.cell? ⟨a3,0,none⟩ = some (.int .i64 a0):=(ah y.out 0).trans rfl;have I:=aj y.out 0;have M:w4.cell? ⟨J,0,none⟩ = some (.int .i64 0):=(ah j.out 0).trans rfl;have U:=aj j.out 0;have X:w4.cell? ⟨J,1,none⟩ = some (.slice none 0 0):=(ah j.out 1).trans rfl;have Y:=aj j.out 1;clear hb hbox hg) | ((with_reducible refine aW (f:=133) rfl ?_);refine nm (some 6) Tryz.func133 #[.int .i64 a1] ?_;(with_reducible refine (cB.calls a1 true _ A1.out).mono ?_);rintro e w5 ⟨rfl,hd⟩;refine ⟨_,rfl,?_⟩;have hb:=hd.below;clear hd;replace HB:=ae.mk (az HB.out hb);have m_:=ae.mk (aN y.out hb);clear y;have y:=m_;clear m_;have m_:=ae.mk (aN j.out hb);clear j;have j:=m_;clear m_;clear hb;have z:w5.cell? ⟨a3,0,none⟩ = some (.int .i64 a0):=(ah y.out 0).trans rfl;have I:=aj y.out 0;have M:w5.cell? ⟨J,0,none⟩ = some (.int .i64 0):=(ah j.out 0).trans rfl;have U:=aj j.out 0;have X:w5.cell? ⟨J,1,none⟩ = some (.slice none 0 0):=(ah j.out 1).trans rfl;have Y:=aj j.out 1) | ((with_reducible refine aW (f:=68) rfl ?_);refine nm (some 21) Tryz.func68 #[.int .i64 a1,.func (.func 161) #[] #[.pointer (some ⟨a3,0,none⟩)]] ?_;(with_reducible refine (bQ.calls k a1 _ (fun s=>di.f a0 s) l _ (di.qP a0 a3 _ y.out) A2.out).mono ?_);rintro e w6 ⟨v1,rfl,ho,hb⟩;refine ⟨_,rfl,?_⟩;have HO:=ae.mk (Kd.bE ho (an HB.out));replace HB:=ae.mk (az HB.out hb);have m_:=ae.mk (aN j.out hb);clear j;have j:=m_;clear m_;clear hb ho;obtain ⟨Ao,co,eo⟩:=Kd.bG HO.out;subst eo;have M:w6.cell? ⟨J,0,none⟩ = some (.int .i64 0):=(ah j.out 0).trans rfl;have U:=aj j.out 0;have X:w6.cell? ⟨J,1,none⟩ = some (.slice none 0 0):=(ah j.out 1).trans rfl;have Y:=aj j.out 1));refine bodyPost_ret (results_cell_row rfl _ _ J 37 #[.int .i64 a1,.slice Ao l.length co] (0,0) _ rfl ph Tryz.underlying37 rfl (by kernel_rfl)) rfl ?_;exact ⟨_,rfl,Kd.aX (Kd.bF (p:=⟨J,1,none⟩) (Kd.bF (p:=⟨J,0,none⟩) (Kd.bf HO.out j.out (by decide)) (fun _ hk=>hk.2) (.int .i64 a1)) (fun _ hk=>hk.2) (.slice Ao l.length co)) (fun _ hk=>trivial),by repeat (first | exact HB.out | refine er ?_ a4.out)⟩
mutual
def aG.l0:Nat→Int→List Int→List (dG)→Int→Option ((List (dG)))
 | 0,_,_,_,_=>none
 | k+1,X,I,M,U=>if U < (shl .i64 1 (I.length:Int)) then (aG.l1 k X I M U I (I.length:Int) 0 X ([]:List Int)) else (some M)
def aG.l1:Nat→Int→List Int→List (dG)→Int→List Int→Int→Int→Int→List Int→Option ((List (dG)))
 | 0,_,_,_,_,_,_,_,_,_=>none
 | k+1,X,I,M,U,J,Y,z,y,j=>if z < Y then (if 0≤z then (if z < (J.length:Int) then (if (Go.bits .and .i64 (shr .i64 U z) 1) = 1 then (if j.length < 17592186044416 then (aG.l1 k X I M U J Y (wrap64 (z+1)) y (j ++ [rd J z])) else (none)) else (aG.l1 k X I M U J Y (wrap64 (z+1)) y j)) else (none)) else (none)) else ((cj.f k y j).bind fun a0=>(if a0 = true then (if M.length < 4398046511104 then (aG.l0 k X I (M ++ [(⟨y,j⟩:dG)]) (wrap64 (U+1))) else (none)) else (aG.l0 k X I M (wrap64 (U+1)))))
end
def aG.f (k:Nat) (a0:Int) (y:Int):Option ((List (dG))):=(eU.f k y a0).bind fun j=>(aG.l0 k a0 j.2 (([]:List (dG))) 1)
set_option maxHeartbeats 8000000 in
set_option maxRecDepth 100000 in
theorem aG.calls (k:Nat) (a0:Int) (a1:Int) (r:List (dG)) (w:World) (h:aG.f k a0 a1 = some r) :
  Calls Tryz.prog 53 #[.int .i64 a0,.int .i64 a1] w fun e w'=>∃ d8:Value,e = .returned (d8)∧Kd.S gv 37 w' w.heap.size (fun _=>True) d8 r∧Below w.heap.size w w':=by
 have d9:=Tryz.underlying37;have d7:∀ (db cp:Value) (W_:World),Sem.run Tryz.prog (Instr.field 37 (Value.agg #[db,cp]) 1) W_ = .ok cp W_:=fun db cp W_=>by
  simp [Instr.field,d9,underlying,part,asAgg]
 have HB:=ae.mk (Below.refl w.heap.size w);unfold aG.f at h;have H:=h;clear h;obtain ⟨⟨cr,j⟩,A3,H⟩:=oX H;(try dsimp only at H);obtain ⟨bs,al⟩:∃ y_:List (dG),y_ = (([]:List (dG))):=⟨_,rfl⟩
 replace H:(aG.l0 k a0 j bs 1) = some r:=by (try rw [al]);exact pp
 have bi:=ae.mk al;clear al;have H':=ae.mk H;clear H;go_enter Tryz.func53,Tryz.ntmps53;go_wp2_with (first | (refine nm (some 13) Tryz.func109 #[.int .i64 a1,.int .i64 a0] ?_;(with_reducible refine (eU.calls k a1 a0 cr j _ A3.out).mono ?_);rintro e w4 ⟨am,rfl,dd,hb⟩;refine ⟨_,rfl,?_⟩;have a7:=ae.mk (Kd.bE dd (an (n8 HB.out)));replace HB:=np HB hb;(try clear hb);(try clear df);(try clear hk);(try clear hi);(try clear dd);have g4:Value.cells am = #[am]:=(by obtain ⟨_,_,e_⟩:=Kd.bG a7.out;rw [e_];rfl)) | ((with_reducible refine aZ (N:=15) rfl ?_);refine Kd.sK gv _ 37 ?hg (N:=15) ?hd (xs:=([]:List (dG))) (inner:=[]) (ok:=fun _=>True) (okp:=fun _=>True) ?hr ?hp (fun _ hk=>hk) trivial (Below.refl _ _) (Nat.le_refl _) (by simp) ?_;(case hd=>rfl);(case hg=>rfl);(case hr=>first | (go_simp;done) | (go_simp;rfl));(case hp=>exact (cm.none _ _));intro f9 w5 bv hb fd cx;clear fd cx;(first | rw [← bi.out] at bv | (simp only [Int.reduceToNat] at bv;rw [← bi.out] at bv));have cf:=ae.mk (Kd.qx (Kd.rV bv (Kd.dB (ac a7.out))) (an (n8 HB.out)));replace a7:=pm a7 hb;replace HB:=np HB hb;clear hb bv));go_loopg [6,7] k (fun kq v6 v7 w'=>∃ (a4:List (dG)) (a3:Int),v7 = .int .i64 a3∧ae (aG.l0 kq a0 j a4 a3 = some r)∧ae (kq≤k)∧ae (Kd.R (Kd.int .i64) 3 w' w.heap.size (fun _=>True) am j)∧ae (Kd.S gv 37 w' w.heap.size (fun k_=>some k_≠(am:Value).ownBlock) v6 a4)∧ae (Below w.heap.size w w'))
 case atStart=>exact ⟨(bs),(1),nb,H',⟨Nat.le_refl _⟩,⟨ac a7.out⟩,⟨af.Sw (Kd.fL cf.out (fun _ hk=>hk.2))⟩,⟨n8 HB.out⟩⟩
 case round =>
  clear H';obtain ⟨a4,a3,rfl,HA,aw,U,Y,HB⟩:=hrel;cases gk with
  | zero=>exact absurd HA.out (by simp [aG.l0])
  | succ k1 =>
   have H:=HA.out;clear HA;simp only [aG.l0] at H;obtain ⟨a9,aE⟩:∃ j_:Int,(shl .i64 1 (j.length:Int)) = j_:=⟨_,rfl⟩
   replace H:(if a3 < (a9) then (aG.l1 k1 a0 j a4 a3 j (j.length:Int) 0 a0 ([]:List Int)) else (some a4)) = some r:=by first | (rw [aE] at H;exact H) | (simp only [aE] at H ⊢;exact H)
   have b4:(IntKind.i64.wrap (1 * 2 ^ min (j.length:Int).toNat 64)) = a9:=aE;have ba:(j.length:Int)≤64→(IntKind.i64.wrap (1 * 2 ^ (j.length:Int).toNat)) = a9:=eu aE;have cy:(IntKind.i64.wrap (1 * 2 ^ min j.length 64)) = a9:=b4;have cX:(j.length:Int)≤64→(IntKind.i64.wrap (1 * 2 ^ j.length)) = a9:=ba;have fi:(IntKind.i64.wrap (2 ^ min j.length 64)) = a9:=by have h_:=cy;rw [Int.one_mul] at h_;exact h_
   have fj:(j.length:Int)≤64→(IntKind.i64.wrap (2 ^ j.length)) = a9:=fun c0=>by have h_:=cX c0;rw [Int.one_mul] at h_;exact h_
   have fp:(IntKind.i64.wrap (2 ^ min (j.length:Int).toNat 64)) = a9:=by have h_:=b4;rw [Int.one_mul] at h_;exact h_
   have fs:(j.length:Int)≤64→(IntKind.i64.wrap (2 ^ (j.length:Int).toNat)) = a9:=fun c0=>by have h_:=ba c0;rw [Int.one_mul] at h_;exact h_
   have ft:(wrap64 (1 * 2 ^ min (j.length:Int).toNat 64)) = a9:=(b9 _).symm.trans b4;have fw:(j.length:Int)≤64→(wrap64 (1 * 2 ^ (j.length:Int).toNat)) = a9:=fun h_=>(b9 _).symm.trans (ba h_)
   by_cases c8:a3 < (a9)
   ·rw [if_pos c8] at H
    have dk:=decide_eq_true c8;clear c8;have H':=ae.mk H;clear H;obtain ⟨ab,a5,fx⟩:=Kd.bG U.out;subst fx;go_wp2_with (first | (refine pd 8 #[.int .i64 0,.slice none 0 0] 37 ?_;intro J hg g7 hbox hb;replace U:=pm U hb;replace Y:=ae.mk (Kd.gH (Kd.p6 (af.Sw Y.out) J (Nat.le_of_eq hg.symm)) hb);have I:=ae.mk hbox;have f5:=no hg HB;have f6:=no hg HB;replace HB:=np HB hb;clear hb hbox hg;obtain ⟨dl,dp,dq,dt⟩:=nz I.out));go_loopg [27] k1 (fun kq fy w'=>∃ (M:Int) (y:List Int) (X:Value),fy = .int .i64 M∧ae (aG.l1 kq a0 j a4 a3 j (j.length:Int) M a0 y = some r)∧ae (kq≤k1)∧ae (Kd.R (Kd.int .i64) 3 w' w.heap.size (fun k_=>some k_≠(X:Value).ownBlock) (.slice ab j.length a5) j)∧ae (Kd.S gv 37 w' w.heap.size (fun k_=>some k_≠((.slice ab j.length a5):Value).ownBlock∧some k_≠((.slice ab j.length a5):Value).ownBlock∧some k_≠(X:Value).ownBlock∧k_≠J) u6 a4)∧ae (Kd.R (Kd.int .i64) 3 w' w.heap.size (fun k_=>some k_≠(X:Value).ownBlock) (.slice ab j.length a5) j)∧ae (Kd.R (Kd.int .i64) 3 w' w.heap.size (fun k_=>some k_≠((.slice ab j.length a5):Value).ownBlock∧some k_≠((.slice ab j.length a5):Value).ownBlock) X y)∧ae (w'.heap[J]? = some (.cells #[.int .i64 a0,X] 37 (0,0)))∧ae (Below w.heap.size w w'))
    case atStart=>exact ⟨(0),(([]:List Int)),(.slice none 0 0),nb,H',⟨Nat.le_refl _⟩,⟨ac (Kd.aX (Kd.bF (p:=⟨J,1,none⟩) (Kd.bF (p:=⟨J,0,none⟩) (Kd.bf U.out I.out (by decide)) (fun _ hk=>hk.2) (.int .i64 a0)) (fun _ hk=>hk.2) (.slice none 0 0)) (fun _ hk=>(by simp [Value.ownBlock])))⟩,⟨af.Sw (Kd.fL (Kd.p5 (p:=⟨J,1,none⟩) (Kd.p5 (p:=⟨J,0,none⟩) (Kd.fL Y.out (fun k_ hk=>(⟨hk,hk.2⟩:_∧k_≠J))) (fun _ hk=>hk.2) (.int .i64 a0)) (fun _ hk=>hk.2) (.slice none 0 0)) (fun _ hk=>⟨hk.1.1,⟨hk.1.1,⟨(by simp [Value.ownBlock]),hk.1.2⟩⟩⟩))⟩,⟨ac (Kd.aX (Kd.bF (p:=⟨J,1,none⟩) (Kd.bF (p:=⟨J,0,none⟩) (Kd.bf U.out I.out (by decide)) (fun _ hk=>hk.2) (.int .i64 a0)) (fun _ hk=>hk.2) (.slice none 0 0)) (fun _ hk=>(by simp [Value.ownBlock])))⟩,⟨af.N⟩,⟨ph⟩,⟨na⟩⟩
    case round =>
     clear H';obtain ⟨M,y,X,rfl,HA,aR,U,Y,a2,z,I,HB⟩:=hrel;cases gk with
     | zero=>exact absurd HA.out (by simp [aG.l1])
     | succ k2 =>
      have H:=HA.out;clear HA;simp only [aG.l1] at H;by_cases bm:M < (j.length:Int)
      ·rw [if_pos bm] at H
       have cY:=decide_eq_true bm;clear bm;obtain ⟨du,H⟩:=oY H;have fX:=decide_eq_true du;clear du;obtain ⟨dv,H⟩:=oY H;have fY:=decide_eq_true dv;clear dv;have g0:=eq_true (pa:0≤M);obtain ⟨aa,ao⟩:∃ j_:Int,(shr .i64 a3 M) = j_:=⟨_,rfl⟩
       replace H:(if (Go.bits .and .i64 (aa) 1) = 1 then (if y.length < 17592186044416 then (aG.l1 k2 a0 j a4 a3 j (j.length:Int) (wrap64 (M+1)) a0 (y ++ [rd j M])) else (none)) else (aG.l1 k2 a0 j a4 a3 j (j.length:Int) (wrap64 (M+1)) a0 y)) = some r:=by first | (rw [ao] at H;exact H) | (simp only [ao] at H ⊢;exact H)
       have f7:(a3 / 2 ^ min M.toNat 64) = aa:=ao;have f8:M≤64→(a3 / 2 ^ M.toNat) = aa:=iq ao;by_cases bc:(Go.bits .and .i64 (aa) 1) = 1
       ·rw [if_pos bc] at H
        have d0:((Go.bits .and .i64 (aa) 1) == 1) = true:=beq_iff_eq.mpr bc;have d1:((Go.bits .and .i64 (aa) 1) != 1) = false:=bne_eq_false_iff_eq.mpr bc;clear bc;obtain ⟨dC,H⟩:=oY H;have d2:=ae.mk dC;clear dC;obtain ⟨a6,ap⟩:∃ y_:List Int,y_ = (y ++ [rd j M]):=⟨_,rfl⟩
        replace H:(aG.l1 k2 a0 j a4 a3 j (j.length:Int) (wrap64 (M+1)) a0 a6) = some r:=by (try rw [ap]);exact pp
        have ch:=ae.mk ap;clear ap;have H':=ae.mk H;clear H;obtain ⟨a8,bd,bo,d3,d4⟩:=pi (Kd.aC a2.out).2.2 M;cases bd
        obtain ⟨dE,dT,e0,e1⟩:=nz I.out;go_wp2_with (first | ((with_reducible refine cD (b:=.append) (xs:=#[.tmp 38,.tmp 40]) rfl ?_);at_builtin;refine Kd.fB (Kd.int .i64) (w0:=w) w.heap.size rfl (.tmp 38) (.tmp 40) 22 3 (.int .i64 0) 8 rfl Tryz.underlying22 eF rfl (by decide) (by omega) X y (rd j M) [.int .i64 (rd j M)] (fun k_=>some k_≠(.slice (some a8) j.length a5:Value).ownBlock∧some k_≠(.slice (some a8) j.length a5:Value).ownBlock) (fun _=>False) rfl rfl (by exact rfl) (fun _ hk=>hk.elim) (by exact fun k_ hk=>⟨Kd.fresh' (Kd.dB (ac U.out)) k_ hk,Kd.fresh' (Kd.dB (ac a2.out)) k_ hk⟩) (by exact ac z.out) (by exact na) (by exact an na) (by have:=d2.out;omega) ?_;intro g1 g8 ho hb hg hat;rw [← ch.out] at ho;have c1:=ae.mk (Kd.ek (ok:=(fun _=>True)) (ac (Kd.aX U.out (fun _ hk=>⟨trivial,hk⟩))) hg hat);have ca:=ae.mk (Kd.qA (ok:=(fun k_=>some k_≠(.slice (some a8) j.length a5:Value).ownBlock∧some k_≠(.slice (some a8) j.length a5:Value).ownBlock∧k_≠J)) (af.Sw (Kd.fL Y.out (fun _ hk=>⟨⟨hk.1,⟨hk.2.1,hk.2.2.2⟩⟩,hk.2.2.1⟩))) hg hat);have cb:=ae.mk (Kd.ek (ok:=(fun _=>True)) (ac (Kd.aX a2.out (fun _ hk=>⟨trivial,hk⟩))) hg hat);have cc:=ae.mk (cM (g:=J) (o:=.cells #[.int .i64 a0,X] 37 (0,0)) (o0 I.out) hg (Kd.iD z.out I.out (by decide)));have cd:=ae.mk hb;have e2:=ae.mk ho;clear U;clear Y;clear a2;clear I;clear HB;clear z;have U:=c1;have Y:=ca;have a2:=cb;have I:=cc;have HB:=cd;have bk:=e2;clear c1 ca cb cc cd e2;clear ho hb hg hat;obtain ⟨b0,b1,e3⟩:=Kd.bG bk.out;subst e3;obtain ⟨e4,e8,ea,eb⟩:=nz I.out));go_roundg k2;case measure=>have:=aw.out;have:=aR.out;omega
        case rel=>exact ⟨(wrap64 (M+1)),(a6),(.slice b0 a6.length b1),nb,H',⟨by have:=aw.out;have:=aR.out;omega⟩,⟨ac (Kd.aX (Kd.bF (p:=⟨J,1,none⟩) (Kd.bf U.out I.out (by decide)) (fun _ hk=>hk.2) (.slice b0 a6.length b1)) (fun _ hk=>hk.1.2))⟩,⟨af.Sw (Kd.fL (Kd.p5 (p:=⟨J,1,none⟩) (Kd.fL Y.out (fun k_ hk=>(⟨hk,hk.1.2.2⟩:_∧k_≠J))) (fun _ hk=>hk.2) (.slice b0 a6.length b1)) (fun _ hk=>⟨hk.1.1.1,⟨hk.1.1.2.1,⟨hk.1.2,hk.1.1.2.2⟩⟩⟩))⟩,⟨ac (Kd.aX (Kd.bF (p:=⟨J,1,none⟩) (Kd.bf a2.out I.out (by decide)) (fun _ hk=>hk.2) (.slice b0 a6.length b1)) (fun _ hk=>hk.1.2))⟩,⟨ac (Kd.aX (Kd.bF (p:=⟨J,1,none⟩) (Kd.bf bk.out I.out (by decide)) (fun _ hk=>hk.2) (.slice b0 a6.length b1)) (fun _ hk=>(by first | exact ⟨hk.1.1,hk.1.2⟩ | (simp_all;done))))⟩,⟨ph⟩,⟨na⟩⟩
       ·rw [if_neg bc] at H
        have d0:((Go.bits .and .i64 (aa) 1) == 1) = false:=beq_eq_false_iff_ne.mpr bc;have d1:((Go.bits .and .i64 (aa) 1) != 1) = true:=bne_iff_ne.mpr bc;have H':=ae.mk H;clear H;obtain ⟨a8,bd,bo,d3,d4⟩:=pi (Kd.aC a2.out).2.2 M;cases bd
        go_wp2;go_roundg k2;case measure=>have:=aw.out;have:=aR.out;omega
        case rel=>exact ⟨(wrap64 (M+1)),(y),(X),nb,H',⟨by have:=aw.out;have:=aR.out;omega⟩,⟨ac U.out⟩,⟨af.Sw Y.out⟩,⟨ac a2.out⟩,⟨ac z.out⟩,⟨o0 I.out⟩,⟨na⟩⟩
      ·rw [if_neg bm] at H
       have cY:decide (M < (j.length:Int)) = false:=decide_eq_false bm;clear bm;obtain ⟨d5,ed,H⟩:=oX H;(try dsimp only at H);by_cases ci:d5 = true
       ·subst ci
        replace H:(if a4.length < 4398046511104 then (aG.l0 k2 a0 j (a4 ++ [(⟨a0,y⟩:dG)]) (wrap64 (a3+1))) else (none)) = some r:=by rw [if_pos rfl] at H;exact H
        obtain ⟨ee,H⟩:=oY H;have d6:=ae.mk ee;clear ee;obtain ⟨ce,ar⟩:∃ y_:List (dG),y_ = (a4 ++ [(⟨a0,y⟩:dG)]):=⟨_,rfl⟩
        replace H:(aG.l0 k2 a0 j ce (wrap64 (a3+1))) = some r:=by (try rw [ar]);exact pp
        have cl:=ae.mk ar;clear ar;have H':=ae.mk H;clear H;obtain ⟨ef,eg,eh,el⟩:=nz I.out;obtain ⟨b2,b3,em⟩:=Kd.bG z.out;subst em;go_wp2_with (first | (refine nm (some 45) Tryz.func61 #[.agg #[.int .i64 a0,.slice b2 y.length b3]] ?_;(with_reducible refine (cj.calls k2 a0 _ _ y true _ ?side1 ?side2 ed.out).mono ?_);(case side1=>exact ol ((Kd.aC z.out).2.2));(case side2=>exact (Kd.aC z.out).2.1);rintro e g9 ⟨rfl,hb⟩;refine ⟨_,rfl,?_⟩;replace U:=pm U hb;replace Y:=ae.mk (Kd.gH (af.Sw Y.out) hb);replace a2:=pm a2 hb;replace z:=pm z hb;replace I:=ne I hb;replace HB:=ae.mk (az na hb);(try clear hb);(try clear df);(try clear hk);(try clear hi);obtain ⟨eo,eq,es,et⟩:=nz I.out) | ((with_reducible refine cD (b:=.append) (xs:=#[.tmp 46,.tmp 48]) rfl ?_);at_builtin;refine Kd.p8 gv (w0:=w) w.heap.size rfl (.tmp 46) (.tmp 48) 27 37 (.agg #[(.int .i64 0),(.slice none 0 0)]) 32 rfl Tryz.underlying27 iQ rfl (by decide) (by omega) u6 a4 (⟨a0,y⟩:dG) [.int .i64 a0,.slice b2 y.length b3] (fun k_=>some k_≠(.slice ab j.length a5:Value).ownBlock∧some k_≠(.slice ab j.length a5:Value).ownBlock∧k_≠J) (fun k_=>some k_ = (.slice b2 y.length b3:Value).ownBlock) rfl rfl ?aP (fun k_ g2=>((Kd.aX (ok':=fun k_=>((fun k_=>some k_≠(.slice ab j.length a5:Value).ownBlock∧some k_≠(.slice ab j.length a5:Value).ownBlock∧k_≠J)) k_∧some k_≠(u6:Value).ownBlock) (Kd.bf (Kd.gz (z.out) (Kd.jG Y.out) (by decide)) I.out (by decide)) (fun k_ hk=>⟨⟨hk.1.1.1,⟨hk.1.1.2,hk.2⟩⟩,hk.1.2⟩))).1 k_ g2.symm) ?aF ?aO ?aB ?aS ?aL ?_;(case aP=>exact qN _ _ _ (⟨a0,y⟩:dG) (Kd.aX (Kd.jF rfl (Kd.aX (ok':=fun k_=>((fun k_=>some k_≠(.slice ab j.length a5:Value).ownBlock∧some k_≠(.slice ab j.length a5:Value).ownBlock∧k_≠J)) k_∧some k_≠(u6:Value).ownBlock) (Kd.bf (Kd.gz (z.out) (Kd.jG Y.out) (by decide)) I.out (by decide)) (fun k_ hk=>⟨⟨hk.1.1.1,⟨hk.1.1.2,hk.2⟩⟩,hk.1.2⟩))) (fun _ h_=>h_)));(case aB=>exact na);(case aF=>exact (fun k_ hk=>⟨Kd.fresh' (Kd.dB (ac U.out)) k_ hk,Kd.fresh' (Kd.dB (ac a2.out)) k_ hk,Kd.eH (g:=J) (o:=.cells #[.int .i64 a0,.slice b2 y.length b3] 37 (0,0)) (o0 I.out) k_ hk⟩));(case aO=>exact (af.Sw (Kd.fL Y.out (fun k_ hk=>⟨⟨hk.1,⟨hk.2.1,hk.2.2.2⟩⟩,fun e_=>hk.2.2.1 e_⟩))));(case aS=>exact (an na));(case aL=>have:=d6.out;omega);intro g3 gb ho hb hg hat;rw [← cl.out] at ho;have c1:=ae.mk (Kd.lg (ac U.out) (Kd.jG (af.Sw Y.out)) (by decide) hg);have ca:=ae.mk (Kd.lg (ac a2.out) (Kd.jG (af.Sw Y.out)) (by decide) hg);have cb:=ae.mk (cM (g:=J) (o:=.cells #[.int .i64 a0,.slice b2 y.length b3] 37 (0,0)) (o0 I.out) hg (Kd.rX Y.out (fun _ hk=>hk.2.2.2)));have cc:=ae.mk hb;have cd:=ae.mk ho;clear U;clear a2;clear I;clear HB;clear Y;clear z;have U:=c1;have a2:=ca;have I:=cb;have HB:=cc;have co:=cd;clear c1 ca cb cc cd;clear ho hb hg hat));go_roundg k2;case measure=>have:=aw.out;have:=aR.out;omega
        case rel=>exact ⟨(ce),(wrap64 (a3+1)),nb,H',⟨by have:=aw.out;have:=aR.out;omega⟩,⟨ac (Kd.aX U.out (fun _ hk=>trivial))⟩,⟨af.Sw (Kd.fL co.out (fun _ hk=>hk.1))⟩,⟨na⟩⟩
       ·replace ci:=Bool.eq_false_iff.mpr ci
        subst ci;replace H:(aG.l0 k2 a0 j a4 (wrap64 (a3+1))) = some r:=by rw [if_neg (show ¬ (false = true) by decide)] at H;exact H
        have H':=ae.mk H;clear H;obtain ⟨ev,ex,eQ,f0⟩:=nz I.out;obtain ⟨f1,f2,f3⟩:=Kd.bG z.out;subst f3;go_wp2_with (first | (refine nm (some 45) Tryz.func61 #[.agg #[.int .i64 a0,.slice f1 y.length f2]] ?_;(with_reducible refine (cj.calls k2 a0 _ _ y false _ ?side1 ?side2 ed.out).mono ?_);(case side1=>exact ol ((Kd.aC z.out).2.2));(case side2=>exact (Kd.aC z.out).2.1);rintro e gc ⟨rfl,hb⟩;refine ⟨_,rfl,?_⟩;replace U:=pm U hb;replace Y:=ae.mk (Kd.gH (af.Sw Y.out) hb);replace a2:=pm a2 hb;replace z:=pm z hb;replace I:=ne I hb;replace HB:=ae.mk (az na hb);(try clear hb);(try clear df);(try clear hk);(try clear hi)));go_roundg k2;case measure=>have:=aw.out;have:=aR.out;omega
        case rel=>exact ⟨(a4),(wrap64 (a3+1)),nb,H',⟨by have:=aw.out;have:=aR.out;omega⟩,⟨ac (Kd.aX U.out (fun _ hk=>trivial))⟩,⟨af.Sw (Kd.fL Y.out (fun _ hk=>hk.1))⟩,⟨na⟩⟩
   ·rw [if_neg c8] at H
    have dk:decide (a3 < (a9)) = false:=decide_eq_false c8;clear c8;obtain rfl:=Option.some.inj H;obtain ⟨g5,g6,f4⟩:=Kd.bG U.out;subst f4;go_wp2;go_ret;exact ⟨_,by first | rfl | (simp [eI,eJ] <;> rfl) | (simp only [← aE];first | rfl | (simp [eI,eJ] <;> rfl)) | (simp [*,eI,eJ] <;> rfl),by (with_reducible repeat (first | apply Kd.qy | apply Kd.qz | apply Kd.rT));exact Kd.fL Y.out (fun _ hk=>trivial),na⟩
def cq.f (k:Nat) (l0:List Int) (l1:List Int):Option (Int):=if (l0.length:Int) = (l1.length:Int) then ((ay.f k l0 l1).bind fun j=>(some j)) else (some (wrap64 ((l0.length:Int) - (l1.length:Int))))
theorem cq.mono:∀ a0 j k,fh (cq.f k a0 j) (cq.f (k+1) a0 j):=by
 intro a0 j k;unfold cq.f;exact pw
instance cq.m:af.V2 cq.f:=fun _ _ _=>⟨cq.mono _ _ _⟩
set_option maxHeartbeats 8000000 in
set_option maxRecDepth 100000 in
theorem cq.calls (k:Nat) (Y:Option Addr) (c0:Nat) (l0:List Int) (A1:Option Addr) (c1:Nat) (l1:List Int) (r:Int) (w:World) (y:Kd.C (Kd.int .i64) w Y l0.length l0) (z:l0.length≤c0) (I:Kd.C (Kd.int .i64) w A1 l1.length l1) (J:l1.length≤c1) (h:cq.f k l0 l1 = some r) :
  Calls Tryz.prog 118 #[.slice Y l0.length c0,.slice A1 l1.length c1] w fun e w'=>e = .returned (.int .i64 r)∧cw w w':=by
 have a0:=ae.mk y;have a1:=ae.mk z;clear y z;have a2:=ae.mk I;have a3:=ae.mk J;clear I J;unfold cq.f at h;have H:=h;clear h;by_cases c3:(l0.length:Int) = (l1.length:Int)
 ·rw [if_pos c3] at H
  have M:((l0.length:Int) == (l1.length:Int)) = true:=beq_iff_eq.mpr c3;have U:((l0.length:Int) != (l1.length:Int)) = false:=bne_eq_false_iff_eq.mpr c3;have X:(l0.length == l1.length) = true:=by first | simpa using c3 | (simp at c3 ⊢;omega)
  clear c3;obtain ⟨j,A4,H⟩:=oX H;(try dsimp only at H);obtain rfl:=Option.some.inj H;go_enter Tryz.func118,Tryz.ntmps118;go_wp2_with (first | (refine nm (some 17) Tryz.func114 #[.slice Y l0.length c0,.slice A1 l1.length c1] ?_;(with_reducible refine (ay.calls k _ _ l0 _ _ l1 j _ ?side1 ?side2 ?side3 ?side4 A4.out).mono ?_);(case side1=>exact ol a0.out);(case side2=>exact a1.out);(case side3=>exact ol a2.out);(case side4=>exact a3.out);rintro e w' ⟨rfl,⟨nd,rfl⟩⟩;refine ⟨_,rfl,?_⟩));go_ret;exact ⟨nb,pf⟩
 ·rw [if_neg c3] at H
  have M:((l0.length:Int) == (l1.length:Int)) = false:=beq_eq_false_iff_ne.mpr c3;have U:((l0.length:Int) != (l1.length:Int)) = true:=bne_iff_ne.mpr c3;have X:(l0.length == l1.length) = false:=by first | simpa using c3 | (simp at c3 ⊢;omega)
  obtain rfl:=Option.some.inj H;go_enter Tryz.func118,Tryz.ntmps118;go_wp2;go_ret;exact ⟨nb,pf⟩
def cC.f (k:Nat) (I:Int) (y:List Int) (J:Int) (z:List Int):Option (Int):=(cq.f k y z).bind fun j=>(some j)
theorem cC.mono:∀ a0 j a2 a3 k,fh (cC.f k a0 j a2 a3) (cC.f (k+1) a0 j a2 a3):=by
 intro a0 j a2 a3 k;unfold cC.f;exact pw
end Pr
end
section
namespace iK
open Go.RowKit Go.Shelf Go.Sort Go.Proofs.YtlfkfdmggpipbaaGreat.Pr ag.b8 ag.ct ag.cu
set_option linter.unusedVariables false
def Gr (w W:World):Prop:=∃ q os,W = grow (w.drewN q) os
theorem Gr.refl (w:World):Gr w w:=⟨0,#[],by unfold grow World.drewN;simp⟩
theorem Gr.drewN {w W:World} (h:Gr w W) (n:Nat):Gr w (W.drewN n):=by
 obtain ⟨q,os,rfl⟩:=h;exact ⟨q+n,os,by unfold grow World.drewN;simp [Nat.add_assoc]⟩
theorem Gr.drew {w W:World} (h:Gr w W):Gr w W.drew:=by
 obtain ⟨q,os,rfl⟩:=h;exact ⟨q+1,os,by unfold grow World.drewN World.drew;simp [Nat.add_assoc]⟩
theorem Gr.alloc {w W:World} (h:Gr w W) (o:Obj):Gr w (W.alloc o):=by
 obtain ⟨q,os,rfl⟩:=h;exact ⟨q,os.push o,by unfold grow World.drewN World.alloc;simp⟩
theorem tw {P:Program} {ops:Array Oper} {rest:List Oper} {a:Act} {Q:Exit→Act→World→Prop} {o:Oper} {W:World} (N:Tmp) (cs:Array Value) (t:TypeId)
  (h:∀ g,g = W.heap.size→∀ w1,(∀ w0,Gr w0 W→Gr w0 w1)→w1.heap[g]? = some (.cells cs t (0,0))→Below W.heap.size W w1→wpList P ops Q rest (a.put o.dst (.pointer (some ⟨g,0,none⟩))) w1) (hd:o.dst = some N:=by with_reducible rfl) (hgd:o.guard = none:=by rfl)
  (hrun:(execOp a.eval o).run P W = .ok (.value (.pointer (some ⟨W.heap.size,0,none⟩))) (W.alloc (.cells cs t (0,0))):=by first | (go_simp;done) | (go_simp;rfl)):wpList P ops Q (o :: rest) a W :=
 Kd.jc hgd hrun (h _ rfl _ (fun _ hg=>hg.alloc _) (nw W _) (dD (Below.refl _ _) _))
set_option maxHeartbeats 8000000 in
set_option maxRecDepth 100000 in
theorem kinds (k:Nat) (a0:Int) (M:Option Addr) (U:Nat) (y:List Int) (a1:Int) (X:Option Addr) (Y:Nat) (z:List Int) (r:Int) (w:World) (a2:Kd.C (Kd.int .i64) w M y.length y) (a3:y.length≤U) (a4:Kd.C (Kd.int .i64) w X z.length z) (a5:z.length≤Y) (h:cC.f k a0 y a1 z = some r) :
  Calls Tryz.prog 57 #[.agg #[.int .i64 a0,.slice M y.length U],.agg #[.int .i64 a1,.slice X z.length Y]] w fun e w'=>e = .returned (.int .i64 r)∧Gr w w':=by
 have aR:=Tryz.underlying37;have a7:=ae.mk a2;have a8:=ae.mk a3;clear a2 a3;have a9:=ae.mk a4;have aa:=ae.mk a5;clear a4 a5;have HB:=ae.mk (Below.refl w.heap.size w);have HG:=ae.mk (Gr.refl w);unfold cC.f at h;have H:=h;clear h;obtain ⟨ab,A3,H⟩:=oX H;(try dsimp only at H);obtain rfl:=Option.some.inj H;go_enter Tryz.func57,Tryz.ntmps57;go_wp2_with (first | (refine tw 2 #[.int .i64 a0,.slice M y.length U] 37 ?_;intro al hg w4 hgr hbox hb;replace HG:=ae.mk (hgr w (by repeat (first | exact HG.out | apply Gr.drewN | apply Gr.drew)));have j:=ae.mk hbox;have am:=no hg HB;replace HB:=np HB hb;clear hb hbox hg hgr) | (refine tw 3 #[.int .i64 a1,.slice X z.length Y] 37 ?_;intro ao hg w5 hgr hbox hb;replace HG:=ae.mk (hgr w (by repeat (first | exact HG.out | apply Gr.drewN | apply Gr.drew)));have a6:=ae.mk hbox;have ap:=no hg HB;replace HB:=np HB hb;have I:=pk hg j;have J:=pl hg j;replace j:=ne j hb;clear hb hbox hg hgr;have aS:=I.out;have b0:=J.out;obtain ⟨ar,aw,aB,aE⟩:=nz j.out;obtain ⟨aF,aL,aO,aP⟩:=nz a6.out) | (refine nm (some 9) Tryz.func118 #[.slice M y.length U,.slice X z.length Y] ?_;(with_reducible refine (cq.calls k _ _ y _ _ z ab _ ?side1 ?side2 ?side3 ?side4 A3.out).mono ?_);(case side1=>exact ol (Kd.aJ a7.out HB.out));(case side2=>exact a8.out);(case side3=>exact ol (Kd.aJ a9.out HB.out));(case side4=>exact aa.out);rintro e w' ⟨rfl,⟨nd,rfl⟩⟩;refine ⟨_,rfl,?_⟩));go_ret;exact ⟨pj,by repeat (first | exact HG.out | apply Gr.drewN | apply Gr.drew)⟩
end iK
end
section
namespace Lay
open Go.Shelf Go.Proofs
def kB:Go.Shelf.Ren:=⟨fun | 6=>56 | 15=>117 | 14=>116 | 28=>172 | 29=>173 | 20=>164 | 21=>165 | 22=>166 | 23=>167 | 24=>168 | 25=>169 | 26=>170 | 27=>171 | 46=>196 | 47=>197 | 48=>198 | 49=>199 | 50=>200 | 57=>221 | n=>n,fun | 22=>27 | 24=>37 | 25=>64 | 3=>3 | 39=>58 | 0=>0 | 53=>118 | 55=>120 | 4=>4 | 46=>112 | 45=>111 | 50=>35 | 5=>5 | 9=>9 | 66=>126 | 70=>130 | 76=>146 | 77=>147 | n=>n,fun | n=>n⟩
theorem kL:Go.Proofs.SlLaysF0.n6 Tryz.prog kB:={
 mixed:=by kernel_rfl
 f6:=⟨"slices.SortFunc[[]loop.example/g00593/impl.Matroid,loop.example/g00593/impl.Matroid]", by decide,Tryz.func56.trans (congrArg some (by kernel_rfl))⟩
 f14:=⟨"slices.pdqsortCmpFunc[loop.example/g00593/impl.Matroid]", by decide,Tryz.func116.trans (congrArg some (by kernel_rfl))⟩
 f15:=Tryz.func117.trans (congrArg some (by kernel_rfl))
 f20:=⟨"slices.insertionSortCmpFunc[loop.example/g00593/impl.Matroid]", by decide,Tryz.func164.trans (congrArg some (by kernel_rfl))⟩
 f21:=⟨"slices.heapSortCmpFunc[loop.example/g00593/impl.Matroid]", by decide,Tryz.func165.trans (congrArg some (by kernel_rfl))⟩
 f22:=⟨"slices.breakPatternsCmpFunc[loop.example/g00593/impl.Matroid]", by decide,Tryz.func166.trans (congrArg some (by kernel_rfl))⟩
 f23:=⟨"slices.choosePivotCmpFunc[loop.example/g00593/impl.Matroid]", by decide,Tryz.func167.trans (congrArg some (by kernel_rfl))⟩
 f24:=⟨"slices.reverseRangeCmpFunc[loop.example/g00593/impl.Matroid]", by decide,Tryz.func168.trans (congrArg some (by kernel_rfl))⟩
 f25:=⟨"slices.partialInsertionSortCmpFunc[loop.example/g00593/impl.Matroid]", by decide,Tryz.func169.trans (congrArg some (by kernel_rfl))⟩
 f26:=⟨"slices.partitionEqualCmpFunc[loop.example/g00593/impl.Matroid]", by decide,Tryz.func170.trans (congrArg some (by kernel_rfl))⟩
 f27:=⟨"slices.partitionCmpFunc[loop.example/g00593/impl.Matroid]", by decide,Tryz.func171.trans (congrArg some (by kernel_rfl))⟩
 f28:=Tryz.func172.trans (congrArg some (by kernel_rfl))
 f29:=Tryz.func173.trans (congrArg some (by kernel_rfl))
 f46:=⟨"slices.siftDownCmpFunc[loop.example/g00593/impl.Matroid]", by decide,Tryz.func196.trans (congrArg some (by kernel_rfl))⟩
 f47:=Tryz.func197.trans (congrArg some (by kernel_rfl))
 f48:=Tryz.func198.trans (congrArg some (by kernel_rfl))
 f49:=⟨"slices.medianAdjacentCmpFunc[loop.example/g00593/impl.Matroid]", by decide,Tryz.func199.trans (congrArg some (by kernel_rfl))⟩
 f50:=⟨"slices.medianCmpFunc[loop.example/g00593/impl.Matroid]", by decide,Tryz.func200.trans (congrArg some (by kernel_rfl))⟩
 f57:=⟨"slices.order2CmpFunc[loop.example/g00593/impl.Matroid]", by decide,Tryz.func221.trans (congrArg some (by kernel_rfl))⟩
 t0:=Tryz.underlying0
 a0:=Tryz.isAgg0
 z0:=Tryz.sizeOf0
 v0:=Tryz.zeroValue0
 t3:=Tryz.underlying3
 a3:=Tryz.isAgg3
 z3:=Tryz.sizeOf3
 v3:=Tryz.zeroValue3
 t4:=Tryz.underlying4
 a4:=Tryz.isAgg4
 z4:=Tryz.sizeOf4
 v4:=Tryz.zeroValue4
 t5:=Tryz.underlying5
 a5:=Tryz.isAgg5
 z5:=Tryz.sizeOf5
 v5:=Tryz.zeroValue5
 t9:=Tryz.underlying9
 a9:=Tryz.isAgg9
 z9:=Tryz.sizeOf9
 v9:=Tryz.zeroValue9
 t22:=Tryz.underlying27
 a22:=Tryz.isAgg27
 z22:=Tryz.sizeOf27
 v22:=Tryz.zeroValue27
 t25:=Tryz.underlying64
 a25:=Tryz.isAgg64
 z25:=Tryz.sizeOf64
 v25:=Tryz.zeroValue64
 t39:=Tryz.underlying58
 a39:=Tryz.isAgg58
 z39:=Tryz.sizeOf58
 v39:=Tryz.zeroValue58
 t45:=Tryz.underlying111
 a45:=Tryz.isAgg111
 z45:=Tryz.sizeOf111
 v45:=Tryz.zeroValue111
 t46:=Tryz.underlying112
 a46:=Tryz.isAgg112
 z46:=Tryz.sizeOf112
 v46:=Tryz.zeroValue112
 t50:=Tryz.underlying35
 a50:=Tryz.isAgg35
 z50:=Tryz.sizeOf35
 v50:=Tryz.zeroValue35
 t53:=Tryz.underlying118
 a53:=Tryz.isAgg118
 z53:=Tryz.sizeOf118
 v53:=Tryz.zeroValue118
 t55:=Tryz.underlying120
 a55:=Tryz.isAgg120
 z55:=Tryz.sizeOf120
 v55:=Tryz.zeroValue120
 t66:=Tryz.underlying126
 a66:=Tryz.isAgg126
 z66:=Tryz.sizeOf126
 v66:=Tryz.zeroValue126
 t70:=Tryz.underlying130
 a70:=Tryz.isAgg130
 z70:=Tryz.sizeOf130
 v70:=Tryz.zeroValue130
 t76:=Tryz.underlying146
 a76:=Tryz.isAgg146
 z76:=Tryz.sizeOf146
 v76:=Tryz.zeroValue146
 t77:=Tryz.underlying147
 a77:=Tryz.isAgg147
 z77:=Tryz.sizeOf147
 v77:=Tryz.zeroValue147 }
end Lay
end
section
namespace iK
set_option linter.unusedVariables false
def fu:List Int→List Int→Int
 | [],[]=>0
 | [],_ :: _=>-1
 | _ :: _,[]=>1
 | x :: a,y :: b=>if x = y then fu a b else if x < y then -1 else 1
theorem jg:∀ a,fu a a = 0
 | []=>rfl
 | x :: a=>by rw [fu,if_pos rfl,jg a]
theorem kM:∀ a b,fu b a = -fu a b
 | [],[]=>rfl
 | [],_ :: _=>rfl
 | _ :: _,[]=>rfl
 | x :: a,y :: b=>by
  rw [fu,fu];by_cases h:x = y
  ·rw [if_pos h,if_pos h.symm,kM a b]
  ·rw [if_neg h,if_neg fun k=>h k.symm]
   by_cases h2:x < y
   ·rw [if_pos h2,if_neg (by omega)];rfl
   ·rw [if_neg h2,if_pos (by omega)]
theorem nL:∀ a b,fu a b = 0→a = b
 | [],[],_=>rfl
 | [],_ :: _,h=>by simp [fu] at h
 | _ :: _,[],h=>by simp [fu] at h
 | x :: a,y :: b,h=>by
  rw [fu] at h;by_cases hx:x = y
  ·rw [if_pos hx] at h
   rw [hx,nL a b h]
  ·rw [if_neg hx] at h
   by_cases h2:x < y
   ·rw [if_pos h2] at h
    exact absurd h (by decide)
   ·rw [if_neg h2] at h
    exact absurd h (by decide)
theorem k4:∀ a b c,fu a b < 0→fu b c < 0→fu a c < 0
 | [],[],[],h1,_=>h1
 | [],_ :: _,[],_,h2=>by simp [fu] at h2
 | [],_,_ :: _,_,_=>by simp [fu]
 | _ :: _,[],_,h1,_=>by simp [fu] at h1
 | _ :: _,_ :: _,[],_,h2=>by simp [fu] at h2
 | x :: a,y :: b,z :: c,h1,h2=>by
  rw [fu] at h1 h2 ⊢;by_cases hx:x = y
  ·rw [if_pos hx] at h1
   subst hx;by_cases hz:x = z
   ·rw [if_pos hz] at h2 ⊢
    exact k4 a b c h1 h2
   ·rw [if_neg hz] at h2 ⊢
    exact h2
  ·rw [if_neg hx] at h1
   have hxy:x < y:=Classical.byContradiction fun h=>by rw [if_neg h] at h1;exact absurd h1 (by decide)
   by_cases hz:y = z
   ·subst hz
    rw [if_neg hx,if_pos hxy];decide
   ·rw [if_neg hz] at h2
    have hyz:y < z:=Classical.byContradiction fun h=>by rw [if_neg h] at h2;exact absurd h2 (by decide)
    rw [if_neg (by omega),if_pos (by omega)];decide
def dZ (a b:List Int):Int:=if a.length = b.length then fu a b else (a.length:Int) - (b.length:Int)
theorem om (a:List Int):dZ a a = 0:=by rw [dZ,if_pos rfl,jg]
theorem fq (a b:List Int):dZ b a = -dZ a b:=by
 unfold dZ;by_cases h:a.length = b.length
 ·rw [if_pos h,if_pos h.symm,kM]
 ·rw [if_neg h,if_neg fun k=>h k.symm];omega
theorem j3 (a b:List Int) (h:dZ a b = 0):a = b:=by
 unfold dZ at h;by_cases hl:a.length = b.length
 ·rw [if_pos hl] at h
  exact nL a b h
 ·rw [if_neg hl] at h
  omega
theorem gN (a b c:List Int) (h1:dZ a b < 0) (h2:dZ b c < 0):dZ a c < 0:=by
 unfold dZ at *;by_cases hab:a.length = b.length
 ·rw [if_pos hab] at h1
  by_cases hbc:b.length = c.length
  ·rw [if_pos hbc] at h2
   rw [if_pos (hab.trans hbc)];exact k4 a b c h1 h2
  ·rw [if_neg hbc] at h2
   rw [if_neg (by omega)];omega
 ·rw [if_neg hab] at h1
  by_cases hbc:b.length = c.length
  ·rw [if_neg (by omega)]
   omega
  ·rw [if_neg hbc] at h2
   rw [if_neg (by omega)];omega
end iK
end
section
namespace iK
open Go.RowKit Go.Shelf Go.Sort Go.Proofs.YtlfkfdmggpipbaaGreat.Pr ag.b8 ag.ct ag.cu
set_option linter.unusedVariables false
theorem tq {α:Type} (f:α→List Int):SWO (ltOf fun x y=>dZ (f x) (f y)):=by
 refine ⟨fun x=>?_,fun x y z h1 h2=>?_,fun x y z h1 h2=>?_⟩
 ·unfold ltOf
  show decide (dZ (f x) (f x) < 0) = false;rw [om];rfl
 ·unfold ltOf at *
  rw [decide_eq_true_iff] at *;exact gN _ _ _ h1 h2
 ·unfold ltOf at *
  rw [decide_eq_false_iff_not] at *;dsimp only at h1 h2 ⊢;intro h3;have j:=fq (f x) (f y);have I:=fq (f y) (f z);by_cases hxy:dZ (f x) (f y) = 0
  ·rw [j3 _ _ hxy] at h3
   exact h2 h3
  ·exact h2 (gN _ _ _ (by omega:dZ (f y) (f x) < 0) h3)
abbrev SM:=dG
def qo (k:Nat) (xs:List SM):Bool:=(xs.all fun x=>xs.all fun y=>decide (cC.f k x.f0 x.f1 y.f0 y.f1 = some (dZ x.f1 y.f1))) && decide ((xs.map fun x=>x.f1).Nodup)
def gg (xs:List SM):List SM:=xs.mergeSort fun x y=>!decide (dZ y.f1 x.f1 < 0)
theorem pD {k:Nat} {xs:List SM} (h:qo k xs = true):qo (k+1) xs = true:=by
 unfold qo at *;rw [Bool.and_eq_true] at *;refine ⟨List.all_eq_true.2 fun x hx=>List.all_eq_true.2 fun y hy=>?_,h.2⟩;have h1:=List.all_eq_true.1 (List.all_eq_true.1 h.1 x hx) y hy;rw [decide_eq_true_iff] at h1 ⊢;exact cC.mono _ _ _ _ k _ h1
theorem pE {n:Nat} {rows:List (List Value)} {inner:List Value} (hr:cm (fun x cs=>cs = x∧cs.length = 2∧∀ u∈cs,u.oneCell' = true) 2 rows inner) {t:Nat} (ht:t < rows.length * 2):inner[t]? = ((rows[t / 2]?).getD [])[t % 2]?:=by
 have h1:t / 2 < rows.length:=by omega
 obtain ⟨h2,_⟩:=hr.2 (t / 2) (rows[t / 2]) (List.getElem?_eq_getElem h1);rw [List.getElem?_eq_getElem h1,Option.getD_some,← h2,List.getElem?_take,if_pos (Nat.mod_lt _ (by decide)),List.getElem?_drop];congr 1
 omega
theorem gO {α:Type} [Inhabited α] {enc:α→List Value} {w:World} {g n:Nat} {os:Array Obj} (d:Array α):w.grownBy (sortWorldK enc 2 w g 0 n d os) (some g):=by
 unfold sortWorldK putRowK;refine ⟨rfl,rfl,rfl,by simp,fun k hk hne=>?_⟩;rw [heap_grow_old _ _ (by simpa using hk)];have:g≠k:=fun e=>hne (by rw [e])
 simp [putRow,mapBlock,Sort.ahead,Array.getElem?_modify,this]
theorem mX {w:World} {base:Nat} {ok:Nat→Prop} {xs:List SM} {rows:List (List Value)} {g cap n:Nat} {cur:Array Value} {os:Array Obj} {m:Nat} (hbase:base≤g) (hb:w.heap[g]? = some (.cells cur 37 (0,0))) (hn:m+1≤cap) (hm:cap≤maxLen) (hcs:cur.size = cap * 2) (X:ok g) (hrl:rows.length = m+1) (hxl:xs.length = m+1)
  (J:∀ r∈rows,r.length = 2∧∀ u∈r,u.oneCell' = true) (hf:∀ (j:Nat) (x:SM) (c:List Value),xs[j]? = some x→rows[j]? = some c→Kd.FK gv w (fun k=>ok k∧some k≠some g) x c) (p:List (Fin (m+1))) (hp:p.length = m+1) :
  Kd.N gv 37 (sortWorldK (fun i:Fin (m+1)=>(rows[i.val]?).getD []) 2 w g 0 n p.toArray os) base ok (.slice (some ⟨g,0,none⟩) (m+1) cap) (p.map fun i:Fin (m+1)=>xs[i.val]'(by omega)):=by
 have y:=gO (enc:=fun i:Fin (m+1)=>(rows[i.val]?).getD []) (w:=w) (g:=g) (n:=n) (os:=os) p.toArray;have z:∀ i:Fin (m+1),((rows[i.val]?).getD []).length = 2∧∀ u∈(rows[i.val]?).getD [],u.oneCell' = true:=fun i=>by
  have hi:i.val < rows.length:=by omega
  rw [List.getElem?_eq_getElem hi,Option.getD_some];exact J _ (List.getElem_mem hi)
 have hsize:(flatK (fun i:Fin (m+1)=>(rows[i.val]?).getD []) 2 p.toArray).size = (m+1) * 2:=by rw [size_flatK];simp [hp]
 have hheap:(sortWorldK (fun i:Fin (m+1)=>(rows[i.val]?).getD []) 2 w g 0 n p.toArray os).heap[g]? = some (.cells (putCells id 0 (flatK (fun i:Fin (m+1)=>(rows[i.val]?).getD []) 2 p.toArray) cur) 37 (0,0)):=by
  have hlt:g < w.heap.size:=(Array.getElem?_eq_some_iff.1 hb).1;unfold sortWorldK putRowK;rw [heap_grow_old _ _ (by simpa [putRow,mapBlock,Sort.ahead] using hlt)];simp [putRow,mapBlock,Sort.ahead,Array.getElem?_modify,hb,onCells]
 have hown:(sortWorldK (fun i:Fin (m+1)=>(rows[i.val]?).getD []) 2 w g 0 n p.toArray os).ownsRow base 37 2 (.slice (some ⟨g,0,none⟩) (m+1) cap) (m+1) (flatK (fun i:Fin (m+1)=>(rows[i.val]?).getD []) 2 p.toArray).toList:=by
  refine ⟨by rw [Array.length_toList,hsize],.inr ⟨g,cap,_,rfl,hbase,hheap,hn,hm,by simpa [putCells] using hcs,?_⟩⟩;apply List.ext_getElem?
  intro j;rw [List.getElem?_take,Array.getElem?_toList,Array.getElem?_toList];by_cases hj:j < (m+1) * 2
  ·have hjc:j < cur.size:=by omega
   rw [if_pos hj];simp only [putCells,Array.getElem?_mapIdx,Array.getElem?_eq_getElem hjc,Option.map_some];rw [if_pos (by rw [hsize];omega),Array.getElem?_eq_getElem (by rw [hsize];exact hj),Nat.sub_zero,getElem!_pos _ _ (by rw [hsize];exact hj)];rfl
  ·rw [if_neg hj,Array.getElem?_eq_none (by rw [hsize];omega)]
 refine ⟨fun k hk=>?_,p.map fun i:Fin (m+1)=>(rows[i.val]?).getD [],by rw [List.length_map,List.length_map],⟨fun k hk=>hk.symm,_,by rw [List.length_map,hp];exact hown,?_⟩,fun j x c hx hc=>?_⟩
 ·simp only [Value.ownBlock,Option.some.injEq] at hk
  rw [← hk];exact X
 ·refine ⟨by rw [Array.length_toList,hsize,List.length_map,hp];rfl,fun j q hq=>?_⟩
  have hj:j < m+1:=by
   have:=(List.getElem?_eq_some_iff.1 hq).1;rw [List.length_map] at this;omega
  have I:q = (rows[(p[j]'(by omega)).val]?).getD []:=by
   rw [List.getElem?_map,List.getElem?_eq_getElem (by omega)] at hq;exact (Option.some.inj hq).symm
  obtain ⟨M,U⟩:=z (p[j]'(by omega));rw [← I] at M U;have Y:((flatK (fun i:Fin (m+1)=>(rows[i.val]?).getD []) 2 p.toArray).toList.drop (j * 2)).take 2 = q:=by
   apply List.ext_getElem?
   intro t;rw [List.getElem?_take,List.getElem?_drop,Array.getElem?_toList];by_cases ht:t < 2
   ·rw [if_pos ht,Array.getElem?_eq_getElem (by rw [hsize];omega),← getElem!_pos _ _ (by rw [hsize];omega),get_flatK _ _ _ _ (by simp [hp];omega)]
    have d1:(j * 2+t) / 2 = j:=by omega
    have d2:(j * 2+t) % 2 = t:=by omega
    rw [d1,d2,getElem!_pos p.toArray j (by simp [hp];omega)];have d3:p.toArray[j]'(by simp [hp];omega) = p[j]'(by omega):=by simp
    rw [d3,← I,List.getElem?_eq_getElem (by omega),getElem!_pos q t (by omega)]
   ·rw [if_neg ht,List.getElem?_eq_none (by omega)]
  show ((flatK (fun i:Fin (m+1)=>(rows[i.val]?).getD []) 2 p.toArray).toList.drop (j * 2)).take 2 = q∧(((flatK (fun i:Fin (m+1)=>(rows[i.val]?).getD []) 2 p.toArray).toList.drop (j * 2)).take 2).length = 2∧∀ u∈((flatK (fun i:Fin (m+1)=>(rows[i.val]?).getD []) 2 p.toArray).toList.drop (j * 2)).take 2,u.oneCell' = true;rw [Y];exact ⟨rfl,M,U⟩
 ·have hj:j < p.length:=by
   have:=(List.getElem?_eq_some_iff.1 hx).1;rwa [List.length_map] at this
  rw [List.getElem?_map,List.getElem?_eq_getElem hj] at hx hc;obtain rfl:=Option.some.inj hx;obtain rfl:=Option.some.inj hc;have hi:(p[j]).val < rows.length:=by omega
  have:=hf (p[j]).val _ ((rows[(p[j]).val]?).getD []) (List.getElem?_eq_getElem (by omega)) (by rw [List.getElem?_eq_getElem hi];rfl);exact Kd.mo this y (fun k hk=>hk.2)
set_option maxHeartbeats 2000000 in
theorem iR {w:World} {base:Nat} {ok:Nat→Prop} {v:Value} {xs:List SM} (k:Nat) (h:Kd.N gv 37 w base ok v xs) (hs:xs.length < 4611686018427387904) (hk:qo k xs = true) :
  Calls Tryz.prog 56 #[v,.func (.func 57) #[] #[]] w fun e w'=>e = .returned (.tuple #[])∧Kd.N gv 37 w' base ok v (gg xs)∧(∀ w0:World,Below base w0 w→Below base w0 w')∧w.grownBy w' v.ownBlock:=by
 have hN:=h;obtain ⟨h0,rows,hl,⟨_,inner,ho,hr⟩,hf⟩:=h;replace hr:cm (fun x cs=>cs = x∧cs.length = 2∧∀ u∈cs,u.oneCell' = true) 2 rows inner:=hr;have none_:∀ (q:Option Addr) (c:Nat),v = .slice q 0 c→xs = []→Calls Tryz.prog 56 #[v,.func (.func 57) #[] #[]] w fun e w'=>e = .returned (.tuple #[])∧Kd.N gv 37 w' base ok v (gg xs)∧(∀ w0:World,Below base w0 w→Below base w0 w')∧w.grownBy w' v.ownBlock:=by
  intro q c hv hx;subst hx;refine (show Calls Tryz.prog 56 #[v,.func (.func 57) #[] #[]] w fun e w'=>e = .returned (.tuple #[])∧w' = w by rw [hv];exact AnyF.slices_SortFunc_none Lay.kL q c _ w).mono ?_;rintro e w' ⟨rfl,rfl⟩
  exact ⟨rfl,by simpa [gg] using hN,fun _ hb=>hb,⟨rfl,rfl,rfl,Nat.le_refl _,fun _ _ _=>rfl⟩⟩
 rcases ho.2 with ⟨rfl,a1⟩ | ⟨g,cap,cur,rfl,hbase,hb,hn,hm,hcs,htk⟩
 ·exact none_ none 0 rfl (List.length_eq_zero_iff.1 (by omega))
 ·replace hcs:cur.size = cap * 2:=hcs
  replace htk:cur.toList.take (rows.length * 2) = inner:=htk;by_cases I:xs = []
  ·refine none_ (some ⟨g,0,none⟩) cap ?_ I
   have:rows.length = 0:=by rw [hl,I];rfl
   rw [this]
  ·obtain ⟨m,J⟩:∃ m,xs.length = m+1:=⟨xs.length - 1,by have:=List.length_pos_iff.2 I;omega⟩
   have hrl:rows.length = m+1:=by omega
   have z:∀ r∈rows,r.length = 2∧∀ u∈r,u.oneCell' = true:=fun r U=>by
    obtain ⟨j,hj⟩:=List.mem_iff_getElem?.1 U;have:=hr.2 j r hj;rw [← this.1];exact this.2
   have hok:ok g:=h0 g rfl;unfold qo at hk;rw [Bool.and_eq_true,decide_eq_true_iff] at hk;have hcf:∀ i j:Fin (m+1),cC.f k (xs[i.val]'(by omega)).f0 (xs[i.val]'(by omega)).f1 (xs[j.val]'(by omega)).f0 (xs[j.val]'(by omega)).f1 = some (dZ (xs[i.val]'(by omega)).f1 (xs[j.val]'(by omega)).f1):=fun i j=>by
    have:=List.all_eq_true.1 (List.all_eq_true.1 hk.1 _ (List.getElem_mem (show i.val < xs.length by omega))) _ (List.getElem_mem (show j.val < xs.length by omega));exact of_decide_eq_true this
   have hpick:(List.finRange (m+1)).map (fun i:Fin (m+1)=>xs[i.val]'(by omega)) = xs:=by
    apply List.ext_getElem
    ·simp [J]
    ·intro j h1 h2
     simp
   have hT:∀ x y:Fin (m+1),(ltOf fun i j:Fin (m+1)=>dZ (xs[i.val]'(by omega)).f1 (xs[j.val]'(by omega)).f1) x y = false→(ltOf fun i j:Fin (m+1)=>dZ (xs[i.val]'(by omega)).f1 (xs[j.val]'(by omega)).f1) y x = false→x = y:=by
    intro x y h1 h2;unfold ltOf at h1 h2;rw [decide_eq_false_iff_not] at h1 h2;have M:=fq (xs[x.val]'(by omega)).f1 (xs[y.val]'(by omega)).f1;dsimp only at h1 h2;have X:=j3 (xs[x.val]'(by omega)).f1 (xs[y.val]'(by omega)).f1 (by omega);have e3:(xs.map fun x=>x.f1)[x.val]'(by rw [List.length_map];omega) = (xs.map fun x=>x.f1)[y.val]'(by rw [List.length_map];omega):=by simpa using X
    exact Fin.ext ((List.getElem_inj hk.2).1 e3)
   have hH:HoldsK (fun i:Fin (m+1)=>(rows[i.val]?).getD []) 2 w g 0 (List.finRange (m+1)).toArray:=by
    intro j hj;have Y:j < (m+1) * 2:=by simpa using hj
    refine ⟨?_,by simp [World.frozen?,hb]⟩;have M:(cur.toList.take (rows.length * 2))[j]? = inner[j]?:=by rw [htk]
    rw [List.getElem?_take,if_pos (by omega),Array.getElem?_toList,pE (n:=m+1) hr (by omega)] at M;simp only [World.cell?,hb,Nat.zero_add];simp only [Option.isSome_none,Bool.false_eq_true,if_false];rw [M,get_flatK _ _ _ _ (by simpa using Y)];have hjm:j / 2 < m+1:=by omega
    have d3:(List.finRange (m+1)).toArray[j / 2]! = (⟨j / 2,hjm⟩:Fin (m+1)):=by
     rw [getElem!_pos _ _ (by simpa using hjm)];simp
    rw [d3];have hrow:((rows[j / 2]?).getD []).length = 2:=by
     rw [List.getElem?_eq_getElem (by omega),Option.getD_some];exact (z _ (List.getElem_mem (by omega))).1
    show ((rows[j / 2]?).getD [])[j % 2]? = some (id (((rows[j / 2]?).getD [])[j % 2]!));rw [List.getElem?_eq_getElem (by omega),getElem!_pos _ _ (by omega)];rfl
   have hcmp:CmpLays Tryz.prog 57 #[] (fun i:Fin (m+1)=>(rows[i.val]?).getD []) 2 (fun i j:Fin (m+1)=>dZ (xs[i.val]'(by omega)).f1 (xs[j.val]'(by omega)).f1) g 0 (List.finRange (m+1)).toArray.size w:=by
    intro q os dk _ x y;have hgr:=gO (enc:=fun i:Fin (m+1)=>(rows[i.val]?).getD []) (w:=w) (g:=g) (n:=q) (os:=os) dk;have key:∀ i:Fin (m+1),Kd.K gv (sortWorldK (fun i:Fin (m+1)=>(rows[i.val]?).getD []) 2 w g 0 q dk os) (xs[i.val]'(by omega)) ((rows[i.val]?).getD []):=fun i=>by
     have hi:i.val < rows.length:=by omega
     exact Kd.iM (Kd.mo (hf i.val _ ((rows[i.val]?).getD []) (List.getElem?_eq_getElem (by omega)) (by rw [List.getElem?_eq_getElem hi];rfl)) hgr (fun k hk=>hk.2))
    obtain ⟨A1,c1,M,l1,g1⟩:=gY (key x);obtain ⟨A2,c2,X,l2,g2⟩:=gY (key y);have:=kinds k _ A1 c1 _ _ A2 c2 _ _ (sortWorldK (fun i:Fin (m+1)=>(rows[i.val]?).getD []) 2 w g 0 q dk os) g1 l1 g2 l2 (hcf x y);dsimp only;rw [M,X];exact this
   have hmain:=AnyQ.slices_SortFunc_total Lay.kL 2 (by intro w';kernel_rfl) (by intro w';kernel_rfl) (fun i:Fin (m+1)=>(rows[i.val]?).getD []) (fun i=>by
     rw [List.getElem?_eq_getElem (by omega),Option.getD_some];exact (z _ (List.getElem_mem (by omega))).1) (fun i=>by
     rw [List.getElem?_eq_getElem (by omega),Option.getD_some];exact (z _ (List.getElem_mem (by omega))).2) (fun i j:Fin (m+1)=>dZ (xs[i.val]'(by omega)).f1 (xs[j.val]'(by omega)).f1) (tq fun i:Fin (m+1)=>(xs[i.val]'(by omega)).f1) 57 #[] g 0 cap (List.finRange (m+1)).toArray w (iX Tryz.func57 (by kernel_rfl) rfl) hcmp hH (Array.getElem?_eq_some_iff.1 hb).1 (by simp;omega) hT
   have hsz:(List.finRange (m+1)).toArray.size = rows.length:=by simp [hrl]
   rw [hsz] at hmain;refine hmain.mono ?_;rintro e w' ⟨rfl,q,os,rfl⟩
   have hlen:((List.finRange (m+1)).toArray.toList.mergeSort fun x y:Fin (m+1)=>!(ltOf fun i j:Fin (m+1)=>dZ (xs[i.val]'(by omega)).f1 (xs[j.val]'(by omega)).f1) y x).length = m+1:=by simp
   have hrow:=mX (ok:=ok) (n:=q) (os:=os) hbase hb (by omega) hm hcs hok hrl J z hf _ hlen;have hys:((List.finRange (m+1)).toArray.toList.mergeSort fun x y:Fin (m+1)=>!(ltOf fun i j:Fin (m+1)=>dZ (xs[i.val]'(by omega)).f1 (xs[j.val]'(by omega)).f1) y x).map (fun i:Fin (m+1)=>xs[i.val]'(by omega)) = gg xs:=by
    unfold gg;refine (List.map_mergeSort (s:=fun x y:SM=>!decide (dZ y.f1 x.f1 < 0)) (f:=fun i:Fin (m+1)=>xs[i.val]'(by omega)) fun a _ b _=>rfl).trans ?_;rw [List.toList_toArray,hpick]
   rw [hys] at hrow;have hgr:=gO (enc:=fun i:Fin (m+1)=>(rows[i.val]?).getD []) (w:=w) (g:=g) (n:=q) (os:=os) ((List.finRange (m+1)).toArray.toList.mergeSort fun x y:Fin (m+1)=>!(ltOf fun i j:Fin (m+1)=>dZ (xs[i.val]'(by omega)).f1 (xs[j.val]'(by omega)).f1) y x).toArray;rw [hrl];have hlt:g < w.heap.size:=(Array.getElem?_eq_some_iff.1 hb).1;exact ⟨rfl,hrow,fun w0 a0=>a0.grown hgr (by omega) (fun j hj=>by cases hj;exact hbase),hgr⟩
def pF (k:Nat) (xs:List SM):Option (List SM):=if xs.length < 4398046511104 then (if qo k xs = true then some (gg xs) else none) else none
theorem pG (xs:List SM) (k:Nat):fh (pF k xs) (pF (k+1) xs):=by
 unfold pF;refine fh.ite ?_ (fh.refl _);by_cases h:qo k xs = true
 ·rw [if_pos h,if_pos (pD h)]
  exact fh.refl _
 ·rw [if_neg h]
  exact fh.none _
instance pF.m:af.V1 pF:=fun _ _=>⟨pG _ _⟩
theorem oo {w:World} {base:Nat} {ok:Nat→Prop} {v:Value} {xs ys:List SM} (k:Nat) (h:Kd.N gv 37 w base ok v xs) (hk:pF k xs = some ys) :
  Calls Tryz.prog 56 #[v,.func (.func 57) #[] #[]] w fun e w'=>e = .returned (.tuple #[])∧Kd.N gv 37 w' base ok v ys∧(∀ w0:World,Below base w0 w→Below base w0 w')∧w.grownBy w' v.ownBlock:=by
 unfold pF at hk;by_cases h1:xs.length < 4398046511104
 ·rw [if_pos h1] at hk
  by_cases h2:qo k xs = true
  ·rw [if_pos h2] at hk
   obtain rfl:=Option.some.inj hk;exact iR k h (by omega) h2
  ·rw [if_neg h2] at hk
   cases hk
 ·rw [if_neg h1] at hk
  cases hk
end iK
end
section
namespace Pr
open Go.RowKit ag.b8 ag.ct ag.cu
attribute [local go_sem] fW fZ gK gM fE fF ga gf
set_option linter.unusedVariables false
set_option linter.unusedSimpArgs false
def bq.l0:Nat→List (dG)→List (dG)→Int→Int→Option ((List (dG)))
 | 0,_,_,_,_=>none
 | k+1,M,y,I,j=>if j < I then (if 0≤j then (if j < (y.length:Int) then ((bV.f k ((av y j).f0) ((av y j).f1)).bind fun z=>((cn.f k z.1 z.2.1 ((av y j).f0) ((av y j).f1)).bind fun J=>(if J = true then (if M.length < 4398046511104 then (bq.l0 k (M ++ [(⟨(av y j).f0,(av y j).f1⟩:dG)]) y I (wrap64 (j+1))) else (none)) else (bq.l0 k M y I (wrap64 (j+1)))))) else (none)) else (none)) else (iK.pF k M)
def bq.f (k:Nat) (a0:Int) (z:Int):Option ((List (dG))):=(dy.f a0 z).bind fun y=>(if y = true then ((aG.f k a0 z).bind fun j=>(bq.l0 k (([]:List (dG))) j (j.length:Int) 0)) else (some ([]:List (dG))))
set_option maxHeartbeats 8000000 in
set_option maxRecDepth 100000 in
theorem bq.calls (k:Nat) (a0:Int) (a1:Int) (r:List (dG)) (w:World) (h:bq.f k a0 a1 = some r) :
  Calls Tryz.prog 14 #[.int .i64 a0,.int .i64 a1] w fun e w'=>∃ e2:Value,e = .returned (e2)∧Kd.N gv 37 w' w.heap.size (fun k_=>(w.heap.size≤k_)) e2 r∧Below w.heap.size w w':=by
 have go:=Tryz.underlying37;have HB:=ae.mk (Below.refl w.heap.size w);unfold bq.f at h;have H:=h;clear h;obtain ⟨dt,A3,H⟩:=oX H;(try dsimp only at H);by_cases c4:dt = true
 ·subst c4
  replace H:((aG.f k a0 a1).bind fun j=>(bq.l0 k (([]:List (dG))) j (j.length:Int) 0)) = some r:=by rw [if_pos rfl] at H;exact H
  obtain ⟨cY,bo⟩:∃ y_:List (dG),y_ = (([]:List (dG))):=⟨_,rfl⟩
  replace H:((aG.f k a0 a1).bind fun j=>(bq.l0 k cY j (j.length:Int) 0)) = some r:=by (try rw [bo]);exact pp
  have cp:=ae.mk bo;clear bo;obtain ⟨j,A5,H⟩:=oX H;(try dsimp only at H);have H':=ae.mk H;clear H;go_enter Tryz.func14,Tryz.ntmps14;go_wp2_with (first | (refine nm (some 12) Tryz.func52 #[.int .i64 a0,.int .i64 a1] ?_;(with_reducible refine (dy.calls a0 a1 true _ A3.out).mono ?_);rintro e w' ⟨rfl,⟨nd,rfl⟩⟩;refine ⟨_,rfl,?_⟩) | ((with_reducible refine aZ (N:=14) rfl ?_);refine Kd.po gv _ 37 ?hg (N':=14) ?hd (xs:=([]:List (dG))) (inner:=[]) (ok:=(fun k_=>(w.heap.size≤k_))) (okp:=(fun k_=>(w.heap.size≤k_))) ?hr ?hp (fun _ hk=>hk) ((show ∀ k_,w.heap.size≤k_→(fun k_=>(w.heap.size≤k_)) k_ from fun k_ hk=>(Nat.le_trans (an (n8 HB.out)) hk)) _ (Nat.le_refl _)) (Below.refl _ _) (Nat.le_refl _) (by simp) ?_;(case hd=>rfl);(case hg=>rfl);(case hr=>first | (go_simp;done) | (go_simp;rfl));(case hp=>exact (cm.none _ _));intro du w6 d0 hb dv dC;clear dv dC;(first | rw [← cp.out] at d0 | (simp only [Int.reduceToNat] at d0;rw [← cp.out] at d0));have bi:=ae.mk (Kd.gI d0 (an (n8 HB.out)));replace HB:=np HB hb;clear hb d0) | (refine nm (some 17) Tryz.func53 #[.int .i64 a0,.int .i64 a1] ?_;(with_reducible refine (aG.calls k a0 a1 j _ A5.out).mono ?_);rintro e w8 ⟨g3,rfl,b4,hb⟩;refine ⟨_,rfl,?_⟩;have cr:=ae.mk (Kd.gI (Kd.ck (ok':=fun k_=>(w.heap.size≤k_)∧some k_≠(du:Value).ownBlock) (Kd.tB (Kd.lu b4)) (fun k_ e3=>⟨(Nat.le_trans (an (n8 HB.out)) e3.2.1),(Kd.fresh' (Kd.rZ (by (with_reducible repeat (first | apply Kd.b5 | apply Kd.b6 | apply Kd.bp));exact bi.out)) k_ e3.2.1)⟩)) (an (n8 HB.out)));replace bi:=ae.mk (Kd.ey (by (with_reducible repeat (first | apply Kd.b5 | apply Kd.b6 | apply Kd.bp));exact bi.out) (Kd.rU b4) hb);replace HB:=np HB hb;(try clear hb);(try clear d7);(try clear hk);(try clear hi);(try clear b4);obtain ⟨e4,cl,g4⟩:=Kd.gJ cr.out;subst g4));go_loopg [5,19] k (fun kq v5 g5 w'=>∃ (ba:List (dG)) (y:Int),g5 = .int .i64 y∧ae (bq.l0 kq ba j (j.length:Int) y = some r)∧ae (kq≤k)∧ae (Kd.N gv 37 w' w.heap.size (fun k_=>(w.heap.size≤k_)∧some k_≠((.slice e4 j.length cl):Value).ownBlock) v5 ba)∧ae (Kd.N gv 37 w' w.heap.size (fun k_=>(w.heap.size≤k_)∧some k_≠(v5:Value).ownBlock) (.slice e4 j.length cl) j)∧ae (Below w.heap.size w w'))
  case atStart=>exact ⟨(cY),(0),nb,H',⟨Nat.le_refl _⟩,⟨by (with_reducible repeat (first | apply Kd.b5 | apply Kd.b6 | apply Kd.bp));exact bi.out⟩,⟨by (with_reducible repeat (first | apply Kd.b5 | apply Kd.b6 | apply Kd.bp));exact cr.out⟩,⟨n8 HB.out⟩⟩
  case round =>
   clear H';obtain ⟨ba,y,rfl,HA,d8,a7,a4,HB⟩:=hrel;cases gk with
   | zero=>exact absurd HA.out (by simp [bq.l0])
   | succ k1 =>
    have H:=HA.out;clear HA;simp only [bq.l0] at H;by_cases iE:y < (j.length:Int)
    ·rw [if_pos iE] at H
     have dE:=decide_eq_true iE;clear iE;obtain ⟨e8,H⟩:=oY H;have g6:=decide_eq_true e8;clear e8;obtain ⟨ea,H⟩:=oY H;have g7:=decide_eq_true ea;clear ea;obtain ⟨⟨a6,a2,d1⟩,eb,H⟩:=oX H;(try dsimp only at H);obtain ⟨dT,ed,H⟩:=oX H;(try dsimp only at H);by_cases d9:dT = true
     ·subst d9
      replace H:(if ba.length < 4398046511104 then (bq.l0 k1 (ba ++ [(⟨(av j y).f0,(av j y).f1⟩:dG)]) j (j.length:Int) (wrap64 (y+1))) else (none)) = some r:=by rw [if_pos rfl] at H;exact H
      obtain ⟨ee,H⟩:=oY H;have e0:=ae.mk ee;clear ee;obtain ⟨d2,bs⟩:∃ y_:List (dG),y_ = (ba ++ [(⟨(av j y).f0,(av j y).f1⟩:dG)]):=⟨_,rfl⟩
      replace H:(bq.l0 k1 d2 j (j.length:Int) (wrap64 (y+1))) = some r:=by (try rw [bs]);exact pp
      have db:=ae.mk bs;clear bs;have H':=ae.mk H;clear H;have aw:0≤(y:Int):=pa;have aE:y < (j.length:Int):=pa;obtain ⟨b2,X,Y,co,cx,bd,ao,ap⟩:=fN (Kd.ez a4.out).2.2 y aw aE;cases co
      obtain ⟨dd,bk,bm,b1⟩:=Kd.kH a4.out z37 y aw (by first | exact aE | exact pa | (have e_:=(Kd.ez a4.out).1;omega));obtain ⟨cy,cX,rfl,ab,al⟩:=ew bm;have a8:=b1 1 _ rfl;rw [e6 _ _ 1 (by omega)] at a8;replace a8:=Option.some.inj (a8.symm.trans bd);injection a8 with bv d3 c0
      rw [bv] at al;rw [c0] at ab;have J:=ae.mk (show Kd.V (Kd.int .i64) 3 _ w.heap.size _ _ ((av j y).f1) from Kd.jB ab al);clear bv d3 c0 al ab;clear b1 bk;have U:=ae.mk ap;have ar:=ae.mk ao;clear ap ao;replace aw:=eq_true aw;replace aE:=eq_true aE;go_wp2_with (first | (refine pd 7 #[.int .i64 0,.slice none 0 0] 37 ?_;intro I hg gs hbox hb;replace a7:=ae.mk (Kd.cI (Kd.ec (by (with_reducible repeat (first | apply Kd.b5 | apply Kd.b6 | apply Kd.bp));exact a7.out) I (Nat.le_of_eq hg.symm)) hb);replace a4:=ae.mk (Kd.cI (Kd.ec (by (with_reducible repeat (first | apply Kd.b5 | apply Kd.b6 | apply Kd.bp));exact a4.out) I (Nat.le_of_eq hg.symm)) hb);replace J:=ae.mk (Kd.dz (Kd.fa (by (with_reducible repeat (first | apply Kd.bh | apply Kd.bj | apply Kd.bz));exact J.out) I (Nat.le_of_eq hg.symm)) hb);replace U:=ae.mk (Kd.aJ (by repeat (first | (with_reducible exact U.out) | (with_reducible refine Kd.cG ?_ _) | (with_reducible refine Kd.cH ?_ _) | (with_reducible refine Kd.cQ ?_) | exact U.out)) hb);have a3:=ae.mk hbox;have df:=no hg HB;have dk:=no hg HB;replace HB:=np HB hb;clear hb hbox hg;obtain ⟨ef,eg,eh,el⟩:=nz a3.out) | (refine nm (some 25) Tryz.func54 #[.agg #[.int .i64 ((av j y).f0),.slice X ((av j y).f1).length Y]] ?_;(with_reducible refine (bV.calls k1 ((av j y).f0) _ _ ((av j y).f1) a6 a2 d1 _ ?side1 ?side2 eb.out).mono ?_);(case side1=>exact ol ((Kd.cz ((Kd.bC (Kd.dJ (p:=⟨I,1,none⟩) (Kd.dJ (p:=⟨I,0,none⟩) (Kd.bC J.out (fun k_ hk=>(⟨hk,hk.2⟩:_∧k_≠I))) (fun _ hk=>hk.2) (.int .i64 ((av j y).f0))) (fun _ hk=>hk.2) (.slice X ((av j y).f1).length Y)) (fun _ h_=>h_.1)))).2.2));(case side2=>exact ar.out);rintro e gt ⟨e1,rfl,b4,hb⟩;refine ⟨_,rfl,?_⟩;replace a7:=ae.mk (Kd.ey (by (with_reducible repeat (first | apply Kd.b5 | apply Kd.b6 | apply Kd.bp));exact (Kd.ck (Kd.ep (p:=⟨I,1,none⟩) (Kd.ep (p:=⟨I,0,none⟩) (Kd.ck a7.out (fun k_ hk=>(⟨hk,hk.2⟩:_∧k_≠I))) (fun _ hk=>hk.2) (.int .i64 ((av j y).f0))) (fun _ hk=>hk.2) (.slice X ((av j y).f1).length Y)) (fun _ h_=>h_.1))) (Kd.bY b4) hb);replace a4:=ae.mk (Kd.ey (by (with_reducible repeat (first | apply Kd.b5 | apply Kd.b6 | apply Kd.bp));exact (Kd.ck (Kd.ep (p:=⟨I,1,none⟩) (Kd.ep (p:=⟨I,0,none⟩) (Kd.ck a4.out (fun k_ hk=>(⟨hk,hk.2⟩:_∧k_≠I))) (fun _ hk=>hk.2) (.int .i64 ((av j y).f0))) (fun _ hk=>hk.2) (.slice X ((av j y).f1).length Y)) (fun _ h_=>h_.1))) (Kd.bY b4) hb);have a5:=ae.mk (Kd.bE (Kd.eC (M:=fun k_=>(w.heap.size≤k_)) b4 (an na) (fun k_ h_=>h_)) (an na));replace U:=ae.mk (Kd.aJ ((Kd.cz ((Kd.bC (Kd.dJ (p:=⟨I,1,none⟩) (Kd.dJ (p:=⟨I,0,none⟩) (Kd.bC J.out (fun k_ hk=>(⟨hk,hk.2⟩:_∧k_≠I))) (fun _ hk=>hk.2) (.int .i64 ((av j y).f0))) (fun _ hk=>hk.2) (.slice X ((av j y).f1).length Y)) (fun _ h_=>h_.1)))).2.2) hb);replace J:=ae.mk (Kd.ei (by (with_reducible repeat (first | apply Kd.bh | apply Kd.bj | apply Kd.bz));exact (Kd.bC (Kd.dJ (p:=⟨I,1,none⟩) (Kd.dJ (p:=⟨I,0,none⟩) (Kd.bC J.out (fun k_ hk=>(⟨hk,hk.2⟩:_∧k_≠I))) (fun _ hk=>hk.2) (.int .i64 ((av j y).f0))) (fun _ hk=>hk.2) (.slice X ((av j y).f1).length Y)) (fun _ h_=>h_.1))) (Kd.bY b4) hb);replace a3:=ae.mk (aN (g:=I) (o:=.cells #[.int .i64 ((av j y).f0),.slice X ((av j y).f1).length Y] 37 (0,0)) ph hb);replace HB:=ae.mk (az na hb);(try clear hb);(try clear d7);(try clear hk);(try clear hi);(try clear b4)) | (refine pd 8 #[.int .i64 0,.slice none 0 0] 37 ?_;intro z hg gS hbox hb;have c1:=ae.mk (Kd.cI (Kd.ec (by (with_reducible repeat (first | apply Kd.b5 | apply Kd.b6 | apply Kd.bp));exact a7.out) z (Nat.le_of_eq hg.symm)) hb);have ca:=ae.mk (Kd.cI (Kd.ec (by (with_reducible repeat (first | apply Kd.b5 | apply Kd.b6 | apply Kd.bp));exact a4.out) z (Nat.le_of_eq hg.symm)) hb);have cb:=ae.mk (Kd.dz (Kd.fa (by (with_reducible repeat (first | apply Kd.bh | apply Kd.bj | apply Kd.bz));exact J.out) z (Nat.le_of_eq hg.symm)) hb);have cc:=pm a5 hb;have cd:=ae.mk (Kd.aJ (by repeat (first | (with_reducible exact U.out) | (with_reducible refine Kd.cG ?_ _) | (with_reducible refine Kd.cH ?_ _) | (with_reducible refine Kd.cQ ?_) | exact U.out)) hb);have ce:=ne a3 hb;have cf:=ae.mk (az na hb);have d4:=ae.mk hbox;have d5:=pt (w:=w) hg na;have d6:=pt (w:=w) hg na;have ch:=pk hg a3;have ci:=pl hg a3;clear a7;clear a4;clear J;clear a5;clear U;clear a3;clear HB;have a7:=c1;have a4:=ca;have J:=cb;have a5:=cc;have U:=cd;have a3:=ce;have HB:=cf;have a9:=d4;have dl:=d5;have dp:=d6;have aR:=ch;have b0:=ci;clear c1 ca cb cc cd ce cf d4 d5 d6 ch ci;clear hb hbox hg;have g8:=b0.out;have g9:=aR.out;obtain ⟨em,eo,eq,es⟩:=nz a9.out;obtain ⟨am,aa,et⟩:=Kd.bG a5.out;subst et;obtain ⟨ev,ex,eQ,f2⟩:=nz a3.out) | (refine nm (some 30) Tryz.func55 #[.agg #[.int .i64 a6,.slice am a2.length aa],.agg #[.int .i64 ((av j y).f0),.slice X ((av j y).f1).length Y]] ?_;(with_reducible refine (cn.calls k1 a6 _ _ a2 ((av j y).f0) _ _ ((av j y).f1) true _ ?side1 ?side2 ?side3 ?side4 ed.out).mono ?_);(case side1=>refine (Kd.aC (e:=3) (base:=w.heap.size) (ok:=fun k_=>((w.heap.size≤k_)∧True)) (n:=a2.length) (c:=aa) ?_).2.2;exact (ac ((Kd.aX (Kd.bF (p:=⟨z,1,none⟩) (Kd.bF (p:=⟨z,0,none⟩) (Kd.bf a5.out a9.out (by decide)) (fun _ hk=>hk.2) (.int .i64 a6)) (fun _ hk=>hk.2) (.slice am a2.length aa)) (fun _ h_=>h_.1)))));(case side2=>exact (Kd.aC a5.out).2.1);(case side3=>exact ol ((Kd.cz ((Kd.bC (Kd.dJ (p:=⟨z,1,none⟩) (Kd.dJ (p:=⟨z,0,none⟩) (Kd.bC J.out (fun k_ hk=>(⟨hk,hk.2⟩:_∧k_≠z))) (fun _ hk=>hk.2) (.int .i64 a6)) (fun _ hk=>hk.2) (.slice am a2.length aa)) (fun _ h_=>h_.1)))).2.2));(case side4=>exact ar.out);rintro e h0 ⟨rfl,hb⟩;refine ⟨_,rfl,?_⟩;replace a7:=ae.mk (Kd.cI (by (with_reducible repeat (first | apply Kd.b5 | apply Kd.b6 | apply Kd.bp));exact (Kd.ck (Kd.ep (p:=⟨z,1,none⟩) (Kd.ep (p:=⟨z,0,none⟩) (Kd.ck a7.out (fun k_ hk=>(⟨hk,hk.2⟩:_∧k_≠z))) (fun _ hk=>hk.2) (.int .i64 a6)) (fun _ hk=>hk.2) (.slice am a2.length aa)) (fun _ h_=>h_.1))) hb);replace a4:=ae.mk (Kd.cI (by (with_reducible repeat (first | apply Kd.b5 | apply Kd.b6 | apply Kd.bp));exact (Kd.ck (Kd.ep (p:=⟨z,1,none⟩) (Kd.ep (p:=⟨z,0,none⟩) (Kd.ck a4.out (fun k_ hk=>(⟨hk,hk.2⟩:_∧k_≠z))) (fun _ hk=>hk.2) (.int .i64 a6)) (fun _ hk=>hk.2) (.slice am a2.length aa)) (fun _ h_=>h_.1))) hb);replace a5:=ae.mk (Kd.cN (ac ((Kd.aX (Kd.bF (p:=⟨z,1,none⟩) (Kd.bF (p:=⟨z,0,none⟩) (Kd.bf a5.out a9.out (by decide)) (fun _ hk=>hk.2) (.int .i64 a6)) (fun _ hk=>hk.2) (.slice am a2.length aa)) (fun _ h_=>h_.1)))) hb);replace U:=ae.mk (Kd.aJ ((Kd.cz ((Kd.bC (Kd.dJ (p:=⟨z,1,none⟩) (Kd.dJ (p:=⟨z,0,none⟩) (Kd.bC J.out (fun k_ hk=>(⟨hk,hk.2⟩:_∧k_≠z))) (fun _ hk=>hk.2) (.int .i64 a6)) (fun _ hk=>hk.2) (.slice am a2.length aa)) (fun _ h_=>h_.1)))).2.2) hb);replace J:=ae.mk (Kd.dz (by (with_reducible repeat (first | apply Kd.bh | apply Kd.bj | apply Kd.bz));exact (Kd.bC (Kd.dJ (p:=⟨z,1,none⟩) (Kd.dJ (p:=⟨z,0,none⟩) (Kd.bC J.out (fun k_ hk=>(⟨hk,hk.2⟩:_∧k_≠z))) (fun _ hk=>hk.2) (.int .i64 a6)) (fun _ hk=>hk.2) (.slice am a2.length aa)) (fun _ h_=>h_.1))) hb);replace a3:=ae.mk (aN (g:=I) (o:=.cells #[.int .i64 ((av j y).f0),.slice X ((av j y).f1).length Y] 37 (0,0)) ph hb);replace a9:=ae.mk (aN (g:=z) (o:=.cells #[.int .i64 a6,.slice am a2.length aa] 37 (0,0)) ph hb);replace HB:=ae.mk (az na hb);(try clear hb);(try clear d7);(try clear hk);(try clear hi);obtain ⟨f3,f4,f5,f6⟩:=nz a3.out) | ((with_reducible refine cD (b:=.append) (xs:=#[.tmp 31,.tmp 33]) rfl ?_);at_builtin;refine Kd.gA gv (w0:=w) w.heap.size rfl (.tmp 31) (.tmp 33) 27 37 (.agg #[(.int .i64 0),(.slice none 0 0)]) 32 rfl Tryz.underlying27 iQ rfl (by decide) (by omega) u5 ba (⟨(av j y).f0,(av j y).f1⟩:dG) [.int .i64 ((av j y).f0),.slice X ((av j y).f1).length Y] (fun k_=>(w.heap.size≤k_)∧some k_≠(.slice (some b2) j.length cl:Value).ownBlock∧some k_≠(.slice am a2.length aa:Value).ownBlock∧k_≠I∧k_≠z) (fun k_=>((fun k_=>(w.heap.size≤k_)∧some k_≠(.slice (some b2) j.length cl:Value).ownBlock∧some k_≠(.slice am a2.length aa:Value).ownBlock∧k_≠I∧k_≠z)) k_∧some k_≠(u5:Value).ownBlock) rfl rfl ?aP (fun _ hk=>hk) ?aF ?aO ?aB ?aS ?aL ?_;(case aP=>exact (iw _ _ (⟨(av j y).f0,(av j y).f1⟩:dG) (Kd.cz (Kd.bC (ok':=(fun k_=>((fun k_=>(w.heap.size≤k_)∧some k_≠(.slice (some b2) j.length cl:Value).ownBlock∧some k_≠(.slice am a2.length aa:Value).ownBlock∧k_≠I∧k_≠z)) k_∧some k_≠(u5:Value).ownBlock)) (J.out) (fun k_ hk=>⟨⟨hk.1.1.1.1.1,⟨hk.1.1.1.2,⟨hk.1.2,⟨hk.1.1.2,hk.2⟩⟩⟩⟩,hk.1.1.1.1.2⟩))).2.1 (Kd.sO (Kd.bC (ok':=(fun k_=>((fun k_=>(w.heap.size≤k_)∧some k_≠(.slice (some b2) j.length cl:Value).ownBlock∧some k_≠(.slice am a2.length aa:Value).ownBlock∧k_≠I∧k_≠z)) k_∧some k_≠(u5:Value).ownBlock)) (J.out) (fun k_ hk=>⟨⟨hk.1.1.1.1.1,⟨hk.1.1.1.2,⟨hk.1.2,⟨hk.1.1.2,hk.2⟩⟩⟩⟩,hk.1.1.1.1.2⟩)))));(case aB=>exact na);(case aF=>exact (fun k_ hk=>⟨(Nat.le_trans (an na) hk),Kd.fresh' (Kd.rZ (by (with_reducible repeat (first | apply Kd.b5 | apply Kd.b6 | apply Kd.bp));exact a4.out)) k_ hk,Kd.fresh' (Kd.dB (ac a5.out)) k_ hk,Kd.eH (g:=I) (o:=.cells #[.int .i64 ((av j y).f0),.slice X ((av j y).f1).length Y] 37 (0,0)) (o0 a3.out) k_ hk,Kd.eH (g:=z) (o:=.cells #[.int .i64 a6,.slice am a2.length aa] 37 (0,0)) (o0 a9.out) k_ hk⟩));(case aO=>exact (by (with_reducible repeat (first | apply Kd.b5 | apply Kd.b6 | apply Kd.bp));exact Kd.ck a7.out (fun _ hk=>⟨hk.1.1.1.1,⟨hk.1.1.1.2,⟨hk.1.2,⟨hk.1.1.2,hk.2⟩⟩⟩⟩)));(case aS=>exact (an na));(case aL=>have:=e0.out;omega);intro gb h6 ho hb hg hat;rw [← db.out] at ho;have c1:=ae.mk (Kd.pq (ok:=(fun k_=>(w.heap.size≤k_)∧some k_≠(.slice am a2.length aa:Value).ownBlock∧k_≠I∧k_≠z)) (by (with_reducible repeat (first | apply Kd.b5 | apply Kd.b6 | apply Kd.bp));exact Kd.ck a4.out (fun _ hk=>⟨⟨hk.1.1.1.1,⟨hk.1.2,⟨hk.1.1.2,hk.2⟩⟩⟩,hk.1.1.1.2⟩)) hg hat);have ca:=ae.mk (Kd.dM (ok:=(fun k_=>(w.heap.size≤k_)∧some k_≠(.slice (some b2) j.length cl:Value).ownBlock∧some k_≠(.slice am a2.length aa:Value).ownBlock∧k_≠I∧k_≠z)) (by (with_reducible repeat (first | apply Kd.bh | apply Kd.bj | apply Kd.bz));exact Kd.bC J.out (fun _ hk=>⟨⟨hk.1.1.1.1.1,⟨hk.1.1.1.2,⟨hk.1.2,⟨hk.1.1.2,hk.2⟩⟩⟩⟩,hk.1.1.1.1.2⟩)) hg hat);have cb:=ae.mk (cM (g:=I) (o:=.cells #[.int .i64 ((av j y).f0),.slice X ((av j y).f1).length Y] 37 (0,0)) (o0 a3.out) hg (Kd.iO a7.out (fun _ hk=>hk.1.1.2)));have cc:=ae.mk (Kd.lg (ac a5.out) (Kd.iY (by (with_reducible repeat (first | apply Kd.b5 | apply Kd.b6 | apply Kd.bp));exact a7.out)) (by decide) hg);have cd:=ae.mk (cM (g:=z) (o:=.cells #[.int .i64 a6,.slice am a2.length aa] 37 (0,0)) (o0 a9.out) hg (Kd.iO a7.out (fun _ hk=>hk.2)));have ce:=ae.mk hb;have cf:=ae.mk ho;clear a4;clear J;clear a3;clear a5;clear a9;clear HB;clear a7;have a4:=c1;have J:=ca;have a3:=cb;have a5:=cc;have a9:=cd;have HB:=ce;have dq:=cf;clear c1 ca cb cc cd ce cf;clear ho hb hg hat));go_roundg k1;case measure=>have:=d8.out;omega
      case rel=>exact ⟨(d2),(wrap64 (y+1)),nb,H',⟨by have:=d8.out;omega⟩,⟨by (with_reducible repeat (first | apply Kd.b5 | apply Kd.b6 | apply Kd.bp));exact Kd.ck dq.out (fun _ hk=>(by first | exact ⟨hk.1,hk.2.1⟩ | (simp_all;done)))⟩,⟨by (with_reducible repeat (first | apply Kd.b5 | apply Kd.b6 | apply Kd.bp));exact Kd.ck a4.out (fun _ hk=>(by first | exact ⟨hk.1.1,hk.2⟩ | (simp_all;done)))⟩,⟨na⟩⟩
     ·replace d9:=Bool.eq_false_iff.mpr d9
      subst d9;replace H:(bq.l0 k1 ba j (j.length:Int) (wrap64 (y+1))) = some r:=by rw [if_neg (show ¬ (false = true) by decide)] at H;exact H
      have H':=ae.mk H;clear H;have aw:0≤(y:Int):=pa;have aE:y < (j.length:Int):=pa;obtain ⟨b2,X,Y,co,cx,bd,ao,ap⟩:=fN (Kd.ez a4.out).2.2 y aw aE;cases co
      obtain ⟨dd,bk,bm,b1⟩:=Kd.kH a4.out z37 y aw (by first | exact aE | exact pa | (have e_:=(Kd.ez a4.out).1;omega));obtain ⟨cy,cX,rfl,ab,al⟩:=ew bm;have a8:=b1 1 _ rfl;rw [e6 _ _ 1 (by omega)] at a8;replace a8:=Option.some.inj (a8.symm.trans bd);injection a8 with bv d3 c0
      rw [bv] at al;rw [c0] at ab;have J:=ae.mk (show Kd.V (Kd.int .i64) 3 _ w.heap.size _ _ ((av j y).f1) from Kd.jB ab al);clear bv d3 c0 al ab;clear b1 bk;have U:=ae.mk ap;have ar:=ae.mk ao;clear ap ao;replace aw:=eq_true aw;replace aE:=eq_true aE;go_wp2_with (first | (refine pd 7 #[.int .i64 0,.slice none 0 0] 37 ?_;intro I hg h7 hbox hb;replace a7:=ae.mk (Kd.cI (Kd.ec (by (with_reducible repeat (first | apply Kd.b5 | apply Kd.b6 | apply Kd.bp));exact a7.out) I (Nat.le_of_eq hg.symm)) hb);replace a4:=ae.mk (Kd.cI (Kd.ec (by (with_reducible repeat (first | apply Kd.b5 | apply Kd.b6 | apply Kd.bp));exact a4.out) I (Nat.le_of_eq hg.symm)) hb);replace J:=ae.mk (Kd.dz (Kd.fa (by (with_reducible repeat (first | apply Kd.bh | apply Kd.bj | apply Kd.bz));exact J.out) I (Nat.le_of_eq hg.symm)) hb);replace U:=ae.mk (Kd.aJ (by repeat (first | (with_reducible exact U.out) | (with_reducible refine Kd.cG ?_ _) | (with_reducible refine Kd.cH ?_ _) | (with_reducible refine Kd.cQ ?_) | exact U.out)) hb);have a3:=ae.mk hbox;have df:=no hg HB;have dk:=no hg HB;replace HB:=np HB hb;clear hb hbox hg;obtain ⟨f7,f8,f9,fd⟩:=nz a3.out) | (refine nm (some 25) Tryz.func54 #[.agg #[.int .i64 ((av j y).f0),.slice X ((av j y).f1).length Y]] ?_;(with_reducible refine (bV.calls k1 ((av j y).f0) _ _ ((av j y).f1) a6 a2 d1 _ ?side1 ?side2 eb.out).mono ?_);(case side1=>exact ol ((Kd.cz ((Kd.bC (Kd.dJ (p:=⟨I,1,none⟩) (Kd.dJ (p:=⟨I,0,none⟩) (Kd.bC J.out (fun k_ hk=>(⟨hk,hk.2⟩:_∧k_≠I))) (fun _ hk=>hk.2) (.int .i64 ((av j y).f0))) (fun _ hk=>hk.2) (.slice X ((av j y).f1).length Y)) (fun _ h_=>h_.1)))).2.2));(case side2=>exact ar.out);rintro e h8 ⟨e1,rfl,b4,hb⟩;refine ⟨_,rfl,?_⟩;replace a7:=ae.mk (Kd.ey (by (with_reducible repeat (first | apply Kd.b5 | apply Kd.b6 | apply Kd.bp));exact (Kd.ck (Kd.ep (p:=⟨I,1,none⟩) (Kd.ep (p:=⟨I,0,none⟩) (Kd.ck a7.out (fun k_ hk=>(⟨hk,hk.2⟩:_∧k_≠I))) (fun _ hk=>hk.2) (.int .i64 ((av j y).f0))) (fun _ hk=>hk.2) (.slice X ((av j y).f1).length Y)) (fun _ h_=>h_.1))) (Kd.bY b4) hb);replace a4:=ae.mk (Kd.ey (by (with_reducible repeat (first | apply Kd.b5 | apply Kd.b6 | apply Kd.bp));exact (Kd.ck (Kd.ep (p:=⟨I,1,none⟩) (Kd.ep (p:=⟨I,0,none⟩) (Kd.ck a4.out (fun k_ hk=>(⟨hk,hk.2⟩:_∧k_≠I))) (fun _ hk=>hk.2) (.int .i64 ((av j y).f0))) (fun _ hk=>hk.2) (.slice X ((av j y).f1).length Y)) (fun _ h_=>h_.1))) (Kd.bY b4) hb);have a5:=ae.mk (Kd.bE (Kd.eC (M:=fun k_=>(w.heap.size≤k_)) b4 (an na) (fun k_ h_=>h_)) (an na));replace U:=ae.mk (Kd.aJ ((Kd.cz ((Kd.bC (Kd.dJ (p:=⟨I,1,none⟩) (Kd.dJ (p:=⟨I,0,none⟩) (Kd.bC J.out (fun k_ hk=>(⟨hk,hk.2⟩:_∧k_≠I))) (fun _ hk=>hk.2) (.int .i64 ((av j y).f0))) (fun _ hk=>hk.2) (.slice X ((av j y).f1).length Y)) (fun _ h_=>h_.1)))).2.2) hb);replace J:=ae.mk (Kd.ei (by (with_reducible repeat (first | apply Kd.bh | apply Kd.bj | apply Kd.bz));exact (Kd.bC (Kd.dJ (p:=⟨I,1,none⟩) (Kd.dJ (p:=⟨I,0,none⟩) (Kd.bC J.out (fun k_ hk=>(⟨hk,hk.2⟩:_∧k_≠I))) (fun _ hk=>hk.2) (.int .i64 ((av j y).f0))) (fun _ hk=>hk.2) (.slice X ((av j y).f1).length Y)) (fun _ h_=>h_.1))) (Kd.bY b4) hb);replace a3:=ae.mk (aN (g:=I) (o:=.cells #[.int .i64 ((av j y).f0),.slice X ((av j y).f1).length Y] 37 (0,0)) ph hb);replace HB:=ae.mk (az na hb);(try clear hb);(try clear d7);(try clear hk);(try clear hi);(try clear b4)) | (refine pd 8 #[.int .i64 0,.slice none 0 0] 37 ?_;intro z hg h9 hbox hb;have c1:=ae.mk (Kd.cI (Kd.ec (by (with_reducible repeat (first | apply Kd.b5 | apply Kd.b6 | apply Kd.bp));exact a7.out) z (Nat.le_of_eq hg.symm)) hb);have ca:=ae.mk (Kd.cI (Kd.ec (by (with_reducible repeat (first | apply Kd.b5 | apply Kd.b6 | apply Kd.bp));exact a4.out) z (Nat.le_of_eq hg.symm)) hb);have cb:=ae.mk (Kd.dz (Kd.fa (by (with_reducible repeat (first | apply Kd.bh | apply Kd.bj | apply Kd.bz));exact J.out) z (Nat.le_of_eq hg.symm)) hb);have cc:=pm a5 hb;have cd:=ae.mk (Kd.aJ (by repeat (first | (with_reducible exact U.out) | (with_reducible refine Kd.cG ?_ _) | (with_reducible refine Kd.cH ?_ _) | (with_reducible refine Kd.cQ ?_) | exact U.out)) hb);have ce:=ne a3 hb;have cf:=ae.mk (az na hb);have d4:=ae.mk hbox;have d5:=pt (w:=w) hg na;have d6:=pt (w:=w) hg na;have ch:=pk hg a3;have ci:=pl hg a3;clear a7;clear a4;clear J;clear a5;clear U;clear a3;clear HB;have a7:=c1;have a4:=ca;have J:=cb;have a5:=cc;have U:=cd;have a3:=ce;have HB:=cf;have a9:=d4;have dl:=d5;have dp:=d6;have aR:=ch;have b0:=ci;clear c1 ca cb cc cd ce cf d4 d5 d6 ch ci;clear hb hbox hg;have gc:=b0.out;have ge:=aR.out;obtain ⟨fi,fj,fp,fs⟩:=nz a9.out;obtain ⟨bc,b3,ft⟩:=Kd.bG a5.out;subst ft;obtain ⟨fw,fx,fy,fX⟩:=nz a3.out) | (refine nm (some 30) Tryz.func55 #[.agg #[.int .i64 a6,.slice bc a2.length b3],.agg #[.int .i64 ((av j y).f0),.slice X ((av j y).f1).length Y]] ?_;(with_reducible refine (cn.calls k1 a6 _ _ a2 ((av j y).f0) _ _ ((av j y).f1) false _ ?side1 ?side2 ?side3 ?side4 ed.out).mono ?_);(case side1=>refine (Kd.aC (e:=3) (base:=w.heap.size) (ok:=fun k_=>((w.heap.size≤k_)∧True)) (n:=a2.length) (c:=b3) ?_).2.2;exact (ac ((Kd.aX (Kd.bF (p:=⟨z,1,none⟩) (Kd.bF (p:=⟨z,0,none⟩) (Kd.bf a5.out a9.out (by decide)) (fun _ hk=>hk.2) (.int .i64 a6)) (fun _ hk=>hk.2) (.slice bc a2.length b3)) (fun _ h_=>h_.1)))));(case side2=>exact (Kd.aC a5.out).2.1);(case side3=>exact ol ((Kd.cz ((Kd.bC (Kd.dJ (p:=⟨z,1,none⟩) (Kd.dJ (p:=⟨z,0,none⟩) (Kd.bC J.out (fun k_ hk=>(⟨hk,hk.2⟩:_∧k_≠z))) (fun _ hk=>hk.2) (.int .i64 a6)) (fun _ hk=>hk.2) (.slice bc a2.length b3)) (fun _ h_=>h_.1)))).2.2));(case side4=>exact ar.out);rintro e hj ⟨rfl,hb⟩;refine ⟨_,rfl,?_⟩;replace a7:=ae.mk (Kd.cI (by (with_reducible repeat (first | apply Kd.b5 | apply Kd.b6 | apply Kd.bp));exact (Kd.ck (Kd.ep (p:=⟨z,1,none⟩) (Kd.ep (p:=⟨z,0,none⟩) (Kd.ck a7.out (fun k_ hk=>(⟨hk,hk.2⟩:_∧k_≠z))) (fun _ hk=>hk.2) (.int .i64 a6)) (fun _ hk=>hk.2) (.slice bc a2.length b3)) (fun _ h_=>h_.1))) hb);replace a4:=ae.mk (Kd.cI (by (with_reducible repeat (first | apply Kd.b5 | apply Kd.b6 | apply Kd.bp));exact (Kd.ck (Kd.ep (p:=⟨z,1,none⟩) (Kd.ep (p:=⟨z,0,none⟩) (Kd.ck a4.out (fun k_ hk=>(⟨hk,hk.2⟩:_∧k_≠z))) (fun _ hk=>hk.2) (.int .i64 a6)) (fun _ hk=>hk.2) (.slice bc a2.length b3)) (fun _ h_=>h_.1))) hb);replace a5:=ae.mk (Kd.cN (ac ((Kd.aX (Kd.bF (p:=⟨z,1,none⟩) (Kd.bF (p:=⟨z,0,none⟩) (Kd.bf a5.out a9.out (by decide)) (fun _ hk=>hk.2) (.int .i64 a6)) (fun _ hk=>hk.2) (.slice bc a2.length b3)) (fun _ h_=>h_.1)))) hb);replace U:=ae.mk (Kd.aJ ((Kd.cz ((Kd.bC (Kd.dJ (p:=⟨z,1,none⟩) (Kd.dJ (p:=⟨z,0,none⟩) (Kd.bC J.out (fun k_ hk=>(⟨hk,hk.2⟩:_∧k_≠z))) (fun _ hk=>hk.2) (.int .i64 a6)) (fun _ hk=>hk.2) (.slice bc a2.length b3)) (fun _ h_=>h_.1)))).2.2) hb);replace J:=ae.mk (Kd.dz (by (with_reducible repeat (first | apply Kd.bh | apply Kd.bj | apply Kd.bz));exact (Kd.bC (Kd.dJ (p:=⟨z,1,none⟩) (Kd.dJ (p:=⟨z,0,none⟩) (Kd.bC J.out (fun k_ hk=>(⟨hk,hk.2⟩:_∧k_≠z))) (fun _ hk=>hk.2) (.int .i64 a6)) (fun _ hk=>hk.2) (.slice bc a2.length b3)) (fun _ h_=>h_.1))) hb);replace a3:=ae.mk (aN (g:=I) (o:=.cells #[.int .i64 ((av j y).f0),.slice X ((av j y).f1).length Y] 37 (0,0)) ph hb);replace a9:=ae.mk (aN (g:=z) (o:=.cells #[.int .i64 a6,.slice bc a2.length b3] 37 (0,0)) ph hb);replace HB:=ae.mk (az na hb);(try clear hb);(try clear d7);(try clear hk);(try clear hi)));go_roundg k1;case measure=>have:=d8.out;omega
      case rel=>exact ⟨(ba),(wrap64 (y+1)),nb,H',⟨by have:=d8.out;omega⟩,⟨by (with_reducible repeat (first | apply Kd.b5 | apply Kd.b6 | apply Kd.bp));exact Kd.ck a7.out (fun _ hk=>(by first | exact ⟨hk.1.1.1.1,hk.1.1.1.2⟩ | (simp_all;done)))⟩,⟨by (with_reducible repeat (first | apply Kd.b5 | apply Kd.b6 | apply Kd.bp));exact Kd.ck a4.out (fun _ hk=>(by first | exact ⟨hk.1.1.1.1,hk.1.1.1.2⟩ | (simp_all;done)))⟩,⟨na⟩⟩
    ·rw [if_neg iE] at H
     have dE:decide (y < (j.length:Int)) = false:=decide_eq_false iE;clear iE;have gm:=ae.mk H;clear H;go_wp2_with (first | (refine nm (some 37) Tryz.func56 #[u5,.func (.func 57) #[] #[]] ?_;(refine (iK.oo k1 (by (with_reducible repeat (first | apply Kd.b5 | apply Kd.b6 | apply Kd.bp));exact a7.out) gm.out).mono ?_);rintro e hl ⟨rfl,fY,g0,dv⟩;refine ⟨_,rfl,?_⟩;have g1:=ae.mk fY;have g2:=ae.mk (g0 w (n8 HB.out));clear fY g0 dv));go_ret;exact ⟨_,pj,by (with_reducible repeat (first | apply Kd.b5 | apply Kd.b6 | apply Kd.bp));exact Kd.ck g1.out (fun _ hk=>hk.1),n8 g2.out⟩
 ·replace c4:=Bool.eq_false_iff.mpr c4
  subst c4;replace H:(some ([]:List (dG))) = some r:=by rw [if_neg (show ¬ (false = true) by decide)] at H;exact H
  obtain rfl:=Option.some.inj H;go_enter Tryz.func14,Tryz.ntmps14;go_wp2_with (first | (refine nm (some 12) Tryz.func52 #[.int .i64 a0,.int .i64 a1] ?_;(with_reducible refine (dy.calls a0 a1 false _ A3.out).mono ?_);rintro e w' ⟨rfl,⟨nd,rfl⟩⟩;refine ⟨_,rfl,?_⟩));go_ret;exact ⟨_,pj,by first | exact Kd.rj _ _ _ _ _ | exact Kd.ru _ _ _ _ _ | exact Kd.ry _ _ _ _ _ | exact Kd.ri _ _ _ _ _ | exact Kd.jt _ _ _ _ _,na⟩
mutual
def bg.j0:Nat→Bool→Int→List Int→Option (Int×Bool)
 | 0,_,_,_=>none
 | k+1,a2,j,y=>if a2 = true then (some (0,false)) else ((bV.f k j y).bind fun M=>((cV.f k j y).bind fun Y=>((bq.f k j Y).bind fun U=>(bg.l0 k U (U.length:Int) 0 M.1 M.2.1))))
def bg.l0:Nat→List (dG)→Int→Int→Int→List Int→Option (Int×Bool)
 | 0,_,_,_,_,_=>none
 | k+1,X,a1,J,z,I=>if J < a1 then (if 0≤J then (if J < (X.length:Int) then ((cn.f k ((av X J).f0) ((av X J).f1) z I).bind fun a0=>(if a0 = true then (some (J,true)) else (bg.l0 k X a1 (wrap64 (J+1)) z I))) else (none)) else (none)) else (some (0,false))
end
def bg.f (k:Nat) (j:Int) (y:List Int):Option (Int×Bool):=(cj.f k j y).bind fun z=>(if z = true then (bg.j0 k (decide (j > 5)) j y) else (bg.j0 k true j y))
set_option maxHeartbeats 8000000 in
set_option maxRecDepth 100000 in
theorem bg.calls (k:Nat) (a2:Int) (ap:Option Addr) (ar:Nat) (a4:List Int) (r1:Int) (r2:Bool) (w:World) (cy:Kd.C (Kd.int .i64) w ap a4.length a4) (cX:a4.length≤ar) (h:bg.f k a2 a4 = some (r1,r2)) :
  Calls Tryz.prog 21 #[.agg #[.int .i64 a2,.slice ap a4.length ar]] w fun e w'=>e = .returned (.tuple #[.int .i64 r1,.bool r2])∧Below w.heap.size w w':=by
 have hA:=Tryz.underlying37;have bd:=ae.mk cy;have bi:=ae.mk cX;clear cy cX;have HB:=ae.mk (Below.refl w.heap.size w);unfold bg.f at h;have H:=h;clear h;have dp:=ae.mk H;clear H;go_enter Tryz.func21,Tryz.ntmps21;go_upto_region 1 with (first | (refine pd 1 #[.int .i64 a2,.slice ap a4.length ar] 37 ?_;intro al hg w3 hbox hb;have j:=ae.mk hbox;have fj:=no hg HB;have fp:=no hg HB;replace HB:=np HB hb;clear hb hbox hg))
 (try simp only [Act.put,List.setIfInBounds_toArray,List.set_cons_zero,List.set_cons_succ]);go_cut [15] (fun g7 wc=>∃ (kq:Nat) (bk:Bool),g7 = .bool bk∧ae (bg.j0 kq bk a2 a4 = some (r1,r2))∧ae (kq≤k)∧ae (wc.heap[al]? = some (.cells #[.int .i64 a2,(.slice ap a4.length ar)] 37 (0,0)))∧ae (Below w.heap.size w wc))
 case first =>
  have H:=dp.out;clear dp;obtain ⟨dq,A4,H⟩:=oX H;(try dsimp only at H);by_cases c5:dq = true
  ·subst c5
   replace H:(bg.j0 k (decide (a2 > 5)) a2 a4) = some (r1,r2):=by rw [if_pos rfl] at H;exact H
   have H':=ae.mk H;clear H;obtain ⟨fs,ft,fw,fx⟩:=nz j.out;go_wp2_with (first | (refine nm (some 9) Tryz.func61 #[.agg #[.int .i64 a2,.slice ap a4.length ar]] ?_;(with_reducible refine (cj.calls k a2 _ _ a4 true _ ?side1 ?side2 A4.out).mono ?_);(case side1=>exact ol (Kd.aJ bd.out HB.out));(case side2=>exact bi.out);rintro e w7 ⟨rfl,hb⟩;refine ⟨_,rfl,?_⟩;replace j:=ne j hb;replace HB:=np HB hb;(try clear hb);(try clear cl);(try clear hk);(try clear hi);obtain ⟨fy,fX,fY,g0⟩:=nz j.out));go_meet
   case rel=>exact ⟨_,(decide (a2 > 5)),nb,H',⟨by first | omega | exact Nat.le_refl _⟩,⟨o0 j.out⟩,⟨n8 HB.out⟩⟩
  ·replace c5:=Bool.eq_false_iff.mpr c5
   subst c5;replace H:(bg.j0 k true a2 a4) = some (r1,r2):=by rw [if_neg (show ¬ (false = true) by decide)] at H;exact H
   have H':=ae.mk H;clear H;obtain ⟨g1,g2,g3,g4⟩:=nz j.out;go_wp2_with (first | (refine nm (some 9) Tryz.func61 #[.agg #[.int .i64 a2,.slice ap a4.length ar]] ?_;(with_reducible refine (cj.calls k a2 _ _ a4 false _ ?side1 ?side2 A4.out).mono ?_);(case side1=>exact ol (Kd.aJ bd.out HB.out));(case side2=>exact bi.out);rintro e hC ⟨rfl,hb⟩;refine ⟨_,rfl,?_⟩;replace j:=ne j hb;replace HB:=np HB hb;(try clear hb);(try clear cl);(try clear hk);(try clear hi)));go_meet
   case rel=>exact ⟨_,(true),nb,H',⟨by first | omega | exact Nat.le_refl _⟩,⟨o0 j.out⟩,⟨n8 HB.out⟩⟩
 case rest =>
  clear dp;obtain ⟨kq,bk,rfl,HA,dE,j,HB⟩:=hcut;cases kq with
  | zero=>exact absurd HA.out (by simp [bg.j0])
  | succ bm =>
   have H:=HA.out;clear HA;simp only [bg.j0] at H;by_cases d8:bk = true
   ·subst d8
    replace H:(some (0,false)) = some (r1,r2):=by rw [if_pos rfl] at H;exact H
    simp only [Option.some.injEq,Prod.mk.injEq] at H;obtain ⟨rfl,rfl⟩:=H;go_wp2;go_ret2
    exact ⟨pj,na⟩
   ·replace d8:=Bool.eq_false_iff.mpr d8
    subst d8;replace H:((bV.f bm a2 a4).bind fun ch=>((cV.f bm a2 a4).bind fun b4=>((bq.f bm a2 b4).bind fun z=>(bg.l0 bm z (z.length:Int) 0 ch.1 ch.2.1)))) = some (r1,r2):=by rw [if_neg (show ¬ (false = true) by decide)] at H;exact H
    obtain ⟨⟨a6,X,dt⟩,g8,H⟩:=oX H;(try dsimp only at H);obtain ⟨b4,g9,H⟩:=oX H;(try dsimp only at H);obtain ⟨z,gb,H⟩:=oX H;(try dsimp only at H);have H':=ae.mk H;clear H;obtain ⟨dT,e0,e1,e2⟩:=nz j.out;(try go_wp2_with (first | (refine nm (some 18) Tryz.func54 #[.agg #[.int .i64 a2,.slice ap a4.length ar]] ?_;(with_reducible refine (bV.calls bm a2 _ _ a4 a6 X dt _ ?side1 ?side2 g8.out).mono ?_);(case side1=>exact ol (Kd.aJ bd.out HB.out));(case side2=>exact bi.out);rintro e hD ⟨gc,rfl,cY,hb⟩;refine ⟨_,rfl,?_⟩;have a5:=ae.mk (Kd.bE cY (an (n8 HB.out)));replace j:=ne j hb;replace HB:=np HB hb;(try clear hb);(try clear cl);(try clear hk);(try clear hi);(try clear cY)) | (refine pd 4 #[.int .i64 0,.slice none 0 0] 37 ?_;intro a1 hg d0 hbox hb;replace a5:=pm a5 hb;have J:=ae.mk hbox;have g5:=no hg HB;have g6:=no hg HB;replace HB:=np HB hb;have aE:=pk hg j;have aF:=pl hg j;replace j:=ne j hb;clear hb hbox hg;have ge:=aF.out;have gm:=aE.out;obtain ⟨e3,e4,e8,ea⟩:=nz J.out;obtain ⟨am,a9,eb⟩:=Kd.bG a5.out;subst eb)));have bo:ae (Kd.R (Kd.int .i64) 3 ((d0.setCell ⟨a1,0,none⟩ (.int .i64 a6)).setCell ⟨a1,1,none⟩ (.slice am X.length a9)) w.heap.size (fun _=>True) (.slice am X.length a9) X):=⟨ac (Kd.aX (Kd.bF (p:=⟨a1,1,none⟩) (Kd.bF (p:=⟨a1,0,none⟩) (Kd.bf a5.out J.out (by decide)) (fun _ hk=>hk.2) (.int .i64 a6)) (fun _ hk=>hk.2) (.slice am X.length a9)) (fun _ hk=>trivial))⟩
    have bs:ae (((d0.setCell ⟨a1,0,none⟩ (.int .i64 a6)).setCell ⟨a1,1,none⟩ (.slice am X.length a9)).heap[al]? = some (.cells #[.int .i64 a2,.slice ap a4.length ar] 37 (0,0))):=⟨ph⟩
    have bv:ae (((d0.setCell ⟨a1,0,none⟩ (.int .i64 a6)).setCell ⟨a1,1,none⟩ (.slice am X.length a9)).heap[a1]? = some (.cells #[.int .i64 a6,.slice am X.length a9] 37 (0,0))):=⟨ph⟩
    have c0:ae (Below w.heap.size w ((d0.setCell ⟨a1,0,none⟩ (.int .i64 a6)).setCell ⟨a1,1,none⟩ (.slice am X.length a9))):=⟨na⟩
    (try clear a5);(try clear j);(try clear J);(try clear HB);generalize ((d0.setCell ⟨a1,0,none⟩ (.int .i64 a6)).setCell ⟨a1,1,none⟩ (.slice am X.length a9)) = go at bo bs bv c0 ⊢;have a5:=bo;have j:=bs;have J:=bv;have HB:=c0;clear bo bs bv c0;replace a5:=ae.mk (Kd.dw a5.out);replace j:=ae.mk (cW j.out);replace J:=ae.mk (cW J.out);replace HB:=ae.mk (bZ HB.out);refine e9 (n:=7) (S:=fun w'=>w'.cell? ⟨al,0,none⟩ = some (.int .i64 a2)∧w'.cell? ⟨al,1,none⟩ = some (.slice ap a4.length ar)) (ds:=[]) #[false,false,false,false,false,false,false] (by kernel_rfl) rfl rfl ⟨(ah j.out 0).trans rfl,(ah j.out 1).trans rfl⟩ (fun hHeld=>?_);generalize go.drew = hE at a5 j J HB hHeld ⊢;refine dF (i:=0) (N:=some 21) (v:=?_) (a':=?_) #[true,false,false,false,false,false,false] rfl rfl (by kernel_rfl) (fun _ _ _ h=>h) (Or.inl ⟨by rfl,?_⟩) ?_ ?_;rotate_left
    ·intro w'
     go_simp
     with_reducible rfl
    rotate_left
    ·simp only [Act.put,List.setIfInBounds_toArray,List.set_cons_zero,List.set_cons_succ,b9,bB]
     rfl
    refine dF (i:=6) (N:=some 27) (v:=?_) (a':=?_) #[true,false,false,false,false,false,true] rfl rfl (by kernel_rfl) (fun _ _ _ h=>h) (Or.inl ⟨by rfl,?_⟩) ?_ ?_;rotate_left
    ·intro w'
     go_simp
     with_reducible rfl
    rotate_left
    ·simp only [Act.put,List.setIfInBounds_toArray,List.set_cons_zero,List.set_cons_succ,b9,bB]
     rfl
    refine fS (i:=1) (N:=some 22) (v:=?_) (a':=?_) #[true,true,false,false,false,false,true] rfl rfl (by kernel_rfl) (fun _ _ _ h=>h) (Or.inl ⟨by rfl,?_⟩) hHeld ?_ ?_;rotate_left
    ·rintro w' ⟨s0,s1⟩
     go_simp
     with_reducible rfl
    rotate_left
    ·simp only [Act.put,List.setIfInBounds_toArray,List.set_cons_zero,List.set_cons_succ,b9,bB]
     rfl
    refine fS (i:=2) (N:=some 23) (v:=?_) (a':=?_) #[true,true,true,false,false,false,true] rfl rfl (by kernel_rfl) (fun _ _ _ h=>h) (Or.inl ⟨by rfl,?_⟩) hHeld ?_ ?_;rotate_left
    ·rintro w' ⟨s0,s1⟩
     go_simp
     with_reducible rfl
    rotate_left
    ·simp only [Act.put,List.setIfInBounds_toArray,List.set_cons_zero,List.set_cons_succ,b9,bB]
     rfl
    refine eW (i:=3) (N:=some 24) #[true,true,true,true,false,false,true] rfl rfl (by kernel_rfl) (by decide) (fun K hK=>?_);refine fV Tryz.func62 (by kernel_rfl) rfl #[.agg #[.int .i64 a2,.slice ap a4.length ar]] (by rfl) rfl rfl (by (try simp only [List.map_toArray,List.map_cons,List.map_nil]);first | done | rfl) ?_;with_reducible refine (cV.calls bm a2 _ _ a4 b4 _ ?side1 ?side2 g9.out).mono ?_
    (case side1=>exact ol (Kd.aJ bd.out HB.out));(case side2=>exact bi.out);rintro e hG ⟨rfl,hb⟩
    refine ⟨_,rfl,?_⟩;replace a5:=pm a5 hb;replace j:=ne j hb;replace J:=ne J hb;replace HB:=np HB hb;(try clear hb);(try clear cl);(try clear hk);(try clear hi);refine hK.out _ _ ⟨(ah j.out 0).trans rfl,(ah j.out 1).trans rfl⟩ (fun hHeld=>?_);clear hK K;refine bX (a':=?_) ?_ ?_;rotate_left
    ·show Act.put _ (some 24) _ = _
     simp only [Act.put,List.setIfInBounds_toArray,List.set_cons_zero,List.set_cons_succ,b9,bB];rfl
    refine eW (i:=4) (N:=some 25) #[true,true,true,true,true,false,true] rfl rfl (by kernel_rfl) (by decide) (fun K hK=>?_);refine fV Tryz.func14 (by kernel_rfl) rfl #[.int .i64 a2,.int .i64 b4] (by rfl) rfl rfl (by (try simp only [List.map_toArray,List.map_cons,List.map_nil]);first | done | rfl) ?_;with_reducible refine (bq.calls bm a2 b4 z _ gb.out).mono ?_
    rintro e hH ⟨gs,rfl,cY,hb⟩
    refine ⟨_,rfl,?_⟩;have ci:=ae.mk (Kd.gI (Kd.ck (ok':=fun k_=>some k_≠(.slice am X.length a9:Value).ownBlock∧k_≠al∧k_≠a1) cY (fun k_ du=>⟨(Kd.fresh' (Kd.dB (ac a5.out)) k_ du),(Kd.eH (g:=al) (o:=.cells #[.int .i64 a2,.slice ap a4.length ar] 37 (0,0)) (o0 j.out) k_ du),(Kd.eH (g:=a1) (o:=.cells #[.int .i64 a6,.slice am X.length a9] 37 (0,0)) (o0 J.out) k_ du)⟩)) (an (n8 HB.out)));replace a5:=pm a5 hb;replace j:=ne j hb;replace J:=ne J hb;replace HB:=np HB hb;(try clear hb);(try clear cl);(try clear hk);(try clear hi);(try clear cY);obtain ⟨ed,ee,dl⟩:=Kd.gJ ci.out;(first | subst dl | (injection dl with ef gt eg;have gS:=ef.symm;have h0:=eg.symm;clear ef gt eg;subst gS;subst h0));refine hK.out _ _ ⟨(ah j.out 0).trans rfl,(ah j.out 1).trans rfl⟩ (fun hHeld=>?_);clear hK K;refine bX (a':=?_) ?_ ?_;rotate_left
    ·show Act.put _ (some 25) _ = _
     simp only [Act.put,List.setIfInBounds_toArray,List.set_cons_zero,List.set_cons_succ,b9,bB];rfl
    refine dF (i:=5) (N:=some 26) (v:=?_) (a':=?_) #[true,true,true,true,true,true,true] rfl rfl (by kernel_rfl) (fun _ _ _ h=>h) (Or.inl ⟨by rfl,?_⟩) ?_ ?_;rotate_left
    ·intro w'
     go_simp
     with_reducible rfl
    rotate_left
    ·simp only [Act.put,List.setIfInBounds_toArray,List.set_cons_zero,List.set_cons_succ,b9,bB]
     rfl
    refine eZ (by kernel_rfl) ?_;(try go_wp2);go_loopg [27] bm (fun kq h6 w'=>∃ (y:Int),h6 = .int .i64 y∧ae (bg.l0 kq z (z.length:Int) y a6 X = some (r1,r2))∧ae (kq≤bm)∧ae (Kd.N gv 37 w' w.heap.size (fun k_=>some k_≠((.slice am X.length a9):Value).ownBlock∧k_≠al∧k_≠a1) (.slice ed z.length ee) z)∧ae (Kd.R (Kd.int .i64) 3 w' w.heap.size (fun _=>True) (.slice am X.length a9) X)∧ae (w'.heap[al]? = some (.cells #[.int .i64 a2,(.slice ap a4.length ar)] 37 (0,0)))∧ae (w'.heap[a1]? = some (.cells #[.int .i64 a6,(.slice am X.length a9)] 37 (0,0)))∧ae (Below w.heap.size w w'))
    case atStart=>exact ⟨(0),nb,H',⟨Nat.le_refl _⟩,⟨by (with_reducible repeat (first | apply Kd.b5 | apply Kd.b6 | apply Kd.bp));exact ci.out⟩,⟨ac a5.out⟩,⟨o0 j.out⟩,⟨o0 J.out⟩,⟨n8 HB.out⟩⟩
    case round =>
     clear H';obtain ⟨y,rfl,HA,eh,a7,M,j,J,HB⟩:=hrel;cases gk with
     | zero=>exact absurd HA.out (by simp [bg.l0])
     | succ k2 =>
      have H:=HA.out;clear HA;simp only [bg.l0] at H;by_cases co:y < (z.length:Int)
      ·rw [if_pos co] at H
       have dv:=decide_eq_true co;clear co;obtain ⟨el,H⟩:=oY H;have h7:=decide_eq_true el;clear el;obtain ⟨em,H⟩:=oY H;have h8:=decide_eq_true em;clear em;obtain ⟨dC,eo,H⟩:=oX H;(try dsimp only at H);by_cases d9:dC = true
       ·subst d9
        replace H:(some (y,true)) = some (r1,r2):=by rw [if_pos rfl] at H;exact H
        simp only [Option.some.injEq,Prod.mk.injEq] at H;obtain ⟨rfl,rfl⟩:=H;have aL:0≤(y:Int):=pa;have aO:y < (z.length:Int):=pa;obtain ⟨db,Y,a0,cf,cp,b2,aw,aB⟩:=fN (Kd.ez a7.out).2.2 y aL aO;cases cf
        obtain ⟨dd,ba,bc,b1⟩:=Kd.kH a7.out z37 y aL (by first | exact aO | exact pa | (have e_:=(Kd.ez a7.out).1;omega));obtain ⟨cr,cx,rfl,aa,ab⟩:=ew bc;have a8:=b1 1 _ rfl;rw [e6 _ _ 1 (by omega)] at a8;replace a8:=Option.some.inj (a8.symm.trans b2);injection a8 with c1 d1 ca
        rw [c1] at ab;rw [ca] at aa;have U:=ae.mk (show Kd.V (Kd.int .i64) 3 _ w.heap.size _ _ ((av z y).f1) from Kd.jB aa ab);clear c1 d1 ca ab aa;clear b1 ba;have a3:=ae.mk aB;have b3:=ae.mk aw;clear aB aw;replace aL:=eq_true aL;replace aO:=eq_true aO;go_wp2_with (first | (refine pd 7 #[.int .i64 0,.slice none 0 0] 37 ?_;intro I hg hI hbox hb;have bo:=ae.mk (Kd.cI (Kd.ec (by (with_reducible repeat (first | apply Kd.b5 | apply Kd.b6 | apply Kd.bp));exact a7.out) I (Nat.le_of_eq hg.symm)) hb);have bs:=pm M hb;have bv:=ae.mk (Kd.dz (Kd.fa (by (with_reducible repeat (first | apply Kd.bh | apply Kd.bj | apply Kd.bz));exact U.out) I (Nat.le_of_eq hg.symm)) hb);have c0:=ne j hb;have d2:=ne J hb;have d3:=ae.mk (Kd.aJ (by repeat (first | (with_reducible exact a3.out) | (with_reducible refine Kd.cG ?_ _) | (with_reducible refine Kd.cH ?_ _) | (with_reducible refine Kd.cQ ?_) | exact a3.out)) hb);have d4:=np HB hb;have d5:=ae.mk hbox;have d6:=no hg HB;have d7:=no hg HB;have cb:=pk hg j;have cc:=pl hg j;have cd:=pk hg J;have ce:=pl hg J;clear a7;clear M;clear U;clear j;clear J;clear a3;clear HB;have a7:=bo;have M:=bs;have U:=bv;have j:=c0;have J:=d2;have a3:=d3;have HB:=d4;have ao:=d5;have df:=d6;have dk:=d7;have aP:=cb;have aR:=cc;have aS:=cd;have b0:=ce;clear bo bs bv c0 d2 d3 d4 d5 d6 d7 cb cc cd ce;clear hb hbox hg;have h9:=aR.out;have hj:=aP.out;have hl:=b0.out;have hm:=aS.out;obtain ⟨eq,es,et,ev⟩:=nz ao.out;have hn:=aF.out;have ho:=aE.out;obtain ⟨ex,eQ,f2,f3⟩:=nz J.out) | (refine nm (some 34) Tryz.func55 #[.agg #[.int .i64 ((av z y).f0),.slice Y ((av z y).f1).length a0],.agg #[.int .i64 a6,.slice am X.length a9]] ?_;(with_reducible refine (cn.calls k2 ((av z y).f0) _ _ ((av z y).f1) a6 _ _ X true _ ?side1 ?side2 ?side3 ?side4 eo.out).mono ?_);(case side1=>exact ol ((Kd.cz ((Kd.bC (Kd.dJ (p:=⟨I,1,none⟩) (Kd.dJ (p:=⟨I,0,none⟩) (Kd.bC U.out (fun k_ hk=>(⟨hk,hk.2⟩:_∧k_≠I))) (fun _ hk=>hk.2) (.int .i64 ((av z y).f0))) (fun _ hk=>hk.2) (.slice Y ((av z y).f1).length a0)) (fun _ h_=>h_.1)))).2.2));(case side2=>exact b3.out);(case side3=>refine (Kd.aC (e:=3) (base:=w.heap.size) (ok:=fun k_=>True) (n:=X.length) (c:=a9) ?_).2.2;exact (ac ((Kd.aX (Kd.bF (p:=⟨I,1,none⟩) (Kd.bF (p:=⟨I,0,none⟩) (Kd.bf M.out ao.out (by decide)) (fun _ hk=>hk.2) (.int .i64 ((av z y).f0))) (fun _ hk=>hk.2) (.slice Y ((av z y).f1).length a0)) (fun _ h_=>h_.1)))));(case side4=>exact (Kd.aC M.out).2.1);rintro e hJ ⟨rfl,hb⟩;refine ⟨_,rfl,?_⟩;replace a7:=ae.mk (Kd.cI (by (with_reducible repeat (first | apply Kd.b5 | apply Kd.b6 | apply Kd.bp));exact (Kd.ck (Kd.ep (p:=⟨I,1,none⟩) (Kd.ep (p:=⟨I,0,none⟩) (Kd.ck a7.out (fun k_ hk=>(⟨hk,hk.2⟩:_∧k_≠I))) (fun _ hk=>hk.2) (.int .i64 ((av z y).f0))) (fun _ hk=>hk.2) (.slice Y ((av z y).f1).length a0)) (fun _ h_=>h_.1))) hb);replace M:=ae.mk (Kd.cN (ac ((Kd.aX (Kd.bF (p:=⟨I,1,none⟩) (Kd.bF (p:=⟨I,0,none⟩) (Kd.bf M.out ao.out (by decide)) (fun _ hk=>hk.2) (.int .i64 ((av z y).f0))) (fun _ hk=>hk.2) (.slice Y ((av z y).f1).length a0)) (fun _ h_=>h_.1)))) hb);replace j:=ae.mk (aN (g:=al) (o:=.cells #[.int .i64 a2,.slice ap a4.length ar] 37 (0,0)) ph hb);replace J:=ae.mk (aN (g:=a1) (o:=.cells #[.int .i64 a6,.slice am X.length a9] 37 (0,0)) ph hb);replace a3:=ae.mk (Kd.aJ ((Kd.cz ((Kd.bC (Kd.dJ (p:=⟨I,1,none⟩) (Kd.dJ (p:=⟨I,0,none⟩) (Kd.bC U.out (fun k_ hk=>(⟨hk,hk.2⟩:_∧k_≠I))) (fun _ hk=>hk.2) (.int .i64 ((av z y).f0))) (fun _ hk=>hk.2) (.slice Y ((av z y).f1).length a0)) (fun _ h_=>h_.1)))).2.2) hb);replace U:=ae.mk (Kd.dz (by (with_reducible repeat (first | apply Kd.bh | apply Kd.bj | apply Kd.bz));exact (Kd.bC (Kd.dJ (p:=⟨I,1,none⟩) (Kd.dJ (p:=⟨I,0,none⟩) (Kd.bC U.out (fun k_ hk=>(⟨hk,hk.2⟩:_∧k_≠I))) (fun _ hk=>hk.2) (.int .i64 ((av z y).f0))) (fun _ hk=>hk.2) (.slice Y ((av z y).f1).length a0)) (fun _ h_=>h_.1))) hb);replace ao:=ae.mk (aN (g:=I) (o:=.cells #[.int .i64 ((av z y).f0),.slice Y ((av z y).f1).length a0] 37 (0,0)) ph hb);replace HB:=ae.mk (az na hb);(try clear hb);(try clear cl);(try clear hk);(try clear hi)));go_ret2
        exact ⟨pj,na⟩
       ·replace d9:=Bool.eq_false_iff.mpr d9
        subst d9;replace H:(bg.l0 k2 z (z.length:Int) (wrap64 (y+1)) a6 X) = some (r1,r2):=by rw [if_neg (show ¬ (false = true) by decide)] at H;exact H
        have H':=ae.mk H;clear H;have aL:0≤(y:Int):=pa;have aO:y < (z.length:Int):=pa;obtain ⟨db,Y,a0,cf,cp,b2,aw,aB⟩:=fN (Kd.ez a7.out).2.2 y aL aO;cases cf
        obtain ⟨dd,ba,bc,b1⟩:=Kd.kH a7.out z37 y aL (by first | exact aO | exact pa | (have e_:=(Kd.ez a7.out).1;omega));obtain ⟨cr,cx,rfl,aa,ab⟩:=ew bc;have a8:=b1 1 _ rfl;rw [e6 _ _ 1 (by omega)] at a8;replace a8:=Option.some.inj (a8.symm.trans b2);injection a8 with c1 d1 ca
        rw [c1] at ab;rw [ca] at aa;have U:=ae.mk (show Kd.V (Kd.int .i64) 3 _ w.heap.size _ _ ((av z y).f1) from Kd.jB aa ab);clear c1 d1 ca ab aa;clear b1 ba;have a3:=ae.mk aB;have b3:=ae.mk aw;clear aB aw;replace aL:=eq_true aL;replace aO:=eq_true aO;go_wp2_with (first | (refine pd 7 #[.int .i64 0,.slice none 0 0] 37 ?_;intro I hg hL hbox hb;have bo:=ae.mk (Kd.cI (Kd.ec (by (with_reducible repeat (first | apply Kd.b5 | apply Kd.b6 | apply Kd.bp));exact a7.out) I (Nat.le_of_eq hg.symm)) hb);have bs:=pm M hb;have bv:=ae.mk (Kd.dz (Kd.fa (by (with_reducible repeat (first | apply Kd.bh | apply Kd.bj | apply Kd.bz));exact U.out) I (Nat.le_of_eq hg.symm)) hb);have c0:=ne j hb;have d2:=ne J hb;have d3:=ae.mk (Kd.aJ (by repeat (first | (with_reducible exact a3.out) | (with_reducible refine Kd.cG ?_ _) | (with_reducible refine Kd.cH ?_ _) | (with_reducible refine Kd.cQ ?_) | exact a3.out)) hb);have d4:=np HB hb;have d5:=ae.mk hbox;have d6:=no hg HB;have d7:=no hg HB;have cb:=pk hg j;have cc:=pl hg j;have cd:=pk hg J;have ce:=pl hg J;clear a7;clear M;clear U;clear j;clear J;clear a3;clear HB;have a7:=bo;have M:=bs;have U:=bv;have j:=c0;have J:=d2;have a3:=d3;have HB:=d4;have ao:=d5;have df:=d6;have dk:=d7;have aP:=cb;have aR:=cc;have aS:=cd;have b0:=ce;clear bo bs bv c0 d2 d3 d4 d5 d6 d7 cb cc cd ce;clear hb hbox hg;have hq:=aR.out;have hr:=aP.out;have ht:=b0.out;have hu:=aS.out;obtain ⟨f4,f5,f6,f7⟩:=nz ao.out;have hx:=aF.out;have hz:=aE.out;obtain ⟨f8,f9,fd,fi⟩:=nz J.out) | (refine nm (some 34) Tryz.func55 #[.agg #[.int .i64 ((av z y).f0),.slice Y ((av z y).f1).length a0],.agg #[.int .i64 a6,.slice am X.length a9]] ?_;(with_reducible refine (cn.calls k2 ((av z y).f0) _ _ ((av z y).f1) a6 _ _ X false _ ?side1 ?side2 ?side3 ?side4 eo.out).mono ?_);(case side1=>exact ol ((Kd.cz ((Kd.bC (Kd.dJ (p:=⟨I,1,none⟩) (Kd.dJ (p:=⟨I,0,none⟩) (Kd.bC U.out (fun k_ hk=>(⟨hk,hk.2⟩:_∧k_≠I))) (fun _ hk=>hk.2) (.int .i64 ((av z y).f0))) (fun _ hk=>hk.2) (.slice Y ((av z y).f1).length a0)) (fun _ h_=>h_.1)))).2.2));(case side2=>exact b3.out);(case side3=>refine (Kd.aC (e:=3) (base:=w.heap.size) (ok:=fun k_=>True) (n:=X.length) (c:=a9) ?_).2.2;exact (ac ((Kd.aX (Kd.bF (p:=⟨I,1,none⟩) (Kd.bF (p:=⟨I,0,none⟩) (Kd.bf M.out ao.out (by decide)) (fun _ hk=>hk.2) (.int .i64 ((av z y).f0))) (fun _ hk=>hk.2) (.slice Y ((av z y).f1).length a0)) (fun _ h_=>h_.1)))));(case side4=>exact (Kd.aC M.out).2.1);rintro e hM ⟨rfl,hb⟩;refine ⟨_,rfl,?_⟩;replace a7:=ae.mk (Kd.cI (by (with_reducible repeat (first | apply Kd.b5 | apply Kd.b6 | apply Kd.bp));exact (Kd.ck (Kd.ep (p:=⟨I,1,none⟩) (Kd.ep (p:=⟨I,0,none⟩) (Kd.ck a7.out (fun k_ hk=>(⟨hk,hk.2⟩:_∧k_≠I))) (fun _ hk=>hk.2) (.int .i64 ((av z y).f0))) (fun _ hk=>hk.2) (.slice Y ((av z y).f1).length a0)) (fun _ h_=>h_.1))) hb);replace M:=ae.mk (Kd.cN (ac ((Kd.aX (Kd.bF (p:=⟨I,1,none⟩) (Kd.bF (p:=⟨I,0,none⟩) (Kd.bf M.out ao.out (by decide)) (fun _ hk=>hk.2) (.int .i64 ((av z y).f0))) (fun _ hk=>hk.2) (.slice Y ((av z y).f1).length a0)) (fun _ h_=>h_.1)))) hb);replace j:=ae.mk (aN (g:=al) (o:=.cells #[.int .i64 a2,.slice ap a4.length ar] 37 (0,0)) ph hb);replace J:=ae.mk (aN (g:=a1) (o:=.cells #[.int .i64 a6,.slice am X.length a9] 37 (0,0)) ph hb);replace a3:=ae.mk (Kd.aJ ((Kd.cz ((Kd.bC (Kd.dJ (p:=⟨I,1,none⟩) (Kd.dJ (p:=⟨I,0,none⟩) (Kd.bC U.out (fun k_ hk=>(⟨hk,hk.2⟩:_∧k_≠I))) (fun _ hk=>hk.2) (.int .i64 ((av z y).f0))) (fun _ hk=>hk.2) (.slice Y ((av z y).f1).length a0)) (fun _ h_=>h_.1)))).2.2) hb);replace U:=ae.mk (Kd.dz (by (with_reducible repeat (first | apply Kd.bh | apply Kd.bj | apply Kd.bz));exact (Kd.bC (Kd.dJ (p:=⟨I,1,none⟩) (Kd.dJ (p:=⟨I,0,none⟩) (Kd.bC U.out (fun k_ hk=>(⟨hk,hk.2⟩:_∧k_≠I))) (fun _ hk=>hk.2) (.int .i64 ((av z y).f0))) (fun _ hk=>hk.2) (.slice Y ((av z y).f1).length a0)) (fun _ h_=>h_.1))) hb);replace ao:=ae.mk (aN (g:=I) (o:=.cells #[.int .i64 ((av z y).f0),.slice Y ((av z y).f1).length a0] 37 (0,0)) ph hb);replace HB:=ae.mk (az na hb);(try clear hb);(try clear cl);(try clear hk);(try clear hi)));go_roundg k2;case measure=>have:=dE.out;have:=eh.out;omega
        case rel=>exact ⟨(wrap64 (y+1)),nb,H',⟨by have:=dE.out;have:=eh.out;omega⟩,⟨by (with_reducible repeat (first | apply Kd.b5 | apply Kd.b6 | apply Kd.bp));exact Kd.ck a7.out (fun _ hk=>⟨hk.1.1,⟨hk.1.2.1,hk.1.2.2⟩⟩)⟩,⟨ac M.out⟩,⟨o0 j.out⟩,⟨o0 J.out⟩,⟨n8 HB.out⟩⟩
      ·rw [if_neg co] at H
       have dv:decide (y < (z.length:Int)) = false:=decide_eq_false co;clear co;simp only [Option.some.injEq,Prod.mk.injEq] at H;obtain ⟨rfl,rfl⟩:=H;go_wp2;go_ret2
       exact ⟨pj,na⟩
end Pr
end
end Go.Proofs.YtlfkfdmggpipbaaGreat
