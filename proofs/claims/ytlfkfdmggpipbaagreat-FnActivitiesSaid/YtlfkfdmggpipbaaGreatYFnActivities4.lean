/- The claim FnActivities: every text that its row comes to, laid together by slim.py (the words of the kit's print, the printed walks, the pure law, the row). -/
import Derived.Test.YtlfkfdmggpipbaaGreatYFnActivities3
namespace Go.Proofs.YtlfkfdmggpipbaaGreat
section
namespace Pr
open Go.RowKit ag.aZ ag.bR ag.bT
attribute [local go_sem] js jt kr ku iU iV ju jv
set_option linter.unusedVariables false
set_option linter.unusedSimpArgs false
mutual
def au.l0:Nat→Int→Int→Int→Int→List Int→Option (Int)
 | 0,_,_,_,_,_=>none
 | k+1,Y,x5,z,j,y=>if z < j then ((bD.f j 0 8).bind fun a0=>(au.j1 k Y x5 z a0 j y)) else (au.j1 k Y x5 z false j y)
def au.j1:Nat→Int→Int→Int→Bool→Int→List Int→Option (Int)
 | 0,_,_,_,_,_,_=>none
 | k+1,Y,x5,z,a2,j,y=>if a2 = true then ((aI.f k j y Y z).bind fun X=>(if X = 0 then (au.l0 k Y x5 (wrap64 (z+1)) j y) else ((eE.f X).bind fun a1=>(if 0≤(IntKind.u64.wrap (z)) then (if a1 = (shl .i64 1 (IntKind.u64.wrap (z))) then (au.l0 k Y (Go.bits .or .i64 x5 (shl .i64 1 (IntKind.u64.wrap (z)))) (wrap64 (z+1)) j y) else (au.l0 k Y x5 (wrap64 (z+1)) j y)) else (none))))) else (some x5)
end
def au.f (k:Nat) (j:Int) (y:List Int) (z:Int):Option (Int):=au.l0 k z 0 0 j y
set_option maxHeartbeats 8000000 in
set_option maxRecDepth 100000 in
theorem au.calls (k:Nat) (z:Int) (a7:Option Addr) (a8:Nat) (X:List Int) (a1:Int) (r:Int) (w:World) (aO:Kd.C (Kd.int .i64) w a7 X.length X) (aP:X.length≤a8) (h:au.f k z X a1 = some r) :
  Calls Tryz.prog 30 #[.agg #[.int .i64 z,.slice a7 X.length a8],.int .i64 a1] w fun e w'=>e = .returned (.int .i64 r)∧Below w.heap.size w w':=by
 have dt:=Tryz.underlying37;have ao:=ae.mk aO;have ap:=ae.mk aP;clear aO aP;have HB:=ae.mk (Below.refl w.heap.size w);unfold au.f at h;have H:=h;clear h;have H':=ae.mk H;clear H;go_enter Tryz.func30,Tryz.ntmps30;go_wp2_with (first | ((with_reducible refine bu (N:=2) rfl ?_);refine zp 2 #[.int .i64 z,.slice a7 X.length a8] 37 ?_;intro aR hg w3 hbox hb;have y:=ae.mk hbox;have dd:=yv hg HB;have df:=yv hg HB;replace HB:=xi HB hb;clear hb hbox hg));go_loopg [5,6] k (fun kq v5 v6 w'=>∃ (Y:Int) (j:Int),v5 = .int .i64 Y∧v6 = .int .i64 j∧ae (au.l0 kq a1 Y j z X = some r)∧ae (kq≤k)∧ae (w'.heap[aR]? = some (.cells #[.int .i64 z,(.slice a7 X.length a8)] 37 (0,0)))∧ae (Below w.heap.size w w'))
 case atStart=>exact ⟨(0),(0),ww,ww,H',⟨Nat.le_refl _⟩,⟨xf y.out⟩,⟨wx HB.out⟩⟩
 case round =>
  clear H';obtain ⟨Y,j,rfl,rfl,HA,ab,y,HB⟩:=hrel;cases gk with
  | zero=>exact absurd HA.out (by simp [au.l0])
  | succ k1 =>
   have H:=HA.out;clear HA;simp only [au.l0] at H;have b3:=ae.mk H;clear H;go_upto_region 3 with (fail)
   go_cut [16] (fun dk wc=>∃ (kq:Nat) (a9:Bool),dk = .bool a9∧ae (au.j1 kq a1 Y j a9 z X = some r)∧ae (kq≤k1)∧ae (wc.heap[aR]? = some (.cells #[.int .i64 z,(.slice a7 X.length a8)] 37 (0,0)))∧ae (Below w.heap.size w wc))
   case first =>
    have H:=b3.out;clear b3;by_cases c5:j < z
    ·rw [if_pos c5] at H
     have am:=decide_eq_true c5;clear c5;(first | rw [am] | (simp only [b7,bC];rw [am]) | skip);obtain ⟨b2,A6,H⟩:=xa H;(try dsimp only at H);have H':=ae.mk H;clear H;obtain ⟨cy,d0,d1,d2⟩:=xv y.out;go_wp2_with (first | (go_at_call 46;(with_reducible refine (bD.calls z 0 8 b2 _ A6.out).mono ?_);rintro e w' ⟨rfl,⟨nd,rfl⟩⟩));go_meet
     case rel=>exact ⟨_,(b2),ww,H',⟨by have:=ab.out;first | omega | exact Nat.le_refl _⟩,⟨xf y.out⟩,⟨wx HB.out⟩⟩
    ·rw [if_neg c5] at H
     have am:decide (j < z) = false:=decide_eq_false c5;clear c5;(first | rw [am] | (simp only [b7,bC];rw [am]) | skip);have H':=ae.mk H;clear H;obtain ⟨d3,d4,d5,d6⟩:=xv y.out;go_wp2;go_meet
     case rel=>exact ⟨_,(false),ww,H',⟨by have:=ab.out;first | omega | exact Nat.le_refl _⟩,⟨xf y.out⟩,⟨wx HB.out⟩⟩
   case rest =>
    clear b3;obtain ⟨kq,a9,rfl,HA,aL,y,HB⟩:=hcut;cases kq with
    | zero=>exact absurd HA.out (by simp [au.j1])
    | succ a6 =>
     have H:=HA.out;clear HA;simp only [au.j1] at H;by_cases c9:a9 = true
     ·subst c9
      replace H:((aI.f a6 z X a1 j).bind fun a3=>(if a3 = 0 then (au.l0 a6 a1 Y (wrap64 (j+1)) z X) else ((eE.f a3).bind fun a4=>(if 0≤(IntKind.u64.wrap (j)) then (if a4 = (shl .i64 1 (IntKind.u64.wrap (j))) then (au.l0 a6 a1 (Go.bits .or .i64 Y (shl .i64 1 (IntKind.u64.wrap (j)))) (wrap64 (j+1)) z X) else (au.l0 a6 a1 Y (wrap64 (j+1)) z X)) else (none))))) = some r:=by rw [if_pos rfl] at H;exact H
      obtain ⟨a3,aS,H⟩:=xa H;(try dsimp only at H);by_cases ar:a3 = 0
      ·rw [if_pos ar] at H
       have b4:(a3 == 0) = true:=beq_iff_eq.mpr ar;have ba:(a3 != 0) = false:=bne_eq_false_iff_eq.mpr ar;clear ar;have H':=ae.mk H;clear H;obtain ⟨bo,bs,bv,c0⟩:=xv y.out;go_wp2_with (first | ((with_reducible refine aD (f:=78) rfl ?_);refine ws (some 22) Tryz.func78 #[.agg #[.int .i64 z,.slice a7 X.length a8],.int .i64 a1,.int .i64 j] ?_;(with_reducible refine (aI.calls a6 z _ _ X a1 j a3 _ ?side1 ?side2 aS.out).mono ?_);(case side1=>exact yi (Kd.aN ao.out HB.out));(case side2=>exact ap.out);rintro e du ⟨rfl,hb⟩;refine ⟨_,rfl,?_⟩;replace y:=xc y hb;replace HB:=xi HB hb;(try clear hb);(try clear c1);(try clear hk);(try clear hi)));go_roundg a6;case measure=>have:=ab.out;have:=aL.out;omega
       case rel=>exact ⟨(Y),(wrap64 (j+1)),ww,ww,H',⟨by have:=ab.out;have:=aL.out;omega⟩,⟨xf y.out⟩,⟨wx HB.out⟩⟩
      ·rw [if_neg ar] at H
       have b4:(a3 == 0) = false:=beq_eq_false_iff_ne.mpr ar;have ba:(a3 != 0) = true:=bne_iff_ne.mpr ar;obtain ⟨a4,b0,H⟩:=xa H;(try dsimp only at H);obtain ⟨a0,aa⟩:∃ j_:Int,(IntKind.u64.wrap (j)) = j_:=⟨_,rfl⟩
       replace H:(if 0≤(a0) then (if a4 = (shl .i64 1 (a0)) then (au.l0 a6 a1 (Go.bits .or .i64 Y (shl .i64 1 (a0))) (wrap64 (j+1)) z X) else (au.l0 a6 a1 Y (wrap64 (j+1)) z X)) else (none)) = some r:=by first | (rw [aa] at H;exact H) | (simp only [aa] at H ⊢;exact H)
       (try rw [aa] at aS);(try rw [aa] at b0);obtain ⟨bc,H⟩:=xt H;have dl:=eq_true bc;have dp:decide (0≤(a0)) = true:=decide_eq_true bc;clear bc;obtain ⟨a2,a5⟩:∃ j_:Int,(shl .i64 1 (a0)) = j_:=⟨_,rfl⟩
       replace H:(if a4 = (a2) then (au.l0 a6 a1 (Go.bits .or .i64 Y (a2)) (wrap64 (j+1)) z X) else (au.l0 a6 a1 Y (wrap64 (j+1)) z X)) = some r:=by first | (rw [a5] at H;exact H) | (simp only [a5] at H ⊢;exact H)
       (try rw [a5] at aS);(try rw [a5] at b0);have aB:(IntKind.i64.wrap (1 * 2 ^ min (a0).toNat 64)) = a2:=a5;have aF:(a0)≤64→(IntKind.i64.wrap (1 * 2 ^ (a0).toNat)) = a2:=eX a5;have d7:(IntKind.i64.wrap (2 ^ min (a0).toNat 64)) = a2:=by have h_:=aB;rw [Int.one_mul] at h_;exact h_
       have d8:(a0)≤64→(IntKind.i64.wrap (2 ^ (a0).toNat)) = a2:=fun ca=>by have h_:=aF ca;rw [Int.one_mul] at h_;exact h_
       have d9:(wrap64 (1 * 2 ^ min (a0).toNat 64)) = a2:=(b7 _).symm.trans aB;have db:(a0)≤64→(wrap64 (1 * 2 ^ (a0).toNat)) = a2:=fun h_=>(b7 _).symm.trans (aF h_)
       by_cases aw:a4 = (a2)
       ·rw [if_pos aw] at H
        have bi:(a4 == (a2)) = true:=beq_iff_eq.mpr aw;have bm:(a4 != (a2)) = false:=bne_eq_false_iff_eq.mpr aw;clear aw;have dq:=eq_true (yk:0≤(a0));have H':=ae.mk H;clear H;obtain ⟨cb,cc,ce,cf⟩:=xv y.out;go_wp2_with (first | ((with_reducible refine aD (f:=78) rfl ?_);refine ws (some 22) Tryz.func78 #[.agg #[.int .i64 z,.slice a7 X.length a8],.int .i64 a1,.int .i64 j] ?_;(with_reducible refine (aI.calls a6 z _ _ X a1 j a3 _ ?side1 ?side2 aS.out).mono ?_);(case side1=>exact yi (Kd.aN ao.out HB.out));(case side2=>exact ap.out);rintro e dv ⟨rfl,hb⟩;refine ⟨_,rfl,?_⟩;replace y:=xc y hb;replace HB:=xi HB hb;(try clear hb);(try clear c1);(try clear hk);(try clear hi)) | (go_at_call 79;(with_reducible refine (eE.calls a3 a4 _ b0.out).mono ?_);rintro e w' ⟨rfl,⟨nd,rfl⟩⟩));go_roundg a6;case measure=>have:=ab.out;have:=aL.out;omega
        case rel=>exact ⟨(Go.bits .or .i64 Y (a2)),(wrap64 (j+1)),(by first | rfl | (simp;done) | (simp only [← a5] <;> (first | rfl | simp)) | (simp [*];done)),ww,H',⟨by have:=ab.out;have:=aL.out;omega⟩,⟨xf y.out⟩,⟨wx HB.out⟩⟩
       ·rw [if_neg aw] at H
        have bi:(a4 == (a2)) = false:=beq_eq_false_iff_ne.mpr aw;have bm:(a4 != (a2)) = true:=bne_iff_ne.mpr aw;have H':=ae.mk H;clear H;obtain ⟨ci,cp,cq,cx⟩:=xv y.out;go_wp2_with (first | ((with_reducible refine aD (f:=78) rfl ?_);refine ws (some 22) Tryz.func78 #[.agg #[.int .i64 z,.slice a7 X.length a8],.int .i64 a1,.int .i64 j] ?_;(with_reducible refine (aI.calls a6 z _ _ X a1 j a3 _ ?side1 ?side2 aS.out).mono ?_);(case side1=>exact yi (Kd.aN ao.out HB.out));(case side2=>exact ap.out);rintro e dC ⟨rfl,hb⟩;refine ⟨_,rfl,?_⟩;replace y:=xc y hb;replace HB:=xi HB hb;(try clear hb);(try clear c1);(try clear hk);(try clear hi)) | (go_at_call 79;(with_reducible refine (eE.calls a3 a4 _ b0.out).mono ?_);rintro e w' ⟨rfl,⟨nd,rfl⟩⟩));go_roundg a6;case measure=>have:=ab.out;have:=aL.out;omega
        case rel=>exact ⟨(Y),(wrap64 (j+1)),ww,ww,H',⟨by have:=ab.out;have:=aL.out;omega⟩,⟨xf y.out⟩,⟨wx HB.out⟩⟩
     ·replace c9:=Bool.eq_false_iff.mpr c9
      subst c9;replace H:(some Y) = some r:=by rw [if_neg (show ¬ (false = true) by decide)] at H;exact H
      obtain rfl:=Option.some.inj H;go_wp2;go_ret;exact ⟨zd,wy⟩
mutual
def aM.j0:Nat→Int→List Int→List Int→Bool→Option (List Int)
 | 0,_,_,_,_=>none
 | k+1,Y,y,j,a0=>if a0 = true then (some j) else (aM.l0 k Y y j 0)
def aM.l0:Nat→Int→List Int→List Int→Int→Option (List Int)
 | 0,_,_,_,_=>none
 | k+1,Y,y,j,x6=>if x6 < (y.length:Int) then ((cn.f Y).bind fun z=>(if 0≤x6 then (if j.length < 17592186044416 then (aM.l0 k Y y (j ++ [wrap64 (z - (rd y x6))]) (wrap64 (x6+1))) else (none)) else (none))) else ((aC.f k j).bind fun X=>(some X))
end
def aM.f (k:Nat) (a0:Int) (l1:List Int):Option (List Int):=(some (([]:List Int):List Int)).bind fun j=>((bD.f a0 0 8).bind fun y=>(if y = true then ((bB.f k a0 l1).bind fun z=>(aM.j0 k a0 l1 j (!z))) else (aM.j0 k a0 l1 j true)))
def aM.T7:Bool×List (List Nat×List Nat):=(true,[([],[]),([],[]),([1],[1]),([],[]),([],[]),([3,4],[3,4]),([5],[5]),([2,6],[2,6]),([7],[7]),([0,8,2],[0,8]),([9,9,0,1,2,3,4,5,6,7,8,9],[0,9])])
def aM.B7:List Nat:=[0,0,2,0,0,24,56,126,254,511,1023]
theorem aM.zR:gv .any (opsOf Tryz.f136 7) = aM.T7:=by kernel_rfl
theorem aM.zm:eN aM.T7.2 aM.B7 = true:=by kernel_rfl
set_option maxHeartbeats 8000000 in
set_option maxRecDepth 100000 in
theorem aM.calls (k:Nat) (a0:Int) (A1:Option Addr) (c1:Nat) (l1:List Int) (r:List Int) (w:World) (bc:Kd.C (Kd.int .i64) w A1 l1.length l1) (bi:l1.length≤c1) (h:aM.f k a0 l1 = some r) :
  Calls Tryz.prog 136 #[.int .i64 a0,.slice A1 l1.length c1] w fun e w'=>∃ bm:Value,e = .returned (bm)∧Kd.R (Kd.int .i64) 3 w' w.heap.size (fun _=>True) bm r∧Below w.heap.size w w':=by
 have bo:=ae.mk bc;have cy:=ae.mk bi;clear bc bi;have HB:=ae.mk (Below.refl w.heap.size w);unfold aM.f at h;have H:=h;clear h;obtain ⟨Y,a5⟩:∃ y_:List Int,y_ = (([]:List Int)):=⟨_,rfl⟩
 replace H:((bD.f a0 0 8).bind fun a8=>(if a8 = true then ((bB.f k a0 l1).bind fun a3=>(aM.j0 k a0 l1 Y (!a3))) else (aM.j0 k a0 l1 Y true))) = some r:=by (try rw [a5]);exact AC
 have a9:=ae.mk a5;clear a5;have ao:=ae.mk H;clear H;go_enter Tryz.func136,Tryz.ntmps136;go_upto_region 2 with (first | (refine AL (Kd.int .i64) 3 7 ?_;intro bs w4 aa hb d0 ap;clear d0 ap;(first | rw [← a9.out] at aa | (simp only [Int.reduceToNat] at aa;rw [← a9.out] at aa));have ab:=ae.mk (Kd.b5 aa (ak (wx HB.out)));replace HB:=xi HB hb;clear hb aa))
 (try simp only [Act.put,List.setIfInBounds_toArray,List.set_cons_zero,List.set_cons_succ]);go_cut [16] (fun d1 wc=>∃ (kq:Nat) (a4:Bool),d1 = .bool a4∧ae (aM.j0 kq a0 l1 Y a4 = some r)∧ae (kq≤k)∧ae (Kd.R (Kd.int .i64) 3 wc w.heap.size (fun _=>True) bs Y)∧ae (Below w.heap.size w wc))
 case first =>
  have H:=ao.out;clear ao;obtain ⟨a8,A6,H⟩:=xa H;(try dsimp only at H);by_cases c7:a8 = true
  ·subst c7
   replace H:((bB.f k a0 l1).bind fun a3=>(aM.j0 k a0 l1 Y (!a3))) = some r:=by rw [if_pos rfl] at H;exact H
   obtain ⟨a3,A8,H⟩:=xa H;(try dsimp only at H);have H':=ae.mk H;clear H;go_wp2_with (first | ((with_reducible refine aD (f:=46) rfl ?_);refine ws (some 9) Tryz.func46 #[.int .i64 a0,.int .i64 0,.int .i64 8] ?_;(with_reducible refine (bD.calls a0 0 8 true _ A6.out).mono ?_);rintro e w' ⟨rfl,⟨nd,rfl⟩⟩;refine ⟨_,rfl,?_⟩) | (go_at_call 185;(with_reducible refine (bB.calls k a0 _ _ l1 a3 _ ?side1 ?side2 A8.out).mono ?_);(case side1=>exact yi (Kd.aN bo.out HB.out));(case side2=>exact cy.out);rintro e w' ⟨rfl,⟨nd,rfl⟩⟩));go_meet
   case rel=>exact ⟨_,(!a3),ww,H',⟨by first | omega | exact Nat.le_refl _⟩,⟨ac ab.out⟩,⟨wx HB.out⟩⟩
  ·replace c7:=Bool.eq_false_iff.mpr c7
   subst c7;replace H:(aM.j0 k a0 l1 Y true) = some r:=by rw [if_neg (show ¬ (false = true) by decide)] at H;exact H
   have H':=ae.mk H;clear H;go_wp2_with (first | ((with_reducible refine aD (f:=46) rfl ?_);refine ws (some 9) Tryz.func46 #[.int .i64 a0,.int .i64 0,.int .i64 8] ?_;(with_reducible refine (bD.calls a0 0 8 false _ A6.out).mono ?_);rintro e w' ⟨rfl,⟨nd,rfl⟩⟩;refine ⟨_,rfl,?_⟩));go_meet
   case rel=>exact ⟨_,(true),ww,H',⟨by first | omega | exact Nat.le_refl _⟩,⟨ac ab.out⟩,⟨wx HB.out⟩⟩
 case rest =>
  clear ao;obtain ⟨kq,a4,rfl,HA,bv,y,HB⟩:=hcut;cases kq with
  | zero=>exact absurd HA.out (by simp [aM.j0])
  | succ ar =>
   have H:=HA.out;clear HA;simp only [aM.j0] at H;by_cases c9:a4 = true
   ·subst c9
    replace H:(some Y) = some r:=by rw [if_pos rfl] at H;exact H
    obtain rfl:=Option.some.inj H;go_wp2;go_ret;exact ⟨_,zd,by (with_reducible repeat (first | apply Kd.cP | apply Kd.cQ | apply Kd.bY));exact y.out,wy⟩
   ·replace c9:=Bool.eq_false_iff.mpr c9
    subst c9;replace H:(aM.l0 ar a0 l1 Y 0) = some r:=by rw [if_neg (show ¬ (false = true) by decide)] at H;exact H
    have H':=ae.mk H;clear H;go_wp2;go_loopg [5,6] ar (fun kq v5 v6 w'=>∃ (a2:List Int) (z:Int),v6 = .int .i64 z∧ae (aM.l0 kq a0 l1 a2 z = some r)∧ae (kq≤ar)∧ae (Kd.R (Kd.int .i64) 3 w' w.heap.size (fun _=>True) v5 a2)∧ae (Below w.heap.size w w'))
    case atStart=>exact ⟨(Y),(0),ww,H',⟨Nat.le_refl _⟩,⟨ac y.out⟩,⟨wx HB.out⟩⟩
    case round =>
     clear H';obtain ⟨a2,z,rfl,HA,c0,y,HB⟩:=hrel;cases gk with
     | zero=>exact absurd HA.out (by simp [aM.l0])
     | succ k2 =>
      have H:=HA.out;clear HA;simp only [aM.l0] at H;by_cases iN:z < (l1.length:Int)
      ·rw [if_pos iN] at H
       have aw:=decide_eq_true iN;clear iN;obtain ⟨a7,d2,H⟩:=xa H;(try dsimp only at H);obtain ⟨ca,H⟩:=xt H;have d3:=decide_eq_true ca;clear ca;obtain ⟨cb,H⟩:=xt H;have aR:=ae.mk cb;clear cb;obtain ⟨am,a6⟩:∃ y_:List Int,y_ = (a2 ++ [wrap64 (a7 - (rd l1 z))]):=⟨_,rfl⟩
       replace H:(aM.l0 k2 a0 l1 am (wrap64 (z+1))) = some r:=by (try rw [a6]);exact AC
       have b0:=ae.mk a6;clear a6;have H':=ae.mk H;clear H;(try go_wp2);replace y:=ae.mk (Kd.bY y.out);replace HB:=ae.mk (bP HB.out);obtain ⟨b2,cc,X,d6,d7⟩:=At bo.out z;have j:=X;cases cc
       (try replace X:=(HB.out.cell (World.block_lt_of_cell? w _ X)).trans X);refine eT (n:=11) (S:=fun w'=>w'.cell? (b2.add (z).toNat) = some (.int .i64 (rd l1 z))) (ds:=[]) #[false,false,false,false,false,false,false,false,false,false,false] (by kernel_rfl) rfl rfl (((HB.out.cell (World.block_lt_of_cell? w _ j)).trans j)) (fun hHeld=>?_);refine da aM.zR aM.zm (fun a1 d4=>?_);generalize wr.drew = db at y HB X hHeld ⊢;refine wt 0 24 a1 ?_;refine wt 1 25 a1 ?_;refine wt 3 27 a1 ?_;refine wt 4 28 a1 ?_;refine wt 5 29 a1 ?_;refine m6 (i:=6) (N:=some 30) (v:=?_) (a':=?_) #[true,true,false,true,true,true,true,false,false,false,false] rfl rfl (kK a1.out d4.out (by kernel_rfl)) (fun _ _ _ h=>h) (Or.inl ⟨by rfl,?_⟩) hHeld ?_ ?_;rotate_left
       ·intro w' s0
        go_simp
        with_reducible rfl
       rotate_left
       ·simp only [Act.put,List.setIfInBounds_toArray,List.set_cons_zero,List.set_cons_succ,b7,bC]
        rfl
       refine fe (i:=2) (N:=some 26) #[true,true,true,true,true,true,true,false,false,false,false] rfl rfl (cH a1.out (by kernel_rfl)) (by decide) (fun K hK=>?_);refine eK Tryz.func83 (by kernel_rfl) rfl #[.int .i64 a0] (by rfl) rfl rfl (by (try simp only [List.map_toArray,List.map_cons,List.map_nil]);first | done | rfl) ?_;with_reducible refine (cn.calls a0 a7 _ d2.out).mono ?_
       rintro e w' ⟨rfl,⟨nd,rfl⟩⟩
       refine ⟨_,rfl,?_⟩;refine hK.out _ _ (((HB.out.cell (World.block_lt_of_cell? w _ j)).trans j)) (fun hHeld=>?_);clear hK K;refine dN (a':=?_) ?_ ?_;rotate_left
       ·show Act.put _ (some 26) _ = _
        simp only [Act.put,List.setIfInBounds_toArray,List.set_cons_zero,List.set_cons_succ,b7,bC];rfl
       refine wt 7 31 a1 ?_;refine fe (i:=8) (N:=some 32) #[true,true,true,true,true,true,true,true,true,false,false] rfl rfl (cH a1.out (by kernel_rfl)) (by decide) (fun K hK=>?_);refine mO (w1:=?_) (v:=?_) (by rfl) rfl ?_ ?_;rotate_left 2
       ·go_simp
        constructor
        ·rfl
        ·rfl
       refine hK.out _ _ ((World.cell?_alloc_lt _ _ _ (World.block_lt_of_cell? _ _ (((HB.out.cell (World.block_lt_of_cell? w _ j)).trans j)))).trans (((HB.out.cell (World.block_lt_of_cell? w _ j)).trans j))) (fun hHeld=>?_);clear hK K;refine dN (a':=?_) ?_ ?_;rotate_left
       ·show Act.put _ (some 32) _ = _
        simp only [Act.put,List.setIfInBounds_toArray,List.set_cons_zero,List.set_cons_succ,b7,bC];rfl
       refine fe (i:=9) (N:=some 33) #[true,true,true,true,true,true,true,true,true,true,false] rfl rfl (cH a1.out (by kernel_rfl)) (by decide) (fun K hK=>?_);refine Kd.gU (Kd.int .i64) (w0:=w) w.heap.size (by rfl) (.tmp 24) (.tmp 32) 22 3 (.int .i64 0) 8 rfl Tryz.underlying22 fb rfl (by decide) (by omega) u5 a2 (wrap64 (a7 - (rd l1 z))) [.int .i64 (wrap64 (a7 - (rd l1 z)))] (fun _=>True) (fun _=>False) rfl rfl ?aP (fun _ hk=>hk.elim) ?aF ?aO ?aB ?aS ?aL ?_;(case aP=>exact rfl);(case aB=>exact (wx HB.out));(case aF=>exact (fun _ _=>trivial));(case aO=>exact (ac y.out));(case aS=>exact (ak (wx HB.out)));(case aL=>have:=aR.out;omega);intro d8 dd ho hb hg hat;rw [← b0.out] at ho;have ce:=ae.mk hb;have cf:=ae.mk ho;clear HB;clear y;have HB:=ce;have b3:=cf;clear ce cf;clear ho hb hg hat;refine hK.out _ _ (((HB.out.cell (World.block_lt_of_cell? w _ j)).trans j)) (fun hHeld=>?_);clear hK K;refine dN (a':=?_) ?_ ?_;rotate_left
       ·show Act.put _ (some 33) _ = _
        simp only [Act.put,List.setIfInBounds_toArray,List.set_cons_zero,List.set_cons_succ,b7,bC];rfl
       refine wt 10 5 a1 ?_;refine fP (e9 a1.out (by kernel_rfl)) ?_;(try go_wp2);go_roundg k2;case measure=>have:=bv.out;have:=c0.out;omega
       case rel=>exact ⟨(am),(wrap64 (z+1)),ww,H',⟨by have:=bv.out;have:=c0.out;omega⟩,⟨ac b3.out⟩,⟨wx HB.out⟩⟩
      ·rw [if_neg iN] at H
       have aw:decide (z < (l1.length:Int)) = false:=decide_eq_false iN;clear iN;obtain ⟨ci,d5,H⟩:=xa H;(try dsimp only at H);obtain rfl:=Option.some.inj H;obtain ⟨cp,cq,cx⟩:=Kd.bk y.out;subst cx;go_wp2_with (first | ((with_reducible refine aD (f:=90) rfl ?_);refine ws (some 35) Tryz.func90 #[.slice cp a2.length cq] ?_;(with_reducible refine (aC.calls k2 _ _ a2 ci _ ?side1 ?side2 d5.out).mono ?_);(case side1=>exact yi ((Kd.az y.out).2.2));(case side2=>exact (Kd.az y.out).2.1);rintro e df ⟨d9,rfl,b4,hb⟩;refine ⟨_,rfl,?_⟩;have ba:=ae.mk (Kd.b5 (Kd.dy b4 (Kd.ek (ac y.out))) (ak (wx HB.out)));replace y:=ae.mk (Kd.cz (ac y.out) (Kd.cL b4) hb);replace HB:=xi HB hb;(try clear hb);(try clear dk);(try clear hk);(try clear hi);(try clear b4)));go_ret;exact ⟨_,zd,by (with_reducible repeat (first | apply Kd.cP | apply Kd.cQ | apply Kd.bY));exact Kd.aQ ba.out (fun _ hk=>trivial),wy⟩
def dV.f (k:Nat) (j:Int) (y:List Int):Option (Int×List Int):=(aY.f k j y).bind fun z=>(if z = true then ((aM.f k j y).bind fun X=>(some (j,X))) else (some (0,([]:List Int))))
def dV.T3:Bool×List (List Nat×List Nat):=(true,[([],[]),([0],[0]),([],[]),([2],[2]),([],[]),([4],[4]),([3,5],[3,5]),([1,6],[1,6]),([7,6,0,1,2,3,4,5,6,7],[7])])
def dV.B3:List Nat:=[0,1,0,4,0,16,60,127,255]
theorem dV.mQ:gv .any (opsOf Tryz.f82 3) = dV.T3:=by kernel_rfl
theorem dV.jY:eN dV.T3.2 dV.B3 = true:=by kernel_rfl
set_option maxHeartbeats 8000000 in
set_option maxRecDepth 100000 in
theorem dV.calls (k:Nat) (X:Int) (a2:Option Addr) (a3:Nat) (Y:List Int) (r1:Int) (r2:List Int) (w:World) (a9:Kd.C (Kd.int .i64) w a2 Y.length Y) (aa:Y.length≤a3) (h:dV.f k X Y = some (r1,r2)) :
  Calls Tryz.prog 82 #[.agg #[.int .i64 X,.slice a2 Y.length a3]] w fun e w'=>∃ aO:Value,e = .returned (.agg #[.int .i64 r1,aO])∧Kd.R (Kd.int .i64) 3 w' w.heap.size (fun _=>True) aO r2∧Below w.heap.size w w':=by
 have d3:=Tryz.underlying37;have a6:=ae.mk a9;have a7:=ae.mk aa;clear a9 aa;have HB:=ae.mk (Below.refl w.heap.size w);unfold dV.f at h;have H:=h;clear h;obtain ⟨aP,A2,H⟩:=xa H;(try dsimp only at H);by_cases c3:aP = true
 ·subst c3
  replace H:((aM.f k X Y).bind fun a5=>(some (X,a5))) = some (r1,r2):=by rw [if_pos rfl] at H;exact H
  obtain ⟨a5,A4,H⟩:=xa H;(try dsimp only at H);simp only [Option.some.injEq,Prod.mk.injEq] at H;obtain ⟨rfl,rfl⟩:=H;go_enter Tryz.func82,Tryz.ntmps82;(try go_wp2_with (first | (refine zp 1 #[.int .i64 X,.slice a2 Y.length a3] 37 ?_;intro a8 hg w5 hbox hb;have j:=ae.mk hbox;have ar:=yv hg HB;have aw:=yv hg HB;replace HB:=xi HB hb;clear hb hbox hg) | (refine zp 2 #[.int .i64 0,.slice none 0 0] 37 ?_;intro a0 hg w6 hbox hb;have z:=ae.mk hbox;have aB:=yv hg HB;have aF:=yv hg HB;replace HB:=xi HB hb;have y:=AJ hg j;have a1:=AK hg j;replace j:=xc j hb;clear hb hbox hg;have d4:=y.out;have d5:=a1.out;obtain ⟨cc,ce,cf,ci⟩:=xv j.out) | (refine ws (some 4) Tryz.func39 #[.agg #[.int .i64 X,.slice a2 Y.length a3]] ?_;(with_reducible refine (aY.calls k X _ _ Y true _ ?side1 ?side2 A2.out).mono ?_);(case side1=>exact yi (Kd.aN a6.out HB.out));(case side2=>exact a7.out);rintro e w9 ⟨rfl,hb⟩;refine ⟨_,rfl,?_⟩;replace j:=xc j hb;replace z:=xc z hb;replace HB:=xi HB hb;(try clear hb);(try clear aR);(try clear hk);(try clear hi))));replace j:=ae.mk (cM j.out);replace z:=ae.mk (cM z.out);replace HB:=ae.mk (bP HB.out);refine eT (n:=9) (S:=fun w'=>w'.cell? ⟨a8,0,none⟩ = some (.int .i64 X)∧w'.cell? ⟨a8,1,none⟩ = some (.slice a2 Y.length a3)) (ds:=[]) #[false,false,false,false,false,false,false,false,false] (by kernel_rfl) rfl rfl ⟨(ah j.out 0).trans rfl,(ah j.out 1).trans rfl⟩ (fun hHeld=>?_);refine da dV.mQ dV.jY (fun a4 aL=>?_);generalize w9.drew = d9 at j z HB hHeld ⊢;refine wt 0 7 a4 ?_;refine wt 2 9 a4 ?_;refine wt 4 11 a4 ?_;refine AF 1 8 a4 aL hHeld ?_;refine AF 3 10 a4 aL hHeld ?_;refine AF 5 12 a4 aL hHeld ?_;refine fe (i:=6) (N:=some 13) #[true,true,true,true,true,true,true,false,false] rfl rfl (cH a4.out (by kernel_rfl)) (by decide) (fun K hK=>?_);refine eK Tryz.func136 (by kernel_rfl) rfl #[.int .i64 X,.slice a2 Y.length a3] (by rfl) rfl rfl (by (try simp only [List.map_toArray,List.map_cons,List.map_nil]);first | done | rfl) ?_;with_reducible refine (aM.calls k X _ _ Y a5 _ ?side1 ?side2 A4.out).mono ?_
  (case side1=>exact yi (Kd.aN a6.out HB.out));(case side2=>exact a7.out);rintro e aS ⟨d6,rfl,b0,hb⟩
  refine ⟨_,rfl,?_⟩;have ab:=ae.mk (Kd.b5 b0 (ak (wx HB.out)));replace j:=xc j hb;replace z:=xc z hb;replace HB:=xi HB hb;(try clear hb);(try clear aR);(try clear hk);(try clear hi);(try clear b0);obtain ⟨am,ao,ap⟩:=Kd.bk ab.out;(first | subst ap | (injection ap with b2 cp b3;have cq:=b2.symm;have cx:=b3.symm;clear b2 cp b3;subst cq;subst cx));refine hK.out _ _ ⟨(ah j.out 0).trans rfl,(ah j.out 1).trans rfl⟩ (fun hHeld=>?_);clear hK K;refine dN (a':=?_) ?_ ?_;rotate_left
  ·show Act.put _ (some 13) _ = _
   simp only [Act.put,List.setIfInBounds_toArray,List.set_cons_zero,List.set_cons_succ,b7,bC];rfl
  refine wt 7 14 a4 ?_;refine fe (i:=8) (N:=none) #[true,true,true,true,true,true,true,true,true] rfl rfl (cH a4.out (by kernel_rfl)) (by decide) (fun K hK=>?_);have d7:aS.cell? ⟨a0,0,none⟩ = some (.int .i64 0):=(ah z.out 0).trans rfl;have cy:=aj z.out 0;have b4:=y.out;have ba:=a1.out;have d8:aS.cell? ⟨a0,1,none⟩ = some (.slice none 0 0):=(ah z.out 1).trans rfl;have d0:=aj z.out 1;have bc:=y.out;have bi:=a1.out;refine nk (w1:=?_) (by rfl) rfl ?_ ?_;rotate_left
  ·go_simp
   rfl
  refine hK.out _ _ ⟨((cell_far (p:=⟨a0,_,none⟩) y.out _).trans (((cell_far (p:=⟨a0,_,none⟩) y.out _).trans (hHeld.1)))),((cell_far (p:=⟨a0,_,none⟩) y.out _).trans (((cell_far (p:=⟨a0,_,none⟩) y.out _).trans (hHeld.2))))⟩ (fun hHeld=>?_);clear hK K;refine fP (e9 a4.out (by kernel_rfl)) ?_;(try go_wp2);refine bodyPost_ret (results_cell_row rfl _ _ a0 37 #[.int .i64 X,.slice am a5.length ao] (0,0) _ rfl AE Tryz.underlying37 rfl (by kernel_rfl)) rfl ?_;exact ⟨_,zd,by (with_reducible repeat (first | apply Kd.cP | apply Kd.cQ | apply Kd.bY));exact Kd.aQ (Kd.bU (p:=⟨a0,1,none⟩) (Kd.bU (p:=⟨a0,0,none⟩) (Kd.cr ab.out z.out (by decide)) (fun _ hk=>hk.2) (.int .i64 X)) (fun _ hk=>hk.2) (.slice am a5.length ao)) (fun _ hk=>trivial),wy⟩
 ·replace c3:=Bool.eq_false_iff.mpr c3
  subst c3;replace H:(some (0,([]:List Int))) = some (r1,r2):=by rw [if_neg (show ¬ (false = true) by decide)] at H;exact H
  simp only [Option.some.injEq,Prod.mk.injEq] at H;obtain ⟨rfl,rfl⟩:=H;go_enter Tryz.func82,Tryz.ntmps82;go_wp2_with (first | (refine zp 1 #[.int .i64 X,.slice a2 Y.length a3] 37 ?_;intro a8 hg db hbox hb;have j:=ae.mk hbox;have ar:=yv hg HB;have aw:=yv hg HB;replace HB:=xi HB hb;clear hb hbox hg) | (refine zp 2 #[.int .i64 0,.slice none 0 0] 37 ?_;intro a0 hg dd hbox hb;have z:=ae.mk hbox;have aB:=yv hg HB;have aF:=yv hg HB;replace HB:=xi HB hb;have y:=AJ hg j;have a1:=AK hg j;replace j:=xc j hb;clear hb hbox hg;have d1:=y.out;have d2:=a1.out;obtain ⟨bm,bo,bs,bv⟩:=xv j.out) | (refine ws (some 4) Tryz.func39 #[.agg #[.int .i64 X,.slice a2 Y.length a3]] ?_;(with_reducible refine (aY.calls k X _ _ Y false _ ?side1 ?side2 A2.out).mono ?_);(case side1=>exact yi (Kd.aN a6.out HB.out));(case side2=>exact a7.out);rintro e df ⟨rfl,hb⟩;refine ⟨_,rfl,?_⟩;replace j:=xc j hb;replace z:=xc z hb;replace HB:=xi HB hb;(try clear hb);(try clear aR);(try clear hk);(try clear hi);obtain ⟨c0,c1,ca,cb⟩:=xv z.out));refine bodyPost_ret (results_cell_row rfl _ _ a0 37 #[.int .i64 0,.slice none 0 0] (0,0) _ rfl AE Tryz.underlying37 rfl (by kernel_rfl)) rfl ?_;exact ⟨_,zd,af.N,wy⟩
def aV.j0:Nat→Int→Bool→Int→List Int→Option (Int)
 | 0,_,_,_,_=>none
 | k+1,x1,a0,j,y=>if a0 = true then (some 0) else ((dV.f k j y).bind fun z=>((cn.f j).bind fun X=>((au.f k z.1 z.2 (wrap64 (X - x1))).bind fun Y=>(some Y))))
def aV.f (k:Nat) (y:Int) (j:List Int) (Y:Int):Option (Int):=(aY.f k y j).bind fun z=>(if z = true then ((bj.f k j Y).bind fun X=>(aV.j0 k Y (!X) y j)) else (aV.j0 k Y true y j))
def aV.T3:Bool×List (List Nat×List Nat):=(true,[([],[]),([0],[0]),([],[]),([2],[2]),([3,1],[3]),([],[]),([4,5],[4,5]),([1,6,4],[1,6]),([7,7,0,1,2,3,4,5,6,7],[7])])
def aV.B3:List Nat:=[0,1,0,4,15,0,63,127,255]
theorem aV.mQ:gv .any (opsOf Tryz.f32 3) = aV.T3:=by kernel_rfl
theorem aV.jY:eN aV.T3.2 aV.B3 = true:=by kernel_rfl
set_option maxHeartbeats 8000000 in
set_option maxRecDepth 100000 in
theorem aV.calls (k:Nat) (z:Int) (X:Option Addr) (Y:Nat) (y:List Int) (a1:Int) (r:Int) (w:World) (a9:Kd.C (Kd.int .i64) w X y.length y) (aa:y.length≤Y) (h:aV.f k z y a1 = some r) :
  Calls Tryz.prog 32 #[.agg #[.int .i64 z,.slice X y.length Y],.int .i64 a1] w fun e w'=>e = .returned (.int .i64 r)∧Below w.heap.size w w':=by
 have d1:=Tryz.underlying37;have a3:=ae.mk a9;have a4:=ae.mk aa;clear a9 aa;have HB:=ae.mk (Below.refl w.heap.size w);unfold aV.f at h;have H:=h;clear h;have aF:=ae.mk H;clear H;go_enter Tryz.func32,Tryz.ntmps32;go_upto_region 1 with (first | ((with_reducible refine bu (N:=2) rfl ?_);refine zp 2 #[.int .i64 z,.slice X y.length Y] 37 ?_;intro a7 hg w4 hbox hb;have j:=ae.mk hbox;have cc:=yv hg HB;have ce:=yv hg HB;replace HB:=xi HB hb;clear hb hbox hg))
 (try simp only [Act.put,List.setIfInBounds_toArray,List.set_cons_zero,List.set_cons_succ]);go_cut [14] (fun cf wc=>∃ (kq:Nat) (a5:Bool),cf = .bool a5∧ae (aV.j0 kq a1 a5 z y = some r)∧ae (kq≤k)∧ae (wc.heap[a7]? = some (.cells #[.int .i64 z,(.slice X y.length Y)] 37 (0,0)))∧ae (Below w.heap.size w wc))
 case first =>
  have H:=aF.out;clear aF;obtain ⟨aO,A5,H⟩:=xa H;(try dsimp only at H);by_cases c6:aO = true
  ·subst c6
   replace H:((bj.f k y a1).bind fun a8=>(aV.j0 k a1 (!a8) z y)) = some r:=by rw [if_pos rfl] at H;exact H
   obtain ⟨a8,A7,H⟩:=xa H;(try dsimp only at H);have H':=ae.mk H;clear H;obtain ⟨c0,c1,ca,cb⟩:=xv j.out;go_wp2_with (first | ((with_reducible refine aD (f:=39) rfl ?_);refine ws (some 6) Tryz.func39 #[.agg #[.int .i64 z,.slice X y.length Y]] ?_;(with_reducible refine (aY.calls k z _ _ y true _ ?side1 ?side2 A5.out).mono ?_);(case side1=>exact yi (Kd.aN a3.out HB.out));(case side2=>exact a4.out);rintro e w9 ⟨rfl,hb⟩;refine ⟨_,rfl,?_⟩;replace j:=xc j hb;replace HB:=xi HB hb;(try clear hb);(try clear aL);(try clear hk);(try clear hi);obtain ⟨aP,aR,aS,b0⟩:=xv j.out) | (go_at_call 81;(with_reducible refine (bj.calls k _ _ y a1 a8 _ ?side1 ?side2 A7.out).mono ?_);(case side1=>exact yi (Kd.aN a3.out HB.out));(case side2=>exact a4.out);rintro e w' ⟨rfl,⟨nd,rfl⟩⟩));go_meet
   case rel=>exact ⟨_,(!a8),ww,H',⟨by first | omega | exact Nat.le_refl _⟩,⟨xf j.out⟩,⟨wx HB.out⟩⟩
  ·replace c6:=Bool.eq_false_iff.mpr c6
   subst c6;replace H:(aV.j0 k a1 true z y) = some r:=by rw [if_neg (show ¬ (false = true) by decide)] at H;exact H
   have H':=ae.mk H;clear H;obtain ⟨b2,b3,b4,ba⟩:=xv j.out;go_wp2_with (first | ((with_reducible refine aD (f:=39) rfl ?_);refine ws (some 6) Tryz.func39 #[.agg #[.int .i64 z,.slice X y.length Y]] ?_;(with_reducible refine (aY.calls k z _ _ y false _ ?side1 ?side2 A5.out).mono ?_);(case side1=>exact yi (Kd.aN a3.out HB.out));(case side2=>exact a4.out);rintro e d3 ⟨rfl,hb⟩;refine ⟨_,rfl,?_⟩;replace j:=xc j hb;replace HB:=xi HB hb;(try clear hb);(try clear aL);(try clear hk);(try clear hi)));go_meet
   case rel=>exact ⟨_,(true),ww,H',⟨by first | omega | exact Nat.le_refl _⟩,⟨xf j.out⟩,⟨wx HB.out⟩⟩
 case rest =>
  clear aF;obtain ⟨kq,a5,rfl,HA,d4,j,HB⟩:=hcut;cases kq with
  | zero=>exact absurd HA.out (by simp [aV.j0])
  | succ ar =>
   have H:=HA.out;clear HA;simp only [aV.j0] at H;by_cases aw:a5 = true
   ·subst aw
    replace H:(some 0) = some r:=by rw [if_pos rfl] at H;exact H
    obtain rfl:=Option.some.inj H;go_wp2;go_ret;exact ⟨zd,wy⟩
   ·replace aw:=Bool.eq_false_iff.mpr aw
    subst aw;replace H:((dV.f ar z y).bind fun ab=>((cn.f z).bind fun a6=>((au.f ar ab.1 ab.2 (wrap64 (a6 - a1))).bind fun am=>(some am)))) = some r:=by rw [if_neg (show ¬ (false = true) by decide)] at H;exact H
    obtain ⟨⟨ao,ap⟩,ci,H⟩:=xa H;(try dsimp only at H);obtain ⟨a6,cp,H⟩:=xa H;(try dsimp only at H);obtain ⟨am,cq,H⟩:=xa H;(try dsimp only at H);obtain rfl:=Option.some.inj H;(try go_wp2);replace j:=ae.mk (cM j.out);replace HB:=ae.mk (bP HB.out);refine eT (n:=9) (S:=fun w'=>w'.cell? ⟨a7,0,none⟩ = some (.int .i64 z)∧w'.cell? ⟨a7,1,none⟩ = some (.slice X y.length Y)) (ds:=[]) #[false,false,false,false,false,false,false,false,false] (by kernel_rfl) rfl rfl ⟨(ah j.out 0).trans rfl,(ah j.out 1).trans rfl⟩ (fun hHeld=>?_);refine da aV.mQ aV.jY (fun a2 bc=>?_);generalize wc.drew = d5 at j HB hHeld ⊢;refine wt 2 17 a2 ?_;refine wt 5 20 a2 ?_;refine AF 0 15 a2 bc hHeld ?_;refine AF 3 18 a2 bc hHeld ?_;refine fe (i:=1) (N:=some 16) #[true,true,true,true,false,true,false,false,false] rfl rfl (cH a2.out (by kernel_rfl)) (by decide) (fun K hK=>?_);refine eK Tryz.func82 (by kernel_rfl) rfl #[.agg #[.int .i64 z,.slice X y.length Y]] (by rfl) rfl rfl (by (try simp only [List.map_toArray,List.map_cons,List.map_nil]);first | done | rfl) ?_;with_reducible refine (dV.calls ar z _ _ y ao ap _ ?side1 ?side2 ci.out).mono ?_
    (case side1=>exact yi (Kd.aN a3.out HB.out));(case side2=>exact a4.out);rintro e d6 ⟨d2,rfl,bi,hb⟩
    refine ⟨_,rfl,?_⟩;have a0:=ae.mk (Kd.b5 bi (ak (wx HB.out)));replace j:=xc j hb;replace HB:=xi HB hb;(try clear hb);(try clear aL);(try clear hk);(try clear hi);(try clear bi);refine hK.out _ _ ⟨(ah j.out 0).trans rfl,(ah j.out 1).trans rfl⟩ (fun hHeld=>?_);clear hK K;refine dN (a':=?_) ?_ ?_;rotate_left
    ·show Act.put _ (some 16) _ = _
     simp only [Act.put,List.setIfInBounds_toArray,List.set_cons_zero,List.set_cons_succ,b7,bC];rfl
    refine fe (i:=4) (N:=some 19) #[true,true,true,true,true,true,false,false,false] rfl rfl (cH a2.out (by kernel_rfl)) (by decide) (fun K hK=>?_);refine eK Tryz.func83 (by kernel_rfl) rfl #[.int .i64 z] (by rfl) rfl rfl (by (try simp only [List.map_toArray,List.map_cons,List.map_nil]);first | done | rfl) ?_;with_reducible refine (cn.calls z a6 _ cp.out).mono ?_
    rintro e w' ⟨rfl,⟨nd,rfl⟩⟩
    refine ⟨_,rfl,?_⟩;obtain ⟨bm,bo,aB⟩:=Kd.bk a0.out;(first | subst aB | (injection aB with bs cx bv;have cy:=bs.symm;have d0:=bv.symm;clear bs cx bv;subst cy;subst d0));refine hK.out _ _ ⟨(ah j.out 0).trans rfl,(ah j.out 1).trans rfl⟩ (fun hHeld=>?_);clear hK K;refine dN (a':=?_) ?_ ?_;rotate_left
    ·show Act.put _ (some 19) _ = _
     simp only [Act.put,List.setIfInBounds_toArray,List.set_cons_zero,List.set_cons_succ,b7,bC];rfl
    refine wt 6 21 a2 ?_;refine fe (i:=7) (N:=some 22) #[true,true,true,true,true,true,true,true,false] rfl rfl (cH a2.out (by kernel_rfl)) (by decide) (fun K hK=>?_);refine eK Tryz.func30 (by kernel_rfl) rfl #[.agg #[.int .i64 ao,.slice bm ap.length bo],.int .i64 (wrap64 (a6 - a1))] (by rfl) rfl rfl (by (try simp only [List.map_toArray,List.map_cons,List.map_nil]);first | done | rfl) ?_;with_reducible refine (au.calls ar ao _ _ ap (wrap64 (a6 - a1)) am _ ?side1 ?side2 cq.out).mono ?_
    (case side1=>exact yi ((Kd.az a0.out).2.2));(case side2=>exact (Kd.az a0.out).2.1);rintro e d7 ⟨rfl,hb⟩
    refine ⟨_,rfl,?_⟩;replace a0:=z2 a0 hb;replace j:=xc j hb;replace HB:=xi HB hb;(try clear hb);(try clear aL);(try clear hk);(try clear hi);refine hK.out _ _ ⟨(ah j.out 0).trans rfl,(ah j.out 1).trans rfl⟩ (fun hHeld=>?_);clear hK K;refine dN (a':=?_) ?_ ?_;rotate_left
    ·show Act.put _ (some 22) _ = _
     simp only [Act.put,List.setIfInBounds_toArray,List.set_cons_zero,List.set_cons_succ,b7,bC];rfl
    refine wt 8 4 a2 ?_;refine fP (e9 a2.out (by kernel_rfl)) ?_;(try go_wp2);go_ret;exact ⟨zd,wy⟩
def cj.l0:Nat→List Int→List Int→Int→Option (Bool)
 | 0,_,_,_=>none
 | k+1,y,z,j=>if j < (y.length:Int) then (if 0≤j then (if j < (z.length:Int) then (if (rd y j) = (rd z j) then (cj.l0 k y z (wrap64 (j+1))) else (some false)) else (none)) else (none)) else (some true)
def cj.f (k:Nat) (l0:List Int) (l1:List Int):Option (Bool):=if (l0.length:Int) = (l1.length:Int) then (cj.l0 k l0 l1 0) else (some false)
set_option maxHeartbeats 8000000 in
set_option maxRecDepth 100000 in
theorem cj.calls (k:Nat) (A0:Option Addr) (c0:Nat) (l0:List Int) (A1:Option Addr) (c1:Nat) (l1:List Int) (r:Bool) (w:World) (a2:Kd.C (Kd.int .i64) w A0 l0.length l0) (a3:l0.length≤c0) (a4:Kd.C (Kd.int .i64) w A1 l1.length l1) (a5:l1.length≤c1) (h:cj.f k l0 l1 = some r) :
  Calls Tryz.prog 35 #[.slice A0 l0.length c0,.slice A1 l1.length c1] w fun e w'=>e = .returned (.bool r)∧cT w w':=by
 have a6:=ae.mk a2;have aP:=ae.mk a3;clear a2 a3;have a7:=ae.mk a4;have aR:=ae.mk a5;clear a4 a5;unfold cj.f at h;have H:=h;clear h;by_cases c3:(l0.length:Int) = (l1.length:Int)
 ·rw [if_pos c3] at H
  have a8:((l0.length:Int) == (l1.length:Int)) = true:=beq_iff_eq.mpr c3;have a9:((l0.length:Int) != (l1.length:Int)) = false:=bne_eq_false_iff_eq.mpr c3;have aa:(l0.length == l1.length) = true:=by first | simpa using c3 | (simp at c3 ⊢;omega)
  clear c3;have H':=ae.mk H;clear H;go_enter Tryz.func35,Tryz.ntmps35;go_wp2;repeat (go_quiet (fail);try go_wp2)
  go_loopg [5] k (fun kq v5 w'=>∃ (j:Int),v5 = .int .i64 j∧ae (cj.l0 kq l0 l1 j = some r)∧ae (kq≤k)∧cT w w')
  case atStart=>exact ⟨(0),ww,H',⟨Nat.le_refl _⟩,zt⟩
  case round =>
   clear H';obtain ⟨j,rfl,HA,ab,⟨m1,rfl⟩⟩:=hrel;cases gk with
   | zero=>exact absurd HA.out (by simp [cj.l0])
   | succ k1 =>
    have H:=HA.out;clear HA;simp only [cj.l0] at H;by_cases c4:j < (l0.length:Int)
    ·rw [if_pos c4] at H
     have am:=decide_eq_true c4;clear c4;obtain ⟨c5,H⟩:=xt H;have aL:=decide_eq_true c5;clear c5;obtain ⟨c6,H⟩:=xt H;have aO:=decide_eq_true c6;clear c6;by_cases c7:(rd l0 j) = (rd l1 j)
     ·rw [if_pos c7] at H
      have ao:((rd l0 j) == (rd l1 j)) = true:=beq_iff_eq.mpr c7;have ap:((rd l0 j) != (rd l1 j)) = false:=bne_eq_false_iff_eq.mpr c7;clear c7;have H':=ae.mk H;clear H;obtain ⟨a0,y,z,ar,aw⟩:=At a6.out j;cases y
      obtain ⟨a1,X,Y,aB,aF⟩:=At a7.out j;cases X
      go_wp2;repeat (go_quiet (fail);try go_wp2)
      go_roundg k1;case measure=>have:=ab.out;omega
      case rel=>exact ⟨(wrap64 (j+1)),ww,H',⟨by have:=ab.out;omega⟩,zt⟩
     ·rw [if_neg c7] at H
      have ao:((rd l0 j) == (rd l1 j)) = false:=beq_eq_false_iff_ne.mpr c7;have ap:((rd l0 j) != (rd l1 j)) = true:=bne_iff_ne.mpr c7;obtain rfl:=Option.some.inj H;obtain ⟨a0,y,z,ar,aw⟩:=At a6.out j;cases y
      obtain ⟨a1,X,Y,aB,aF⟩:=At a7.out j;cases X
      go_wp2;repeat (go_quiet (fail);try go_wp2)
      go_ret;exact ⟨ww,zt⟩
    ·rw [if_neg c4] at H
     have am:decide (j < (l0.length:Int)) = false:=decide_eq_false c4;clear c4;obtain rfl:=Option.some.inj H;go_wp2;repeat (go_quiet (fail);try go_wp2)
     go_ret;exact ⟨ww,zt⟩
 ·rw [if_neg c3] at H
  have a8:((l0.length:Int) == (l1.length:Int)) = false:=beq_eq_false_iff_ne.mpr c3;have a9:((l0.length:Int) != (l1.length:Int)) = true:=bne_iff_ne.mpr c3;have aa:(l0.length == l1.length) = false:=by first | simpa using c3 | (simp at c3 ⊢;omega)
  obtain rfl:=Option.some.inj H;go_enter Tryz.func35,Tryz.ntmps35;go_wp2;repeat (go_quiet (fail);try go_wp2)
  go_ret;exact ⟨ww,zt⟩
def cv.l0:Nat→List (List Int)→List (List Int)→Int→Option (Bool)
 | 0,_,_,_=>none
 | k+1,z,X,j=>if j < (z.length:Int) then (if 0≤j then (if j < (X.length:Int) then ((cj.f k (di z j) (di X j)).bind fun y=>(if y = true then (cv.l0 k z X (wrap64 (j+1))) else (some false))) else (none)) else (none)) else (some true)
def cv.f (k:Nat) (l0:List (List Int)) (l1:List (List Int)):Option (Bool):=if (l0.length:Int) = (l1.length:Int) then (cv.l0 k l0 l1 0) else (some false)
set_option maxHeartbeats 8000000 in
set_option maxRecDepth 100000 in
theorem cv.calls (k:Nat) (A0:Option Addr) (c0:Nat) (l0:List (List Int)) (A1:Option Addr) (c1:Nat) (l1:List (List Int)) (r:Bool) (w:World) (aF:Kd.C (Kd.slice 3 (Kd.int .i64)) w A0 l0.length l0) (aL:l0.length≤c0) (aO:Kd.C (Kd.slice 3 (Kd.int .i64)) w A1 l1.length l1) (aP:l1.length≤c1) (h:cv.f k l0 l1 = some r) :
  Calls Tryz.prog 33 #[.slice A0 l0.length c0,.slice A1 l1.length c1] w fun e w'=>e = .returned (.bool r)∧cT w w':=by
 have aR:=ae.mk aF;have bo:=ae.mk aL;clear aF aL;have aS:=ae.mk aO;have bs:=ae.mk aP;clear aO aP;unfold cv.f at h;have H:=h;clear h;by_cases c3:(l0.length:Int) = (l1.length:Int)
 ·rw [if_pos c3] at H
  have b0:((l0.length:Int) == (l1.length:Int)) = true:=beq_iff_eq.mpr c3;have b2:((l0.length:Int) != (l1.length:Int)) = false:=bne_eq_false_iff_eq.mpr c3;have b3:(l0.length == l1.length) = true:=by first | simpa using c3 | (simp at c3 ⊢;omega)
  clear c3;have H':=ae.mk H;clear H;go_enter Tryz.func33,Tryz.ntmps33;go_wp2;repeat (go_quiet (fail);try go_wp2)
  go_loopg [5] k (fun kq v5 w'=>∃ (j:Int),v5 = .int .i64 j∧ae (cv.l0 kq l0 l1 j = some r)∧ae (kq≤k)∧cT w w')
  case atStart=>exact ⟨(0),ww,H',⟨Nat.le_refl _⟩,zt⟩
  case round =>
   clear H';obtain ⟨j,rfl,HA,b4,⟨m1,rfl⟩⟩:=hrel;cases gk with
   | zero=>exact absurd HA.out (by simp [cv.l0])
   | succ k1 =>
    have H:=HA.out;clear HA;simp only [cv.l0] at H;by_cases c4:j < (l0.length:Int)
    ·rw [if_pos c4] at H
     have ba:=decide_eq_true c4;clear c4;obtain ⟨c5,H⟩:=xt H;have bi:=decide_eq_true c5;clear c5;obtain ⟨c6,H⟩:=xt H;have bm:=decide_eq_true c6;clear c6;obtain ⟨bc,A7,H⟩:=xa H;(try dsimp only at H);by_cases c8:bc = true
     ·subst c8
      replace H:(cv.l0 k1 l0 l1 (wrap64 (j+1))) = some r:=by rw [if_pos rfl] at H;exact H
      have H':=ae.mk H;clear H;have a4:0≤(j:Int):=yk;have a5:j < (l0.length:Int):=yk;obtain ⟨aw,am,ao,a8,a9,a0,a1⟩:=kF aR.out j a4 a5;cases a8
      have y:=ae.mk a1;have z:=ae.mk a0;clear a1 a0;replace a4:=eq_true a4;replace a5:=eq_true a5;have a6:0≤(j:Int):=yk;have a7:j < (l1.length:Int):=yk;obtain ⟨aB,ap,ar,aa,ab,a2,a3⟩:=kF aS.out j a6 a7;cases aa
      have X:=ae.mk a3;have Y:=ae.mk a2;clear a3 a2;replace a6:=eq_true a6;replace a7:=eq_true a7;go_wp2_with (first | (go_at_call 35;(with_reducible refine (cj.calls k1 _ _ (di l0 j) _ _ (di l1 j) true _ ?side1 ?side2 ?side3 ?side4 A7.out).mono ?_);(case side1=>exact yi y.out);(case side2=>exact z.out);(case side3=>exact yi X.out);(case side4=>exact Y.out);rintro e w' ⟨rfl,⟨nd,rfl⟩⟩;(try exact AH)));repeat (go_quiet (first | (go_at_call 35;(with_reducible refine (cj.calls k1 _ _ (di l0 j) _ _ (di l1 j) true _ ?side1 ?side2 ?side3 ?side4 A7.out).mono ?_);(case side1=>exact yi y.out);(case side2=>exact z.out);(case side3=>exact yi X.out);(case side4=>exact Y.out);rintro e w' ⟨rfl,⟨nd,rfl⟩⟩;(try exact AH)));try go_wp2_with (first | (go_at_call 35;(with_reducible refine (cj.calls k1 _ _ (di l0 j) _ _ (di l1 j) true _ ?side1 ?side2 ?side3 ?side4 A7.out).mono ?_);(case side1=>exact yi y.out);(case side2=>exact z.out);(case side3=>exact yi X.out);(case side4=>exact Y.out);rintro e w' ⟨rfl,⟨nd,rfl⟩⟩;(try exact AH))))
      go_roundg k1;case measure=>have:=b4.out;omega
      case rel=>exact ⟨(wrap64 (j+1)),ww,H',⟨by have:=b4.out;omega⟩,zt⟩
     ·replace c8:=Bool.eq_false_iff.mpr c8
      subst c8;replace H:(some false) = some r:=by rw [if_neg (show ¬ (false = true) by decide)] at H;exact H
      obtain rfl:=Option.some.inj H;have a4:0≤(j:Int):=yk;have a5:j < (l0.length:Int):=yk;obtain ⟨aw,am,ao,a8,a9,a0,a1⟩:=kF aR.out j a4 a5;cases a8
      have y:=ae.mk a1;have z:=ae.mk a0;clear a1 a0;replace a4:=eq_true a4;replace a5:=eq_true a5;have a6:0≤(j:Int):=yk;have a7:j < (l1.length:Int):=yk;obtain ⟨aB,ap,ar,aa,ab,a2,a3⟩:=kF aS.out j a6 a7;cases aa
      have X:=ae.mk a3;have Y:=ae.mk a2;clear a3 a2;replace a6:=eq_true a6;replace a7:=eq_true a7;go_wp2_with (first | (go_at_call 35;(with_reducible refine (cj.calls k1 _ _ (di l0 j) _ _ (di l1 j) false _ ?side1 ?side2 ?side3 ?side4 A7.out).mono ?_);(case side1=>exact yi y.out);(case side2=>exact z.out);(case side3=>exact yi X.out);(case side4=>exact Y.out);rintro e w' ⟨rfl,⟨nd,rfl⟩⟩;(try exact AH)));repeat (go_quiet (first | (go_at_call 35;(with_reducible refine (cj.calls k1 _ _ (di l0 j) _ _ (di l1 j) false _ ?side1 ?side2 ?side3 ?side4 A7.out).mono ?_);(case side1=>exact yi y.out);(case side2=>exact z.out);(case side3=>exact yi X.out);(case side4=>exact Y.out);rintro e w' ⟨rfl,⟨nd,rfl⟩⟩;(try exact AH)));try go_wp2_with (first | (go_at_call 35;(with_reducible refine (cj.calls k1 _ _ (di l0 j) _ _ (di l1 j) false _ ?side1 ?side2 ?side3 ?side4 A7.out).mono ?_);(case side1=>exact yi y.out);(case side2=>exact z.out);(case side3=>exact yi X.out);(case side4=>exact Y.out);rintro e w' ⟨rfl,⟨nd,rfl⟩⟩;(try exact AH))))
      go_ret;exact ⟨ww,zt⟩
    ·rw [if_neg c4] at H
     have ba:decide (j < (l0.length:Int)) = false:=decide_eq_false c4;clear c4;obtain rfl:=Option.some.inj H;go_wp2;repeat (go_quiet (fail);try go_wp2)
     go_ret;exact ⟨ww,zt⟩
 ·rw [if_neg c3] at H
  have b0:((l0.length:Int) == (l1.length:Int)) = false:=beq_eq_false_iff_ne.mpr c3;have b2:((l0.length:Int) != (l1.length:Int)) = true:=bne_iff_ne.mpr c3;have b3:(l0.length == l1.length) = false:=by first | simpa using c3 | (simp at c3 ⊢;omega)
  obtain rfl:=Option.some.inj H;go_enter Tryz.func33,Tryz.ntmps33;go_wp2;repeat (go_quiet (fail);try go_wp2)
  go_ret;exact ⟨ww,zt⟩
def de.f (k:Nat) (y:Int) (j:List Int):Option (Int):=(aY.f k y j).bind fun z=>(if z = true then (if 0 < (j.length:Int) then ((b9.f k (rd j 0)).bind fun X=>(some X)) else (none)) else (some (-1)))
set_option maxHeartbeats 8000000 in
set_option maxRecDepth 100000 in
theorem de.calls (k:Nat) (X:Int) (Y:Option Addr) (a0:Nat) (j:List Int) (r:Int) (w:World) (a2:Kd.C (Kd.int .i64) w Y j.length j) (a3:j.length≤a0) (h:de.f k X j = some r) :
  Calls Tryz.prog 84 #[.agg #[.int .i64 X,.slice Y j.length a0]] w fun e w'=>e = .returned (.int .i64 r)∧Below w.heap.size w w':=by
 have ba:=Tryz.underlying37;have a1:=ae.mk a2;have a4:=ae.mk a3;clear a2 a3;have HB:=ae.mk (Below.refl w.heap.size w);unfold de.f at h;have H:=h;clear h;obtain ⟨ab,A2,H⟩:=xa H;(try dsimp only at H);by_cases c3:ab = true
 ·subst c3
  replace H:(if 0 < (j.length:Int) then ((b9.f k (rd j 0)).bind fun a5=>(some a5)) else (none)) = some r:=by rw [if_pos rfl] at H;exact H
  obtain ⟨c4,H⟩:=xt H;have bc:=decide_eq_true c4;have bi:decide (0 < j.length) = true:=decide_eq_true (by omega);clear c4;obtain ⟨a5,A5,H⟩:=xa H;(try dsimp only at H);obtain rfl:=Option.some.inj H;go_enter Tryz.func84,Tryz.ntmps84;go_wp2_with (first | (refine zp 1 #[.int .i64 X,.slice Y j.length a0] 37 ?_;intro a8 hg w6 hbox hb;have y:=ae.mk hbox;have a9:=yv hg HB;have aa:=yv hg HB;replace HB:=xi HB hb;clear hb hbox hg;obtain ⟨aB,aF,aL,aO⟩:=xv y.out) | (refine ws (some 4) Tryz.func39 #[.agg #[.int .i64 X,.slice Y j.length a0]] ?_;(with_reducible refine (aY.calls k X _ _ j true _ ?side1 ?side2 A2.out).mono ?_);(case side1=>exact yi (Kd.aN a1.out HB.out));(case side2=>exact a4.out);rintro e w8 ⟨rfl,hb⟩;refine ⟨_,rfl,?_⟩;replace y:=xc y hb;replace HB:=xi HB hb;(try clear hb);(try clear b2);(try clear hk);(try clear hi);obtain ⟨aP,aR,aS,b0⟩:=xv y.out;have a6:0≤(0:Int):=(by omega);have a7:0 < (j.length:Int):=yk;obtain ⟨b3,am,z⟩:=Kd.fC a1.out 0 a6 a7;cases am;have b4:(0 < j.length) = True:=eq_true (by omega);(try rw [show ((0:Int)).toNat = 0 from rfl] at z);(try rw [Addr.add_zero'] at z);replace z:=(HB.out.cell (World.block_lt_of_cell? w _ z)).trans z;replace a6:=eq_true a6;replace a7:=eq_true a7) | (refine ws (some 10) Tryz.func59 #[.int .i64 (rd j 0)] ?_;(with_reducible refine (b9.calls k (rd j 0) a5 _ A5.out).mono ?_);rintro e w' ⟨rfl,⟨nd,rfl⟩⟩;refine ⟨_,rfl,?_⟩));go_ret;exact ⟨zd,wy⟩
 ·replace c3:=Bool.eq_false_iff.mpr c3
  subst c3;replace H:(some (-1)) = some r:=by rw [if_neg (show ¬ (false = true) by decide)] at H;exact H
  obtain rfl:=Option.some.inj H;go_enter Tryz.func84,Tryz.ntmps84;go_wp2_with (first | (refine zp 1 #[.int .i64 X,.slice Y j.length a0] 37 ?_;intro a8 hg bm hbox hb;have y:=ae.mk hbox;have a9:=yv hg HB;have aa:=yv hg HB;replace HB:=xi HB hb;clear hb hbox hg;obtain ⟨ao,ap,ar,aw⟩:=xv y.out) | (refine ws (some 4) Tryz.func39 #[.agg #[.int .i64 X,.slice Y j.length a0]] ?_;(with_reducible refine (aY.calls k X _ _ j false _ ?side1 ?side2 A2.out).mono ?_);(case side1=>exact yi (Kd.aN a1.out HB.out));(case side2=>exact a4.out);rintro e bo ⟨rfl,hb⟩;refine ⟨_,rfl,?_⟩;replace y:=xc y hb;replace HB:=xi HB hb;(try clear hb);(try clear b2);(try clear hk);(try clear hi)));go_ret;exact ⟨zd,wy⟩
mutual
def aE.l0:Nat→List (List Int)→Int→Int→Int→List Int→Option ((List (List Int)))
 | 0,_,_,_,_,_=>none
 | k+1,Y,x4,x5,j,y=>if x5≤x4 then (if 0≤(wrap64 ((wrap64 (j - x4))+1)) then (if (wrap64 ((wrap64 (j - x4))+1):Int).toNat≤35184372088832 then (if Y.length < 5864062014805 then (aE.l0 k (Y ++ [(List.replicate (wrap64 ((wrap64 (j - x4))+1):Int).toNat 0)]) x4 (wrap64 (x5+1)) j y) else (none)) else (none)) else (none)) else (aE.l1 k Y 0 j y)
def aE.l1:Nat→List (List Int)→Int→Int→List Int→Option ((List (List Int)))
 | 0,_,_,_,_=>none
 | k+1,Y,x6,j,y=>if x6 < (y.length:Int) then (if 0≤x6 then ((aV.f k j y (rd y x6)).bind fun a0=>((b9.f k a0).bind fun z=>((au.f k j y (rd y x6)).bind fun a1=>((b9.f k a1).bind fun X=>(if 0≤z then (if z < (Y.length:Int) then (if 0≤X then (if X < ((di Y z).length:Int) then (aE.l1 k (Y.set (z:Int).toNat ((di Y z).set (X:Int).toNat (wrap64 ((rd (di Y z) X)+1)))) (wrap64 (x6+1)) j y) else (none)) else (none)) else (none)) else (none)))))) else (none)) else (some Y)
end
def aE.f (k:Nat) (j:Int) (y:List Int):Option ((List (List Int))):=(some (([]:List (List Int)):List (List Int))).bind fun z=>((de.f k j y).bind fun X=>(if X < 0 then (some z) else (aE.l0 k z X 0 j y)))
def aE.Ah:Bool×List (List Nat×List Nat):=(true,[([],[]),([],[]),([1],[1]),([],[]),([2,3],[2,3]),([4],[4]),([0,5],[0,5]),([6,6],[6]),([7,7,0,1,2,3,4,5,6,7],[7])])
def aE.Au:List Nat:=[0,0,2,0,14,30,63,127,255]
theorem aE.zn:gv .any (opsOf Tryz.f34 12) = aE.Ah:=by kernel_rfl
theorem aE.yx:eN aE.Ah.2 aE.Au = true:=by kernel_rfl
def aE.Ai:Bool×List (List Nat×List Nat):=(true,[([],[]),([],[]),([1],[1]),([],[]),([2,3],[2,3]),([4],[4]),([0,5],[0,5]),([6,6],[6]),([7,7,0,1,2,3,4,5,6,7],[7])])
def aE.Av:List Nat:=[0,0,2,0,14,30,63,127,255]
theorem aE.zo:gv .any (opsOf Tryz.f34 13) = aE.Ai:=by kernel_rfl
theorem aE.yy:eN aE.Ai.2 aE.Av = true:=by kernel_rfl
def aE.Aj:Bool×List (List Nat×List Nat):=(true,[([],[]),([],[]),([0,1],[0,1]),([2],[2]),([],[]),([],[]),([],[]),([5,6],[5,6]),([7],[7]),([],[]),([8,9],[8,9]),([10],[10]),([11],[11]),([3,4,0,1,2,3,4,5,6,7,8,9,10,11,12],[3,4]),([13,12,0,1,2,3,4,5,6,7,8,9,10,11,12],[12,13])])
def aE.Aw:List Nat:=[0,0,3,7,0,0,0,96,224,0,992,2016,4064,8191,16383]
theorem aE.zq:gv .any (opsOf Tryz.f34 14) = aE.Aj:=by kernel_rfl
theorem aE.yz:eN aE.Aj.2 aE.Aw = true:=by kernel_rfl
set_option maxHeartbeats 8000000 in
set_option maxRecDepth 100000 in
theorem aE.calls (k:Nat) (X:Int) (b0:Option Addr) (a4:Nat) (y:List Int) (r:List (List Int)) (w:World) (e8:Kd.C (Kd.int .i64) w b0 y.length y) (ea:y.length≤a4) (h:aE.f k X y = some r) :
  Calls Tryz.prog 34 #[.agg #[.int .i64 X,.slice b0 y.length a4]] w fun e w'=>∃ gt:Value,e = .returned (gt)∧Kd.S (Kd.slice 3 (Kd.int .i64)) 22 w' w.heap.size (fun _=>True) gt r∧Below w.heap.size w w':=by
 have lj:=Tryz.underlying37;have ba:=ae.mk e8;have ca:=ae.mk ea;clear e8 ea;have HB:=ae.mk (Below.refl w.heap.size w);unfold aE.f at h;have H:=h;clear h;obtain ⟨eb,d7⟩:∃ y_:List (List Int),y_ = (([]:List (List Int))):=⟨_,rfl⟩
 replace H:((de.f k X y).bind fun a5=>(if a5 < 0 then (some eb) else (aE.l0 k eb a5 0 X y))) = some r:=by (try rw [d7]);exact AC
 have cb:=ae.mk d7;clear d7;obtain ⟨a5,A2,H⟩:=xa H;(try dsimp only at H);by_cases c3:a5 < 0
 ·rw [if_pos c3] at H
  have h0:=decide_eq_true c3;clear c3;obtain rfl:=Option.some.inj H;go_enter Tryz.func34,Tryz.ntmps34;go_wp2_with (first | (refine zp 1 #[.int .i64 X,.slice b0 y.length a4] 37 ?_;intro a2 hg w4 hbox hb;have j:=ae.mk hbox;have fj:=yv hg HB;have ec:=yv hg HB;replace HB:=xi HB hb;clear hb hbox hg) | ((with_reducible refine bu (N:=9) rfl ?_);refine Kd.qP (Kd.slice 3 (Kd.int .i64)) _ 22 ?hg (N:=9) ?hd (xs:=([]:List (List Int))) (inner:=[]) (ok:=fun _=>True) (okp:=fun _=>True) ?hr ?hp (fun _ hk=>hk) trivial (Below.refl _ _) (Nat.le_refl _) (by simp) ?_;(case hd=>rfl);(case hg=>rfl);(case hr=>first | (go_simp;done) | (go_simp;rfl));(case hp=>exact (cY.none _ _));intro h6 w5 ed hb ee bi;clear ee bi;(first | rw [← cb.out] at ed | (simp only [Int.reduceToNat] at ed;rw [← cb.out] at ed));have aR:=ae.mk (Kd.j3 ed (ak (wx HB.out)));replace j:=xc j hb;replace HB:=xi HB hb;clear hb ed;obtain ⟨ih,ii,il,im⟩:=xv j.out) | (refine ws (some 11) Tryz.func84 #[.agg #[.int .i64 X,.slice b0 y.length a4]] ?_;(with_reducible refine (de.calls k X _ _ y a5 _ ?side1 ?side2 A2.out).mono ?_);(case side1=>exact yi (Kd.aN ba.out HB.out));(case side2=>exact ca.out);rintro e w8 ⟨rfl,hb⟩;refine ⟨_,rfl,?_⟩;replace aR:=ae.mk (Kd.eM (AG aR.out) hb);replace j:=xc j hb;replace HB:=xi HB hb;(try clear hb);(try clear fp);(try clear hk);(try clear hi)));go_ret;exact ⟨_,zd,by (with_reducible repeat (first | apply Kd.l8 | apply Kd.l9 | apply Kd.iH));exact aR.out,wy⟩
 ·rw [if_neg c3] at H
  have h0:decide (a5 < 0) = false:=decide_eq_false c3;clear c3;have H':=ae.mk H;clear H;go_enter Tryz.func34,Tryz.ntmps34;go_wp2_with (first | (refine zp 1 #[.int .i64 X,.slice b0 y.length a4] 37 ?_;intro a2 hg w9 hbox hb;have j:=ae.mk hbox;have fj:=yv hg HB;have ec:=yv hg HB;replace HB:=xi HB hb;clear hb hbox hg) | ((with_reducible refine bu (N:=9) rfl ?_);refine Kd.qP (Kd.slice 3 (Kd.int .i64)) _ 22 ?hg (N:=9) ?hd (xs:=([]:List (List Int))) (inner:=[]) (ok:=fun _=>True) (okp:=fun _=>True) ?hr ?hp (fun _ hk=>hk) trivial (Below.refl _ _) (Nat.le_refl _) (by simp) ?_;(case hd=>rfl);(case hg=>rfl);(case hr=>first | (go_simp;done) | (go_simp;rfl));(case hp=>exact (cY.none _ _));intro h6 m1 cp hb ee bi;clear ee bi;(first | rw [← cb.out] at cp | (simp only [Int.reduceToNat] at cp;rw [← cb.out] at cp));have aR:=ae.mk (Kd.j3 cp (ak (wx HB.out)));replace j:=xc j hb;replace HB:=xi HB hb;clear hb cp;obtain ⟨h7,h8,h9,hj⟩:=xv j.out) | (refine ws (some 11) Tryz.func84 #[.agg #[.int .i64 X,.slice b0 y.length a4]] ?_;(with_reducible refine (de.calls k X _ _ y a5 _ ?side1 ?side2 A2.out).mono ?_);(case side1=>exact yi (Kd.aN ba.out HB.out));(case side2=>exact ca.out);rintro e m2 ⟨rfl,hb⟩;refine ⟨_,rfl,?_⟩;replace aR:=ae.mk (Kd.eM (AG aR.out) hb);replace j:=xc j hb;replace HB:=xi HB hb;(try clear hb);(try clear fp);(try clear hk);(try clear hi)));go_loopg [3,5] k (fun kq v3 v5 w'=>∃ (aw:List (List Int)) (b2:Int),v5 = .int .i64 b2∧ae (aE.l0 kq aw a5 b2 X y = some r)∧ae (kq≤k)∧ae (Kd.S (Kd.slice 3 (Kd.int .i64)) 22 w' w.heap.size (fun _=>True) v3 aw)∧ae (w'.heap[a2]? = some (.cells #[.int .i64 X,(.slice b0 y.length a4)] 37 (0,0)))∧ae (Below w.heap.size w w'))
  case atStart=>exact ⟨(eb),(0),ww,H',⟨Nat.le_refl _⟩,⟨AG aR.out⟩,⟨xf j.out⟩,⟨wx HB.out⟩⟩
  case round =>
   clear H';obtain ⟨aw,b2,rfl,HA,ew,z,j,HB⟩:=hrel;cases gk with
   | zero=>exact absurd HA.out (by simp [aE.l0])
   | succ k1 =>
    have H:=HA.out;clear HA;simp only [aE.l0] at H;by_cases e0:b2≤a5
    ·rw [if_pos e0] at H
     have fs:=decide_eq_true e0;clear e0;obtain ⟨b3,d8⟩:∃ j_:Int,(wrap64 ((wrap64 (X - a5))+1)) = j_:=⟨_,rfl⟩
     replace H:(if 0≤(b3) then (if (b3:Int).toNat≤35184372088832 then (if aw.length < 5864062014805 then (aE.l0 k1 (aw ++ [(List.replicate (b3:Int).toNat 0)]) a5 (wrap64 (b2+1)) X y) else (none)) else (none)) else (none)) = some r:=by first | (rw [d8] at H;exact H) | (simp only [d8] at H ⊢;exact H)
     have io:(IntKind.i64.wrap ((wrap64 (X - a5))+1)) = b3:=(b7 _).trans d8;obtain ⟨ft,H⟩:=xt H;have k4:=eq_true ft;have k5:decide (0≤(b3)) = true:=decide_eq_true ft;clear ft;obtain ⟨fw,H⟩:=xt H;have ka:=eq_true fw;have kb:decide ((b3:Int).toNat≤35184372088832) = true:=decide_eq_true fw;clear fw;obtain ⟨cq,d9⟩:∃ y_:List Int,y_ = (List.replicate (b3:Int).toNat 0):=⟨_,rfl⟩
     replace H:(if aw.length < 5864062014805 then (aE.l0 k1 (aw ++ [cq]) a5 (wrap64 (b2+1)) X y) else (none)) = some r:=by (try rw [d9]);exact AC
     have ef:=ae.mk d9;clear d9;obtain ⟨hl,H⟩:=xt H;have g0:=ae.mk hl;clear hl;obtain ⟨f3,db⟩:∃ y_:List (List Int),y_ = (aw ++ [cq]):=⟨_,rfl⟩
     replace H:(aE.l0 k1 f3 a5 (wrap64 (b2+1)) X y) = some r:=by (try rw [db]);exact AC
     have g1:=ae.mk db;clear db;have H':=ae.mk H;clear H;obtain ⟨hm,hn,hq,ht⟩:=xv j.out;go_wp2_with (first | ((with_reducible refine bu (N:=26) rfl ?_);refine Kd.rQ (Kd.int .i64) _ 3 rfl (N:=26) rfl 22 _ _ rfl b3 rfl rfl Tryz.underlying22 (.int .i64 0) 8 fb rfl (by decide) (by omega) 0 (ok:=fun _=>True) (okp:=fun _=>True) rfl (fun _ hk=>hk) trivial (yk) (Nat.le_trans (Nat.mul_le_mul_right _ (yk:b3.toNat≤35184372088832)) (by omega)) (Below.refl _ _) (Nat.le_refl _) ?_;intro lk m5 c1 hb ee bi;clear ee bi;(first | rw [← ef.out] at c1 | (simp only [Int.reduceToNat] at c1;rw [← ef.out] at c1));replace z:=ae.mk (Kd.fV (AG z.out) (Kd.cL c1) hb);have cc:=ae.mk (Kd.b5 c1 (ak (wx HB.out)));replace j:=xc j hb;replace HB:=xi HB hb;clear hb c1;obtain ⟨f4,f5,hu⟩:=Kd.bk cc.out;subst hu) | ((with_reducible refine cF (b:=.append) (xs:=#[.tmp 20,.tmp 27]) rfl ?_);at_builtin;refine Kd.o3 (Kd.slice 3 (Kd.int .i64)) (w0:=w) w.heap.size rfl (.tmp 20) (.tmp 27) 46 22 (.slice none 0 0) 24 rfl Tryz.underlying46 s5 rfl (by decide) (by omega) u3 aw cq [.slice f4 cq.length f5] (fun _=>True) (fun k_=>some k_ = (.slice f4 cq.length f5:Value).ownBlock) rfl rfl ?aP (fun k_ kc=>((Kd.aQ (ok':=fun k_=>((fun _=>True)) k_∧some k_≠(u3:Value).ownBlock) (Kd.jX (cc.out) (Kd.ld z.out) (by decide)) (fun k_ hk=>⟨trivial,hk.2⟩))).1 k_ kc.symm) ?aF ?aO ?aB ?aS ?aL ?_;(case aP=>exact Kd.oX (Kd.aQ (Kd.nE rfl (Kd.aQ (ok':=fun k_=>((fun _=>True)) k_∧some k_≠(u3:Value).ownBlock) (Kd.jX (cc.out) (Kd.ld z.out) (by decide)) (fun k_ hk=>⟨trivial,hk.2⟩))) (fun _ h_=>h_)));(case aB=>exact (wx HB.out));(case aF=>exact (fun _ _=>trivial));(case aO=>exact (AG (Kd.jf z.out (fun k_ hk=>⟨trivial,fun e_=>hk.2 e_⟩))));(case aS=>exact (ak (wx HB.out)));(case aL=>have:=g0.out;omega);intro ll ma ho hb hg hat;rw [← g1.out] at ho;have cx:=ae.mk (eR (g:=a2) (o:=.cells #[.int .i64 X,.slice b0 y.length a4] 37 (0,0)) (xf j.out) hg (Kd.ze z.out j.out (by decide)));have cy:=ae.mk hb;have d0:=ae.mk ho;clear j;clear HB;clear z;clear cc;have j:=cx;have HB:=cy;have g2:=d0;clear cx cy d0;clear ho hb hg hat));go_roundg k1;case measure=>have:=ew.out;omega
     case rel=>exact ⟨(f3),(wrap64 (b2+1)),ww,H',⟨by have:=ew.out;omega⟩,⟨AG g2.out⟩,⟨xf j.out⟩,⟨wx HB.out⟩⟩
    ·rw [if_neg e0] at H
     have fs:decide (b2≤a5) = false:=decide_eq_false e0;clear e0;have H':=ae.mk H;clear H;go_wp2;go_loopg [6] k1 (fun kq v6 w'=>∃ (a1:List (List Int)) (a3:Int),v6 = .int .i64 a3∧ae (aE.l1 kq a1 a3 X y = some r)∧ae (kq≤k1)∧ae (Kd.S (Kd.slice 3 (Kd.int .i64)) 22 w' w.heap.size (fun _=>True) u3 a1)∧ae (w'.heap[a2]? = some (.cells #[.int .i64 X,(.slice b0 y.length a4)] 37 (0,0)))∧ae (Below w.heap.size w w'))
     case atStart=>exact ⟨(aw),(0),ww,H',⟨Nat.le_refl _⟩,⟨AG z.out⟩,⟨xf j.out⟩,⟨wx HB.out⟩⟩
     case round =>
      clear H';obtain ⟨a1,a3,rfl,HA,hx,z,j,HB⟩:=hrel;cases gk with
      | zero=>exact absurd HA.out (by simp [aE.l1])
      | succ k2 =>
       have H:=HA.out;clear HA;simp only [aE.l1] at H;by_cases e1:a3 < (y.length:Int)
       ·rw [if_pos e1] at H
        have g3:=decide_eq_true e1;clear e1;obtain ⟨hz,H⟩:=xt H;have kd:=decide_eq_true hz;clear hz;obtain ⟨eh,kh,H⟩:=xa H;(try dsimp only at H);obtain ⟨Y,kl,H⟩:=xa H;(try dsimp only at H);obtain ⟨ei,km,H⟩:=xa H;(try dsimp only at H);obtain ⟨a9,ks,H⟩:=xa H;(try dsimp only at H);obtain ⟨hA,H⟩:=xt H;have kt:=decide_eq_true hA;clear hA;obtain ⟨hC,H⟩:=xt H;have kv:=decide_eq_true hC;clear hC;obtain ⟨hD,H⟩:=xt H;have kw:=decide_eq_true hD;clear hD;obtain ⟨hE,H⟩:=xt H;have ky:=decide_eq_true hE;clear hE;obtain ⟨ej,dd⟩:∃ y_:List Int,y_ = ((di a1 Y).set (a9:Int).toNat (wrap64 ((rd (di a1 Y) a9)+1))):=⟨_,rfl⟩
        replace H:(aE.l1 k2 (a1.set (Y:Int).toNat ej) (wrap64 (a3+1)) X y) = some r:=by (try rw [dd]);exact AC
        have g4:=ae.mk dd;clear dd;obtain ⟨f6,df⟩:∃ y_:List (List Int),y_ = (a1.set (Y:Int).toNat ej):=⟨_,rfl⟩
        replace H:(aE.l1 k2 f6 (wrap64 (a3+1)) X y) = some r:=by (try rw [df]);exact AC
        have g5:=ae.mk df;clear df;have H':=ae.mk H;clear H;obtain ⟨hG,hH,hI,hL⟩:=xv j.out;(try go_wp2);replace z:=ae.mk (Kd.iH z.out);replace j:=ae.mk (cM j.out);replace HB:=ae.mk (bP HB.out);obtain ⟨a6,hM,aa,lm,ln⟩:=At ba.out a3;have a7:=aa;cases hM
        (try replace aa:=(HB.out.cell (World.block_lt_of_cell? w _ aa)).trans aa);refine eT (n:=9) (S:=fun w'=>w'.cell? ⟨a2,0,none⟩ = some (.int .i64 X)∧w'.cell? ⟨a2,1,none⟩ = some (.slice (some a6) y.length a4)∧w'.cell? (a6.add (a3).toNat) = some (.int .i64 (rd y a3))) (ds:=[]) #[false,false,false,false,false,false,false,false,false] (by kernel_rfl) rfl rfl ⟨(ah j.out 0).trans rfl,(ah j.out 1).trans rfl,((HB.out.cell (World.block_lt_of_cell? w _ a7)).trans a7)⟩ (fun hHeld=>?_);refine da aE.zn aE.yx (fun a0 bm=>?_);generalize wr.drew = mf at z j HB aa hHeld ⊢;refine wt 1 37 a0 ?_;refine wt 3 39 a0 ?_;refine AF 0 36 a0 bm hHeld ?_;refine AF 2 38 a0 bm hHeld ?_;refine wt 4 40 a0 ?_;refine AF 5 41 a0 bm hHeld ?_;refine fe (i:=6) (N:=some 42) #[true,true,true,true,true,true,true,false,false] rfl rfl (cH a0.out (by kernel_rfl)) (by decide) (fun K hK=>?_);refine eK Tryz.func32 (by kernel_rfl) rfl #[.agg #[.int .i64 X,.slice (some a6) y.length a4],.int .i64 (rd y a3)] (by rfl) rfl rfl (by (try simp only [List.map_toArray,List.map_cons,List.map_nil]);first | done | rfl) ?_;with_reducible refine (aV.calls k2 X _ _ y (rd y a3) eh _ ?side1 ?side2 kh.out).mono ?_
        (case side1=>exact yi (Kd.aN ba.out HB.out));(case side2=>exact ca.out);rintro e ce ⟨rfl,hb⟩
        refine ⟨_,rfl,?_⟩;replace z:=ae.mk (Kd.eM (AG z.out) hb);replace j:=xc j hb;replace HB:=xi HB hb;(try clear hb);(try clear fp);(try clear hk);(try clear hi);refine hK.out _ _ ⟨(ah j.out 0).trans rfl,(ah j.out 1).trans rfl,((HB.out.cell (World.block_lt_of_cell? w _ a7)).trans a7)⟩ (fun hHeld=>?_);clear hK K;refine dN (a':=?_) ?_ ?_;rotate_left
        ·show Act.put _ (some 42) _ = _
         simp only [Act.put,List.setIfInBounds_toArray,List.set_cons_zero,List.set_cons_succ,b7,bC];rfl
        refine fe (i:=7) (N:=some 43) #[true,true,true,true,true,true,true,true,false] rfl rfl (cH a0.out (by kernel_rfl)) (by decide) (fun K hK=>?_);refine eK Tryz.func59 (by kernel_rfl) rfl #[.int .i64 eh] (by rfl) rfl rfl (by (try simp only [List.map_toArray,List.map_cons,List.map_nil]);first | done | rfl) ?_;with_reducible refine (b9.calls k2 eh Y _ kl.out).mono ?_
        rintro e w' ⟨rfl,⟨nd,rfl⟩⟩
        refine ⟨_,rfl,?_⟩;refine hK.out _ _ ⟨(ah j.out 0).trans rfl,(ah j.out 1).trans rfl,((HB.out.cell (World.block_lt_of_cell? w _ a7)).trans a7)⟩ (fun hHeld=>?_);clear hK K;refine dN (a':=?_) ?_ ?_;rotate_left
        ·show Act.put _ (some 43) _ = _
         simp only [Act.put,List.setIfInBounds_toArray,List.set_cons_zero,List.set_cons_succ,b7,bC];rfl
        refine wt 8 7 a0 ?_;refine fP (e9 a0.out (by kernel_rfl)) ?_;(try go_wp2);(try (rw [fu ce];generalize cf:World.drewN ce _ = ce;have cx:ae (Kd.S (Kd.slice 3 (Kd.int .i64)) 22 ce w.heap.size (fun _=>True) u3 a1):=⟨by rw [← cf];exact (AG z.out)⟩;have cy:ae (ce.heap[a2]? = some (.cells #[.int .i64 X,.slice (some a6) y.length a4] 37 (0,0))):=⟨by rw [← cf];exact (xf j.out)⟩;have d0:ae (Below w.heap.size w ce):=⟨by rw [← cf];exact (wx HB.out)⟩;clear z j HB cf;have z:=cx;have j:=cy;have HB:=d0;clear cx cy d0;have e2:ce.cell? ⟨a2,0,none⟩ = some (.int .i64 X):=(ah j.out 0).trans rfl;have e3:=aj j.out 0;have e4:ce.cell? ⟨a2,1,none⟩ = some (.slice (some a6) y.length a4):=(ah j.out 1).trans rfl;have e5:=aj j.out 1));replace z:=ae.mk (Kd.iH z.out);replace j:=ae.mk (cM j.out);replace HB:=ae.mk (bP HB.out);obtain ⟨g6,hP,ab,lo,lr⟩:=At ba.out a3;have a8:=ab;obtain rfl:a6 = g6:=(by injection hP)
        (try replace ab:=(HB.out.cell (World.block_lt_of_cell? w _ ab)).trans ab);refine eT (n:=9) (S:=fun w'=>w'.cell? ⟨a2,0,none⟩ = some (.int .i64 X)∧w'.cell? ⟨a2,1,none⟩ = some (.slice (some a6) y.length a4)∧w'.cell? (a6.add (a3).toNat) = some (.int .i64 (rd y a3))) (ds:=[]) #[false,false,false,false,false,false,false,false,false] (by kernel_rfl) rfl rfl ⟨(ah j.out 0).trans rfl,(ah j.out 1).trans rfl,((HB.out.cell (World.block_lt_of_cell? w _ a8)).trans a8)⟩ (fun hHeld=>?_);refine da aE.zo aE.yy (fun a0 bm=>?_);generalize ce.drew = mi at z j HB ab hHeld ⊢;refine wt 1 45 a0 ?_;refine wt 3 47 a0 ?_;refine AF 0 44 a0 bm hHeld ?_;refine AF 2 46 a0 bm hHeld ?_;refine wt 4 48 a0 ?_;refine AF 5 49 a0 bm hHeld ?_;refine fe (i:=6) (N:=some 50) #[true,true,true,true,true,true,true,false,false] rfl rfl (cH a0.out (by kernel_rfl)) (by decide) (fun K hK=>?_);refine eK Tryz.func30 (by kernel_rfl) rfl #[.agg #[.int .i64 X,.slice (some a6) y.length a4],.int .i64 (rd y a3)] (by rfl) rfl rfl (by (try simp only [List.map_toArray,List.map_cons,List.map_nil]);first | done | rfl) ?_;with_reducible refine (au.calls k2 X _ _ y (rd y a3) ei _ ?side1 ?side2 km.out).mono ?_
        (case side1=>exact yi (Kd.aN ba.out HB.out));(case side2=>exact ca.out);rintro e ci ⟨rfl,hb⟩
        refine ⟨_,rfl,?_⟩;replace z:=ae.mk (Kd.eM (AG z.out) hb);replace j:=xc j hb;replace HB:=xi HB hb;(try clear hb);(try clear fp);(try clear hk);(try clear hi);refine hK.out _ _ ⟨(ah j.out 0).trans rfl,(ah j.out 1).trans rfl,((HB.out.cell (World.block_lt_of_cell? w _ a8)).trans a8)⟩ (fun hHeld=>?_);clear hK K;refine dN (a':=?_) ?_ ?_;rotate_left
        ·show Act.put _ (some 50) _ = _
         simp only [Act.put,List.setIfInBounds_toArray,List.set_cons_zero,List.set_cons_succ,b7,bC];rfl
        refine fe (i:=7) (N:=some 51) #[true,true,true,true,true,true,true,true,false] rfl rfl (cH a0.out (by kernel_rfl)) (by decide) (fun K hK=>?_);refine eK Tryz.func59 (by kernel_rfl) rfl #[.int .i64 ei] (by rfl) rfl rfl (by (try simp only [List.map_toArray,List.map_cons,List.map_nil]);first | done | rfl) ?_;with_reducible refine (b9.calls k2 ei a9 _ ks.out).mono ?_
        rintro e w' ⟨rfl,⟨nd,rfl⟩⟩
        refine ⟨_,rfl,?_⟩;refine hK.out _ _ ⟨(ah j.out 0).trans rfl,(ah j.out 1).trans rfl,((HB.out.cell (World.block_lt_of_cell? w _ a8)).trans a8)⟩ (fun hHeld=>?_);clear hK K;refine dN (a':=?_) ?_ ?_;rotate_left
        ·show Act.put _ (some 51) _ = _
         simp only [Act.put,List.setIfInBounds_toArray,List.set_cons_zero,List.set_cons_succ,b7,bC];rfl
        refine wt 8 8 a0 ?_;refine fP (e9 a0.out (by kernel_rfl)) ?_;(try go_wp2);(try (rw [fu ci];generalize cf:World.drewN ci _ = ci;have cx:ae (Kd.S (Kd.slice 3 (Kd.int .i64)) 22 ci w.heap.size (fun _=>True) u3 a1):=⟨by rw [← cf];exact (AG z.out)⟩;have cy:ae (ci.heap[a2]? = some (.cells #[.int .i64 X,.slice (some a6) y.length a4] 37 (0,0))):=⟨by rw [← cf];exact (xf j.out)⟩;have d0:ae (Below w.heap.size w ci):=⟨by rw [← cf];exact (wx HB.out)⟩;clear z j HB cf;have z:=cx;have j:=cy;have HB:=d0;clear cx cy d0;have e2:ci.cell? ⟨a2,0,none⟩ = some (.int .i64 X):=(ah j.out 0).trans rfl;have e3:=aj j.out 0;have e4:ci.cell? ⟨a2,1,none⟩ = some (.slice (some a6) y.length a4):=(ah j.out 1).trans rfl;have e5:=aj j.out 1));replace z:=ae.mk (Kd.iH z.out);replace j:=ae.mk (cM j.out);replace HB:=ae.mk (bP HB.out);obtain ⟨ls,lv,f7⟩:=Kd.ji z.out;(first | subst f7 | (injection f7 with hR l5 hT;have l6:=hR.symm;have la:=hT.symm;clear hR l5 hT;subst l6;subst la));have dl:0≤(Y:Int):=yk;have dp:Y < (a1.length:Int):=yk;obtain ⟨dk,it,dq,hU,am,d1,d2⟩:=kF (Kd.ez z.out).2.2 Y dl dp;cases hU
        obtain ⟨lc,ex,ey,dt⟩:=Kd.qO z.out [] Y dl (by first | exact dp | exact yk | (have e_:=(Kd.ez z.out).1;omega));obtain ⟨hV,rfl,bo⟩:=ey;have ao:=dt 0 _ rfl;rw [Nat.add_zero,show ((Kd.slice 3 (Kd.int .i64))).sz = 1 from rfl,Nat.mul_one] at ao;replace ao:=Option.some.inj (ao.symm.trans am);rw [ao] at bo;have b4:=ae.mk (show Kd.R (Kd.int .i64) 3 _ _ _ _ (di a1 Y) from bo);clear ao bo;have d3:=ae.mk am;clear dt ex;have el:=ae.mk d2;have hW:=ae.mk d1;clear d2 d1;replace dl:=eq_true dl;replace dp:=eq_true dp;have du:0≤(Y:Int):=yk;have dv:Y < (a1.length:Int):=yk;obtain ⟨g7,jp,k0,hX,ap,d4,d5⟩:=kF (Kd.ez z.out).2.2 Y du dv;obtain rfl:dk = g7:=(by injection hX)
        obtain ⟨le,eQ,f0,dC⟩:=Kd.qO z.out [] Y du (by first | exact dv | exact yk | (have e_:=(Kd.ez z.out).1;omega));obtain ⟨hZ,rfl,bs⟩:=f0;have ar:=dC 0 _ rfl;rw [Nat.add_zero,show ((Kd.slice 3 (Kd.int .i64))).sz = 1 from rfl,Nat.mul_one] at ar;replace ar:=Option.some.inj (ar.symm.trans ap);rw [ar] at bs;have em:=ae.mk (show Kd.R (Kd.int .i64) 3 _ _ _ _ (di a1 Y) from bs);clear ar bs;have eo:=ae.mk ap;clear dC eQ;have bv:=ae.mk d5;have i0:=ae.mk d4;clear d5 d4;replace du:=eq_true du;replace dv:=eq_true dv;have d6:=Option.some.inj (am.symm.trans ap);injection d6 with d6 g8 g9
        subst d6;subst g9;clear g8;obtain ⟨lh,i1,c0,lw,lx⟩:=At (by repeat (first | (with_reducible exact bv.out) | (with_reducible refine Kd.gi ?_ _) | (with_reducible refine Kd.gj ?_ _) | (with_reducible refine Kd.gJ ?_) | exact bv.out)) a9;cases i1
        have gb:0≤(a9:Int):=yk;have gc:(a9:Int) < (((di a1 Y).length:Int):Int):=yk;obtain ⟨eq,ly,f8,f9,i2,lL,fd⟩:=Kd.mL b4.out (by omega);(first | cases f8 | (injection f8 with d6 g8 g9;(first | subst d6 | (injection d6 with d6;subst d6));subst g9;clear g8));have i3:=ae.mk f9;have i4:=ae.mk fd;clear f9 i2 fd;(first | simp only [add_plain] at c0 | skip);obtain ⟨f1,f2⟩:=Kd.kp 0 b4.out (a9:Int) gb gc;replace gb:=eq_true gb;replace gc:=eq_true gc;have i5:(Y:Int) < (a1.length:Int):=(by have h_:(Y:Int) < ((a1.length:Int):Int):=yk;first | exact h_ | (have e_:=(Kd.ez z.out).1;omega) | simpa only [List.length_set,List.length_set] using h_)
        obtain ⟨li,lN,go,i6,es,gs,et⟩:=Kd.o4 z.out [] (Y:Int) (yk) i5;obtain ⟨k3,rfl,bc⟩:=i6;have dE:=es 0 _ rfl;rw [Nat.add_zero,show ((Kd.slice 3 (Kd.int .i64))).sz = 1 from rfl,Nat.mul_one] at dE;replace dE:=Option.some.inj (dE.symm.trans d3.out);subst dE;clear es go;replace bc:=(show Kd.R (Kd.int .i64) 3 _ _ _ _ (di a1 Y) from bc)
        have dT:=Kd.nW bc (a9:Int) (wrap64 ((rd (di a1 Y) a9)+1));rw [← g4.out] at dT;have ev:=et dT.2 (fun k_ e_=>by injection e_ with e_;subst e_;exact bc.1 _ rfl) (x':=ej) (Kd.oX dT.1);rw [← g5.out] at ev;have fi:=ae.mk ev;clear dT ev et gs;refine eT (n:=15) (S:=fun w'=>w'.cell? (dk.add (Y).toNat) = some (.slice (some ⟨eq,0,none⟩) (di a1 Y).length dq)∧w'.cell? (dk.add (Y).toNat) = some (.slice (some ⟨eq,0,none⟩) (di a1 Y).length dq)∧w'.cell? ⟨eq,(a9).toNat,none⟩ = some (.int .i64 (rd (di a1 Y) a9))) (ds:=[14]) #[false,false,false,false,false,false,false,false,false,false,false,false,false,false,false] (by kernel_rfl) rfl rfl ⟨am,ap,c0⟩ (fun hHeld=>?_);refine da aE.zq aE.yz (fun a0 bm=>?_);generalize ci.drew = ml at z j HB i4 b4 em fi el bv d3 eo f2 f1 am ap c0 hHeld ⊢;refine wt 0 52 a0 ?_;refine wt 1 53 a0 ?_;refine wt 2 54 a0 ?_;refine wt 4 56 a0 ?_;refine wt 5 57 a0 ?_;refine wt 6 58 a0 ?_;refine wt 7 59 a0 ?_;refine wt 9 61 a0 ?_;refine AF 3 55 a0 bm hHeld ?_;refine AF 8 60 a0 bm hHeld ?_;refine wt 10 62 a0 ?_;refine AF 11 63 a0 bm hHeld ?_;refine wt 12 64 a0 ?_;refine wt 13 65 a0 ?_;refine lH (i:=14) (N:=none) #[true,true,true,true,true,true,true,true,true,true,true,true,true,true,true] rfl rfl (cH a0.out (by kernel_rfl)) (by decide) (fun K hK=>?_);refine nk (w1:=?_) (by rfl) rfl ?_ ?_;rotate_left
        ·go_simp
         rfl
        refine hK.out _ _ ?_;clear hK K;refine fP (e9 a0.out (by kernel_rfl)) ?_;(try go_wp2);go_roundg k2;case measure=>have:=ew.out;have:=hx.out;omega
        case rel=>exact ⟨(f6),(wrap64 (a3+1)),ww,H',⟨by have:=ew.out;have:=hx.out;omega⟩,⟨AG fi.out⟩,⟨by (with_reducible repeat (first | refine iR ?_ _ | refine cM ?_ | refine hY ?_ _));refine nD ?_ (by have h_:=Kd.jU b4.out j.out (by decide);intro e_;exact h_ (by rw [e_];rfl)) _;(with_reducible repeat (first | refine iR ?_ _ | refine cM ?_ | refine hY ?_ _));exact j.out⟩,⟨by repeat (first | (with_reducible first | exact HB.out | apply e6 | apply dX | apply bP | refine dY ?_ i3.out | refine dY ?_ ec.out) | exact HB.out)⟩⟩
       ·rw [if_neg e1] at H
        have g3:decide (a3 < (y.length:Int)) = false:=decide_eq_false e1;clear e1;obtain rfl:=Option.some.inj H;obtain ⟨i7,i8,i9,ib⟩:=xv j.out;go_wp2;go_ret;exact ⟨_,zd,by (with_reducible repeat (first | apply Kd.l8 | apply Kd.l9 | apply Kd.iH));exact z.out,wy⟩
def cS.l0:Nat→Int→Int→Int→Int→List Int→Option (Int)
 | 0,_,_,_,_,_=>none
 | k+1,x1,x5,Y,y,j=>if Y < (j.length:Int) then (if 0≤Y then ((b9.f k (Go.bits .and .i64 (rd j Y) x1)).bind fun z=>((fH.f x5 z).bind fun X=>(cS.l0 k x1 X (wrap64 (Y+1)) y j))) else (none)) else (some x5)
def cS.f (k:Nat) (j:Int) (y:List Int) (z:Int):Option (Int):=cS.l0 k z 0 0 j y
set_option maxHeartbeats 8000000 in
set_option maxRecDepth 100000 in
theorem cS.calls (k:Nat) (Y:Int) (a2:Option Addr) (a3:Nat) (j:List Int) (a1:Int) (r:Int) (w:World) (a4:Kd.C (Kd.int .i64) w a2 j.length j) (a5:j.length≤a3) (h:cS.f k Y j a1 = some r) :
  Calls Tryz.prog 93 #[.agg #[.int .i64 Y,.slice a2 j.length a3],.int .i64 a1] w fun e w'=>e = .returned (.int .i64 r)∧Below w.heap.size w w':=by
 have b2:=Tryz.underlying37;have a8:=ae.mk a4;have aP:=ae.mk a5;clear a4 a5;have HB:=ae.mk (Below.refl w.heap.size w);unfold cS.f at h;have H:=h;clear h;have H':=ae.mk H;clear H;go_enter Tryz.func93,Tryz.ntmps93;go_wp2_with (first | (refine zp 2 #[.int .i64 Y,.slice a2 j.length a3] 37 ?_;intro a9 hg w3 hbox hb;have z:=ae.mk hbox;have aR:=yv hg HB;have aS:=yv hg HB;replace HB:=xi HB hb;clear hb hbox hg));go_loopg [5,6] k (fun kq v5 v6 w'=>∃ (a0:Int) (y:Int),v5 = .int .i64 a0∧v6 = .int .i64 y∧ae (cS.l0 kq a1 a0 y Y j = some r)∧ae (kq≤k)∧ae (w'.heap[a9]? = some (.cells #[.int .i64 Y,(.slice a2 j.length a3)] 37 (0,0)))∧ae (Below w.heap.size w w'))
 case atStart=>exact ⟨(0),(0),ww,ww,H',⟨Nat.le_refl _⟩,⟨xf z.out⟩,⟨wx HB.out⟩⟩
 case round =>
  clear H';obtain ⟨a0,y,rfl,rfl,HA,aa,z,HB⟩:=hrel;cases gk with
  | zero=>exact absurd HA.out (by simp [cS.l0])
  | succ k1 =>
   have H:=HA.out;clear HA;simp only [cS.l0] at H;by_cases c4:y < (j.length:Int)
   ·rw [if_pos c4] at H
    have ab:=decide_eq_true c4;clear c4;obtain ⟨c5,H⟩:=xt H;have b3:=decide_eq_true c5;clear c5;obtain ⟨a6,A6,H⟩:=xa H;(try dsimp only at H);obtain ⟨a7,A7,H⟩:=xa H;(try dsimp only at H);have H':=ae.mk H;clear H;obtain ⟨ao,ap,ar,aw⟩:=xv z.out;obtain ⟨b0,am,X,b4,ba⟩:=At a8.out y;cases am
    (try replace X:=(HB.out.cell (World.block_lt_of_cell? w _ X)).trans X);go_wp2_with (first | (refine ws (some 22) Tryz.func59 #[.int .i64 (Go.bits .and .i64 (rd j y) a1)] ?_;(with_reducible refine (b9.calls k1 (Go.bits .and .i64 (rd j y) a1) a6 _ A6.out).mono ?_);rintro e w' ⟨rfl,⟨nd,rfl⟩⟩;refine ⟨_,rfl,?_⟩) | (refine ws (some 23) Tryz.func126 #[.int .i64 a0,.int .i64 a6] ?_;(with_reducible refine (fH.calls a0 a6 a7 _ A7.out).mono ?_);rintro e w' ⟨rfl,⟨nd,rfl⟩⟩;refine ⟨_,rfl,?_⟩));go_roundg k1;case measure=>have:=aa.out;omega
    case rel=>exact ⟨(a7),(wrap64 (y+1)),ww,ww,H',⟨by have:=aa.out;omega⟩,⟨xf z.out⟩,⟨wx HB.out⟩⟩
   ·rw [if_neg c4] at H
    have ab:decide (y < (j.length:Int)) = false:=decide_eq_false c4;clear c4;obtain rfl:=Option.some.inj H;obtain ⟨aB,aF,aL,aO⟩:=xv z.out;go_wp2;go_ret;exact ⟨zd,wy⟩
mutual
def bh.l0:Nat→List Int→List Int→Int→Option (List Int)
 | 0,_,_,_=>none
 | k+1,j,z,y=>if y < (j.length:Int) then (bh.l1 k j z y true 0) else ((aC.f k z).bind fun Y=>(some Y))
def bh.l1:Nat→List Int→List Int→Int→Bool→Int→Option (List Int)
 | 0,_,_,_,_,_=>none
 | k+1,j,z,y,x5,X=>if X < (j.length:Int) then (if x5 = true then (if 0≤X then (if 0≤y then (if y < (j.length:Int) then (if (rd j X) = (rd j y) then (bh.l1 k j z y true (wrap64 (X+1))) else (bh.l1 k j z y ((Go.bits .and .i64 (rd j X) (rd j y)) != (rd j X)) (wrap64 (X+1)))) else (none)) else (none)) else (none)) else (bh.l1 k j z y false (wrap64 (X+1)))) else (if x5 = true then (if 0≤y then (if y < (j.length:Int) then (if z.length < 17592186044416 then (bh.l0 k j (z ++ [rd j y]) (wrap64 (y+1))) else (none)) else (none)) else (none)) else (bh.l0 k j z (wrap64 (y+1))))
end
def bh.f (k:Nat) (l0:List Int):Option (List Int):=(some (([]:List Int):List Int)).bind fun j=>((bB.f k 8 l0).bind fun y=>(if y = true then (bh.l0 k l0 j 0) else (some j)))
set_option maxHeartbeats 8000000 in
set_option maxRecDepth 100000 in
theorem bh.calls (k:Nat) (A0:Option Addr) (c0:Nat) (l0:List Int) (r:List Int) (w:World) (cx:Kd.C (Kd.int .i64) w A0 l0.length l0) (cy:l0.length≤c0) (h:bh.f k l0 = some r) :
  Calls Tryz.prog 189 #[.slice A0 l0.length c0] w fun e w'=>∃ d0:Value,e = .returned (d0)∧Kd.R (Kd.int .i64) 3 w' w.heap.size (fun _=>True) d0 r∧Below w.heap.size w w':=by
 have a6:=ae.mk cx;have bc:=ae.mk cy;clear cx cy;have HB:=ae.mk (Below.refl w.heap.size w);unfold bh.f at h;have H:=h;clear h;obtain ⟨aw,aP⟩:∃ y_:List Int,y_ = (([]:List Int)):=⟨_,rfl⟩
 replace H:((bB.f k 8 l0).bind fun bi=>(if bi = true then (bh.l0 k l0 aw 0) else (some aw))) = some r:=by (try rw [aP]);exact AC
 have a0:=ae.mk aP;clear aP;obtain ⟨bi,A2,H⟩:=xa H;(try dsimp only at H);by_cases c3:bi = true
 ·subst c3
  replace H:(bh.l0 k l0 aw 0) = some r:=by rw [if_pos rfl] at H;exact H
  have H':=ae.mk H;clear H;go_enter Tryz.func189,Tryz.ntmps189;go_wp2_with (first | (refine AL (Kd.int .i64) 3 7 ?_;intro aB w4 a4 hb a8 a1;clear a8 a1;(first | rw [← a0.out] at a4 | (simp only [Int.reduceToNat] at a4;rw [← a0.out] at a4));have a5:=ae.mk (Kd.b5 a4 (ak (wx HB.out)));replace HB:=xi HB hb;clear hb a4) | (go_at_call 185;(with_reducible refine (bB.calls k 8 _ _ l0 true _ ?side1 ?side2 A2.out).mono ?_);(case side1=>exact yi (Kd.aN a6.out HB.out));(case side2=>exact bc.out);rintro e w' ⟨rfl,⟨nd,rfl⟩⟩;(try exact AH)));repeat (go_quiet (first | (refine AL (Kd.int .i64) 3 7 ?_;intro aB w4 a4 hb a8 a1;clear a8 a1;(first | rw [← a0.out] at a4 | (simp only [Int.reduceToNat] at a4;rw [← a0.out] at a4));have a5:=ae.mk (Kd.b5 a4 (ak (wx HB.out)));replace HB:=xi HB hb;clear hb a4) | (go_at_call 185;(with_reducible refine (bB.calls k 8 _ _ l0 true _ ?side1 ?side2 A2.out).mono ?_);(case side1=>exact yi (Kd.aN a6.out HB.out));(case side2=>exact bc.out);rintro e w' ⟨rfl,⟨nd,rfl⟩⟩;(try exact AH)));try go_wp2_with (first | (refine AL (Kd.int .i64) 3 7 ?_;intro aB w4 a4 hb a8 a1;clear a8 a1;(first | rw [← a0.out] at a4 | (simp only [Int.reduceToNat] at a4;rw [← a0.out] at a4));have a5:=ae.mk (Kd.b5 a4 (ak (wx HB.out)));replace HB:=xi HB hb;clear hb a4) | (go_at_call 185;(with_reducible refine (bB.calls k 8 _ _ l0 true _ ?side1 ?side2 A2.out).mono ?_);(case side1=>exact yi (Kd.aN a6.out HB.out));(case side2=>exact bc.out);rintro e w' ⟨rfl,⟨nd,rfl⟩⟩;(try exact AH))))
  go_loopg [3,4] k (fun kq v3 v4 w'=>∃ (X:List Int) (j:Int),v4 = .int .i64 j∧ae (bh.l0 kq l0 X j = some r)∧ae (kq≤k)∧ae (Kd.R (Kd.int .i64) 3 w' w.heap.size (fun _=>True) v3 X)∧ae (Below w.heap.size w w'))
  case atStart=>exact ⟨(aw),(0),ww,H',⟨Nat.le_refl _⟩,⟨ac a5.out⟩,⟨wx HB.out⟩⟩
  case round =>
   clear H';obtain ⟨X,j,rfl,HA,ap,y,HB⟩:=hrel;cases gk with
   | zero=>exact absurd HA.out (by simp [bh.l0])
   | succ k1 =>
    have H:=HA.out;clear HA;simp only [bh.l0] at H;by_cases c6:j < (l0.length:Int)
    ·rw [if_pos c6] at H
     have d1:=decide_eq_true c6;clear c6;have H':=ae.mk H;clear H;go_wp2;repeat (go_quiet (fail);try go_wp2)
     go_loopg [5,6] k1 (fun kq v5 v6 w'=>∃ (aF:Bool) (z:Int),v5 = .bool aF∧v6 = .int .i64 z∧ae (bh.l1 kq l0 X j aF z = some r)∧ae (kq≤k1)∧ae (Kd.R (Kd.int .i64) 3 w' w.heap.size (fun _=>True) u3 X)∧ae (Below w.heap.size w w'))
     case atStart=>exact ⟨(true),(0),ww,ww,H',⟨Nat.le_refl _⟩,⟨ac y.out⟩,⟨wx HB.out⟩⟩
     case round =>
      clear H';obtain ⟨aF,z,rfl,rfl,HA,ar,y,HB⟩:=hrel;cases gk with
      | zero=>exact absurd HA.out (by simp [bh.l1])
      | succ k2 =>
       have H:=HA.out;clear HA;simp only [bh.l1] at H;by_cases c7:z < (l0.length:Int)
       ·rw [if_pos c7] at H
        have d2:=decide_eq_true c7;clear c7;by_cases c8:aF = true
        ·subst c8
         replace H:(if 0≤z then (if 0≤j then (if j < (l0.length:Int) then (if (rd l0 z) = (rd l0 j) then (bh.l1 k2 l0 X j true (wrap64 (z+1))) else (bh.l1 k2 l0 X j ((Go.bits .and .i64 (rd l0 z) (rd l0 j)) != (rd l0 z)) (wrap64 (z+1)))) else (none)) else (none)) else (none)) = some r:=by rw [if_pos rfl] at H;exact H
         obtain ⟨c9,H⟩:=xt H;have e2:=decide_eq_true c9;clear c9;obtain ⟨iN,H⟩:=xt H;have dC:=decide_eq_true iN;clear iN;obtain ⟨d3,H⟩:=xt H;have dE:=decide_eq_true d3;clear d3;by_cases aR:(rd l0 z) = (rd l0 j)
         ·rw [if_pos aR] at H
          have cc:((rd l0 z) == (rd l0 j)) = true:=beq_iff_eq.mpr aR;have ce:((rd l0 z) != (rd l0 j)) = false:=bne_eq_false_iff_eq.mpr aR;clear aR;have H':=ae.mk H;clear H;obtain ⟨a7,bm,a2,d4,d5⟩:=At a6.out z;cases bm
          (try replace a2:=(HB.out.cell (World.block_lt_of_cell? w _ a2)).trans a2);obtain ⟨aS,bo,a3,d6,d7⟩:=At a6.out j;obtain rfl:a7 = aS:=(by injection bo)
          (try replace a3:=(HB.out.cell (World.block_lt_of_cell? w _ a3)).trans a3);go_wp2;repeat (go_quiet (fail);try go_wp2)
          go_roundg k2;case measure=>have:=ap.out;have:=ar.out;omega
          case rel=>exact ⟨(true),(wrap64 (z+1)),ww,ww,H',⟨by have:=ap.out;have:=ar.out;omega⟩,⟨ac y.out⟩,⟨wx HB.out⟩⟩
         ·rw [if_neg aR] at H
          have cc:((rd l0 z) == (rd l0 j)) = false:=beq_eq_false_iff_ne.mpr aR;have ce:((rd l0 z) != (rd l0 j)) = true:=bne_iff_ne.mpr aR;have H':=ae.mk H;clear H;obtain ⟨a7,bm,a2,d4,d5⟩:=At a6.out z;cases bm
          (try replace a2:=(HB.out.cell (World.block_lt_of_cell? w _ a2)).trans a2);obtain ⟨aS,bo,a3,d6,d7⟩:=At a6.out j;obtain rfl:a7 = aS:=(by injection bo)
          (try replace a3:=(HB.out.cell (World.block_lt_of_cell? w _ a3)).trans a3);obtain ⟨cf,d8,a9,e3,e4⟩:=At a6.out z;obtain rfl:a7 = cf:=(by injection d8)
          (try replace a9:=(HB.out.cell (World.block_lt_of_cell? w _ a9)).trans a9);obtain ⟨ci,d9,aa,e5,e8⟩:=At a6.out j;obtain rfl:a7 = ci:=(by injection d9)
          (try replace aa:=(HB.out.cell (World.block_lt_of_cell? w _ aa)).trans aa);obtain ⟨cp,db,ab,ea,eb⟩:=At a6.out z;obtain rfl:a7 = cp:=(by injection db)
          (try replace ab:=(HB.out.cell (World.block_lt_of_cell? w _ ab)).trans ab);go_wp2;repeat (go_quiet (fail);try go_wp2)
          go_roundg k2;case measure=>have:=ap.out;have:=ar.out;omega
          case rel=>exact ⟨(((Go.bits .and .i64 (rd l0 z) (rd l0 j)) != (rd l0 z))),(wrap64 (z+1)),ww,ww,H',⟨by have:=ap.out;have:=ar.out;omega⟩,⟨ac y.out⟩,⟨wx HB.out⟩⟩
        ·replace c8:=Bool.eq_false_iff.mpr c8
         subst c8;replace H:(bh.l1 k2 l0 X j false (wrap64 (z+1))) = some r:=by rw [if_neg (show ¬ (false = true) by decide)] at H;exact H
         have H':=ae.mk H;clear H;go_wp2;repeat (go_quiet (fail);try go_wp2)
         go_roundg k2;case measure=>have:=ap.out;have:=ar.out;omega
         case rel=>exact ⟨(false),(wrap64 (z+1)),ww,ww,H',⟨by have:=ap.out;have:=ar.out;omega⟩,⟨ac y.out⟩,⟨wx HB.out⟩⟩
       ·rw [if_neg c7] at H
        have d2:decide (z < (l0.length:Int)) = false:=decide_eq_false c7;clear c7;by_cases bv:aF = true
        ·subst bv
         replace H:(if 0≤j then (if j < (l0.length:Int) then (if X.length < 17592186044416 then (bh.l0 k2 l0 (X ++ [rd l0 j]) (wrap64 (j+1))) else (none)) else (none)) else (none)) = some r:=by rw [if_pos rfl] at H;exact H
         obtain ⟨dd,H⟩:=xt H;have dT:=decide_eq_true dd;clear dd;obtain ⟨df,H⟩:=xt H;have e0:=decide_eq_true df;clear df;obtain ⟨dk,H⟩:=xt H;have b0:=ae.mk dk;clear dk;obtain ⟨c1,b2⟩:∃ y_:List Int,y_ = (X ++ [rd l0 j]):=⟨_,rfl⟩
         replace H:(bh.l0 k2 l0 c1 (wrap64 (j+1))) = some r:=by (try rw [b2]);exact AC
         have b3:=ae.mk b2;clear b2;have H':=ae.mk H;clear H;obtain ⟨e1,dl,am,ec,ed⟩:=At a6.out j;cases dl
         (try replace am:=(HB.out.cell (World.block_lt_of_cell? w _ am)).trans am);go_wp2_with (first | ((with_reducible refine cF (b:=.append) (xs:=#[.tmp 53,.tmp 58]) rfl ?_);at_builtin;refine Kd.eS (Kd.int .i64) (w0:=w) w.heap.size rfl (.tmp 53) (.tmp 58) 22 3 (.int .i64 0) 8 rfl Tryz.underlying22 fb rfl (by decide) (by omega) u3 X (rd l0 j) [.int .i64 (rd l0 j)] (fun _=>True) (fun _=>False) rfl rfl (by exact rfl) (fun _ hk=>hk.elim) (by exact fun _ _=>trivial) (by exact ac y.out) (by exact wx HB.out) (by exact ak (wx HB.out)) (by have:=b0.out;omega) ?_;intro ca dp ho hb hg hat;rw [← b3.out] at ho;have aL:=ae.mk hb;have aO:=ae.mk ho;clear HB;clear y;have HB:=aL;have b4:=aO;clear aL aO;clear ho hb hg hat));repeat (go_quiet (first | ((with_reducible refine cF (b:=.append) (xs:=#[.tmp 53,.tmp 58]) rfl ?_);at_builtin;refine Kd.eS (Kd.int .i64) (w0:=w) w.heap.size rfl (.tmp 53) (.tmp 58) 22 3 (.int .i64 0) 8 rfl Tryz.underlying22 fb rfl (by decide) (by omega) u3 X (rd l0 j) [.int .i64 (rd l0 j)] (fun _=>True) (fun _=>False) rfl rfl (by exact rfl) (fun _ hk=>hk.elim) (by exact fun _ _=>trivial) (by exact ac y.out) (by exact wx HB.out) (by exact ak (wx HB.out)) (by have:=b0.out;omega) ?_;intro ca dp ho hb hg hat;rw [← b3.out] at ho;have aL:=ae.mk hb;have aO:=ae.mk ho;clear HB;clear y;have HB:=aL;have b4:=aO;clear aL aO;clear ho hb hg hat));try go_wp2_with (first | ((with_reducible refine cF (b:=.append) (xs:=#[.tmp 53,.tmp 58]) rfl ?_);at_builtin;refine Kd.eS (Kd.int .i64) (w0:=w) w.heap.size rfl (.tmp 53) (.tmp 58) 22 3 (.int .i64 0) 8 rfl Tryz.underlying22 fb rfl (by decide) (by omega) u3 X (rd l0 j) [.int .i64 (rd l0 j)] (fun _=>True) (fun _=>False) rfl rfl (by exact rfl) (fun _ hk=>hk.elim) (by exact fun _ _=>trivial) (by exact ac y.out) (by exact wx HB.out) (by exact ak (wx HB.out)) (by have:=b0.out;omega) ?_;intro ca dp ho hb hg hat;rw [← b3.out] at ho;have aL:=ae.mk hb;have aO:=ae.mk ho;clear HB;clear y;have HB:=aL;have b4:=aO;clear aL aO;clear ho hb hg hat)))
         go_roundg k2;case measure=>have:=ap.out;have:=ar.out;omega
         case rel=>exact ⟨(c1),(wrap64 (j+1)),ww,H',⟨by have:=ap.out;have:=ar.out;omega⟩,⟨ac b4.out⟩,⟨wx HB.out⟩⟩
        ·replace bv:=Bool.eq_false_iff.mpr bv
         subst bv;replace H:(bh.l0 k2 l0 X (wrap64 (j+1))) = some r:=by rw [if_neg (show ¬ (false = true) by decide)] at H;exact H
         have H':=ae.mk H;clear H;go_wp2;repeat (go_quiet (fail);try go_wp2)
         go_roundg k2;case measure=>have:=ap.out;have:=ar.out;omega
         case rel=>exact ⟨(X),(wrap64 (j+1)),ww,H',⟨by have:=ap.out;have:=ar.out;omega⟩,⟨ac y.out⟩,⟨wx HB.out⟩⟩
    ·rw [if_neg c6] at H
     have d1:decide (j < (l0.length:Int)) = false:=decide_eq_false c6;clear c6;obtain ⟨bs,cq,H⟩:=xa H;(try dsimp only at H);obtain rfl:=Option.some.inj H;obtain ⟨ee,ef,dq⟩:=Kd.bk y.out;subst dq;go_wp2_with (first | (go_at_call 90;(with_reducible refine (aC.calls k1 _ _ X bs _ ?side1 ?side2 cq.out).mono ?_);(case side1=>exact yi ((Kd.az y.out).2.2));(case side2=>exact (Kd.az y.out).2.1);rintro e dt ⟨cb,rfl,ao,hb⟩;have ba:=ae.mk (Kd.b5 (Kd.dy ao (Kd.ek (ac y.out))) (ak (wx HB.out)));replace y:=ae.mk (Kd.cz (ac y.out) (Kd.cL ao) hb);replace HB:=xi HB hb;(try clear hb);(try clear du);(try clear hk);(try clear hi);(try clear ao)));repeat (go_quiet (first | (go_at_call 90;(with_reducible refine (aC.calls k1 _ _ X bs _ ?side1 ?side2 cq.out).mono ?_);(case side1=>exact yi ((Kd.az y.out).2.2));(case side2=>exact (Kd.az y.out).2.1);rintro e dt ⟨cb,rfl,ao,hb⟩;have ba:=ae.mk (Kd.b5 (Kd.dy ao (Kd.ek (ac y.out))) (ak (wx HB.out)));replace y:=ae.mk (Kd.cz (ac y.out) (Kd.cL ao) hb);replace HB:=xi HB hb;(try clear hb);(try clear du);(try clear hk);(try clear hi);(try clear ao)));try go_wp2_with (first | (go_at_call 90;(with_reducible refine (aC.calls k1 _ _ X bs _ ?side1 ?side2 cq.out).mono ?_);(case side1=>exact yi ((Kd.az y.out).2.2));(case side2=>exact (Kd.az y.out).2.1);rintro e dt ⟨cb,rfl,ao,hb⟩;have ba:=ae.mk (Kd.b5 (Kd.dy ao (Kd.ek (ac y.out))) (ak (wx HB.out)));replace y:=ae.mk (Kd.cz (ac y.out) (Kd.cL ao) hb);replace HB:=xi HB hb;(try clear hb);(try clear du);(try clear hk);(try clear hi);(try clear ao))))
     go_ret;exact ⟨_,zd,by (with_reducible repeat (first | apply Kd.cP | apply Kd.cQ | apply Kd.bY));exact Kd.aQ ba.out (fun _ hk=>trivial),wy⟩
 ·replace c3:=Bool.eq_false_iff.mpr c3
  subst c3;replace H:(some aw) = some r:=by rw [if_neg (show ¬ (false = true) by decide)] at H;exact H
  obtain rfl:=Option.some.inj H;go_enter Tryz.func189,Tryz.ntmps189;go_wp2_with (first | (refine AL (Kd.int .i64) 3 7 ?_;intro aB dv Y hb a8 a1;clear a8 a1;(first | rw [← a0.out] at Y | (simp only [Int.reduceToNat] at Y;rw [← a0.out] at Y));have a5:=ae.mk (Kd.b5 Y (ak (wx HB.out)));replace HB:=xi HB hb;clear hb Y) | (go_at_call 185;(with_reducible refine (bB.calls k 8 _ _ l0 false _ ?side1 ?side2 A2.out).mono ?_);(case side1=>exact yi (Kd.aN a6.out HB.out));(case side2=>exact bc.out);rintro e w' ⟨rfl,⟨nd,rfl⟩⟩;(try exact AH)));repeat (go_quiet (first | (refine AL (Kd.int .i64) 3 7 ?_;intro aB dv Y hb a8 a1;clear a8 a1;(first | rw [← a0.out] at Y | (simp only [Int.reduceToNat] at Y;rw [← a0.out] at Y));have a5:=ae.mk (Kd.b5 Y (ak (wx HB.out)));replace HB:=xi HB hb;clear hb Y) | (go_at_call 185;(with_reducible refine (bB.calls k 8 _ _ l0 false _ ?side1 ?side2 A2.out).mono ?_);(case side1=>exact yi (Kd.aN a6.out HB.out));(case side2=>exact bc.out);rintro e w' ⟨rfl,⟨nd,rfl⟩⟩;(try exact AH)));try go_wp2_with (first | (refine AL (Kd.int .i64) 3 7 ?_;intro aB dv Y hb a8 a1;clear a8 a1;(first | rw [← a0.out] at Y | (simp only [Int.reduceToNat] at Y;rw [← a0.out] at Y));have a5:=ae.mk (Kd.b5 Y (ak (wx HB.out)));replace HB:=xi HB hb;clear hb Y) | (go_at_call 185;(with_reducible refine (bB.calls k 8 _ _ l0 false _ ?side1 ?side2 A2.out).mono ?_);(case side1=>exact yi (Kd.aN a6.out HB.out));(case side2=>exact bc.out);rintro e w' ⟨rfl,⟨nd,rfl⟩⟩;(try exact AH))))
  go_ret;exact ⟨_,zd,by (with_reducible repeat (first | apply Kd.cP | apply Kd.cQ | apply Kd.bY));exact a5.out,wy⟩
def cE.l0:Nat→List Int→Int→Int→List Int→Option (List Int)
 | 0,_,_,_,_=>none
 | k+1,x3,z,j,y=>(cn.f j).bind fun X=>(if z≤X then ((cS.f k j y z).bind fun Y=>((b9.f k z).bind fun a0=>(if Y < a0 then (if x3.length < 17592186044416 then (cE.l0 k (x3 ++ [z]) (wrap64 (z+1)) j y) else (none)) else (cE.l0 k x3 (wrap64 (z+1)) j y)))) else ((bh.f k x3).bind fun a1=>(some a1)))
def cE.f (k:Nat) (j:Int) (y:List Int):Option (List Int):=cE.l0 k (([]:List Int)) 0 j y
set_option maxHeartbeats 8000000 in
set_option maxRecDepth 100000 in
theorem cE.calls (k:Nat) (z:Int) (a1:Option Addr) (a2:Nat) (X:List Int) (r:List Int) (w:World) (a8:Kd.C (Kd.int .i64) w a1 X.length X) (a9:X.length≤a2) (h:cE.f k z X = some r) :
  Calls Tryz.prog 142 #[.agg #[.int .i64 z,.slice a1 X.length a2]] w fun e w'=>∃ b2:Value,e = .returned (b2)∧Kd.R (Kd.int .i64) 3 w' w.heap.size (fun _=>True) b2 r∧Below w.heap.size w w':=by
 have d5:=Tryz.underlying37;have aa:=ae.mk a8;have ab:=ae.mk a9;clear a8 a9;have HB:=ae.mk (Below.refl w.heap.size w);unfold cE.f at h;have H:=h;clear h;obtain ⟨aw,a4⟩:∃ y_:List Int,y_ = (([]:List Int)):=⟨_,rfl⟩
 replace H:(cE.l0 k aw 0 z X) = some r:=by (try rw [a4]);exact AC
 have am:=ae.mk a4;clear a4;have H':=ae.mk H;clear H;go_enter Tryz.func142,Tryz.ntmps142;go_wp2_with (first | (refine zp 1 #[.int .i64 z,.slice a1 X.length a2] 37 ?_;intro ao hg w2 hbox hb;have j:=ae.mk hbox;have d1:=yv hg HB;have d2:=yv hg HB;replace HB:=xi HB hb;clear hb hbox hg) | (refine AL (Kd.int .i64) 3 5 ?_;intro d6 w3 ap hb d3 aF;clear d3 aF;(first | rw [← am.out] at ap | (simp only [Int.reduceToNat] at ap;rw [← am.out] at ap));have aL:=ae.mk (Kd.b5 ap (ak (wx HB.out)));replace j:=xc j hb;replace HB:=xi HB hb;clear hb ap));go_loopg [3,4] k (fun kq v3 v4 w'=>∃ (a0:List Int) (y:Int),v4 = .int .i64 y∧ae (cE.l0 kq a0 y z X = some r)∧ae (kq≤k)∧ae (Kd.R (Kd.int .i64) 3 w' w.heap.size (fun _=>True) v3 a0)∧ae (w'.heap[ao]? = some (.cells #[.int .i64 z,(.slice a1 X.length a2)] 37 (0,0)))∧ae (Below w.heap.size w w'))
 case atStart=>exact ⟨(aw),(0),ww,H',⟨Nat.le_refl _⟩,⟨ac aL.out⟩,⟨xf j.out⟩,⟨wx HB.out⟩⟩
 case round =>
  clear H';obtain ⟨a0,y,rfl,HA,ar,Y,j,HB⟩:=hrel;cases gk with
  | zero=>exact absurd HA.out (by simp [cE.l0])
  | succ k1 =>
   have H:=HA.out;clear HA;simp only [cE.l0] at H;obtain ⟨a3,A5,H⟩:=xa H;(try dsimp only at H);by_cases c6:y≤a3
   ·rw [if_pos c6] at H
    have b3:=decide_eq_true c6;clear c6;obtain ⟨a6,A7,H⟩:=xa H;(try dsimp only at H);obtain ⟨a7,A8,H⟩:=xa H;(try dsimp only at H);by_cases c9:a6 < a7
    ·rw [if_pos c9] at H
     have b4:=decide_eq_true c9;clear c9;obtain ⟨iN,H⟩:=xt H;have aO:=ae.mk iN;clear iN;obtain ⟨aB,a5⟩:∃ y_:List Int,y_ = (a0 ++ [y]):=⟨_,rfl⟩
     replace H:(cE.l0 k1 aB (wrap64 (y+1)) z X) = some r:=by (try rw [a5]);exact AC
     have aP:=ae.mk a5;clear a5;have H':=ae.mk H;clear H;obtain ⟨ba,bc,bi,bm⟩:=xv j.out;go_wp2_with (first | (refine ws (some 9) Tryz.func83 #[.int .i64 z] ?_;(with_reducible refine (cn.calls z a3 _ A5.out).mono ?_);rintro e w' ⟨rfl,⟨nd,rfl⟩⟩;refine ⟨_,rfl,?_⟩) | (refine ws (some 15) Tryz.func93 #[.agg #[.int .i64 z,.slice a1 X.length a2],.int .i64 y] ?_;(with_reducible refine (cS.calls k1 z _ _ X y a6 _ ?side1 ?side2 A7.out).mono ?_);(case side1=>exact yi (Kd.aN aa.out HB.out));(case side2=>exact ab.out);rintro e d9 ⟨rfl,hb⟩;refine ⟨_,rfl,?_⟩;replace Y:=z2 Y hb;replace j:=xc j hb;replace HB:=xi HB hb;(try clear hb);(try clear bo);(try clear hk);(try clear hi)) | (refine ws (some 17) Tryz.func59 #[.int .i64 y] ?_;(with_reducible refine (b9.calls k1 y a7 _ A8.out).mono ?_);rintro e w' ⟨rfl,⟨nd,rfl⟩⟩;refine ⟨_,rfl,?_⟩) | ((with_reducible refine cF (b:=.append) (xs:=#[.tmp 19,.tmp 21]) rfl ?_);at_builtin;refine Kd.eS (Kd.int .i64) (w0:=w) w.heap.size rfl (.tmp 19) (.tmp 21) 22 3 (.int .i64 0) 8 rfl Tryz.underlying22 fb rfl (by decide) (by omega) u3 a0 y [.int .i64 y] (fun _=>True) (fun _=>False) rfl rfl (by exact rfl) (fun _ hk=>hk.elim) (by exact fun _ _=>trivial) (by exact ac Y.out) (by exact wx HB.out) (by exact ak (wx HB.out)) (by have:=aO.out;omega) ?_;intro d7 db ho hb hg hat;rw [← aP.out] at ho;have bs:=ae.mk (eR (g:=ao) (o:=.cells #[.int .i64 z,.slice a1 X.length a2] 37 (0,0)) (xf j.out) hg (Kd.jU Y.out j.out (by decide)));have bv:=ae.mk hb;have c0:=ae.mk ho;clear j;clear HB;clear Y;have j:=bs;have HB:=bv;have aR:=c0;clear bs bv c0;clear ho hb hg hat));go_roundg k1;case measure=>have:=ar.out;omega
     case rel=>exact ⟨(aB),(wrap64 (y+1)),ww,H',⟨by have:=ar.out;omega⟩,⟨ac aR.out⟩,⟨xf j.out⟩,⟨wx HB.out⟩⟩
    ·rw [if_neg c9] at H
     have b4:decide (a6 < a7) = false:=decide_eq_false c9;clear c9;have H':=ae.mk H;clear H;obtain ⟨c1,ca,cb,cc⟩:=xv j.out;go_wp2_with (first | (refine ws (some 9) Tryz.func83 #[.int .i64 z] ?_;(with_reducible refine (cn.calls z a3 _ A5.out).mono ?_);rintro e w' ⟨rfl,⟨nd,rfl⟩⟩;refine ⟨_,rfl,?_⟩) | (refine ws (some 15) Tryz.func93 #[.agg #[.int .i64 z,.slice a1 X.length a2],.int .i64 y] ?_;(with_reducible refine (cS.calls k1 z _ _ X y a6 _ ?side1 ?side2 A7.out).mono ?_);(case side1=>exact yi (Kd.aN aa.out HB.out));(case side2=>exact ab.out);rintro e dd ⟨rfl,hb⟩;refine ⟨_,rfl,?_⟩;replace Y:=z2 Y hb;replace j:=xc j hb;replace HB:=xi HB hb;(try clear hb);(try clear bo);(try clear hk);(try clear hi)) | (refine ws (some 17) Tryz.func59 #[.int .i64 y] ?_;(with_reducible refine (b9.calls k1 y a7 _ A8.out).mono ?_);rintro e w' ⟨rfl,⟨nd,rfl⟩⟩;refine ⟨_,rfl,?_⟩));go_roundg k1;case measure=>have:=ar.out;omega
     case rel=>exact ⟨(a0),(wrap64 (y+1)),ww,H',⟨by have:=ar.out;omega⟩,⟨ac Y.out⟩,⟨xf j.out⟩,⟨wx HB.out⟩⟩
   ·rw [if_neg c6] at H
    have b3:decide (y≤a3) = false:=decide_eq_false c6;clear c6;obtain ⟨ce,d4,H⟩:=xa H;(try dsimp only at H);obtain rfl:=Option.some.inj H;obtain ⟨cf,ci,cp,cq⟩:=xv j.out;go_wp2_with (first | (refine ws (some 9) Tryz.func83 #[.int .i64 z] ?_;(with_reducible refine (cn.calls z a3 _ A5.out).mono ?_);rintro e w' ⟨rfl,⟨nd,rfl⟩⟩;refine ⟨_,rfl,?_⟩;obtain ⟨cx,cy,d0⟩:=Kd.bk Y.out;subst d0) | (refine ws (some 24) Tryz.func189 #[.slice cx a0.length cy] ?_;(with_reducible refine (bh.calls k1 _ _ a0 ce _ ?side1 ?side2 d4.out).mono ?_);(case side1=>exact yi ((Kd.az Y.out).2.2));(case side2=>exact (Kd.az Y.out).2.1);rintro e df ⟨d8,rfl,aS,hb⟩;refine ⟨_,rfl,?_⟩;have b0:=ae.mk (Kd.b5 (Kd.dy aS (Kd.ek (ac Y.out))) (ak (wx HB.out)));replace Y:=ae.mk (Kd.cz (ac Y.out) (Kd.cL aS) hb);replace j:=xc j hb;replace HB:=xi HB hb;(try clear hb);(try clear bo);(try clear hk);(try clear hi);(try clear aS)));go_ret;exact ⟨_,zd,by (with_reducible repeat (first | apply Kd.cP | apply Kd.cQ | apply Kd.bY));exact Kd.aQ b0.out (fun _ hk=>trivial),wy⟩
def fQ.f (k:Nat) (j:Int) (y:List Int):Option (List Int):=(aY.f k j y).bind fun z=>(if z = true then ((cE.f k j y).bind fun X=>(some X)) else (some (([]:List Int))))
set_option maxHeartbeats 8000000 in
set_option maxRecDepth 100000 in
theorem fQ.calls (k:Nat) (z:Int) (X:Option Addr) (Y:Nat) (y:List Int) (r:List Int) (w:World) (a4:Kd.C (Kd.int .i64) w X y.length y) (a5:y.length≤Y) (h:fQ.f k z y = some r) :
  Calls Tryz.prog 89 #[.agg #[.int .i64 z,.slice X y.length Y]] w fun e w'=>∃ ap:Value,e = .returned (ap)∧Kd.R (Kd.int .i64) 3 w' w.heap.size (fun _=>True) ap r∧Below w.heap.size w w':=by
 have bo:=Tryz.underlying37;have a1:=ae.mk a4;have a2:=ae.mk a5;clear a4 a5;have HB:=ae.mk (Below.refl w.heap.size w);unfold fQ.f at h;have H:=h;clear h;obtain ⟨ar,A2,H⟩:=xa H;(try dsimp only at H);by_cases c3:ar = true
 ·subst c3
  replace H:((cE.f k z y).bind fun a6=>(some a6)) = some r:=by rw [if_pos rfl] at H;exact H
  obtain ⟨a6,A4,H⟩:=xa H;(try dsimp only at H);obtain rfl:=Option.some.inj H;go_enter Tryz.func89,Tryz.ntmps89;go_wp2_with (first | (refine zp 1 #[.int .i64 z,.slice X y.length Y] 37 ?_;intro a8 hg w5 hbox hb;have j:=ae.mk hbox;have a9:=yv hg HB;have aa:=yv hg HB;replace HB:=xi HB hb;clear hb hbox hg;obtain ⟨aS,b0,b2,b3⟩:=xv j.out) | (refine ws (some 4) Tryz.func39 #[.agg #[.int .i64 z,.slice X y.length Y]] ?_;(with_reducible refine (aY.calls k z _ _ y true _ ?side1 ?side2 A2.out).mono ?_);(case side1=>exact yi (Kd.aN a1.out HB.out));(case side2=>exact a2.out);rintro e w7 ⟨rfl,hb⟩;refine ⟨_,rfl,?_⟩;replace j:=xc j hb;replace HB:=xi HB hb;(try clear hb);(try clear aw);(try clear hk);(try clear hi);obtain ⟨b4,ba,bc,bi⟩:=xv j.out) | (refine ws (some 8) Tryz.func142 #[.agg #[.int .i64 z,.slice X y.length Y]] ?_;(with_reducible refine (cE.calls k z _ _ y a6 _ ?side1 ?side2 A4.out).mono ?_);(case side1=>exact yi (Kd.aN a1.out HB.out));(case side2=>exact a2.out);rintro e w9 ⟨bs,rfl,aB,hb⟩;refine ⟨_,rfl,?_⟩;have ab:=ae.mk (Kd.b5 aB (ak (wx HB.out)));replace j:=xc j hb;replace HB:=xi HB hb;(try clear hb);(try clear aw);(try clear hk);(try clear hi);(try clear aB)));go_ret;exact ⟨_,zd,by (with_reducible repeat (first | apply Kd.cP | apply Kd.cQ | apply Kd.bY));exact ab.out,wy⟩
 ·replace c3:=Bool.eq_false_iff.mpr c3
  subst c3;replace H:(some (([]:List Int))) = some r:=by rw [if_neg (show ¬ (false = true) by decide)] at H;exact H
  obtain ⟨aF,a3⟩:∃ y_:List Int,y_ = (([]:List Int)):=⟨_,rfl⟩
  replace H:(some aF) = some r:=by (try rw [a3]);exact AC
  have a7:=ae.mk a3;clear a3;obtain rfl:=Option.some.inj H;go_enter Tryz.func89,Tryz.ntmps89;go_wp2_with (first | (refine zp 1 #[.int .i64 z,.slice X y.length Y] 37 ?_;intro a8 hg c0 hbox hb;have j:=ae.mk hbox;have a9:=yv hg HB;have aa:=yv hg HB;replace HB:=xi HB hb;clear hb hbox hg;obtain ⟨aL,aO,aP,aR⟩:=xv j.out) | (refine ws (some 4) Tryz.func39 #[.agg #[.int .i64 z,.slice X y.length Y]] ?_;(with_reducible refine (aY.calls k z _ _ y false _ ?side1 ?side2 A2.out).mono ?_);(case side1=>exact yi (Kd.aN a1.out HB.out));(case side2=>exact a2.out);rintro e c1 ⟨rfl,hb⟩;refine ⟨_,rfl,?_⟩;replace j:=xc j hb;replace HB:=xi HB hb;(try clear hb);(try clear aw);(try clear hk);(try clear hi)) | (refine AL (Kd.int .i64) 3 6 ?_;intro bv ca a0 hb bm am;clear bm am;(first | rw [← a7.out] at a0 | (simp only [Int.reduceToNat] at a0;rw [← a7.out] at a0));have ao:=ae.mk (Kd.b5 a0 (ak (wx HB.out)));replace j:=xc j hb;replace HB:=xi HB hb;clear hb a0));go_ret;exact ⟨_,zd,by (with_reducible repeat (first | apply Kd.cP | apply Kd.cQ | apply Kd.bY));exact ao.out,wy⟩
def aX.l0:Nat→List Int→List Int→Int→Option (List Int)
 | 0,_,_,_=>none
 | k+1,Y,X,j=>if j < (X.length:Int) then (if 0≤j then ((eE.f (rd X j)).bind fun y=>(if Y.length < 17592186044416 then (aX.l0 k (Y ++ [wrap64 ((rd X j) - y)]) X (wrap64 (j+1))) else (none))) else (none)) else ((aC.f k Y).bind fun z=>(some z))
def aX.f (k:Nat) (j:Int) (y:List Int):Option (List Int):=(fQ.f k j y).bind fun z=>(aX.l0 k (([]:List Int)) z 0)
def aX.T6:Bool×List (List Nat×List Nat):=(true,[([],[]),([],[]),([],[]),([1,2],[1,2]),([3],[3]),([],[]),([],[]),([5,6],[5,6]),([7],[7]),([8],[8]),([4,9],[4,9]),([10],[10]),([0,11,9],[0,11]),([12,12,0,1,2,3,4,5,6,7,8,9,10,11,12],[0,12])])
def aX.B6:List Nat:=[0,0,0,6,14,0,0,96,224,480,1022,2046,4095,8191]
theorem aX.qS:gv .any (opsOf Tryz.f38 6) = aX.T6:=by kernel_rfl
theorem aX.nn:eN aX.T6.2 aX.B6 = true:=by kernel_rfl
set_option maxHeartbeats 8000000 in
set_option maxRecDepth 100000 in
theorem aX.calls (k:Nat) (a2:Int) (a4:Option Addr) (a5:Nat) (a0:List Int) (r:List Int) (w:World) (ap:Kd.C (Kd.int .i64) w a4 a0.length a0) (ar:a0.length≤a5) (h:aX.f k a2 a0 = some r) :
  Calls Tryz.prog 38 #[.agg #[.int .i64 a2,.slice a4 a0.length a5]] w fun e w'=>∃ ca:Value,e = .returned (ca)∧Kd.R (Kd.int .i64) 3 w' w.heap.size (fun _=>True) ca r∧Below w.heap.size w w':=by
 have du:=Tryz.underlying37;have ba:=ae.mk ap;have bc:=ae.mk ar;clear ap ar;have HB:=ae.mk (Below.refl w.heap.size w);unfold aX.f at h;have H:=h;clear h;obtain ⟨b2,ab⟩:∃ y_:List Int,y_ = (([]:List Int)):=⟨_,rfl⟩
 replace H:((fQ.f k a2 a0).bind fun z=>(aX.l0 k b2 z 0)) = some r:=by (try rw [ab]);exact AC
 have aw:=ae.mk ab;clear ab;obtain ⟨z,A2,H⟩:=xa H;(try dsimp only at H);have H':=ae.mk H;clear H;go_enter Tryz.func38,Tryz.ntmps38;go_wp2_with (first | (refine zp 1 #[.int .i64 a2,.slice a4 a0.length a5] 37 ?_;intro aR hg w3 hbox hb;have j:=ae.mk hbox;have df:=yv hg HB;have dk:=yv hg HB;replace HB:=xi HB hb;clear hb hbox hg) | (refine AL (Kd.int .i64) 3 6 ?_;intro dv w4 b0 hb dl bi;clear dl bi;(first | rw [← aw.out] at b0 | (simp only [Int.reduceToNat] at b0;rw [← aw.out] at b0));have a6:=ae.mk (Kd.b5 b0 (ak (wx HB.out)));replace j:=xc j hb;replace HB:=xi HB hb;clear hb b0;obtain ⟨d8,d9,db,dd⟩:=xv j.out) | (refine ws (some 8) Tryz.func89 #[.agg #[.int .i64 a2,.slice a4 a0.length a5]] ?_;(with_reducible refine (fQ.calls k a2 _ _ a0 z _ ?side1 ?side2 A2.out).mono ?_);(case side1=>exact yi (Kd.aN ba.out HB.out));(case side2=>exact bc.out);rintro e w7 ⟨b3,rfl,a8,hb⟩;refine ⟨_,rfl,?_⟩;have bm:=ae.mk (Kd.b5 (Kd.dy a8 (Kd.ek (ac a6.out))) (ak (wx HB.out)));replace a6:=ae.mk (Kd.cz (ac a6.out) (Kd.cL a8) hb);replace j:=xc j hb;replace HB:=xi HB hb;(try clear hb);(try clear dp);(try clear hk);(try clear hi);(try clear a8)));go_loopg [3,5] k (fun kq v3 v5 w'=>∃ (a3:List Int) (y:Int),v5 = .int .i64 y∧ae (aX.l0 kq a3 z y = some r)∧ae (kq≤k)∧ae (Kd.R (Kd.int .i64) 3 w' w.heap.size (fun k_=>some k_≠(b3:Value).ownBlock) v3 a3)∧ae (Kd.R (Kd.int .i64) 3 w' w.heap.size (fun k_=>some k_≠(v3:Value).ownBlock) b3 z)∧ae (w'.heap[aR]? = some (.cells #[.int .i64 a2,(.slice a4 a0.length a5)] 37 (0,0)))∧ae (Below w.heap.size w w'))
 case atStart=>exact ⟨(b2),(0),ww,H',⟨Nat.le_refl _⟩,⟨ac (Kd.aQ a6.out (fun _ hk=>hk.2))⟩,⟨ac (Kd.aQ bm.out (fun _ hk=>hk.2))⟩,⟨xf j.out⟩,⟨wx HB.out⟩⟩
 case round =>
  clear H';obtain ⟨a3,y,rfl,HA,cb,Y,X,j,HB⟩:=hrel;cases gk with
  | zero=>exact absurd HA.out (by simp [aX.l0])
  | succ k1 =>
   have H:=HA.out;clear HA;simp only [aX.l0] at H;by_cases c8:y < (z.length:Int)
   ·rw [if_pos c8] at H
    have cc:=decide_eq_true c8;clear c8;obtain ⟨c9,H⟩:=xt H;have dC:=decide_eq_true c9;clear c9;obtain ⟨ao,dq,H⟩:=xa H;(try dsimp only at H);obtain ⟨ce,H⟩:=xt H;have bo:=ae.mk ce;clear ce;obtain ⟨b4,am⟩:∃ y_:List Int,y_ = (a3 ++ [wrap64 ((rd z y) - ao)]):=⟨_,rfl⟩
    replace H:(aX.l0 k1 b4 z (wrap64 (y+1))) = some r:=by (try rw [am]);exact AC
    have bs:=ae.mk am;clear am;have H':=ae.mk H;clear H;obtain ⟨dE,cf,ci⟩:=Kd.bk X.out;subst ci;(try go_wp2);replace Y:=ae.mk (Kd.bY Y.out);replace X:=ae.mk (Kd.bY X.out);replace j:=ae.mk (cM j.out);replace HB:=ae.mk (bP HB.out);obtain ⟨a7,cp,a9,dT,e0⟩:=At (Kd.az X.out).2.2 y;cases cp
    obtain ⟨bv,cq,aa,e1,e2⟩:=At (Kd.az X.out).2.2 y;obtain rfl:a7 = bv:=(by injection cq)
    refine eT (n:=14) (S:=fun w'=>w'.cell? (a7.add (y).toNat) = some (.int .i64 (rd z y))∧w'.cell? (a7.add (y).toNat) = some (.int .i64 (rd z y))) (ds:=[11,12]) #[false,false,false,false,false,false,false,false,false,false,false,false,false,false] (by kernel_rfl) rfl rfl ⟨a9,aa⟩ (fun hHeld=>?_);refine da aX.qS aX.nn (fun a1 cx=>?_);generalize wr.drew = ea at Y X j HB a9 aa hHeld ⊢;refine wt 0 15 a1 ?_;refine wt 1 16 a1 ?_;refine wt 2 17 a1 ?_;refine wt 3 18 a1 ?_;refine wt 5 20 a1 ?_;refine wt 6 21 a1 ?_;refine wt 7 22 a1 ?_;refine AF 4 19 a1 cx hHeld ?_;refine AF 8 23 a1 cx hHeld ?_;refine fe (i:=9) (N:=some 24) #[true,true,true,true,true,true,true,true,true,true,false,false,false,false] rfl rfl (cH a1.out (by kernel_rfl)) (by decide) (fun K hK=>?_);refine eK Tryz.func79 (by kernel_rfl) rfl #[.int .i64 (rd z y)] (by rfl) rfl rfl (by (try simp only [List.map_toArray,List.map_cons,List.map_nil]);first | done | rfl) ?_;with_reducible refine (eE.calls (rd z y) ao _ dq.out).mono ?_
    rintro e w' ⟨rfl,⟨nd,rfl⟩⟩
    refine ⟨_,rfl,?_⟩;refine hK.out _ _ ⟨hHeld.1,hHeld.2⟩ (fun hHeld=>?_);clear hK K;refine dN (a':=?_) ?_ ?_;rotate_left
    ·show Act.put _ (some 24) _ = _
     simp only [Act.put,List.setIfInBounds_toArray,List.set_cons_zero,List.set_cons_succ,b7,bC];rfl
    refine wt 10 25 a1 ?_;refine lH (i:=11) (N:=some 26) #[true,true,true,true,true,true,true,true,true,true,true,true,false,false] rfl rfl (cH a1.out (by kernel_rfl)) (by decide) (fun K hK=>?_);refine mO (w1:=?_) (v:=?_) (by rfl) rfl ?_ ?_;rotate_left 2
    ·go_simp
     constructor
     ·rfl
     ·rfl
    refine hK.out _ _ ?_;clear hK K;refine dN (a':=?_) ?_ ?_;rotate_left
    ·show Act.put _ (some 26) _ = _
     simp only [Act.put,List.setIfInBounds_toArray,List.set_cons_zero,List.set_cons_succ,b7,bC];rfl
    refine lH (i:=12) (N:=some 27) #[true,true,true,true,true,true,true,true,true,true,true,true,true,false] rfl rfl (cH a1.out (by kernel_rfl)) (by decide) (fun K hK=>?_);refine Kd.gU (Kd.int .i64) (w0:=w) w.heap.size (by rfl) (.tmp 15) (.tmp 26) 22 3 (.int .i64 0) 8 rfl Tryz.underlying22 fb rfl (by decide) (by omega) u3 a3 (wrap64 ((rd z y) - ao)) [.int .i64 (wrap64 ((rd z y) - ao))] (fun k_=>some k_≠(.slice (some a7) z.length cf:Value).ownBlock) (fun _=>False) rfl rfl ?aP (fun _ hk=>hk.elim) ?aF ?aO ?aB ?aS ?aL ?_;(case aP=>exact rfl);(case aB=>exact (wx HB.out));(case aF=>exact (fun k_ hk=>Kd.fresh' (Kd.ek (ac X.out)) k_ hk));(case aO=>exact (ac Y.out));(case aS=>exact (ak (wx HB.out)));(case aL=>have:=bo.out;omega);intro e3 eb ho hb hg hat;rw [← bs.out] at ho;have cy:=ae.mk (Kd.fc (ok:=(fun _=>True)) (ac (Kd.aQ X.out (fun _ hk=>⟨trivial,hk⟩))) hg hat);have d0:=ae.mk (eR (g:=aR) (o:=.cells #[.int .i64 a2,.slice a4 a0.length a5] 37 (0,0)) (xf j.out) hg (Kd.jU Y.out j.out (by decide)));have d1:=ae.mk hb;have d2:=ae.mk ho;clear X;clear j;clear HB;clear Y;have X:=cy;have j:=d0;have HB:=d1;have c0:=d2;clear cy d0 d1 d2;clear ho hb hg hat;refine hK.out _ _ ?_;clear hK K;refine dN (a':=?_) ?_ ?_;rotate_left
    ·show Act.put _ (some 27) _ = _
     simp only [Act.put,List.setIfInBounds_toArray,List.set_cons_zero,List.set_cons_succ,b7,bC];rfl
    refine wt 13 3 a1 ?_;refine fP (e9 a1.out (by kernel_rfl)) ?_;(try go_wp2);go_roundg k1;case measure=>have:=cb.out;omega
    case rel=>exact ⟨(b4),(wrap64 (y+1)),ww,H',⟨by have:=cb.out;omega⟩,⟨ac c0.out⟩,⟨ac (Kd.aQ X.out (fun _ hk=>hk.2))⟩,⟨xf j.out⟩,⟨wx HB.out⟩⟩
   ·rw [if_neg c8] at H
    have cc:decide (y < (z.length:Int)) = false:=decide_eq_false c8;clear c8;obtain ⟨d3,dt,H⟩:=xa H;(try dsimp only at H);obtain rfl:=Option.some.inj H;obtain ⟨e4,e5,d4⟩:=Kd.bk X.out;subst d4;obtain ⟨d5,d6,d7⟩:=Kd.bk Y.out;subst d7;go_wp2_with (first | (refine ws (some 29) Tryz.func90 #[.slice d5 a3.length d6] ?_;(with_reducible refine (aC.calls k1 _ _ a3 d3 _ ?side1 ?side2 dt.out).mono ?_);(case side1=>exact yi ((Kd.az Y.out).2.2));(case side2=>exact (Kd.az Y.out).2.1);rintro e ec ⟨e8,rfl,a8,hb⟩;refine ⟨_,rfl,?_⟩;have c1:=ae.mk (Kd.b5 (Kd.dy (Kd.dy a8 (Kd.ek (ac Y.out))) (Kd.ek (ac X.out))) (ak (wx HB.out)));replace Y:=ae.mk (Kd.cz (ac Y.out) (Kd.cL a8) hb);replace X:=ae.mk (Kd.cz (ac X.out) (Kd.cL a8) hb);replace j:=xc j hb;replace HB:=xi HB hb;(try clear hb);(try clear dp);(try clear hk);(try clear hi);(try clear a8)));go_ret;exact ⟨_,zd,by (with_reducible repeat (first | apply Kd.cP | apply Kd.cQ | apply Kd.bY));exact Kd.aQ c1.out (fun _ hk=>trivial),wy⟩
def dx.l0:Nat→List Int→Int→Int→Option (Bool)
 | 0,_,_,_=>none
 | k+1,y,z,j=>if j < (y.length:Int) then (if 0≤j then (if (Go.bits .and .i64 (rd y j) z) = (rd y j) then (some true) else (dx.l0 k y z (wrap64 (j+1)))) else (none)) else (some false)
def dx.f (k:Nat) (l0:List Int) (j:Int):Option (Bool):=dx.l0 k l0 j 0
set_option maxHeartbeats 8000000 in
set_option maxRecDepth 100000 in
theorem dx.calls (k:Nat) (A0:Option Addr) (c0:Nat) (l0:List Int) (a1:Int) (r:Bool) (w:World) (a4:Kd.C (Kd.int .i64) w A0 l0.length l0) (a5:l0.length≤c0) (h:dx.f k l0 a1 = some r) :
  Calls Tryz.prog 85 #[.slice A0 l0.length c0,.int .i64 a1] w fun e w'=>e = .returned (.bool r)∧cT w w':=by
 have a3:=ae.mk a4;have ar:=ae.mk a5;clear a4 a5;unfold dx.f at h;have H:=h;clear h;have H':=ae.mk H;clear H;go_enter Tryz.func85,Tryz.ntmps85;go_wp2;repeat (go_quiet (fail);try go_wp2)
 go_loopg [5] k (fun kq v5 w'=>∃ (j:Int),v5 = .int .i64 j∧ae (dx.l0 kq l0 a1 j = some r)∧ae (kq≤k)∧cT w w')
 case atStart=>exact ⟨(0),ww,H',⟨Nat.le_refl _⟩,zt⟩
 case round =>
  clear H';obtain ⟨j,rfl,HA,a6,⟨m1,rfl⟩⟩:=hrel;cases gk with
  | zero=>exact absurd HA.out (by simp [dx.l0])
  | succ k1 =>
   have H:=HA.out;clear HA;simp only [dx.l0] at H;by_cases c3:j < (l0.length:Int)
   ·rw [if_pos c3] at H
    have a7:=decide_eq_true c3;clear c3;obtain ⟨c4,H⟩:=xt H;have ap:=decide_eq_true c4;clear c4;by_cases c5:(Go.bits .and .i64 (rd l0 j) a1) = (rd l0 j)
    ·rw [if_pos c5] at H
     have a8:((Go.bits .and .i64 (rd l0 j) a1) == (rd l0 j)) = true:=beq_iff_eq.mpr c5;have a9:((Go.bits .and .i64 (rd l0 j) a1) != (rd l0 j)) = false:=bne_eq_false_iff_eq.mpr c5;clear c5;obtain rfl:=Option.some.inj H;obtain ⟨y,X,Y,aa,ab⟩:=At a3.out j;cases X
     obtain ⟨z,a0,a2,am,ao⟩:=At a3.out j;obtain rfl:y = z:=(by injection a0)
     go_wp2;repeat (go_quiet (fail);try go_wp2)
     go_ret;exact ⟨ww,zt⟩
    ·rw [if_neg c5] at H
     have a8:((Go.bits .and .i64 (rd l0 j) a1) == (rd l0 j)) = false:=beq_eq_false_iff_ne.mpr c5;have a9:((Go.bits .and .i64 (rd l0 j) a1) != (rd l0 j)) = true:=bne_iff_ne.mpr c5;have H':=ae.mk H;clear H;obtain ⟨y,X,Y,aa,ab⟩:=At a3.out j;cases X
     obtain ⟨z,a0,a2,am,ao⟩:=At a3.out j;obtain rfl:y = z:=(by injection a0)
     go_wp2;repeat (go_quiet (fail);try go_wp2)
     go_roundg k1;case measure=>have:=a6.out;omega
     case rel=>exact ⟨(wrap64 (j+1)),ww,H',⟨by have:=a6.out;omega⟩,zt⟩
   ·rw [if_neg c3] at H
    have a7:decide (j < (l0.length:Int)) = false:=decide_eq_false c3;clear c3;obtain rfl:=Option.some.inj H;go_wp2;repeat (go_quiet (fail);try go_wp2)
    go_ret;exact ⟨ww,zt⟩
def bJ.l0:Nat→List Int→List Int→Int→Int→List Int→Option (List Int)
 | 0,_,_,_,_,_=>none
 | k+1,x3,x4,z,j,y=>(cn.f j).bind fun X=>(if z≤X then ((dx.f k x4 z).bind fun Y=>(if Y = true then (bJ.l0 k x3 x4 (wrap64 (z+1)) j y) else (if x3.length < 17592186044416 then (bJ.l0 k (x3 ++ [z]) x4 (wrap64 (z+1)) j y) else (none)))) else (some x3))
def bJ.f (k:Nat) (j:Int) (y:List Int):Option (List Int):=(some (([]:List Int):List Int)).bind fun z=>((aY.f k j y).bind fun X=>(if X = true then ((aX.f k j y).bind fun Y=>(bJ.l0 k z Y 0 j y)) else (some z)))
set_option maxHeartbeats 8000000 in
set_option maxRecDepth 100000 in
theorem bJ.calls (k:Nat) (y:Int) (a2:Option Addr) (a3:Nat) (z:List Int) (r:List Int) (w:World) (aB:Kd.C (Kd.int .i64) w a2 z.length z) (aF:z.length≤a3) (h:bJ.f k y z = some r) :
  Calls Tryz.prog 36 #[.agg #[.int .i64 y,.slice a2 z.length a3]] w fun e w'=>∃ ca:Value,e = .returned (ca)∧Kd.R (Kd.int .i64) 3 w' w.heap.size (fun _=>True) ca r∧Below w.heap.size w w':=by
 have e5:=Tryz.underlying37;have aa:=ae.mk aB;have ab:=ae.mk aF;clear aB aF;have HB:=ae.mk (Below.refl w.heap.size w);unfold bJ.f at h;have H:=h;clear h;obtain ⟨a6,am⟩:∃ y_:List Int,y_ = (([]:List Int)):=⟨_,rfl⟩
 replace H:((aY.f k y z).bind fun aL=>(if aL = true then ((aX.f k y z).bind fun Y=>(bJ.l0 k a6 Y 0 y z)) else (some a6))) = some r:=by (try rw [am]);exact AC
 have a5:=ae.mk am;clear am;obtain ⟨aL,A2,H⟩:=xa H;(try dsimp only at H);by_cases c3:aL = true
 ·subst c3
  replace H:((aX.f k y z).bind fun Y=>(bJ.l0 k a6 Y 0 y z)) = some r:=by rw [if_pos rfl] at H;exact H
  obtain ⟨Y,A4,H⟩:=xa H;(try dsimp only at H);have H':=ae.mk H;clear H;go_enter Tryz.func36,Tryz.ntmps36;go_wp2_with (first | (refine zp 1 #[.int .i64 y,.slice a2 z.length a3] 37 ?_;intro ao hg w5 hbox hb;have j:=ae.mk hbox;have b4:=yv hg HB;have ba:=yv hg HB;replace HB:=xi HB hb;clear hb hbox hg) | (refine AL (Kd.int .i64) 3 6 ?_;intro cb w6 aO hb bc ap;clear bc ap;(first | rw [← a5.out] at aO | (simp only [Int.reduceToNat] at aO;rw [← a5.out] at aO));have a0:=ae.mk (Kd.b5 aO (ak (wx HB.out)));replace j:=xc j hb;replace HB:=xi HB hb;clear hb aO;obtain ⟨e1,e2,e3,e4⟩:=xv j.out) | (refine ws (some 8) Tryz.func39 #[.agg #[.int .i64 y,.slice a2 z.length a3]] ?_;(with_reducible refine (aY.calls k y _ _ z true _ ?side1 ?side2 A2.out).mono ?_);(case side1=>exact yi (Kd.aN aa.out HB.out));(case side2=>exact ab.out);rintro e w9 ⟨rfl,hb⟩;refine ⟨_,rfl,?_⟩;replace a0:=z2 a0 hb;replace j:=xc j hb;replace HB:=xi HB hb;(try clear hb);(try clear cc);(try clear hk);(try clear hi);obtain ⟨ce,cf,ci,cp⟩:=xv j.out) | (refine ws (some 12) Tryz.func38 #[.agg #[.int .i64 y,.slice a2 z.length a3]] ?_;(with_reducible refine (aX.calls k y _ _ z Y _ ?side1 ?side2 A4.out).mono ?_);(case side1=>exact yi (Kd.aN aa.out HB.out));(case side2=>exact ab.out);rintro e ea ⟨aS,rfl,bi,hb⟩;refine ⟨_,rfl,?_⟩;have bm:=ae.mk (Kd.b5 (Kd.dy bi (Kd.ek (ac a0.out))) (ak (wx HB.out)));replace a0:=ae.mk (Kd.cz (ac a0.out) (Kd.cL bi) hb);replace j:=xc j hb;replace HB:=xi HB hb;(try clear hb);(try clear cc);(try clear hk);(try clear hi);(try clear bi)));go_loopg [3,5] k (fun kq v3 v5 w'=>∃ (a4:List Int) (X:Int),v5 = .int .i64 X∧ae (bJ.l0 kq a4 Y X y z = some r)∧ae (kq≤k)∧ae (Kd.R (Kd.int .i64) 3 w' w.heap.size (fun k_=>some k_≠(aS:Value).ownBlock) v3 a4)∧ae (Kd.R (Kd.int .i64) 3 w' w.heap.size (fun k_=>some k_≠(v3:Value).ownBlock) aS Y)∧ae (w'.heap[ao]? = some (.cells #[.int .i64 y,(.slice a2 z.length a3)] 37 (0,0)))∧ae (Below w.heap.size w w'))
  case atStart=>exact ⟨(a6),(0),ww,H',⟨Nat.le_refl _⟩,⟨ac (Kd.aQ a0.out (fun _ hk=>hk.2))⟩,⟨ac (Kd.aQ bm.out (fun _ hk=>hk.2))⟩,⟨xf j.out⟩,⟨wx HB.out⟩⟩
  case round =>
   clear H';obtain ⟨a4,X,rfl,HA,aP,a7,a1,j,HB⟩:=hrel;cases gk with
   | zero=>exact absurd HA.out (by simp [bJ.l0])
   | succ k1 =>
    have H:=HA.out;clear HA;simp only [bJ.l0] at H;obtain ⟨a8,bo,H⟩:=xa H;(try dsimp only at H);by_cases aw:X≤a8
    ·rw [if_pos aw] at H
     have bs:=decide_eq_true aw;clear aw;obtain ⟨cq,cx,H⟩:=xa H;(try dsimp only at H);by_cases aR:cq = true
     ·subst aR
      replace H:(bJ.l0 k1 a4 Y (wrap64 (X+1)) y z) = some r:=by rw [if_pos rfl] at H;exact H
      have H':=ae.mk H;clear H;obtain ⟨cy,d0,d1,d2⟩:=xv j.out;go_wp2_with (first | (refine ws (some 16) Tryz.func83 #[.int .i64 y] ?_;(with_reducible refine (cn.calls y a8 _ bo.out).mono ?_);rintro e w' ⟨rfl,⟨nd,rfl⟩⟩;refine ⟨_,rfl,?_⟩;obtain ⟨d3,d4,d5⟩:=Kd.bk a1.out;subst d5) | (refine ws (some 22) Tryz.func85 #[.slice d3 Y.length d4,.int .i64 X] ?_;(with_reducible refine (dx.calls k1 _ _ Y X true _ ?side1 ?side2 cx.out).mono ?_);(case side1=>exact yi ((Kd.az a1.out).2.2));(case side2=>exact (Kd.az a1.out).2.1);rintro e w' ⟨rfl,⟨nd,rfl⟩⟩;refine ⟨_,rfl,?_⟩));go_roundg k1;case measure=>have:=aP.out;omega
      case rel=>exact ⟨(a4),(wrap64 (X+1)),ww,H',⟨by have:=aP.out;omega⟩,⟨ac a7.out⟩,⟨ac a1.out⟩,⟨xf j.out⟩,⟨wx HB.out⟩⟩
     ·replace aR:=Bool.eq_false_iff.mpr aR
      subst aR;replace H:(if a4.length < 17592186044416 then (bJ.l0 k1 (a4 ++ [X]) Y (wrap64 (X+1)) y z) else (none)) = some r:=by rw [if_neg (show ¬ (false = true) by decide)] at H;exact H
      obtain ⟨d6,H⟩:=xt H;have bv:=ae.mk d6;clear d6;obtain ⟨b0,ar⟩:∃ y_:List Int,y_ = (a4 ++ [X]):=⟨_,rfl⟩
      replace H:(bJ.l0 k1 b0 Y (wrap64 (X+1)) y z) = some r:=by (try rw [ar]);exact AC
      have c0:=ae.mk ar;clear ar;have H':=ae.mk H;clear H;obtain ⟨d7,d8,d9,db⟩:=xv j.out;go_wp2_with (first | (refine ws (some 16) Tryz.func83 #[.int .i64 y] ?_;(with_reducible refine (cn.calls y a8 _ bo.out).mono ?_);rintro e w' ⟨rfl,⟨nd,rfl⟩⟩;refine ⟨_,rfl,?_⟩;obtain ⟨b2,b3,dd⟩:=Kd.bk a1.out;subst dd) | (refine ws (some 22) Tryz.func85 #[.slice b2 Y.length b3,.int .i64 X] ?_;(with_reducible refine (dx.calls k1 _ _ Y X false _ ?side1 ?side2 cx.out).mono ?_);(case side1=>exact yi ((Kd.az a1.out).2.2));(case side2=>exact (Kd.az a1.out).2.1);rintro e w' ⟨rfl,⟨nd,rfl⟩⟩;refine ⟨_,rfl,?_⟩) | ((with_reducible refine cF (b:=.append) (xs:=#[.tmp 24,.tmp 26]) rfl ?_);at_builtin;refine Kd.eS (Kd.int .i64) (w0:=w) w.heap.size rfl (.tmp 24) (.tmp 26) 22 3 (.int .i64 0) 8 rfl Tryz.underlying22 fb rfl (by decide) (by omega) u3 a4 X [.int .i64 X] (fun k_=>some k_≠(.slice b2 Y.length b3:Value).ownBlock) (fun _=>False) rfl rfl (by exact rfl) (fun _ hk=>hk.elim) (by exact fun k_ hk=>Kd.fresh' (Kd.ek (ac a1.out)) k_ hk) (by exact ac a7.out) (by exact wx HB.out) (by exact ak (wx HB.out)) (by have:=bv.out;omega) ?_;intro e8 eb ho hb hg hat;rw [← c0.out] at ho;have df:=ae.mk (Kd.fc (ok:=(fun _=>True)) (ac (Kd.aQ a1.out (fun _ hk=>⟨trivial,hk⟩))) hg hat);have dk:=ae.mk (eR (g:=ao) (o:=.cells #[.int .i64 y,.slice a2 z.length a3] 37 (0,0)) (xf j.out) hg (Kd.jU a7.out j.out (by decide)));have dl:=ae.mk hb;have dp:=ae.mk ho;clear a1;clear j;clear HB;clear a7;have a1:=df;have j:=dk;have HB:=dl;have c1:=dp;clear df dk dl dp;clear ho hb hg hat));go_roundg k1;case measure=>have:=aP.out;omega
      case rel=>exact ⟨(b0),(wrap64 (X+1)),ww,H',⟨by have:=aP.out;omega⟩,⟨ac c1.out⟩,⟨ac (Kd.aQ a1.out (fun _ hk=>hk.2))⟩,⟨xf j.out⟩,⟨wx HB.out⟩⟩
    ·rw [if_neg aw] at H
     have bs:decide (X≤a8) = false:=decide_eq_false aw;clear aw;obtain rfl:=Option.some.inj H;obtain ⟨dq,dt,du,dv⟩:=xv j.out;go_wp2_with (first | (refine ws (some 16) Tryz.func83 #[.int .i64 y] ?_;(with_reducible refine (cn.calls y a8 _ bo.out).mono ?_);rintro e w' ⟨rfl,⟨nd,rfl⟩⟩;refine ⟨_,rfl,?_⟩));go_ret;exact ⟨_,zd,by (with_reducible repeat (first | apply Kd.cP | apply Kd.cQ | apply Kd.bY));exact Kd.aQ a7.out (fun _ hk=>trivial),wy⟩
 ·replace c3:=Bool.eq_false_iff.mpr c3
  subst c3;replace H:(some a6) = some r:=by rw [if_neg (show ¬ (false = true) by decide)] at H;exact H
  obtain rfl:=Option.some.inj H;go_enter Tryz.func36,Tryz.ntmps36;go_wp2_with (first | (refine zp 1 #[.int .i64 y,.slice a2 z.length a3] 37 ?_;intro ao hg ec hbox hb;have j:=ae.mk hbox;have b4:=yv hg HB;have ba:=yv hg HB;replace HB:=xi HB hb;clear hb hbox hg) | (refine AL (Kd.int .i64) 3 6 ?_;intro cb ed a9 hb bc ap;clear bc ap;(first | rw [← a5.out] at a9 | (simp only [Int.reduceToNat] at a9;rw [← a5.out] at a9));have a0:=ae.mk (Kd.b5 a9 (ak (wx HB.out)));replace j:=xc j hb;replace HB:=xi HB hb;clear hb a9;obtain ⟨dC,dE,dT,e0⟩:=xv j.out) | (refine ws (some 8) Tryz.func39 #[.agg #[.int .i64 y,.slice a2 z.length a3]] ?_;(with_reducible refine (aY.calls k y _ _ z false _ ?side1 ?side2 A2.out).mono ?_);(case side1=>exact yi (Kd.aN aa.out HB.out));(case side2=>exact ab.out);rintro e ee ⟨rfl,hb⟩;refine ⟨_,rfl,?_⟩;replace a0:=z2 a0 hb;replace j:=xc j hb;replace HB:=xi HB hb;(try clear hb);(try clear cc);(try clear hk);(try clear hi)));go_ret;exact ⟨_,zd,by (with_reducible repeat (first | apply Kd.cP | apply Kd.cQ | apply Kd.bY));exact a0.out,wy⟩
mutual
def b8.l0:Nat→Int→List Int→Int→Option (List Int)
 | 0,_,_,_=>none
 | k+1,X,j,z=>if z≤X then (b8.l1 k X j z (([1]:List Int)) 1) else (some j)
def b8.l1:Nat→Int→List Int→Int→List Int→Int→Option (List Int)
 | 0,_,_,_,_,_=>none
 | k+1,X,j,z,Y,y=>if y < z then (if 0≤(wrap64 (y - 1)) then (if (wrap64 (y - 1)) < (j.length:Int) then (if 0≤y then (if y < (j.length:Int) then (if Y.length < 17592186044416 then (b8.l1 k X j z (Y ++ [wrap64 ((rd j (wrap64 (y - 1)))+(rd j y))]) (wrap64 (y+1))) else (none)) else (none)) else (none)) else (none)) else (none)) else (if Y.length < 17592186044416 then (b8.l0 k X (Y ++ [1]) (wrap64 (z+1))) else (none))
end
def b8.f (k:Nat) (a0:Int):Option (List Int):=b8.l0 k a0 (([1]:List Int)) 1
theorem b8.dj:∀ k,af.S3 b8.l0 k∧af.S5 b8.l1 k
 | 0=>by and_intros <;> (repeat intro _) <;> exact AN rfl
 | k+1=>by
  obtain ⟨j,y⟩:=b8.dj k;and_intros <;> (repeat intro _) <;> (first | unfold b8.l0 | unfold b8.l1) <;> exact ⟨AI⟩
theorem b8.mono:∀ a0 k,gW (b8.f k a0) (b8.f (k+1) a0):=by
 intro a0 k;obtain ⟨j,y⟩:=b8.dj k;unfold b8.f;exact AI
def b8.T9:Bool×List (List Nat×List Nat):=(true,[([],[]),([],[]),([],[]),([2],[2]),([1,3],[1,3]),([4],[4]),([],[]),([],[]),([6,7],[6,7]),([8],[8]),([5,9],[5,9]),([10],[10]),([0,11],[0,11]),([12,12,0,1,2,3,4,5,6,7,8,9,10,11,12],[0,12])])
def b8.B9:List Nat:=[0,0,0,4,14,30,0,0,192,448,1022,2046,4095,8191]
theorem b8.zS:gv .any (opsOf Tryz.f144 9) = b8.T9:=by kernel_rfl
theorem b8.zu:eN b8.T9.2 b8.B9 = true:=by kernel_rfl
set_option maxHeartbeats 8000000 in
set_option maxRecDepth 100000 in
theorem b8.calls (k:Nat) (a0:Int) (r:List Int) (w:World) (h:b8.f k a0 = some r) :
  Calls Tryz.prog 144 #[.int .i64 a0] w fun e w'=>∃ cp:Value,e = .returned (cp)∧Kd.R (Kd.int .i64) 3 w' w.heap.size (fun _=>True) cp r∧Below w.heap.size w w':=by
 have HB:=ae.mk (Below.refl w.heap.size w);unfold b8.f at h;have H:=h;clear h;obtain ⟨ba,a7⟩:∃ y_:List Int,y_ = (([1]:List Int)):=⟨_,rfl⟩
 replace H:(b8.l0 k a0 ba 1) = some r:=by (try rw [a7]);exact AC
 have ao:=ae.mk a7;clear a7;have H':=ae.mk H;clear H;go_enter Tryz.func144,Tryz.ntmps144;go_wp2_with (first | ((with_reducible refine bu (N:=7) rfl ?_);refine Kd.jW (Kd.int .i64) _ 3 ?hg (N:=7) ?hd (xs:=([1]:List Int)) (inner:=[.int .i64 1]) (ok:=fun _=>True) (okp:=fun _=>True) ?hr ?hp (fun _ hk=>hk) trivial (Below.refl _ _) (Nat.le_refl _) (by simp) ?_;(case hd=>rfl);(case hg=>rfl);(case hr=>first | (go_simp;done) | (go_simp;rfl));(case hp=>exact (cY.one (show Kd.M (Kd.int .i64) _ _ _ 1 [.int .i64 1] from rfl) (cY.none _ _)));intro dq w2 ap hb bs a8;clear bs a8;(first | rw [← ao.out] at ap | (simp only [Int.reduceToNat] at ap;rw [← ao.out] at ap));have bv:=ae.mk (Kd.b5 ap (ak (wx HB.out)));replace HB:=xi HB hb;clear hb ap));go_loopg [3,4] k (fun kq v3 v4 w'=>∃ (j:List Int) (X:Int),v4 = .int .i64 X∧ae (b8.l0 kq a0 j X = some r)∧ae (kq≤k)∧ae (Kd.R (Kd.int .i64) 3 w' w.heap.size (fun _=>True) v3 j)∧ae (Below w.heap.size w w'))
 case atStart=>exact ⟨(ba),(1),ww,H',⟨Nat.le_refl _⟩,⟨ac bv.out⟩,⟨wx HB.out⟩⟩
 case round =>
  clear H';obtain ⟨j,X,rfl,HA,b3,y,HB⟩:=hrel;cases gk with
  | zero=>exact absurd HA.out (by simp [b8.l0])
  | succ k1 =>
   have H:=HA.out;clear HA;simp only [b8.l0] at H;by_cases c4:X≤a0
   ·rw [if_pos c4] at H
    have cq:=decide_eq_true c4;clear c4;obtain ⟨bc,a9⟩:∃ y_:List Int,y_ = (([1]:List Int)):=⟨_,rfl⟩
    replace H:(b8.l1 k1 a0 j X bc 1) = some r:=by (try rw [a9]);exact AC
    have ar:=ae.mk a9;clear a9;have H':=ae.mk H;clear H;go_wp2_with (first | ((with_reducible refine bu (N:=13) rfl ?_);refine Kd.jW (Kd.int .i64) _ 3 ?hg (N:=13) ?hd (xs:=([1]:List Int)) (inner:=[.int .i64 1]) (ok:=fun _=>True) (okp:=fun _=>True) ?hr ?hp (fun _ hk=>hk) trivial (Below.refl _ _) (Nat.le_refl _) (by simp) ?_;(case hd=>rfl);(case hg=>rfl);(case hr=>first | (go_simp;done) | (go_simp;rfl));(case hp=>exact (cY.one (show Kd.M (Kd.int .i64) _ _ _ 1 [.int .i64 1] from rfl) (cY.none _ _)));intro dt w5 am hb bs a8;clear bs a8;(first | rw [← ar.out] at am | (simp only [Int.reduceToNat] at am;rw [← ar.out] at am));have c0:=ae.mk (Kd.b5 (Kd.dy am (Kd.ek (ac y.out))) (ak (wx HB.out)));replace y:=ae.mk (Kd.cz (ac y.out) (Kd.cL am) hb);replace HB:=xi HB hb;clear hb am));go_loopg [5,6] k1 (fun kq v5 v6 w'=>∃ (a1:List Int) (z:Int),v6 = .int .i64 z∧ae (b8.l1 kq a0 j X a1 z = some r)∧ae (kq≤k1)∧ae (Kd.R (Kd.int .i64) 3 w' w.heap.size (fun k_=>some k_≠(v5:Value).ownBlock) u3 j)∧ae (Kd.R (Kd.int .i64) 3 w' w.heap.size (fun k_=>some k_≠(u3:Value).ownBlock) v5 a1)∧ae (Below w.heap.size w w'))
    case atStart=>exact ⟨(bc),(1),ww,H',⟨Nat.le_refl _⟩,⟨ac (Kd.aQ y.out (fun _ hk=>hk.2))⟩,⟨ac (Kd.aQ c0.out (fun _ hk=>hk.2))⟩,⟨wx HB.out⟩⟩
    case round =>
     clear H';obtain ⟨a1,z,rfl,HA,b4,y,a2,HB⟩:=hrel;cases gk with
     | zero=>exact absurd HA.out (by simp [b8.l1])
     | succ k2 =>
      have H:=HA.out;clear HA;simp only [b8.l1] at H;by_cases c7:z < X
      ·rw [if_pos c7] at H
       have cx:=decide_eq_true c7;clear c7;obtain ⟨a3,aw⟩:∃ j_:Int,(wrap64 (z - 1)) = j_:=⟨_,rfl⟩
       replace H:(if 0≤(a3) then (if (a3) < (j.length:Int) then (if 0≤z then (if z < (j.length:Int) then (if a1.length < 17592186044416 then (b8.l1 k2 a0 j X (a1 ++ [wrap64 ((rd j (a3))+(rd j z))]) (wrap64 (z+1))) else (none)) else (none)) else (none)) else (none)) else (none)) = some r:=by first | (rw [aw] at H;exact H) | (simp only [aw] at H ⊢;exact H)
       have d9:(IntKind.i64.wrap (z - 1)) = a3:=(b7 _).trans aw;obtain ⟨c9,H⟩:=xt H;have du:=decide_eq_true c9;clear c9;obtain ⟨iN,H⟩:=xt H;have db:=decide_eq_true iN;clear iN;obtain ⟨cy,H⟩:=xt H;have dd:=decide_eq_true cy;clear cy;obtain ⟨d0,H⟩:=xt H;have df:=decide_eq_true d0;clear d0;obtain ⟨d1,H⟩:=xt H;have c1:=ae.mk d1;clear d1;obtain ⟨bi,aa⟩:∃ y_:List Int,y_ = (a1 ++ [wrap64 ((rd j (a3))+(rd j z))]):=⟨_,rfl⟩
       replace H:(b8.l1 k2 a0 j X bi (wrap64 (z+1))) = some r:=by (try rw [aa]);exact AC
       have ca:=ae.mk aa;clear aa;have H':=ae.mk H;clear H;(try go_wp2);replace y:=ae.mk (Kd.bY y.out);replace a2:=ae.mk (Kd.bY a2.out);replace HB:=ae.mk (bP HB.out);obtain ⟨dv,d2,bm⟩:=Kd.bk y.out;(first | subst bm | (injection bm with d3 dk d4;have dl:=d3.symm;have dp:=d4.symm;clear d3 dk d4;subst dl;subst dp));obtain ⟨a4,d5,a5,dC,dE⟩:=At (Kd.az y.out).2.2 (a3);cases d5
       obtain ⟨cb,d6,a6,dT,e0⟩:=At (Kd.az y.out).2.2 z;obtain rfl:a4 = cb:=(by injection d6)
       refine eT (n:=14) (S:=fun w'=>w'.cell? (a4.add ((a3)).toNat) = some (.int .i64 (rd j (a3)))∧w'.cell? (a4.add (z).toNat) = some (.int .i64 (rd j z))) (ds:=[11,12]) #[false,false,false,false,false,false,false,false,false,false,false,false,false,false] (by kernel_rfl) rfl rfl ⟨a5,a6⟩ (fun hHeld=>?_);refine da b8.zS b8.zu (fun Y d7=>?_);generalize wr.drew = e3 at y a2 HB a5 a6 hHeld ⊢;refine wt 0 19 Y ?_;refine wt 1 20 Y ?_;refine wt 2 21 Y ?_;refine wt 3 22 Y ?_;refine wt 4 23 Y ?_;refine wt 6 25 Y ?_;refine wt 7 26 Y ?_;refine wt 8 27 Y ?_;refine AF 5 24 Y d7 hHeld ?_;refine AF 9 28 Y d7 hHeld ?_;refine wt 10 29 Y ?_;refine lH (i:=11) (N:=some 30) #[true,true,true,true,true,true,true,true,true,true,true,true,false,false] rfl rfl (cH Y.out (by kernel_rfl)) (by decide) (fun K hK=>?_);refine mO (w1:=?_) (v:=?_) (by rfl) rfl ?_ ?_;rotate_left 2
       ·go_simp
        constructor
        ·rfl
        ·rfl
       refine hK.out _ _ ?_;clear hK K;refine dN (a':=?_) ?_ ?_;rotate_left
       ·show Act.put _ (some 30) _ = _
        simp only [Act.put,List.setIfInBounds_toArray,List.set_cons_zero,List.set_cons_succ,b7,bC];rfl
       refine lH (i:=12) (N:=some 31) #[true,true,true,true,true,true,true,true,true,true,true,true,true,false] rfl rfl (cH Y.out (by kernel_rfl)) (by decide) (fun K hK=>?_);refine Kd.gU (Kd.int .i64) (w0:=w) w.heap.size (by rfl) (.tmp 19) (.tmp 30) 22 3 (.int .i64 0) 8 rfl Tryz.underlying22 fb rfl (by decide) (by omega) u5 a1 (wrap64 ((rd j (a3))+(rd j z))) [.int .i64 (wrap64 ((rd j (a3))+(rd j z)))] (fun k_=>some k_≠(.slice (some a4) j.length d2:Value).ownBlock) (fun _=>False) rfl rfl ?aP (fun _ hk=>hk.elim) ?aF ?aO ?aB ?aS ?aL ?_;(case aP=>exact rfl);(case aB=>exact (wx HB.out));(case aF=>exact (fun k_ hk=>Kd.fresh' (Kd.ek (ac y.out)) k_ hk));(case aO=>exact (ac a2.out));(case aS=>exact (ak (wx HB.out)));(case aL=>have:=c1.out;omega);intro e1 e4 ho hb hg hat;rw [← ca.out] at ho;have aR:=ae.mk (Kd.fc (ok:=(fun _=>True)) (ac (Kd.aQ y.out (fun _ hk=>⟨trivial,hk⟩))) hg hat);have b0:=ae.mk hb;have b2:=ae.mk ho;clear y;clear HB;clear a2;have y:=aR;have HB:=b0;have cc:=b2;clear aR b0 b2;clear ho hb hg hat;refine hK.out _ _ ?_;clear hK K;refine dN (a':=?_) ?_ ?_;rotate_left
       ·show Act.put _ (some 31) _ = _
        simp only [Act.put,List.setIfInBounds_toArray,List.set_cons_zero,List.set_cons_succ,b7,bC];rfl
       refine wt 13 5 Y ?_;refine fP (e9 Y.out (by kernel_rfl)) ?_;(try go_wp2);go_roundg k2;case measure=>have:=b3.out;have:=b4.out;omega
       case rel=>exact ⟨(bi),(wrap64 (z+1)),ww,H',⟨by have:=b3.out;have:=b4.out;omega⟩,⟨ac (Kd.aQ y.out (fun _ hk=>hk.2))⟩,⟨ac cc.out⟩,⟨wx HB.out⟩⟩
      ·rw [if_neg c7] at H
       have cx:decide (z < X) = false:=decide_eq_false c7;clear c7;obtain ⟨d8,H⟩:=xt H;have ce:=ae.mk d8;clear d8;obtain ⟨bo,ab⟩:∃ y_:List Int,y_ = (a1 ++ [1]):=⟨_,rfl⟩
       replace H:(b8.l0 k2 a0 bo (wrap64 (X+1))) = some r:=by (try rw [ab]);exact AC
       have cf:=ae.mk ab;clear ab;have H':=ae.mk H;clear H;go_wp2_with (first | ((with_reducible refine cF (b:=.append) (xs:=#[.tmp 32,.tmp 33]) rfl ?_);at_builtin;refine Kd.eS (Kd.int .i64) (w0:=w) w.heap.size rfl (.tmp 32) (.tmp 33) 22 3 (.int .i64 0) 8 rfl Tryz.underlying22 fb rfl (by decide) (by omega) u5 a1 1 [.int .i64 1] (fun k_=>some k_≠(u3:Value).ownBlock) (fun _=>False) rfl rfl (by exact rfl) (fun _ hk=>hk.elim) (by exact fun k_ hk=>Kd.fresh' (Kd.ek (ac y.out)) k_ hk) (by exact ac a2.out) (by exact wx HB.out) (by exact ak (wx HB.out)) (by have:=ce.out;omega) ?_;intro e2 e5 ho hb hg hat;rw [← cf.out] at ho;have aR:=ae.mk (Kd.fc (ok:=(fun _=>True)) (ac (Kd.aQ y.out (fun _ hk=>⟨trivial,hk⟩))) hg hat);have b0:=ae.mk hb;have b2:=ae.mk ho;clear y;clear HB;clear a2;have y:=aR;have HB:=b0;have ci:=b2;clear aR b0 b2;clear ho hb hg hat));go_roundg k2;case measure=>have:=b3.out;have:=b4.out;omega
       case rel=>exact ⟨(bo),(wrap64 (X+1)),ww,H',⟨by have:=b3.out;have:=b4.out;omega⟩,⟨ac (Kd.aQ ci.out (fun _ hk=>trivial))⟩,⟨wx HB.out⟩⟩
   ·rw [if_neg c4] at H
    have cq:decide (X≤a0) = false:=decide_eq_false c4;clear c4;obtain rfl:=Option.some.inj H;go_wp2;go_ret;exact ⟨_,zd,by (with_reducible repeat (first | apply Kd.cP | apply Kd.cQ | apply Kd.bY));exact y.out,wy⟩
def gn.f (a0:Int):Option (Int):=some (wrap64 (1 - (wrap64 (2 * (Int.tmod a0 2)))))
set_option maxHeartbeats 8000000 in
set_option maxRecDepth 100000 in
theorem gn.calls (a0:Int) (r:Int) (w:World) (h:gn.f a0 = some r) :
  Calls Tryz.prog 145 #[.int .i64 a0] w fun e w'=>e = .returned (.int .i64 r)∧cT w w':=by
 unfold gn.f at h;have H:=h;clear h;obtain rfl:=Option.some.inj H;go_enter Tryz.func145,Tryz.ntmps145;go_wp2;go_ret;exact ⟨ww,zt⟩
mutual
def ck.l0:Nat→Int→Int→Int→List (List Int)→List Int→List Int→Int→Option ((List (List Int)))
 | 0,_,_,_,_,_,_,_=>none
 | k+1,X,Y,x3,z,x8,x9,j=>if j≤X then (ck.l1 k X Y x3 z x8 x9 j 0) else (some z)
def ck.l1:Nat→Int→Int→Int→List (List Int)→List Int→List Int→Int→Int→Option ((List (List Int)))
 | 0,_,_,_,_,_,_,_,_=>none
 | k+1,X,Y,x3,z,x8,x9,j,y=>if y≤Y then (if 0≤j then (if j < (z.length:Int) then (if 0≤y then (if y < ((di z j).length:Int) then (if j < (x8.length:Int) then (if y < (x9.length:Int) then ((gn.f (wrap64 (X - j))).bind fun a0=>((gn.f (wrap64 (Y - y))).bind fun a1=>(ck.l1 k X Y x3 (z.set (j:Int).toNat ((di z j).set (y:Int).toNat (wrap64 ((rd (di z j) y)+(wrap64 ((wrap64 ((wrap64 ((wrap64 (x3 * (rd x8 j))) * (rd x9 y))) * a0)) * a1)))))) x8 x9 j (wrap64 (y+1))))) else (none)) else (none)) else (none)) else (none)) else (none)) else (none)) else (ck.l0 k X Y x3 z x8 x9 (wrap64 (j+1)))
end
def ck.f (k:Nat) (j:List (List Int)) (X:Int) (a2:Int) (a3:Int):Option ((List (List Int))):=(b8.f k X).bind fun y=>((b8.f k a2).bind fun z=>(ck.l0 k X a2 a3 j y z 0))
def ck.T8:Bool×List (List Nat×List Nat):=(true,[([],[]),([],[]),([0,1],[0,1]),([2],[2]),([],[]),([],[]),([],[]),([5,6],[5,6]),([7],[7]),([],[]),([8,9],[8,9]),([10],[10]),([],[]),([],[]),([],[]),([13,14],[13,14]),([15],[15]),([12,16],[12,16]),([],[]),([],[]),([18,19],[18,19]),([20],[20]),([17,21],[17,21]),([],[]),([],[]),([23,24],[23,24]),([25],[25]),([22,26],[22,26]),([],[]),([],[]),([28,29],[28,29]),([30,26],[30]),([27,31],[27,31]),([11,32],[11,32]),([3,4,0,1,2,3,4,5,6,7,8,9,10,11,12,13,14,15,16,17,18,19,20,21,22,23,24,25,26,27,28,29,30,31,32,33],[3,4]),([34,33,31,0,1,2,3,4,5,6,7,8,9,10,11,12,13,14,15,16,17,18,19,20,21,22,23,24,25,26,27,28,29,30,31,32,33],[33,34])])
def ck.B8:List Nat:=[0,0,3,7,0,0,0,96,224,0,992,2016,0,0,0,24576,57344,126976,0,0,786432,1835008,4190208,0,0,25165824,58720256,134213632,0,0,805306368,2004877312,4294963200,8589934560,17179869183,34359738367]
theorem ck.o9:gv .any (opsOf Tryz.f94 8) = ck.T8:=by kernel_rfl
theorem ck.kL:eN ck.T8.2 ck.B8 = true:=by kernel_rfl
set_option maxHeartbeats 8000000 in
set_option maxRecDepth 100000 in
theorem ck.calls (k:Nat) (b2:Value) (df:List (List Int)) (a1:Int) (a2:Int) (a3:Int) (r:List (List Int)) (ap:Nat) (cf:Int) (ci:Option Addr) (cp:Nat) (cq:List Int) (w wi:World) (f5:Below w.heap.size w wi) (ar:Kd.S (Kd.slice 3 (Kd.int .i64)) 22 wi w.heap.size (fun _=>True) b2 df) (hbk:wi.heap[ap]? = some (.cells #[.int .i64 cf,.slice ci cq.length cp] 37 (0,0))) (hge:w.heap.size≤ap) (h:ck.f k df a1 a2 a3 = some r) :
  Calls Tryz.prog 94 #[b2,.int .i64 a1,.int .i64 a2,.int .i64 a3] wi fun e w'=>e = .returned (.tuple #[])∧Kd.S (Kd.slice 3 (Kd.int .i64)) 22 w' w.heap.size (fun _=>True) b2 r∧w'.heap[ap]? = some (.cells #[.int .i64 cf,.slice ci cq.length cp] 37 (0,0))∧Below w.heap.size w w':=by
 have HB:=ae.mk f5;have aw:=ae.mk ar;have Y:=ae.mk hbk;have eo:=ae.mk hge;have h0:=ae.mk hge;clear f5 ar hbk hge;unfold ck.f at h;have H:=h;clear h;obtain ⟨ec,A6,H⟩:=xa H;(try dsimp only at H);obtain ⟨ed,A7,H⟩:=xa H;(try dsimp only at H);have H':=ae.mk H;clear H;go_enter Tryz.func94,Tryz.ntmps94;go_wp2_with (first | (refine ws (some 13) Tryz.func144 #[.int .i64 a1] ?_;(with_reducible refine (b8.calls k a1 ec _ A6.out).mono ?_);rintro e hV ⟨aP,rfl,ar,hb⟩;refine ⟨_,rfl,?_⟩;replace aw:=ae.mk (Kd.fV (AG aw.out) (Kd.cL ar) hb);have aS:=ae.mk (Kd.b5 ar (ak (wx HB.out)));replace Y:=xc Y hb;replace HB:=xi HB hb;(try clear hb);(try clear h6);(try clear hk);(try clear hi);(try clear ar)) | (refine ws (some 15) Tryz.func144 #[.int .i64 a2] ?_;(with_reducible refine (b8.calls k a2 ed _ A7.out).mono ?_);rintro e hW ⟨aR,rfl,ar,hb⟩;refine ⟨_,rfl,?_⟩;replace aw:=ae.mk (Kd.fV (AG aw.out) (Kd.cL ar) hb);have eq:=ae.mk (Kd.b5 (Kd.dy ar (Kd.ek (ac aS.out))) (ak (wx HB.out)));replace aS:=ae.mk (Kd.cz (ac aS.out) (Kd.cL ar) hb);replace Y:=xc Y hb;replace HB:=xi HB hb;(try clear hb);(try clear h6);(try clear hk);(try clear hi);(try clear ar)));go_loopg [10] k (fun kq v10 w'=>∃ (cx:List (List Int)) (cy:List Int) (d0:List Int) (j:Int),v10 = .int .i64 j∧ae (ck.l0 kq a1 a2 a3 cx cy d0 j = some r)∧ae (kq≤k)∧ae (Kd.S (Kd.slice 3 (Kd.int .i64)) 22 w' w.heap.size (fun k_=>some k_≠(aP:Value).ownBlock∧some k_≠(aR:Value).ownBlock) b2 cx)∧ae (Kd.R (Kd.int .i64) 3 w' w.heap.size (fun k_=>some k_≠(aR:Value).ownBlock) aP cy)∧ae (Kd.R (Kd.int .i64) 3 w' w.heap.size (fun k_=>some k_≠(aP:Value).ownBlock) aR d0)∧ae (w'.heap[ap]? = some (.cells #[.int .i64 cf,(.slice ci cq.length cp)] 37 (0,0)))∧ae (Below w.heap.size w w'))
 case atStart=>exact ⟨(df),(ec),(ed),(0),ww,H',⟨Nat.le_refl _⟩,⟨AG (Kd.jf aw.out (fun _ hk=>(by first | exact ⟨hk.1.2,hk.2⟩ | (simp_all;done))))⟩,⟨ac (Kd.aQ aS.out (fun _ hk=>hk.2))⟩,⟨ac (Kd.aQ eq.out (fun _ hk=>hk.2))⟩,⟨xf Y.out⟩,⟨wx HB.out⟩⟩
 case round =>
  clear H';obtain ⟨cx,cy,d0,j,rfl,HA,e2,a0,ab,am,Y,HB⟩:=hrel;cases gk with
  | zero=>exact absurd HA.out (by simp [ck.l0])
  | succ k1 =>
   have H:=HA.out;clear HA;simp only [ck.l0] at H;by_cases db:j≤a1
   ·rw [if_pos db] at H
    have es:=decide_eq_true db;clear db;have H':=ae.mk H;clear H;go_wp2;go_loopg [11] k1 (fun kq v11 w'=>∃ (X:List (List Int)) (a5:List Int) (a6:List Int) (y:Int),v11 = .int .i64 y∧ae (ck.l1 kq a1 a2 a3 X a5 a6 j y = some r)∧ae (kq≤k1)∧ae (Kd.S (Kd.slice 3 (Kd.int .i64)) 22 w' w.heap.size (fun k_=>some k_≠(aP:Value).ownBlock∧some k_≠(aR:Value).ownBlock) b2 X)∧ae (Kd.R (Kd.int .i64) 3 w' w.heap.size (fun k_=>some k_≠(aR:Value).ownBlock) aP a5)∧ae (Kd.R (Kd.int .i64) 3 w' w.heap.size (fun k_=>some k_≠(aP:Value).ownBlock) aR a6)∧ae (w'.heap[ap]? = some (.cells #[.int .i64 cf,(.slice ci cq.length cp)] 37 (0,0)))∧ae (Below w.heap.size w w'))
    case atStart=>exact ⟨(cx),(cy),(d0),(0),ww,H',⟨Nat.le_refl _⟩,⟨AG a0.out⟩,⟨ac ab.out⟩,⟨ac am.out⟩,⟨xf Y.out⟩,⟨wx HB.out⟩⟩
    case round =>
     clear H';obtain ⟨X,a5,a6,y,rfl,HA,e3,a0,ab,am,Y,HB⟩:=hrel;cases gk with
     | zero=>exact absurd HA.out (by simp [ck.l1])
     | succ k2 =>
      have H:=HA.out;clear HA;simp only [ck.l1] at H;by_cases dd:y≤a2
      ·rw [if_pos dd] at H
       have et:=decide_eq_true dd;clear dd;obtain ⟨f6,H⟩:=xt H;have h7:=decide_eq_true f6;clear f6;obtain ⟨f7,H⟩:=xt H;have h8:=decide_eq_true f7;clear f7;obtain ⟨f8,H⟩:=xt H;have h9:=decide_eq_true f8;clear f8;obtain ⟨f9,H⟩:=xt H;have hj:=decide_eq_true f9;clear f9;obtain ⟨fd,H⟩:=xt H;have hl:=decide_eq_true fd;clear fd;obtain ⟨fi,H⟩:=xt H;have hm:=decide_eq_true fi;clear fi;obtain ⟨b3,hn,H⟩:=xa H;(try dsimp only at H);obtain ⟨b4,ho,H⟩:=xa H;(try dsimp only at H);obtain ⟨dk,cb⟩:∃ y_:List Int,y_ = ((di X j).set (y:Int).toNat (wrap64 ((rd (di X j) y)+(wrap64 ((wrap64 ((wrap64 ((wrap64 (a3 * (rd a5 j))) * (rd a6 y))) * b3)) * b4))))):=⟨_,rfl⟩
       replace H:(ck.l1 k2 a1 a2 a3 (X.set (j:Int).toNat dk) a5 a6 j (wrap64 (y+1))) = some r:=by (try rw [cb]);exact AC
       have ev:=ae.mk cb;clear cb;obtain ⟨dl,b0⟩:∃ y_:List (List Int),y_ = (X.set (j:Int).toNat dk):=⟨_,rfl⟩
       replace H:(ck.l1 k2 a1 a2 a3 dl a5 a6 j (wrap64 (y+1))) = some r:=by (try rw [b0]);exact AC
       have e4:=ae.mk b0;clear b0;have H':=ae.mk H;clear H;(try go_wp2);replace a0:=ae.mk (Kd.iH a0.out);replace ab:=ae.mk (Kd.bY ab.out);replace am:=ae.mk (Kd.bY am.out);replace Y:=ae.mk (cM Y.out);replace HB:=ae.mk (bP HB.out);obtain ⟨hu,hx,ee⟩:=Kd.ji a0.out;(first | subst ee | (injection ee with ba dp bc;have dq:=ba.symm;have dt:=bc.symm;clear ba dp bc;subst dq;subst dt));have d1:0≤(j:Int):=yk;have d2:j < (X.length:Int):=yk;obtain ⟨cc,g9,d3,fj,a7,bi,bm⟩:=kF (Kd.ez a0.out).2.2 j d1 d2;cases fj
       obtain ⟨hq,e5,e8,d4⟩:=Kd.qO a0.out [] j d1 (by first | exact d2 | exact yk | (have e_:=(Kd.ez a0.out).1;omega));obtain ⟨fp,rfl,aB⟩:=e8;have a8:=d4 0 _ rfl;rw [Nat.add_zero,show ((Kd.slice 3 (Kd.int .i64))).sz = 1 from rfl,Nat.mul_one] at a8;replace a8:=Option.some.inj (a8.symm.trans a7);rw [a8] at aB;have a4:=ae.mk (show Kd.R (Kd.int .i64) 3 _ _ _ _ (di X j) from aB);clear a8 aB;have bo:=ae.mk a7;clear d4 e5;have du:=ae.mk bm;have fs:=ae.mk bi;clear bm bi;replace d1:=eq_true d1;replace d2:=eq_true d2;have d5:0≤(j:Int):=yk;have d6:j < (X.length:Int):=yk;obtain ⟨ew,gb,gc,ft,a9,bs,bv⟩:=kF (Kd.ez a0.out).2.2 j d5 d6;obtain rfl:cc = ew:=(by injection ft)
       obtain ⟨hr,ea,eb,d7⟩:=Kd.qO a0.out [] j d5 (by first | exact d6 | exact yk | (have e_:=(Kd.ez a0.out).1;omega));obtain ⟨fw,rfl,aF⟩:=eb;have aa:=d7 0 _ rfl;rw [Nat.add_zero,show ((Kd.slice 3 (Kd.int .i64))).sz = 1 from rfl,Nat.mul_one] at aa;replace aa:=Option.some.inj (aa.symm.trans a9);rw [aa] at aF;have dv:=ae.mk (show Kd.R (Kd.int .i64) 3 _ _ _ _ (di X j) from aF);clear aa aF;have dC:=ae.mk a9;clear d7 ea;have aL:=ae.mk bv;have g0:=ae.mk bs;clear bv bs;replace d5:=eq_true d5;replace d6:=eq_true d6;have c0:=Option.some.inj (a7.symm.trans a9);injection c0 with c0 ex ey
       subst c0;subst ey;clear ex;obtain ⟨ce,g1,aO,hz,hA⟩:=At (by repeat (first | (with_reducible exact aL.out) | (with_reducible refine Kd.gi ?_ _) | (with_reducible refine Kd.gj ?_ _) | (with_reducible refine Kd.gJ ?_) | exact aL.out)) y;cases g1
       obtain ⟨hC,hD,ef⟩:=Kd.bk ab.out;(first | subst ef | (injection ef with ba dp bc;have dq:=ba.symm;have dt:=bc.symm;clear ba dp bc;subst dq;subst dt));obtain ⟨eQ,g2,c1,hE,hG⟩:=At (Kd.az ab.out).2.2 j;cases g2
       obtain ⟨hH,hI,eh⟩:=Kd.bk am.out;(first | subst eh | (injection eh with ba dp bc;have dq:=ba.symm;have dt:=bc.symm;clear ba dp bc;subst dq;subst dt));obtain ⟨f0,g3,ca,hL,hM⟩:=At (Kd.az am.out).2.2 y;cases g3
       refine eT (n:=36) (S:=fun w'=>w'.cell? (cc.add (j).toNat) = some (.slice (some ce) (di X j).length d3)∧w'.cell? (cc.add (j).toNat) = some (.slice (some ce) (di X j).length d3)∧w'.cell? (ce.add (y).toNat) = some (.int .i64 (rd (di X j) y))∧w'.cell? (eQ.add (j).toNat) = some (.int .i64 (rd a5 j))∧w'.cell? (f0.add (y).toNat) = some (.int .i64 (rd a6 y))) (ds:=[35]) #[false,false,false,false,false,false,false,false,false,false,false,false,false,false,false,false,false,false,false,false,false,false,false,false,false,false,false,false,false,false,false,false,false,false,false,false] (by kernel_rfl) rfl rfl ⟨a7,a9,aO,c1,ca⟩ (fun hHeld=>?_);refine da ck.o9 ck.kL (fun z dE=>?_);generalize wr.drew = hX at a0 ab am Y HB a4 dv du aL bo dC a7 a9 aO c1 ca hHeld ⊢;refine wt 0 26 z ?_;refine wt 1 27 z ?_;refine wt 2 28 z ?_;refine wt 4 30 z ?_;refine wt 5 31 z ?_;refine wt 6 32 z ?_;refine wt 7 33 z ?_;refine wt 9 35 z ?_;refine wt 12 38 z ?_;refine wt 13 39 z ?_;refine wt 14 40 z ?_;refine wt 15 41 z ?_;refine wt 18 44 z ?_;refine wt 19 45 z ?_;refine wt 20 46 z ?_;refine wt 23 49 z ?_;refine wt 24 50 z ?_;refine wt 25 51 z ?_;refine wt 28 54 z ?_;refine wt 29 55 z ?_;refine wt 30 56 z ?_;refine AF 3 29 z dE hHeld ?_;refine AF 8 34 z dE hHeld ?_;refine wt 10 36 z ?_;refine AF 11 37 z dE hHeld ?_;refine AF 16 42 z dE hHeld ?_;refine wt 17 43 z ?_;refine AF 21 47 z dE hHeld ?_;refine wt 22 48 z ?_;refine fe (i:=26) (N:=some 52) #[true,true,true,true,true,true,true,true,true,true,true,true,true,true,true,true,true,true,true,true,true,true,true,true,true,true,true,false,true,true,true,false,false,false,false,false] rfl rfl (cH z.out (by kernel_rfl)) (by decide) (fun K hK=>?_);refine eK Tryz.func145 (by kernel_rfl) rfl #[.int .i64 (wrap64 (a1 - j))] (by rfl) rfl rfl (by (try simp only [List.map_toArray,List.map_cons,List.map_nil]);first | done | rfl) ?_;with_reducible refine (gn.calls (wrap64 (a1 - j)) b3 _ hn.out).mono ?_
       rintro e w' ⟨rfl,⟨nd,rfl⟩⟩
       refine ⟨_,rfl,?_⟩;refine hK.out _ _ ⟨hHeld.1,hHeld.2.1,hHeld.2.2.1,hHeld.2.2.2.1,hHeld.2.2.2.2⟩ (fun hHeld=>?_);clear hK K;refine dN (a':=?_) ?_ ?_;rotate_left
       ·show Act.put _ (some 52) _ = _
        simp only [Act.put,List.setIfInBounds_toArray,List.set_cons_zero,List.set_cons_succ,b7,bC];rfl
       refine wt 27 53 z ?_;refine fe (i:=31) (N:=some 57) #[true,true,true,true,true,true,true,true,true,true,true,true,true,true,true,true,true,true,true,true,true,true,true,true,true,true,true,true,true,true,true,true,false,false,false,false] rfl rfl (cH z.out (by kernel_rfl)) (by decide) (fun K hK=>?_);refine eK Tryz.func145 (by kernel_rfl) rfl #[.int .i64 (wrap64 (a2 - y))] (by rfl) rfl rfl (by (try simp only [List.map_toArray,List.map_cons,List.map_nil]);first | done | rfl) ?_;with_reducible refine (gn.calls (wrap64 (a2 - y)) b4 _ ho.out).mono ?_
       rintro e w' ⟨rfl,⟨nd,rfl⟩⟩
       refine ⟨_,rfl,?_⟩;have f1:0≤(y:Int):=yk;have f2:(y:Int) < (((di X j).length:Int):Int):=yk;obtain ⟨ei,hP,ej,el,g4,hR,em⟩:=Kd.mL a4.out (by omega);(first | cases ej | (injection ej with c0 ex ey;(first | subst c0 | (injection c0 with c0;subst c0));subst ey;clear ex));have g5:=ae.mk el;have hT:=ae.mk em;clear el g4 em;(first | simp only [add_plain] at aO | skip);obtain ⟨go,gs⟩:=Kd.kp 0 a4.out (y:Int) f1 f2;replace f1:=eq_true f1;replace f2:=eq_true f2;have g6:(j:Int) < (X.length:Int):=(by have h_:(j:Int) < ((X.length:Int):Int):=yk;first | exact h_ | (have e_:=(Kd.ez a0.out).1;omega) | simpa only [List.length_set,List.length_set] using h_)
       obtain ⟨ht,hU,f3,g7,dT,f4,e0⟩:=Kd.o4 a0.out [] (j:Int) (yk) g6;obtain ⟨gt,rfl,ao⟩:=g7;have d8:=dT 0 _ rfl;rw [Nat.add_zero,show ((Kd.slice 3 (Kd.int .i64))).sz = 1 from rfl,Nat.mul_one] at d8;replace d8:=Option.some.inj (d8.symm.trans bo.out);subst d8;clear dT f3;replace ao:=(show Kd.R (Kd.int .i64) 3 _ _ _ _ (di X j) from ao)
       have d9:=Kd.nW ao (y:Int) (wrap64 ((rd (di X j) y)+(wrap64 ((wrap64 ((wrap64 ((wrap64 (a3 * (rd a5 j))) * (rd a6 y))) * b3)) * b4))));rw [← ev.out] at d9;have e1:=e0 d9.2 (fun k_ e_=>by injection e_ with e_;subst e_;exact ao.1 _ rfl) (x':=dk) (Kd.oX d9.1);rw [← e4.out] at e1;have g8:=ae.mk e1;clear d9 e1 e0 f4;refine hK.out _ _ ⟨hHeld.1,hHeld.2.1,hHeld.2.2.1,hHeld.2.2.2.1,hHeld.2.2.2.2⟩ (fun hHeld=>?_);clear hK K;refine dN (a':=?_) ?_ ?_;rotate_left
       ·show Act.put _ (some 57) _ = _
        simp only [Act.put,List.setIfInBounds_toArray,List.set_cons_zero,List.set_cons_succ,b7,bC];rfl
       refine wt 32 58 z ?_;refine wt 33 59 z ?_;refine wt 34 60 z ?_;refine lH (i:=35) (N:=none) #[true,true,true,true,true,true,true,true,true,true,true,true,true,true,true,true,true,true,true,true,true,true,true,true,true,true,true,true,true,true,true,true,true,true,true,true] rfl rfl (cH z.out (by kernel_rfl)) (by decide) (fun K hK=>?_);refine nk (w1:=?_) (by rfl) rfl ?_ ?_;rotate_left
       ·go_simp
        rfl
       refine hK.out _ _ ?_;clear hK K;refine fP (e9 z.out (by kernel_rfl)) ?_;(try go_wp2);go_roundg k2;case measure=>have:=e2.out;have:=e3.out;omega
       case rel=>exact ⟨(dl),(a5),(a6),(wrap64 (y+1)),ww,H',⟨by have:=e2.out;have:=e3.out;omega⟩,⟨g8.out⟩,⟨(Kd.aQ (Kd.bU (p:=⟨ei,(y:Int).toNat,none⟩) (Kd.uQ ab.out rfl ((a4.out.1 _ rfl).1.1)) (fun _ hk=>hk.2) (.int .i64 (wrap64 ((rd (di X j) y)+(wrap64 ((wrap64 ((wrap64 ((wrap64 (a3 * (rd a5 j))) * (rd a6 y))) * b3)) * b4)))))) (fun _ hk=>hk.1))⟩,⟨(Kd.aQ (Kd.bU (p:=⟨ei,(y:Int).toNat,none⟩) (Kd.uQ am.out rfl ((a4.out.1 _ rfl).1.2)) (fun _ hk=>hk.2) (.int .i64 (wrap64 ((rd (di X j) y)+(wrap64 ((wrap64 ((wrap64 ((wrap64 (a3 * (rd a5 j))) * (rd a6 y))) * b3)) * b4)))))) (fun _ hk=>hk.1))⟩,⟨by (with_reducible repeat (first | refine iR ?_ _ | refine cM ?_ | refine hY ?_ _));refine nD ?_ (by have h_:=Kd.jU a4.out Y.out (by decide);intro e_;exact h_ (by rw [e_];rfl)) _;(with_reducible repeat (first | refine iR ?_ _ | refine cM ?_ | refine hY ?_ _));exact Y.out⟩,⟨by repeat (first | (with_reducible first | exact HB.out | apply e6 | apply dX | apply bP | refine dY ?_ g5.out | refine dY ?_ eo.out) | exact HB.out)⟩⟩
      ·rw [if_neg dd] at H
       have et:decide (y≤a2) = false:=decide_eq_false dd;clear dd;have H':=ae.mk H;clear H;go_wp2;go_roundg k2;case measure=>have:=e2.out;have:=e3.out;omega
       case rel=>exact ⟨(X),(a5),(a6),(wrap64 (j+1)),ww,H',⟨by have:=e2.out;have:=e3.out;omega⟩,⟨AG a0.out⟩,⟨ac ab.out⟩,⟨ac am.out⟩,⟨xf Y.out⟩,⟨wx HB.out⟩⟩
   ·rw [if_neg db] at H
    have es:decide (j≤a1) = false:=decide_eq_false db;clear db;obtain rfl:=Option.some.inj H;go_wp2;go_end0
    exact ⟨rfl,AG (Kd.jf a0.out (fun _ hk=>trivial)),xf Y.out,wx HB.out⟩
mutual
def bN.l0:Nat→List (List Int)→Int→Int→Int→List Int→Option ((List (List Int)))
 | 0,_,_,_,_,_=>none
 | k+1,x3,X,x5,j,y=>if x5≤X then (if 0≤(wrap64 ((wrap64 (j - X))+1)) then (if (wrap64 ((wrap64 (j - X))+1):Int).toNat≤35184372088832 then (if x3.length < 5864062014805 then (bN.l0 k (x3 ++ [(List.replicate (wrap64 ((wrap64 (j - X))+1):Int).toNat 0)]) X (wrap64 (x5+1)) j y) else (none)) else (none)) else (none)) else (bN.l1 k x3 X 0 j y)
def bN.l1:Nat→List (List Int)→Int→Int→Int→List Int→Option ((List (List Int)))
 | 0,_,_,_,_,_=>none
 | k+1,x3,X,x6,j,y=>(cn.f j).bind fun Y=>(if x6≤Y then ((cS.f k j y x6).bind fun z=>((b9.f k x6).bind fun a0=>((ck.f k x3 (wrap64 (X - z)) (wrap64 (a0 - z)) 1).bind fun a1=>(bN.l1 k a1 X (wrap64 (x6+1)) j y)))) else (some x3))
end
def bN.f (k:Nat) (z:Int) (X:List Int):Option ((List (List Int))):=(some (([]:List (List Int)):List (List Int))).bind fun j=>((de.f k z X).bind fun y=>(if y < 0 then (some j) else (bN.l0 k j y 0 z X)))
set_option maxHeartbeats 8000000 in
set_option maxRecDepth 100000 in
theorem bN.calls (k:Nat) (y:Int) (a1:Option Addr) (a2:Nat) (X:List Int) (r:List (List Int)) (w:World) (c0:Kd.C (Kd.int .i64) w a1 X.length X) (c1:X.length≤a2) (h:bN.f k y X = some r) :
  Calls Tryz.prog 40 #[.agg #[.int .i64 y,.slice a1 X.length a2]] w fun e w'=>∃ d6:Value,e = .returned (d6)∧Kd.S (Kd.slice 3 (Kd.int .i64)) 22 w' w.heap.size (fun _=>True) d6 r∧Below w.heap.size w w':=by
 have f4:=Tryz.underlying37;have b2:=ae.mk c0;have b3:=ae.mk c1;clear c0 c1;have HB:=ae.mk (Below.refl w.heap.size w);unfold bN.f at h;have H:=h;clear h;obtain ⟨b4,ap⟩:∃ y_:List (List Int),y_ = (([]:List (List Int))):=⟨_,rfl⟩
 replace H:((de.f k y X).bind fun z=>(if z < 0 then (some b4) else (bN.l0 k b4 z 0 y X))) = some r:=by (try rw [ap]);exact AC
 have a8:=ae.mk ap;clear ap;obtain ⟨z,A2,H⟩:=xa H;(try dsimp only at H);by_cases c3:z < 0
 ·rw [if_pos c3] at H
  have d7:=decide_eq_true c3;clear c3;obtain rfl:=Option.some.inj H;go_enter Tryz.func40,Tryz.ntmps40;go_wp2_with (first | (refine zp 1 #[.int .i64 y,.slice a1 X.length a2] 37 ?_;intro a5 hg w4 hbox hb;have j:=ae.mk hbox;have cf:=yv hg HB;have bi:=yv hg HB;replace HB:=xi HB hb;clear hb hbox hg) | ((with_reducible refine bu (N:=8) rfl ?_);refine Kd.qP (Kd.slice 3 (Kd.int .i64)) _ 22 ?hg (N:=8) ?hd (xs:=([]:List (List Int))) (inner:=[]) (ok:=fun _=>True) (okp:=fun _=>True) ?hr ?hp (fun _ hk=>hk) trivial (Below.refl _ _) (Nat.le_refl _) (by simp) ?_;(case hd=>rfl);(case hg=>rfl);(case hr=>first | (go_simp;done) | (go_simp;rfl));(case hp=>exact (cY.none _ _));intro d0 w5 ca hb cb aa;clear cb aa;(first | rw [← a8.out] at ca | (simp only [Int.reduceToNat] at ca;rw [← a8.out] at ca));have a0:=ae.mk (Kd.j3 ca (ak (wx HB.out)));replace j:=xc j hb;replace HB:=xi HB hb;clear hb ca;obtain ⟨el,em,eo,eq⟩:=xv j.out) | (refine ws (some 10) Tryz.func84 #[.agg #[.int .i64 y,.slice a1 X.length a2]] ?_;(with_reducible refine (de.calls k y _ _ X z _ ?side1 ?side2 A2.out).mono ?_);(case side1=>exact yi (Kd.aN b2.out HB.out));(case side2=>exact b3.out);rintro e w8 ⟨rfl,hb⟩;refine ⟨_,rfl,?_⟩;replace a0:=ae.mk (Kd.eM (AG a0.out) hb);replace j:=xc j hb;replace HB:=xi HB hb;(try clear hb);(try clear d8);(try clear hk);(try clear hi)));go_ret;exact ⟨_,zd,by (with_reducible repeat (first | apply Kd.l8 | apply Kd.l9 | apply Kd.iH));exact a0.out,wy⟩
 ·rw [if_neg c3] at H
  have d7:decide (z < 0) = false:=decide_eq_false c3;clear c3;have H':=ae.mk H;clear H;go_enter Tryz.func40,Tryz.ntmps40;go_wp2_with (first | (refine zp 1 #[.int .i64 y,.slice a1 X.length a2] 37 ?_;intro a5 hg w9 hbox hb;have j:=ae.mk hbox;have cf:=yv hg HB;have bi:=yv hg HB;replace HB:=xi HB hb;clear hb hbox hg) | ((with_reducible refine bu (N:=8) rfl ?_);refine Kd.qP (Kd.slice 3 (Kd.int .i64)) _ 22 ?hg (N:=8) ?hd (xs:=([]:List (List Int))) (inner:=[]) (ok:=fun _=>True) (okp:=fun _=>True) ?hr ?hp (fun _ hk=>hk) trivial (Below.refl _ _) (Nat.le_refl _) (by simp) ?_;(case hd=>rfl);(case hg=>rfl);(case hr=>first | (go_simp;done) | (go_simp;rfl));(case hp=>exact (cY.none _ _));intro d0 f6 b0 hb cb aa;clear cb aa;(first | rw [← a8.out] at b0 | (simp only [Int.reduceToNat] at b0;rw [← a8.out] at b0));have a0:=ae.mk (Kd.j3 b0 (ak (wx HB.out)));replace j:=xc j hb;replace HB:=xi HB hb;clear hb b0;obtain ⟨d9,db,dd,df⟩:=xv j.out) | (refine ws (some 10) Tryz.func84 #[.agg #[.int .i64 y,.slice a1 X.length a2]] ?_;(with_reducible refine (de.calls k y _ _ X z _ ?side1 ?side2 A2.out).mono ?_);(case side1=>exact yi (Kd.aN b2.out HB.out));(case side2=>exact b3.out);rintro e f7 ⟨rfl,hb⟩;refine ⟨_,rfl,?_⟩;replace a0:=ae.mk (Kd.eM (AG a0.out) hb);replace j:=xc j hb;replace HB:=xi HB hb;(try clear hb);(try clear d8);(try clear hk);(try clear hi)));go_loopg [3,5] k (fun kq v3 v5 w'=>∃ (a3:List (List Int)) (a6:Int),v5 = .int .i64 a6∧ae (bN.l0 kq a3 z a6 y X = some r)∧ae (kq≤k)∧ae (Kd.S (Kd.slice 3 (Kd.int .i64)) 22 w' w.heap.size (fun _=>True) v3 a3)∧ae (w'.heap[a5]? = some (.cells #[.int .i64 y,(.slice a1 X.length a2)] 37 (0,0)))∧ae (Below w.heap.size w w'))
  case atStart=>exact ⟨(b4),(0),ww,H',⟨Nat.le_refl _⟩,⟨AG a0.out⟩,⟨xf j.out⟩,⟨wx HB.out⟩⟩
  case round =>
   clear H';obtain ⟨a3,a6,rfl,HA,ci,Y,j,HB⟩:=hrel;cases gk with
   | zero=>exact absurd HA.out (by simp [bN.l0])
   | succ k1 =>
    have H:=HA.out;clear HA;simp only [bN.l0] at H;by_cases bs:a6≤z
    ·rw [if_pos bs] at H
     have d1:=decide_eq_true bs;clear bs;obtain ⟨a7,ba⟩:∃ j_:Int,(wrap64 ((wrap64 (y - z))+1)) = j_:=⟨_,rfl⟩
     replace H:(if 0≤(a7) then (if (a7:Int).toNat≤35184372088832 then (if a3.length < 5864062014805 then (bN.l0 k1 (a3 ++ [(List.replicate (a7:Int).toNat 0)]) z (wrap64 (a6+1)) y X) else (none)) else (none)) else (none)) = some r:=by first | (rw [ba] at H;exact H) | (simp only [ba] at H ⊢;exact H)
     have es:(IntKind.i64.wrap ((wrap64 (y - z))+1)) = a7:=(b7 _).trans ba;obtain ⟨d2,H⟩:=xt H;have et:=eq_true d2;have ev:decide (0≤(a7)) = true:=decide_eq_true d2;clear d2;obtain ⟨d3,H⟩:=xt H;have ew:=eq_true d3;have ex:decide ((a7:Int).toNat≤35184372088832) = true:=decide_eq_true d3;clear d3;obtain ⟨ab,ar⟩:∃ y_:List Int,y_ = (List.replicate (a7:Int).toNat 0):=⟨_,rfl⟩
     replace H:(if a3.length < 5864062014805 then (bN.l0 k1 (a3 ++ [ab]) z (wrap64 (a6+1)) y X) else (none)) = some r:=by (try rw [ar]);exact AC
     have bm:=ae.mk ar;clear ar;obtain ⟨dk,H⟩:=xt H;have d4:=ae.mk dk;clear dk;obtain ⟨cc,aw⟩:∃ y_:List (List Int),y_ = (a3 ++ [ab]):=⟨_,rfl⟩
     replace H:(bN.l0 k1 cc z (wrap64 (a6+1)) y X) = some r:=by (try rw [aw]);exact AC
     have cp:=ae.mk aw;clear aw;have H':=ae.mk H;clear H;obtain ⟨dl,dp,dq,dt⟩:=xv j.out;go_wp2_with (first | ((with_reducible refine bu (N:=25) rfl ?_);refine Kd.rQ (Kd.int .i64) _ 3 rfl (N:=25) rfl 22 _ _ rfl a7 rfl rfl Tryz.underlying22 (.int .i64 0) 8 fb rfl (by decide) (by omega) 0 (ok:=fun _=>True) (okp:=fun _=>True) rfl (fun _ hk=>hk) trivial (yk) (Nat.le_trans (Nat.mul_le_mul_right _ (yk:a7.toNat≤35184372088832)) (by omega)) (Below.refl _ _) (Nat.le_refl _) ?_;intro ey f8 ao hb cb aa;clear cb aa;(first | rw [← bm.out] at ao | (simp only [Int.reduceToNat] at ao;rw [← bm.out] at ao));replace Y:=ae.mk (Kd.fV (AG Y.out) (Kd.cL ao) hb);have a9:=ae.mk (Kd.b5 ao (ak (wx HB.out)));replace j:=xc j hb;replace HB:=xi HB hb;clear hb ao;obtain ⟨cx,cy,du⟩:=Kd.bk a9.out;subst du) | ((with_reducible refine cF (b:=.append) (xs:=#[.tmp 19,.tmp 26]) rfl ?_);at_builtin;refine Kd.o3 (Kd.slice 3 (Kd.int .i64)) (w0:=w) w.heap.size rfl (.tmp 19) (.tmp 26) 46 22 (.slice none 0 0) 24 rfl Tryz.underlying46 s5 rfl (by decide) (by omega) u3 a3 ab [.slice cx ab.length cy] (fun _=>True) (fun k_=>some k_ = (.slice cx ab.length cy:Value).ownBlock) rfl rfl ?aP (fun k_ eQ=>((Kd.aQ (ok':=fun k_=>((fun _=>True)) k_∧some k_≠(u3:Value).ownBlock) (Kd.jX (a9.out) (Kd.ld Y.out) (by decide)) (fun k_ hk=>⟨trivial,hk.2⟩))).1 k_ eQ.symm) ?aF ?aO ?aB ?aS ?aL ?_;(case aP=>exact Kd.oX (Kd.aQ (Kd.nE rfl (Kd.aQ (ok':=fun k_=>((fun _=>True)) k_∧some k_≠(u3:Value).ownBlock) (Kd.jX (a9.out) (Kd.ld Y.out) (by decide)) (fun k_ hk=>⟨trivial,hk.2⟩))) (fun _ h_=>h_)));(case aB=>exact (wx HB.out));(case aF=>exact (fun _ _=>trivial));(case aO=>exact (AG (Kd.jf Y.out (fun k_ hk=>⟨trivial,fun e_=>hk.2 e_⟩))));(case aS=>exact (ak (wx HB.out)));(case aL=>have:=d4.out;omega);intro f0 f9 ho hb hg hat;rw [← cp.out] at ho;have dv:=ae.mk (eR (g:=a5) (o:=.cells #[.int .i64 y,.slice a1 X.length a2] 37 (0,0)) (xf j.out) hg (Kd.ze Y.out j.out (by decide)));have dC:=ae.mk hb;have dE:=ae.mk ho;clear j;clear HB;clear Y;clear a9;have j:=dv;have HB:=dC;have cq:=dE;clear dv dC dE;clear ho hb hg hat));go_roundg k1;case measure=>have:=ci.out;omega
     case rel=>exact ⟨(cc),(wrap64 (a6+1)),ww,H',⟨by have:=ci.out;omega⟩,⟨AG cq.out⟩,⟨xf j.out⟩,⟨wx HB.out⟩⟩
    ·rw [if_neg bs] at H
     have d1:decide (a6≤z) = false:=decide_eq_false bs;clear bs;have H':=ae.mk H;clear H;go_wp2;go_loopg [6] k1 (fun kq v6 w'=>∃ (bo:List (List Int)) (a4:Int),v6 = .int .i64 a4∧ae (bN.l1 kq bo z a4 y X = some r)∧ae (kq≤k1)∧ae (Kd.S (Kd.slice 3 (Kd.int .i64)) 22 w' w.heap.size (fun _=>True) u3 bo)∧ae (w'.heap[a5]? = some (.cells #[.int .i64 y,(.slice a1 X.length a2)] 37 (0,0)))∧ae (Below w.heap.size w w'))
     case atStart=>exact ⟨(a3),(0),ww,H',⟨Nat.le_refl _⟩,⟨AG Y.out⟩,⟨xf j.out⟩,⟨wx HB.out⟩⟩
     case round =>
      clear H';obtain ⟨bo,a4,rfl,HA,dT,Y,j,HB⟩:=hrel;cases gk with
      | zero=>exact absurd HA.out (by simp [bN.l1])
      | succ k2 =>
       have H:=HA.out;clear HA;simp only [bN.l1] at H;obtain ⟨aR,e0,H⟩:=xa H;(try dsimp only at H);by_cases bv:a4≤aR
       ·rw [if_pos bv] at H
        have d5:=decide_eq_true bv;clear bv;obtain ⟨am,f1,H⟩:=xa H;(try dsimp only at H);obtain ⟨bc,f2,H⟩:=xa H;(try dsimp only at H);obtain ⟨ce,f3,H⟩:=xa H;(try dsimp only at H);have H':=ae.mk H;clear H;obtain ⟨e1,e2,e3,e4⟩:=xv j.out;go_wp2_with (first | (refine ws (some 31) Tryz.func83 #[.int .i64 y] ?_;(with_reducible refine (cn.calls y aR _ e0.out).mono ?_);rintro e w' ⟨rfl,⟨nd,rfl⟩⟩;refine ⟨_,rfl,?_⟩) | (refine ws (some 37) Tryz.func93 #[.agg #[.int .i64 y,.slice a1 X.length a2],.int .i64 a4] ?_;(with_reducible refine (cS.calls k2 y _ _ X a4 am _ ?side1 ?side2 f1.out).mono ?_);(case side1=>exact yi (Kd.aN b2.out HB.out));(case side2=>exact b3.out);rintro e fd ⟨rfl,hb⟩;refine ⟨_,rfl,?_⟩;replace Y:=ae.mk (Kd.eM (AG Y.out) hb);replace j:=xc j hb;replace HB:=xi HB hb;(try clear hb);(try clear d8);(try clear hk);(try clear hi);obtain ⟨e5,e8,ea,eb⟩:=xv j.out) | (refine ws (some 43) Tryz.func59 #[.int .i64 a4] ?_;(with_reducible refine (b9.calls k2 a4 bc _ f2.out).mono ?_);rintro e w' ⟨rfl,⟨nd,rfl⟩⟩;refine ⟨_,rfl,?_⟩) | (refine ws (some 46) Tryz.func94 #[u3,.int .i64 (wrap64 (z - am)),.int .i64 (wrap64 (bc - am)),.int .i64 1] ?_;(with_reducible refine (ck.calls k2 u3 bo (wrap64 (z - am)) (wrap64 (bc - am)) 1 ce a5 y _ _ X w _ (wx HB.out) (AG Y.out) (xf j.out) bi.out f3.out).mono ?_);rintro e f5 ⟨rfl,ec,ed,ee⟩;refine ⟨_,rfl,?_⟩;replace Y:=ae.mk ec;replace j:=ae.mk ed;replace HB:=ae.mk ee;clear ec ed ee));go_roundg k2;case measure=>have:=ci.out;have:=dT.out;omega
        case rel=>exact ⟨(ce),(wrap64 (a4+1)),ww,H',⟨by have:=ci.out;have:=dT.out;omega⟩,⟨AG Y.out⟩,⟨xf j.out⟩,⟨wx HB.out⟩⟩
       ·rw [if_neg bv] at H
        have d5:decide (a4≤aR) = false:=decide_eq_false bv;clear bv;obtain rfl:=Option.some.inj H;obtain ⟨ef,eh,ei,ej⟩:=xv j.out;go_wp2_with (first | (refine ws (some 31) Tryz.func83 #[.int .i64 y] ?_;(with_reducible refine (cn.calls y aR _ e0.out).mono ?_);rintro e w' ⟨rfl,⟨nd,rfl⟩⟩;refine ⟨_,rfl,?_⟩));go_ret;exact ⟨_,zd,by (with_reducible repeat (first | apply Kd.l8 | apply Kd.l9 | apply Kd.iH));exact Y.out,wy⟩
def gH.f (k:Nat) (j:Int) (y:List Int) (a1:Int):Option (Int):=(aY.f k j y).bind fun z=>(if z = true then ((bL.f j a1).bind fun X=>(if X = true then ((cS.f k j y a1).bind fun Y=>(some Y)) else (some (-1)))) else (some (-1)))
set_option maxHeartbeats 8000000 in
set_option maxRecDepth 100000 in
theorem gH.calls (k:Nat) (y:Int) (X:Option Addr) (Y:Nat) (z:List Int) (a1:Int) (r:Int) (w:World) (a8:Kd.C (Kd.int .i64) w X z.length z) (a9:z.length≤Y) (h:gH.f k y z a1 = some r) :
  Calls Tryz.prog 95 #[.agg #[.int .i64 y,.slice X z.length Y],.int .i64 a1] w fun e w'=>e = .returned (.int .i64 r)∧Below w.heap.size w w':=by
 have bo:=Tryz.underlying37;have a2:=ae.mk a8;have a3:=ae.mk a9;clear a8 a9;have HB:=ae.mk (Below.refl w.heap.size w);unfold gH.f at h;have H:=h;clear h;obtain ⟨aa,A3,H⟩:=xa H;(try dsimp only at H);by_cases c4:aa = true
 ·subst c4
  replace H:((bL.f y a1).bind fun a4=>(if a4 = true then ((cS.f k y z a1).bind fun a0=>(some a0)) else (some (-1)))) = some r:=by rw [if_pos rfl] at H;exact H
  obtain ⟨a4,A5,H⟩:=xa H;(try dsimp only at H);by_cases c6:a4 = true
  ·subst c6
   replace H:((cS.f k y z a1).bind fun a0=>(some a0)) = some r:=by rw [if_pos rfl] at H;exact H
   obtain ⟨a0,A7,H⟩:=xa H;(try dsimp only at H);obtain rfl:=Option.some.inj H;go_enter Tryz.func95,Tryz.ntmps95;go_wp2_with (first | ((with_reducible refine bu (N:=2) rfl ?_);refine zp 2 #[.int .i64 y,.slice X z.length Y] 37 ?_;intro a5 hg w8 hbox hb;have j:=ae.mk hbox;have a6:=yv hg HB;have a7:=yv hg HB;replace HB:=xi HB hb;clear hb hbox hg;obtain ⟨ba,bc,bi,bm⟩:=xv j.out) | ((with_reducible refine aD (f:=39) rfl ?_);refine ws (some 6) Tryz.func39 #[.agg #[.int .i64 y,.slice X z.length Y]] ?_;(with_reducible refine (aY.calls k y _ _ z true _ ?side1 ?side2 A3.out).mono ?_);(case side1=>exact yi (Kd.aN a2.out HB.out));(case side2=>exact a3.out);rintro e bs ⟨rfl,hb⟩;refine ⟨_,rfl,?_⟩;replace j:=xc j hb;replace HB:=xi HB hb;(try clear hb);(try clear ab);(try clear hk);(try clear hi);obtain ⟨am,ao,ap,ar⟩:=xv j.out) | (go_at_call 96;(with_reducible refine (bL.calls y a1 true _ A5.out).mono ?_);rintro e w' ⟨rfl,⟨nd,rfl⟩⟩) | ((with_reducible refine aD (f:=93) rfl ?_);refine ws (some 17) Tryz.func93 #[.agg #[.int .i64 y,.slice X z.length Y],.int .i64 a1] ?_;(with_reducible refine (cS.calls k y _ _ z a1 a0 _ ?side1 ?side2 A7.out).mono ?_);(case side1=>exact yi (Kd.aN a2.out HB.out));(case side2=>exact a3.out);rintro e bv ⟨rfl,hb⟩;refine ⟨_,rfl,?_⟩;replace j:=xc j hb;replace HB:=xi HB hb;(try clear hb);(try clear ab);(try clear hk);(try clear hi)));go_ret;exact ⟨zd,wy⟩
  ·replace c6:=Bool.eq_false_iff.mpr c6
   subst c6;replace H:(some (-1)) = some r:=by rw [if_neg (show ¬ (false = true) by decide)] at H;exact H
   obtain rfl:=Option.some.inj H;go_enter Tryz.func95,Tryz.ntmps95;go_wp2_with (first | ((with_reducible refine bu (N:=2) rfl ?_);refine zp 2 #[.int .i64 y,.slice X z.length Y] 37 ?_;intro a5 hg c0 hbox hb;have j:=ae.mk hbox;have a6:=yv hg HB;have a7:=yv hg HB;replace HB:=xi HB hb;clear hb hbox hg;obtain ⟨aw,aB,aF,aL⟩:=xv j.out) | ((with_reducible refine aD (f:=39) rfl ?_);refine ws (some 6) Tryz.func39 #[.agg #[.int .i64 y,.slice X z.length Y]] ?_;(with_reducible refine (aY.calls k y _ _ z true _ ?side1 ?side2 A3.out).mono ?_);(case side1=>exact yi (Kd.aN a2.out HB.out));(case side2=>exact a3.out);rintro e c1 ⟨rfl,hb⟩;refine ⟨_,rfl,?_⟩;replace j:=xc j hb;replace HB:=xi HB hb;(try clear hb);(try clear ab);(try clear hk);(try clear hi);obtain ⟨aO,aP,aR,aS⟩:=xv j.out) | (go_at_call 96;(with_reducible refine (bL.calls y a1 false _ A5.out).mono ?_);rintro e w' ⟨rfl,⟨nd,rfl⟩⟩));go_ret;exact ⟨zd,wy⟩
 ·replace c4:=Bool.eq_false_iff.mpr c4
  subst c4;replace H:(some (-1)) = some r:=by rw [if_neg (show ¬ (false = true) by decide)] at H;exact H
  obtain rfl:=Option.some.inj H;go_enter Tryz.func95,Tryz.ntmps95;go_wp2_with (first | ((with_reducible refine bu (N:=2) rfl ?_);refine zp 2 #[.int .i64 y,.slice X z.length Y] 37 ?_;intro a5 hg ca hbox hb;have j:=ae.mk hbox;have a6:=yv hg HB;have a7:=yv hg HB;replace HB:=xi HB hb;clear hb hbox hg;obtain ⟨b0,b2,b3,b4⟩:=xv j.out) | ((with_reducible refine aD (f:=39) rfl ?_);refine ws (some 6) Tryz.func39 #[.agg #[.int .i64 y,.slice X z.length Y]] ?_;(with_reducible refine (aY.calls k y _ _ z false _ ?side1 ?side2 A3.out).mono ?_);(case side1=>exact yi (Kd.aN a2.out HB.out));(case side2=>exact a3.out);rintro e cb ⟨rfl,hb⟩;refine ⟨_,rfl,?_⟩;replace j:=xc j hb;replace HB:=xi HB hb;(try clear hb);(try clear ab);(try clear hk);(try clear hi)));go_ret;exact ⟨zd,wy⟩
def eg.f (k:Nat) (j:Int) (Y:List Int) (a1:Int):Option (Bool):=(gH.f k j Y a1).bind fun y=>((b9.f k a1).bind fun z=>(if y = z then ((bL.f j a1).bind fun X=>(some X)) else (some false)))
set_option maxHeartbeats 8000000 in
set_option maxRecDepth 100000 in
theorem eg.calls (k:Nat) (Y:Int) (a0:Option Addr) (a2:Nat) (y:List Int) (a1:Int) (r:Bool) (w:World) (a3:Kd.C (Kd.int .i64) w a0 y.length y) (a4:y.length≤a2) (h:eg.f k Y y a1 = some r) :
  Calls Tryz.prog 41 #[.agg #[.int .i64 Y,.slice a0 y.length a2],.int .i64 a1] w fun e w'=>e = .returned (.bool r)∧Below w.heap.size w w':=by
 have b3:=Tryz.underlying37;have a5:=ae.mk a3;have a6:=ae.mk a4;clear a3 a4;have HB:=ae.mk (Below.refl w.heap.size w);unfold eg.f at h;have H:=h;clear h;obtain ⟨z,A3,H⟩:=xa H;(try dsimp only at H);obtain ⟨X,A4,H⟩:=xa H;(try dsimp only at H);by_cases c5:z = X
 ·rw [if_pos c5] at H
  have ab:(z == X) = true:=beq_iff_eq.mpr c5;have am:(z != X) = false:=bne_eq_false_iff_eq.mpr c5;clear c5;obtain ⟨aa,A6,H⟩:=xa H;(try dsimp only at H);obtain rfl:=Option.some.inj H;go_enter Tryz.func41,Tryz.ntmps41;go_wp2_with (first | ((with_reducible refine bu (N:=2) rfl ?_);refine zp 2 #[.int .i64 Y,.slice a0 y.length a2] 37 ?_;intro a7 hg w7 hbox hb;have j:=ae.mk hbox;have a8:=yv hg HB;have a9:=yv hg HB;replace HB:=xi HB hb;clear hb hbox hg;obtain ⟨aP,aR,aS,b0⟩:=xv j.out) | ((with_reducible refine aD (f:=95) rfl ?_);refine ws (some 7) Tryz.func95 #[.agg #[.int .i64 Y,.slice a0 y.length a2],.int .i64 a1] ?_;(with_reducible refine (gH.calls k Y _ _ y a1 z _ ?side1 ?side2 A3.out).mono ?_);(case side1=>exact yi (Kd.aN a5.out HB.out));(case side2=>exact a6.out);rintro e w9 ⟨rfl,hb⟩;refine ⟨_,rfl,?_⟩;replace j:=xc j hb;replace HB:=xi HB hb;(try clear hb);(try clear b2);(try clear hk);(try clear hi)) | ((with_reducible refine aD (f:=59) rfl ?_);refine ws (some 9) Tryz.func59 #[.int .i64 a1] ?_;(with_reducible refine (b9.calls k a1 X _ A4.out).mono ?_);rintro e w' ⟨rfl,⟨nd,rfl⟩⟩;refine ⟨_,rfl,?_⟩;obtain ⟨ao,ap,ar,aw⟩:=xv j.out) | (go_at_call 96;(with_reducible refine (bL.calls Y a1 aa _ A6.out).mono ?_);rintro e w' ⟨rfl,⟨nd,rfl⟩⟩));go_ret;exact ⟨zd,wy⟩
 ·rw [if_neg c5] at H
  have ab:(z == X) = false:=beq_eq_false_iff_ne.mpr c5;have am:(z != X) = true:=bne_iff_ne.mpr c5;obtain rfl:=Option.some.inj H;go_enter Tryz.func41,Tryz.ntmps41;go_wp2_with (first | ((with_reducible refine bu (N:=2) rfl ?_);refine zp 2 #[.int .i64 Y,.slice a0 y.length a2] 37 ?_;intro a7 hg b4 hbox hb;have j:=ae.mk hbox;have a8:=yv hg HB;have a9:=yv hg HB;replace HB:=xi HB hb;clear hb hbox hg;obtain ⟨aB,aF,aL,aO⟩:=xv j.out) | ((with_reducible refine aD (f:=95) rfl ?_);refine ws (some 7) Tryz.func95 #[.agg #[.int .i64 Y,.slice a0 y.length a2],.int .i64 a1] ?_;(with_reducible refine (gH.calls k Y _ _ y a1 z _ ?side1 ?side2 A3.out).mono ?_);(case side1=>exact yi (Kd.aN a5.out HB.out));(case side2=>exact a6.out);rintro e ba ⟨rfl,hb⟩;refine ⟨_,rfl,?_⟩;replace j:=xc j hb;replace HB:=xi HB hb;(try clear hb);(try clear b2);(try clear hk);(try clear hi)) | ((with_reducible refine aD (f:=59) rfl ?_);refine ws (some 9) Tryz.func59 #[.int .i64 a1] ?_;(with_reducible refine (b9.calls k a1 X _ A4.out).mono ?_);rintro e w' ⟨rfl,⟨nd,rfl⟩⟩;refine ⟨_,rfl,?_⟩));go_ret;exact ⟨zd,wy⟩
mutual
def bw.l0:Nat→List (List Int)→Int→Int→Int→Int→Int→Option (Int)
 | 0,_,_,_,_,_,_=>none
 | k+1,z,X,Y,x7,x8,j=>if j < (z.length:Int) then (bw.l1 k z X Y x7 x8 j x8 0) else (some x7)
def bw.l1:Nat→List (List Int)→Int→Int→Int→Int→Int→Int→Int→Option (Int)
 | 0,_,_,_,_,_,_,_,_=>none
 | k+1,z,X,Y,x7,x8,j,a0,y=>if 0≤j then (if j < (z.length:Int) then (if y < ((di z j).length:Int) then (if 0≤y then (bw.l1 k z X Y (wrap64 (x7+(wrap64 ((rd (di z j) y) * a0)))) x8 j (wrap64 (a0 * Y)) (wrap64 (y+1))) else (none)) else (bw.l0 k z X Y x7 (wrap64 (x8 * X)) (wrap64 (j+1)))) else (none)) else (none)
end
def bw.f (k:Nat) (l0:List (List Int)) (j:Int) (a2:Int):Option (Int):=bw.l0 k l0 j a2 0 1 0
set_option maxHeartbeats 8000000 in
set_option maxRecDepth 100000 in
theorem bw.calls (k:Nat) (A0:Option Addr) (c0:Nat) (l0:List (List Int)) (a1:Int) (a2:Int) (r:Int) (w:World) (bc:Kd.C (Kd.slice 3 (Kd.int .i64)) w A0 l0.length l0) (bi:l0.length≤c0) (h:bw.f k l0 a1 a2 = some r) :
  Calls Tryz.prog 42 #[.slice A0 l0.length c0,.int .i64 a1,.int .i64 a2] w fun e w'=>e = .returned (.int .i64 r)∧cT w w':=by
 have aS:=ae.mk bc;have cq:=ae.mk bi;clear bc bi;unfold bw.f at h;have H:=h;clear h;have H':=ae.mk H;clear H;go_enter Tryz.func42,Tryz.ntmps42;go_wp2;go_loopg [7,8,9] k (fun kq v7 v8 v9 w'=>∃ (am:Int) (a4:Int) (j:Int),v7 = .int .i64 am∧v8 = .int .i64 a4∧v9 = .int .i64 j∧ae (bw.l0 kq l0 a1 a2 am a4 j = some r)∧ae (kq≤k)∧cT w w')
 case atStart=>exact ⟨(0),(1),(0),ww,ww,ww,H',⟨Nat.le_refl _⟩,zt⟩
 case round =>
  clear H';obtain ⟨am,a4,j,rfl,rfl,rfl,HA,aO,⟨m1,rfl⟩⟩:=hrel;cases gk with
  | zero=>exact absurd HA.out (by simp [bw.l0])
  | succ k1 =>
   have H:=HA.out;clear HA;simp only [bw.l0] at H;by_cases c4:j < (l0.length:Int)
   ·rw [if_pos c4] at H
    have bm:=decide_eq_true c4;clear c4;have H':=ae.mk H;clear H;go_wp2;go_loopg [7,10,11] k1 (fun kq v7 v10 v11 w'=>∃ (a8:Int) (a3:Int) (X:Int),v7 = .int .i64 a8∧v10 = .int .i64 a3∧v11 = .int .i64 X∧ae (bw.l1 kq l0 a1 a2 a8 a4 j a3 X = some r)∧ae (kq≤k1)∧cT w w')
    case atStart=>exact ⟨(am),(a4),(0),ww,ww,ww,H',⟨Nat.le_refl _⟩,zt⟩
    case round =>
     clear H';obtain ⟨a8,a3,X,rfl,rfl,rfl,HA,aP,⟨m2,rfl⟩⟩:=hrel;cases gk with
     | zero=>exact absurd HA.out (by simp [bw.l1])
     | succ k2 =>
      have H:=HA.out;clear HA;simp only [bw.l1] at H;obtain ⟨c5,H⟩:=xt H;have cf:=decide_eq_true c5;clear c5;obtain ⟨c6,H⟩:=xt H;have ci:=decide_eq_true c6;clear c6;by_cases c7:X < ((di l0 j).length:Int)
      ·rw [if_pos c7] at H
       have bo:=decide_eq_true c7;clear c7;obtain ⟨c8,H⟩:=xt H;have cp:=decide_eq_true c8;clear c8;have H':=ae.mk H;clear H;have Y:0≤(j:Int):=yk;have a0:j < (l0.length:Int):=yk;obtain ⟨ao,aF,aL,a9,a5,y,z⟩:=kF aS.out j Y a0;cases a9
       have ap:=ae.mk z;have ar:=ae.mk y;clear z y;replace Y:=eq_true Y;replace a0:=eq_true a0;have aa:0≤(j:Int):=yk;have ab:j < (l0.length:Int):=yk;obtain ⟨aR,bs,bv,b0,aw,a6,a7⟩:=kF aS.out j aa ab;obtain rfl:ao = aR:=(by injection b0)
       have aB:=ae.mk a7;have b4:=ae.mk a6;clear a7 a6;replace aa:=eq_true aa;replace ab:=eq_true ab;have b2:=Option.some.inj (a5.symm.trans aw);injection b2 with b2 ca cb
       subst b2;subst cb;clear ca;obtain ⟨c1,b3,ba,cc,ce⟩:=At aB.out X;cases b3
       go_wp2;go_roundg k2;case measure=>have:=aO.out;have:=aP.out;omega
       case rel=>exact ⟨(wrap64 (a8+(wrap64 ((rd (di l0 j) X) * a3)))),(wrap64 (a3 * a2)),(wrap64 (X+1)),ww,ww,ww,H',⟨by have:=aO.out;have:=aP.out;omega⟩,zt⟩
      ·rw [if_neg c7] at H
       have bo:decide (X < ((di l0 j).length:Int)) = false:=decide_eq_false c7;clear c7;have H':=ae.mk H;clear H;have Y:0≤(j:Int):=yk;have a0:j < (l0.length:Int):=yk;obtain ⟨ao,aF,aL,a9,a5,y,z⟩:=kF aS.out j Y a0;cases a9
       have ap:=ae.mk z;have ar:=ae.mk y;clear z y;replace Y:=eq_true Y;replace a0:=eq_true a0;go_wp2;go_roundg k2;case measure=>have:=aO.out;have:=aP.out;omega
       case rel=>exact ⟨(a8),(wrap64 (a4 * a1)),(wrap64 (j+1)),ww,ww,ww,H',⟨by have:=aO.out;have:=aP.out;omega⟩,zt⟩
   ·rw [if_neg c4] at H
    have bm:decide (j < (l0.length:Int)) = false:=decide_eq_false c4;clear c4;obtain rfl:=Option.some.inj H;go_wp2;go_ret;exact ⟨ww,zt⟩
end Pr
end
end Go.Proofs.YtlfkfdmggpipbaaGreat
