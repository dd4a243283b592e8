/- The claim FnLattice: every text that its row comes to, laid together by slim.py (the words of the kit's print, the printed walks, the pure law, the row). -/
import Derived.Test.YtmpodackojmojaaGreatYFnLattice1
section
namespace Go.Proofs.YtmpodackojmojaaGreat.Pr
open Go.RowKit Go.Proofs.ag.aX Go.Proofs.ag.bU Go.Proofs.ag.bQ
attribute [local go_sem] je jf jW jX iF iG jg jh
set_option linter.unusedVariables false
set_option linter.unusedSimpArgs false
mutual
def az.l0:Nat→Int→Int→Int→Int→List Int→Int→Int→Option (Int)
 | 0,_,_,_,_,_,_,_=>none
 | k+1,x0,x1,X,x4,j,y,z=>if z < X then ((cz.f x4 z).bind fun a3=>(if a3 = true then (az.l1 k x0 x1 X x4 j y z y) else (az.l0 k x0 x1 X x4 j y (wrap64 (z+1))))) else (some y)
def az.j2:Nat→Int→Int→Int→Int→List Int→Int→Int→Int→Option (Int)
 | 0,_,_,_,_,_,_,_,_=>none
 | k+1,x0,x1,X,x4,j,y,z,Y=>if Y≥x1 then (az.l0 k x0 x1 X x4 j y (wrap64 (z+1))) else (az.l2 k x0 x1 X x4 j y z Y 0)
def az.l2:Nat→Int→Int→Int→Int→List Int→Int→Int→Int→Int→Option (Int)
 | 0,_,_,_,_,_,_,_,_,_=>none
 | k+1,x0,x1,X,x4,j,y,z,Y,a1=>if a1 < X then (if 0≤(wrap64 ((wrap64 (Y * X))+a1)) then (if (wrap64 ((wrap64 (Y * X))+a1)) < (j.length:Int) then (if 0≤(wrap64 ((wrap64 (y * X))+a1)) then (if (wrap64 ((wrap64 (y * X))+a1)) < (j.length:Int) then (az.l2 k x0 x1 X x4 ((j.set ((wrap64 ((wrap64 (Y * X))+a1)):Int).toNat (rd j (wrap64 ((wrap64 (y * X))+a1)))).set ((wrap64 ((wrap64 (y * X))+a1)):Int).toNat (rd j (wrap64 ((wrap64 (Y * X))+a1)))) y z Y (wrap64 (a1+1))) else (none)) else (none)) else (none)) else (none)) else (az.l3 k x0 x1 X x4 j y z (wrap64 (y+1)))
def az.l3:Nat→Int→Int→Int→Int→List Int→Int→Int→Int→Option (Int)
 | 0,_,_,_,_,_,_,_,_=>none
 | k+1,x0,x1,X,x4,j,y,z,a0=>if a0 < x1 then (if 0≤(wrap64 ((wrap64 (a0 * X))+z)) then (if (wrap64 ((wrap64 (a0 * X))+z)) < (j.length:Int) then (if 0≤(wrap64 ((wrap64 (y * X))+z)) then (if (wrap64 ((wrap64 (y * X))+z)) < (j.length:Int) then (az.l4 k x0 x1 X x4 j y z a0 (rd j (wrap64 ((wrap64 (a0 * X))+z))) (rd j (wrap64 ((wrap64 (y * X))+z))) 0) else (none)) else (none)) else (none)) else (none)) else (az.l0 k x0 x1 X x4 j (wrap64 (y+1)) (wrap64 (z+1)))
def az.l4:Nat→Int→Int→Int→Int→List Int→Int→Int→Int→Int→Int→Int→Option (Int)
 | 0,_,_,_,_,_,_,_,_,_,_,_=>none
 | k+1,x0,x1,X,x4,j,y,z,a0,a4,a5,a2=>if a2 < X then (if 0≤(wrap64 ((wrap64 (a0 * X))+a2)) then (if (wrap64 ((wrap64 (a0 * X))+a2)) < (j.length:Int) then (if 0≤(wrap64 ((wrap64 (y * X))+a2)) then (if (wrap64 ((wrap64 (y * X))+a2)) < (j.length:Int) then (if x0 = 0 then (none) else (az.l4 k x0 x1 X x4 (j.set ((wrap64 ((wrap64 (a0 * X))+a2)):Int).toNat (Int.tmod (wrap64 ((Int.tmod (wrap64 ((wrap64 ((rd j (wrap64 ((wrap64 (a0 * X))+a2))) * a5)) - (wrap64 ((rd j (wrap64 ((wrap64 (y * X))+a2))) * a4)))) x0)+x0)) x0)) y z a0 a4 a5 (wrap64 (a2+1)))) else (none)) else (none)) else (none)) else (none)) else (az.l3 k x0 x1 X x4 j y z (wrap64 (a0+1)))
def az.l1:Nat→Int→Int→Int→Int→List Int→Int→Int→Int→Option (Int)
 | 0,_,_,_,_,_,_,_,_=>none
 | k+1,x0,x1,X,x4,j,y,z,Y=>if Y < x1 then (if 0≤(wrap64 ((wrap64 (Y * X))+z)) then (if (wrap64 ((wrap64 (Y * X))+z)) < (j.length:Int) then (if (rd j (wrap64 ((wrap64 (Y * X))+z))) = 0 then (az.l1 k x0 x1 X x4 j y z (wrap64 (Y+1))) else (az.j2 k x0 x1 X x4 j y z Y)) else (none)) else (none)) else (az.j2 k x0 x1 X x4 j y z Y)
end
def az.f (k:Nat) (a0:Int) (y:Int) (a2:Int) (l3:List Int) (a4:Int):Option (Int):=(some (([]:List Int):List Int)).bind fun j=>(if j.length+l3.length < 17592186044416 then (az.l0 k a0 y a2 a4 (j ++ l3) 0 0) else (none))
def az.wN:Bool×List (List Nat×List Nat):=(true,[([],[]),([],[]),([],[]),([1,2],[1,2]),([],[]),([3,4],[3,4]),([],[]),([],[]),([],[]),([7,8],[7,8]),([],[]),([9,10],[9,10]),([6,11],[6,11]),([12],[12]),([],[]),([13,14],[13,14]),([],[]),([],[]),([],[]),([17,18],[17,18]),([],[]),([19,20],[19,20]),([16,21],[16,21]),([22],[22]),([],[]),([23,24],[23,24]),([15,25],[15,25]),([],[]),([26,27],[26,27]),([],[]),([28,29],[28,29]),([],[]),([30,31],[30,31]),([0,5,0,1,2,3,4,5,6,7,8,9,10,11,12,13,14,15,16,17,18,19,20,21,22,23,24,25,26,27,28,29,30,31,32],[0,5]),([33,32,0,1,2,3,4,5,6,7,8,9,10,11,12,13,14,15,16,17,18,19,20,21,22,23,24,25,26,27,28,29,30,31,32],[32,33])])
def az.wW:List Nat:=[0,0,0,6,0,30,0,0,0,384,0,1920,4032,8128,0,32704,0,0,0,393216,0,1966080,4128768,8323072,0,33488896,67108800,0,268435392,0,1073741760,0,4294967232,8589934591,17179869183]
theorem az.vP:gm .any (opsOf Tryz.f187 25) = az.wN:=by kernel_rfl
theorem az.uL:eT az.wN.2 az.wW = true:=by kernel_rfl
set_option maxHeartbeats 8000000 in
set_option maxRecDepth 100000 in
theorem az.calls (k:Nat) (a0:Int) (a1:Int) (a2:Int) (A3:Option Addr) (c3:Nat) (l3:List Int) (a4:Int) (r:Int) (w:World) (gb:Kd.C (Kd.int .i64) w A3 l3.length l3) (gc:l3.length≤c3) (h:az.f k a0 a1 a2 l3 a4 = some r) :
  Calls Tryz.prog 187 #[.int .i64 a0,.int .i64 a1,.int .i64 a2,.slice A3 l3.length c3,.int .i64 a4] w fun e w'=>e = .returned (.int .i64 r)∧Below w.heap.size w w':=by
 have kc:=ae.mk gb
 have nb:=ae.mk gc
 clear gb gc
 have HB:=ae.mk (Below.refl w.heap.size w)
 unfold az.f at h
 have H:=h
 clear h
 obtain ⟨d6,c0⟩:∃ y_:List Int,y_ = (([]:List Int)):=⟨_,rfl⟩
 replace H:(if d6.length+l3.length < 17592186044416 then (az.l0 k a0 a1 a2 a4 (d6 ++ l3) 0 0) else (none)) = some r:=by (try rw [c0]);exact af.Z
 have dp:=ae.mk c0
 clear c0
 obtain ⟨c6,H⟩:=af.ip H
 have go:=ae.mk c6
 clear c6
 obtain ⟨ee,c1⟩:∃ y_:List Int,y_ = (d6 ++ l3):=⟨_,rfl⟩
 replace H:(az.l0 k a0 a1 a2 a4 ee 0 0) = some r:=by (try rw [c1]);exact af.Z
 have f0:=ae.mk c1
 clear c1
 have H':=ae.mk H
 clear H
 go_enter Tryz.func187,Tryz.ntmps187
 go_wp2_with (first | (refine af.lt (Kd.int .i64) 3 21 ?_;intro gs w7 dq hb kd f1;clear kd f1;(first | rw [← dp.out] at dq | (simp only [Int.reduceToNat] at dq;rw [← dp.out] at dq));have dt:=ae.mk (Kd.aV dq (av (af.Lw HB.out)));replace HB:=af.lb HB hb;clear hb dq) | ((with_reducible refine cP (b:=.append) (xs:=#[.tmp 21,.tmp 22]) rfl ?_);at_builtin;refine Kd.j9 (Kd.int .i64) (w0:=w) w.heap.size rfl (.tmp 21) (.tmp 22) 28 3 (.int .i64 0) 8 rfl Tryz.underlying28 eI rfl (by decide) (by omega) gs d6 l3 _ _ _ (fun _=>True) (fun _=>False) rfl rfl (by exact af.Rw dt.out) (by repeat (first | exact (Kd.aT kc.out HB.out) | (with_reducible refine Kd.fE ?_ _) | (with_reducible refine Kd.fF ?_ _) | (with_reducible refine Kd.fV ?_))) (fun _ _ h=>h) (fun _ h=>h.elim) (by exact fun _ _=>trivial) (by exact af.Lw HB.out) (by exact av (af.Lw HB.out)) (by have:=go.out;omega) ?_;intro bm w9 ho hb hg hat;rw [← f0.out] at ho;have gt:=ae.mk hb;have h0:=ae.mk ho;clear HB;clear dt;have HB:=gt;have f2:=h0;clear gt h0;clear ho hb hg hat))
 go_loopg [12,13] k (fun kq v12 kh w'=>∃ (a3:List Int) (y:Int) (z:Int),v12 = .int .i64 y∧kh = .int .i64 z∧ae (az.l0 kq a0 a1 a2 a4 a3 y z = some r)∧ae (kq≤k)∧ae (Kd.R (Kd.int .i64) 3 w' w.heap.size (fun _=>True) bm a3)∧ae (Below w.heap.size w w'))
 case atStart=>exact ⟨(ee),(0),(0),af.F,af.F,H',⟨Nat.le_refl _⟩,⟨af.Rw f2.out⟩,⟨af.Lw HB.out⟩⟩
 case round =>
  clear H'
  obtain ⟨a3,y,z,rfl,rfl,HA,aO,j,HB⟩:=hrel
  cases gk with
  | zero=>exact absurd HA.out (by simp [az.l0])
  | succ k1 =>
   have H:=HA.out
   clear HA
   simp only [az.l0] at H
   by_cases gX:z < a2
   ·rw [if_pos gX] at H
    have f3:=decide_eq_true gX
    clear gX
    obtain ⟨h6,h7,H⟩:=af.be H
    (try dsimp only at H)
    by_cases e7:h6 = true
    ·subst e7
     replace H:(az.l1 k1 a0 a1 a2 a4 a3 y z y) = some r:=by rw [if_pos rfl] at H;exact H
     have du:=ae.mk H
     clear H
     go_upto_block 2 with (first | (refine af.gl (some 31) Tryz.func89 #[.int .i64 a4,.int .i64 z] ?_;(with_reducible refine (cz.calls a4 z true _ h7.out).mono ?_);rintro e w' ⟨rfl,⟨nd,rfl⟩⟩;refine ⟨_,rfl,?_⟩))
     (try simp only [Act.put,List.setIfInBounds_toArray,List.set_cons_zero,List.set_cons_succ])
     go_cut [14] (fun f4 wc=>∃ (kq:Nat) (aa:Int),f4 = .int .i64 aa∧ae (az.j2 kq a0 a1 a2 a4 a3 y z aa = some r)∧ae (kq≤k1)∧ae (Kd.R (Kd.int .i64) 3 wc w.heap.size (fun _=>True) bm a3)∧ae (Below w.heap.size w wc))
     case first =>
      have H:=du.out
      clear du
      have H':=ae.mk H
      clear H
      go_wp2
      go_loopg [14] k1 (fun kq f4 w'=>∃ (ap:Int),f4 = .int .i64 ap∧ae (az.l1 kq a0 a1 a2 a4 a3 y z ap = some r)∧ae (kq≤k1)∧ae (Kd.R (Kd.int .i64) 3 w' w.heap.size (fun _=>True) bm a3)∧ae (Below w.heap.size w w'))
      case atStart=>exact ⟨(y),af.F,H',⟨Nat.le_refl _⟩,⟨af.Rw j.out⟩,⟨af.Lw HB.out⟩⟩
      case round =>
       clear H'
       obtain ⟨ap,rfl,HA,e8,j,HB⟩:=hrel
       cases gk with
       | zero=>exact absurd HA.out (by simp [az.l1])
       | succ k2 =>
        have H:=HA.out
        clear HA
        simp only [az.l1] at H
        by_cases d9:ap < a1
        ·rw [if_pos d9] at H
         have b0:=decide_eq_true d9
         clear d9
         (first | rw [b0] | (simp only [aM,b8];rw [b0]) | skip)
         obtain ⟨aB,ca⟩:∃ j_:Int,(wrap64 ((wrap64 (ap * a2))+z)) = j_:=⟨_,rfl⟩
         replace H:(if 0≤(aB) then (if (aB) < (a3.length:Int) then (if (rd a3 (aB)) = 0 then (az.l1 k2 a0 a1 a2 a4 a3 y z (wrap64 (ap+1))) else (az.j2 k2 a0 a1 a2 a4 a3 y z ap)) else (none)) else (none)) = some r:=by first | (rw [ca] at H;exact H) | (simp only [ca] at H ⊢;exact H)
         have ii:(IntKind.i64.wrap ((wrap64 (ap * a2))+z)) = aB:=(aM _).trans ca
         obtain ⟨h8,H⟩:=af.ip H
         have kl:=decide_eq_true h8
         clear h8
         obtain ⟨h9,H⟩:=af.ip H
         have km:=decide_eq_true h9
         clear h9
         by_cases cb:(rd a3 (aB)) = 0
         ·rw [if_pos cb] at H
          have f5:((rd a3 (aB)) == 0) = true:=beq_iff_eq.mpr cb
          have f6:((rd a3 (aB)) != 0) = false:=bne_eq_false_iff_eq.mpr cb
          clear cb
          have H':=ae.mk H
          clear H
          obtain ⟨lw,lx,hj⟩:=Kd.aK j.out
          subst hj
          obtain ⟨f7,dv,aF,hl,bo⟩:=af.ai (Kd.ah j.out).2.2 (aB)
          cases dv
          go_wp2
          go_roundg k2
          case measure=>have:=aO.out;have:=e8.out;omega
          case rel=>exact ⟨(wrap64 (ap+1)),af.F,H',⟨by have:=aO.out;have:=e8.out;omega⟩,⟨af.Rw j.out⟩,⟨af.Lw HB.out⟩⟩
         ·rw [if_neg cb] at H
          have f5:((rd a3 (aB)) == 0) = false:=beq_eq_false_iff_ne.mpr cb
          have f6:((rd a3 (aB)) != 0) = true:=bne_iff_ne.mpr cb
          have H':=ae.mk H
          clear H
          obtain ⟨ly,lL,hm⟩:=Kd.aK j.out
          subst hm
          obtain ⟨f7,dv,aF,hl,bo⟩:=af.ai (Kd.ah j.out).2.2 (aB)
          cases dv
          go_wp2
          go_meet
          case rel=>exact ⟨_,(ap),af.F,H',⟨by have:=aO.out;have:=e8.out;first | omega | exact Nat.le_refl _⟩,⟨af.Rw j.out⟩,⟨af.Lw HB.out⟩⟩
        ·rw [if_neg d9] at H
         have b0:decide (ap < a1) = false:=decide_eq_false d9
         clear d9
         (first | rw [b0] | (simp only [aM,b8];rw [b0]) | skip)
         have H':=ae.mk H
         clear H
         go_wp2
         go_meet
         case rel=>exact ⟨_,(ap),af.F,H',⟨by have:=aO.out;have:=e8.out;first | omega | exact Nat.le_refl _⟩,⟨af.Rw j.out⟩,⟨af.Lw HB.out⟩⟩
     case rest =>
      clear du
      try clear q3
      try clear f8
      try clear aF
      try clear bo
      obtain ⟨kq,aa,rfl,HA,aP,j,HB⟩:=hcut
      cases kq with
      | zero=>exact absurd HA.out (by simp [az.j2])
      | succ dC =>
       have H:=HA.out
       clear HA
       simp only [az.j2] at H
       by_cases db:aa≥a1
       ·rw [if_pos db] at H
        have f9:=decide_eq_true db
        clear db
        have H':=ae.mk H
        clear H
        go_wp2
        go_roundg dC
        case measure=>have:=aO.out;have:=aP.out;omega
        case rel=>exact ⟨(a3),(y),(wrap64 (z+1)),af.F,af.F,H',⟨by have:=aO.out;have:=aP.out;omega⟩,⟨af.Rw j.out⟩,⟨af.Lw HB.out⟩⟩
       ·rw [if_neg db] at H
        have f9:decide (a1≤aa) = false:=decide_eq_false db
        clear db
        have H':=ae.mk H
        clear H
        go_wp2
        go_loopg [15] dC (fun kq ks w'=>∃ (Y:List Int) (a6:Int),ks = .int .i64 a6∧ae (az.l2 kq a0 a1 a2 a4 Y y z aa a6 = some r)∧ae (kq≤dC)∧ae (Kd.R (Kd.int .i64) 3 w' w.heap.size (fun _=>True) bm Y)∧ae (Below w.heap.size w w'))
        case atStart=>exact ⟨(a3),(0),af.F,H',⟨Nat.le_refl _⟩,⟨af.Rw j.out⟩,⟨af.Lw HB.out⟩⟩
        case round =>
         clear H'
         try clear q3
         try clear f8
         try clear aF
         try clear q3
         try clear bo
         obtain ⟨Y,a6,rfl,HA,bs,j,HB⟩:=hrel
         cases gk with
         | zero=>exact absurd HA.out (by simp [az.l2])
         | succ k3 =>
          have H:=HA.out
          clear HA
          simp only [az.l2] at H
          by_cases dd:a6 < a2
          ·rw [if_pos dd] at H
           have fd:=decide_eq_true dd
           clear dd
           obtain ⟨ab,cc⟩:∃ j_:Int,(wrap64 ((wrap64 (aa * a2))+a6)) = j_:=⟨_,rfl⟩
           replace H:(if 0≤(ab) then (if (ab) < (Y.length:Int) then (if 0≤(wrap64 ((wrap64 (y * a2))+a6)) then (if (wrap64 ((wrap64 (y * a2))+a6)) < (Y.length:Int) then (az.l2 k3 a0 a1 a2 a4 ((Y.set ((ab):Int).toNat (rd Y (wrap64 ((wrap64 (y * a2))+a6)))).set ((wrap64 ((wrap64 (y * a2))+a6)):Int).toNat (rd Y (ab))) y z aa (wrap64 (a6+1))) else (none)) else (none)) else (none)) else (none)) = some r:=by first | (rw [cc] at H;exact H) | (simp only [cc] at H ⊢;exact H)
           have il:(IntKind.i64.wrap ((wrap64 (aa * a2))+a6)) = ab:=(aM _).trans cc
           obtain ⟨hq,H⟩:=af.ip H
           have kt:=decide_eq_true hq
           clear hq
           obtain ⟨ht,H⟩:=af.ip H
           have kv:=decide_eq_true ht
           clear ht
           obtain ⟨am,ce⟩:∃ j_:Int,(wrap64 ((wrap64 (y * a2))+a6)) = j_:=⟨_,rfl⟩
           replace H:(if 0≤(am) then (if (am) < (Y.length:Int) then (az.l2 k3 a0 a1 a2 a4 ((Y.set ((ab):Int).toNat (rd Y (am))).set ((am):Int).toNat (rd Y (ab))) y z aa (wrap64 (a6+1))) else (none)) else (none)) = some r:=by first | (rw [ce] at H;exact H) | (simp only [ce] at H ⊢;exact H)
           have im:(IntKind.i64.wrap ((wrap64 (y * a2))+a6)) = am:=(aM _).trans ce
           obtain ⟨hu,H⟩:=af.ip H
           have kw:=decide_eq_true hu
           clear hu
           obtain ⟨hx,H⟩:=af.ip H
           have ky:=decide_eq_true hx
           clear hx
           obtain ⟨dE,cf⟩:∃ y_:List Int,y_ = (Y.set ((ab):Int).toNat (rd Y (am))):=⟨_,rfl⟩
           replace H:(az.l2 k3 a0 a1 a2 a4 (dE.set ((am):Int).toNat (rd Y (ab))) y z aa (wrap64 (a6+1))) = some r:=by (try rw [cf]);exact af.Z
           have fi:=ae.mk cf
           clear cf
           obtain ⟨dT,ci⟩:∃ y_:List Int,y_ = (dE.set ((am):Int).toNat (rd Y (ab))):=⟨_,rfl⟩
           replace H:(az.l2 k3 a0 a1 a2 a4 dT y z aa (wrap64 (a6+1))) = some r:=by (try rw [ci]);exact af.Z
           have fj:=ae.mk ci
           clear ci
           have H':=ae.mk H
           clear H
           obtain ⟨lN,ef,hz⟩:=Kd.aK j.out
           subst hz
           obtain ⟨fp,hA,b2,m1,eh⟩:=af.ai (Kd.ah j.out).2.2 (ab)
           cases hA
           obtain ⟨fs,hC,b3,m2,ei⟩:=af.ai (Kd.ah j.out).2.2 (am)
           obtain rfl:fp = fs:=(by injection hC)
           have ft:0≤((ab):Int):=af.D
           have cp:((ab):Int) < ((Y.length:Int):Int):=af.D
           obtain ⟨bi,m5,ej,el,hD,ma,em⟩:=Kd.jr j.out (by omega)
           (first | cases ej | (injection ej with aR e0 e1;(first | subst aR | (injection aR with aR;subst aR));subst e1;clear e0))
           have eo:=ae.mk el
           have mf:=ae.mk em
           clear el hD em
           (first | simp only [add_plain] at b2 | skip)
           (first | simp only [add_plain] at b3 | skip)
           obtain ⟨d7,io⟩:=Kd.gA 0 j.out ((ab):Int) ft cp
           replace ft:=eq_true ft
           replace cp:=eq_true cp
           have e2:=Kd.kF j.out ((ab):Int) (rd Y (am))
           go_wp2_with (first | ((with_reducible refine gf (t:=3) (p:=80) rfl ?_);refine fM (t:=3) (p:=80) (v:=?vo_w33) (w1:=(wr.setCell ⟨bi,((ab):Int).toNat,none⟩ (.int .i64 (rd Y (am))))) ?hg ?ho ?hn ?hr ?_;(case ho=>rfl);(case hg=>rfl);(case hn=>rfl);(case hr=>first | (go_simp;done) | (go_simp;rfl));intro e3 hw;have hg:wr.grownBy e3 (some bi):=(by rw [hw];exact e2.2);have e4:Kd.R (Kd.int .i64) 3 e3 w.heap.size (fun _=>True) (.slice (some ⟨bi,0,none⟩) Y.length ef) dE:=(by rw [hw,fi.out];exact e2.1);clear e2;replace j:=ae.mk e4;replace HB:=ae.mk ((by rw [hw];exact dP (HB.out) eo.out:Below w.heap.size w e3));clear hg hw e4;have fw:0≤((am):Int):=af.D;have d0:((am):Int) < ((Y.length:Int):Int):=af.D;obtain ⟨d8,it⟩:=Kd.gA 0 j.out ((am):Int) fw d0;replace fw:=eq_true fw;replace d0:=eq_true d0;obtain ⟨la,lc⟩:=Kd.gA 0 j.out ((am):Int) (af.D) (af.D);have e5:=Kd.kF j.out ((am):Int) (rd Y (ab))) | ((with_reducible refine gf (t:=3) (p:=88) rfl ?_);refine fM (t:=3) (p:=88) (v:=?vo_w35) (w1:=(e3.setCell ⟨bi,((am):Int).toNat,none⟩ (.int .i64 (rd Y (ab))))) ?hg ?ho ?hn ?hr ?_;(case ho=>rfl);(case hg=>rfl);(case hn=>rfl);(case hr=>first | (go_simp;done) | (go_simp;rfl));intro g0 hw;have hg:e3.grownBy g0 (some bi):=(by rw [hw];exact e5.2);have e4:Kd.R (Kd.int .i64) 3 g0 w.heap.size (fun _=>True) (.slice (some ⟨bi,0,none⟩) Y.length ef) dT:=(by rw [hw,fj.out];exact e5.1);clear e5;replace j:=ae.mk e4;replace HB:=ae.mk ((by rw [hw];exact dP (HB.out) eo.out:Below w.heap.size w g0));clear hg hw e4))
           go_roundg k3
           case measure=>have:=aO.out;have:=aP.out;have:=bs.out;omega
           case rel=>exact ⟨(dT),(wrap64 (a6+1)),af.F,H',⟨by have:=aO.out;have:=aP.out;have:=bs.out;omega⟩,⟨af.Rw j.out⟩,⟨af.Lw HB.out⟩⟩
          ·rw [if_neg dd] at H
           have fd:decide (a6 < a2) = false:=decide_eq_false dd
           clear dd
           have H':=ae.mk H
           clear H
           go_wp2
           go_loopg [17] k3 (fun kq le w'=>∃ (X:List Int) (a8:Int),le = .int .i64 a8∧ae (az.l3 kq a0 a1 a2 a4 X y z a8 = some r)∧ae (kq≤k3)∧ae (Kd.R (Kd.int .i64) 3 w' w.heap.size (fun _=>True) bm X)∧ae (Below w.heap.size w w'))
           case atStart=>exact ⟨(Y),(wrap64 (y+1)),af.F,H',⟨Nat.le_refl _⟩,⟨af.Rw j.out⟩,⟨af.Lw HB.out⟩⟩
           case round =>
            clear H'
            try clear q2
            try clear lh
            try clear q3
            try clear f8
            try clear cp
            try clear hE
            try clear hG
            try clear d0
            try clear hH
            try clear hI
            try clear hL
            try clear hM
            try clear d7
            try clear d8
            try clear aF
            try clear b2
            try clear b3
            try clear cp
            try clear q3
            try clear d0
            try clear bo
            try clear eh
            try clear ei
            obtain ⟨X,a8,rfl,HA,df,j,HB⟩:=hrel
            cases gk with
            | zero=>exact absurd HA.out (by simp [az.l3])
            | succ k4 =>
             have H:=HA.out
             clear HA
             simp only [az.l3] at H
             by_cases dk:a8 < a1
             ·rw [if_pos dk] at H
              have g1:=decide_eq_true dk
              clear dk
              obtain ⟨ar,d1⟩:∃ j_:Int,(wrap64 ((wrap64 (a8 * a2))+z)) = j_:=⟨_,rfl⟩
              replace H:(if 0≤(ar) then (if (ar) < (X.length:Int) then (if 0≤(wrap64 ((wrap64 (y * a2))+z)) then (if (wrap64 ((wrap64 (y * a2))+z)) < (X.length:Int) then (az.l4 k4 a0 a1 a2 a4 X y z a8 (rd X (ar)) (rd X (wrap64 ((wrap64 (y * a2))+z))) 0) else (none)) else (none)) else (none)) else (none)) = some r:=by first | (rw [d1] at H;exact H) | (simp only [d1] at H ⊢;exact H)
              have jp:(IntKind.i64.wrap ((wrap64 (a8 * a2))+z)) = ar:=(aM _).trans d1
              obtain ⟨hP,H⟩:=af.ip H
              have li:=decide_eq_true hP
              clear hP
              obtain ⟨hR,H⟩:=af.ip H
              have lj:=decide_eq_true hR
              clear hR
              obtain ⟨aw,d2⟩:∃ j_:Int,(wrap64 ((wrap64 (y * a2))+z)) = j_:=⟨_,rfl⟩
              replace H:(if 0≤(aw) then (if (aw) < (X.length:Int) then (az.l4 k4 a0 a1 a2 a4 X y z a8 (rd X (ar)) (rd X (aw)) 0) else (none)) else (none)) = some r:=by first | (rw [d2] at H;exact H) | (simp only [d2] at H ⊢;exact H)
              have k0:(IntKind.i64.wrap ((wrap64 (y * a2))+z)) = aw:=(aM _).trans d2
              obtain ⟨hT,H⟩:=af.ip H
              have lk:=decide_eq_true hT
              clear hT
              obtain ⟨hU,H⟩:=af.ip H
              have ll:=decide_eq_true hU
              clear hU
              have H':=ae.mk H
              clear H
              obtain ⟨mi,hV,hW⟩:=Kd.aK j.out
              subst hW
              obtain ⟨g2,hX,b4,ml,hZ⟩:=af.ai (Kd.ah j.out).2.2 (ar)
              cases hX
              obtain ⟨g3,i0,b5,i1,eq⟩:=af.ai (Kd.ah j.out).2.2 (aw)
              obtain rfl:g2 = g3:=(by injection i0)
              obtain ⟨bv,mn,es,-,-,-⟩:=Kd.jr j.out (by have p_:=of_eq_true i1;have q_:=of_eq_true eq;omega)
              (first | cases es | (injection es with aR e0 e1;(first | subst aR | (injection aR with aR;subst aR));subst e1;clear e0))
              try simp only [add_plain] at b4
              try simp only [add_plain] at b5
              go_wp2
              try simp only [add_plain]
              go_loopg [20] k4 (fun kq v20 w'=>∃ (a5:List Int) (a9:Int),v20 = .int .i64 a9∧ae (az.l4 kq a0 a1 a2 a4 a5 y z a8 (rd X (ar)) (rd X (aw)) a9 = some r)∧ae (kq≤k4)∧ae (Kd.R (Kd.int .i64) 3 w' w.heap.size (fun _=>True) (.slice (some (⟨bv,0,none⟩:Addr)) X.length hV) a5)∧ae (Below w.heap.size w w'))
              case atStart=>exact ⟨(X),(0),af.F,H',⟨Nat.le_refl _⟩,⟨af.Rw j.out⟩,⟨af.Lw HB.out⟩⟩
              case round =>
               clear H'
               try clear q2
               try clear lh
               try clear q3
               try clear f8
               try clear cp
               try clear hE
               try clear hG
               try clear d0
               try clear hH
               try clear hI
               try clear hL
               try clear hM
               try clear ne
               try clear mr
               try clear d7
               try clear d8
               try clear aF
               try clear b2
               try clear b3
               try clear b4
               try clear b5
               try clear q2
               try clear cp
               try clear q3
               try clear d0
               try clear hL
               try clear bo
               try clear eh
               try clear ei
               try clear hZ
               try clear eq
               obtain ⟨a5,a9,rfl,HA,ea,j,HB⟩:=hrel
               have aL:=(Kd.ah j.out).1
               rw [aL] at j
               (try simp only [aL])
               cases gk with
               | zero=>exact absurd HA.out (by simp [az.l4])
               | succ k5 =>
                have H:=HA.out
                clear HA
                simp only [az.l4] at H
                by_cases dl:a9 < a2
                ·rw [if_pos dl] at H
                 have g4:=decide_eq_true dl
                 clear dl
                 obtain ⟨ao,d3⟩:∃ j_:Int,(wrap64 ((wrap64 (a8 * a2))+a9)) = j_:=⟨_,rfl⟩
                 replace H:(if 0≤(ao) then (if (ao) < (a5.length:Int) then (if 0≤(wrap64 ((wrap64 (y * a2))+a9)) then (if (wrap64 ((wrap64 (y * a2))+a9)) < (a5.length:Int) then (if a0 = 0 then (none) else (az.l4 k5 a0 a1 a2 a4 (a5.set ((ao):Int).toNat (Int.tmod (wrap64 ((Int.tmod (wrap64 ((wrap64 ((rd a5 (ao)) * (rd X (aw)))) - (wrap64 ((rd a5 (wrap64 ((wrap64 (y * a2))+a9))) * (rd X (ar)))))) a0)+a0)) a0)) y z a8 (rd X (ar)) (rd X (aw)) (wrap64 (a9+1)))) else (none)) else (none)) else (none)) else (none)) = some r:=by first | (rw [d3] at H;exact H) | (simp only [d3] at H ⊢;exact H)
                 have ka:(IntKind.i64.wrap ((wrap64 (a8 * a2))+a9)) = ao:=(aM _).trans d3
                 obtain ⟨i2,H⟩:=af.ip H
                 have lm:=decide_eq_true i2
                 clear i2
                 obtain ⟨i3,H⟩:=af.ip H
                 have ln:=decide_eq_true i3
                 clear i3
                 obtain ⟨aS,d4⟩:∃ j_:Int,(wrap64 ((wrap64 (y * a2))+a9)) = j_:=⟨_,rfl⟩
                 replace H:(if 0≤(aS) then (if (aS) < (a5.length:Int) then (if a0 = 0 then (none) else (az.l4 k5 a0 a1 a2 a4 (a5.set ((ao):Int).toNat (Int.tmod (wrap64 ((Int.tmod (wrap64 ((wrap64 ((rd a5 (ao)) * (rd X (aw)))) - (wrap64 ((rd a5 (aS)) * (rd X (ar)))))) a0)+a0)) a0)) y z a8 (rd X (ar)) (rd X (aw)) (wrap64 (a9+1)))) else (none)) else (none)) = some r:=by first | (rw [d4] at H;exact H) | (simp only [d4] at H ⊢;exact H)
                 have kb:(IntKind.i64.wrap ((wrap64 (y * a2))+a9)) = aS:=(aM _).trans d4
                 obtain ⟨i4,H⟩:=af.ip H
                 have lo:=decide_eq_true i4
                 clear i4
                 obtain ⟨i5,H⟩:=af.ip H
                 have lr:=decide_eq_true i5
                 clear i5
                 by_cases eb:a0 = 0
                 ·rw [if_pos eb] at H
                  exact absurd H (by simp)
                 ·rw [if_neg eb] at H
                  have ls:(a0 == 0) = false:=beq_eq_false_iff_ne.mpr eb
                  have lv:(a0 != 0) = true:=bne_iff_ne.mpr eb
                  obtain ⟨et,d5⟩:∃ y_:List Int,y_ = (a5.set ((ao):Int).toNat (Int.tmod (wrap64 ((Int.tmod (wrap64 ((wrap64 ((rd a5 (ao)) * (rd X (aw)))) - (wrap64 ((rd a5 (aS)) * (rd X (ar)))))) a0)+a0)) a0)):=⟨_,rfl⟩
                  replace H:(az.l4 k5 a0 a1 a2 a4 et y z a8 (rd X (ar)) (rd X (aw)) (wrap64 (a9+1))) = some r:=by (try rw [d5]);exact af.Z
                  have g5:=ae.mk d5
                  clear d5
                  have H':=ae.mk H
                  clear H
                  try go_wp2
                  replace j:=ae.mk (Kd.bl j.out)
                  replace HB:=ae.mk (cn HB.out)
                  obtain ⟨g6,i6,ba,ms,mv⟩:=af.ai (Kd.ah j.out).2.2 (ao)
                  obtain rfl:(⟨bv,0,none⟩:Addr) = g6:=(by injection i6)
                  obtain ⟨g7,i7,bc,n0,n1⟩:=af.ai (Kd.ah j.out).2.2 (aS)
                  obtain rfl:(⟨bv,0,none⟩:Addr) = g7:=(by injection i7)
                  have g8:0≤((ao):Int):=af.D
                  have g9:((ao):Int) < ((a5.length:Int):Int):=af.D
                  obtain ⟨n3,n6,ev,ew,i8,na,ex⟩:=Kd.jr j.out (by omega)
                  (first | cases ev | (injection ev with aR e0 e1;(first | subst aR | (injection aR with aR;subst aR));subst e1;clear e0))
                  have i9:=ae.mk ew
                  have ib:=ae.mk ex
                  clear ew i8 ex
                  (first | simp only [add_plain] at b4 | skip)
                  (first | simp only [add_plain] at b5 | skip)
                  (first | simp only [add_plain] at ba | skip)
                  (first | simp only [add_plain] at bc | skip)
                  obtain ⟨ec,ed⟩:=Kd.gA 0 j.out ((ao):Int) g8 g9
                  replace g8:=eq_true g8
                  replace g9:=eq_true g9
                  have e6:=Kd.pb j.out ((ao):Int) (Int.tmod (wrap64 ((Int.tmod (wrap64 ((wrap64 ((rd a5 (ao)) * (rd X (aw)))) - (wrap64 ((rd a5 (aS)) * (rd X (ar)))))) a0)+a0)) a0)
                  rw [← g5.out] at e6
                  have eQ:=ae.mk e6
                  clear e6
                  refine eM (n:=35) (S:=fun w'=>w'.cell? ⟨bv,((ao)).toNat,none⟩ = some (.int .i64 (rd a5 (ao)))∧w'.cell? ⟨bv,((aS)).toNat,none⟩ = some (.int .i64 (rd a5 (aS)))) (ds:=[34]) #[false,false,false,false,false,false,false,false,false,false,false,false,false,false,false,false,false,false,false,false,false,false,false,false,false,false,false,false,false,false,false,false,false,false,false] (by kernel_rfl) rfl rfl ⟨ba,bc⟩ (fun hHeld=>?_);refine dc az.vP az.uL (fun a7 ih=>?_)
                  generalize wr.drew = no at j HB ib eQ ed ba bc ec hHeld ⊢
                  refine af.pu 0 117 a7 ?_
                  refine af.pu 1 118 a7 ?_
                  refine af.pu 2 119 a7 ?_
                  refine af.pu 3 120 a7 ?_
                  refine af.pu 4 121 a7 ?_
                  refine af.pu 5 122 a7 ?_
                  refine af.pu 6 123 a7 ?_
                  refine af.pu 7 124 a7 ?_
                  refine af.pu 8 125 a7 ?_
                  refine af.pu 9 126 a7 ?_
                  refine af.pu 10 127 a7 ?_
                  refine af.pu 11 128 a7 ?_
                  refine af.pu 12 129 a7 ?_
                  refine af.pu 14 131 a7 ?_
                  refine af.pu 16 133 a7 ?_
                  refine af.pu 17 134 a7 ?_
                  refine af.pu 18 135 a7 ?_
                  refine af.pu 19 136 a7 ?_
                  refine af.pu 20 137 a7 ?_
                  refine af.pu 21 138 a7 ?_
                  refine af.pu 22 139 a7 ?_
                  refine af.pu 24 141 a7 ?_
                  refine af.pu 27 144 a7 ?_
                  refine af.pu 29 146 a7 ?_
                  refine af.pu 31 148 a7 ?_
                  refine af.tk 13 130 a7 ih hHeld ?_
                  refine af.pu 15 132 a7 ?_
                  refine af.tk 23 140 a7 ih hHeld ?_
                  refine af.pu 25 142 a7 ?_
                  refine af.pu 26 143 a7 ?_
                  refine af.pu 28 145 a7 ?_
                  refine af.pu 30 147 a7 ?_
                  refine af.pu 32 149 a7 ?_
                  refine af.pu 33 150 a7 ?_
                  refine lJ (i:=34) (N:=none) #[true,true,true,true,true,true,true,true,true,true,true,true,true,true,true,true,true,true,true,true,true,true,true,true,true,true,true,true,true,true,true,true,true,true,true] rfl rfl (da a7.out (by kernel_rfl)) (by decide) (fun K hK=>?_)
                  refine lK (w1:=?_) (by rfl) rfl ?_ ?_
                  rotate_left
                  ·go_simp
                   rfl
                  refine hK.out _ _ ?_
                  clear hK K
                  refine fO (dU a7.out (by kernel_rfl)) ?_
                  try go_wp2
                  (try simp only [← aL])
                  go_roundg k5
                  case measure=>have:=aO.out;have:=aP.out;have:=bs.out;have:=df.out;have:=ea.out;omega
                  case rel=>exact ⟨(et),(wrap64 (a9+1)),af.F,H',⟨by have:=aO.out;have:=aP.out;have:=bs.out;have:=df.out;have:=ea.out;omega⟩,⟨by (try simp only [aL]);(with_reducible repeat (first | apply Kd.cH | apply Kd.cI | apply Kd.bl));exact eQ.out⟩,⟨by repeat (first | (with_reducible first | exact HB.out | apply dX | apply dY | apply cn | refine dP ?_ i9.out) | exact HB.out)⟩⟩
                ·rw [if_neg dl] at H
                 have g4:decide (a9 < a2) = false:=decide_eq_false dl
                 clear dl
                 have H':=ae.mk H
                 clear H
                 go_wp2
                 (try simp only [← aL])
                 go_roundg k5
                 case measure=>have:=aO.out;have:=aP.out;have:=bs.out;have:=df.out;have:=ea.out;omega
                 case rel=>exact ⟨(a5),(wrap64 (a8+1)),af.F,H',⟨by have:=aO.out;have:=aP.out;have:=bs.out;have:=df.out;have:=ea.out;omega⟩,⟨by (try simp only [aL]);(with_reducible repeat (first | apply Kd.cH | apply Kd.cI | apply Kd.bl));exact j.out⟩,⟨af.Lw HB.out⟩⟩
             ·rw [if_neg dk] at H
              have g1:decide (a8 < a1) = false:=decide_eq_false dk
              clear dk
              have H':=ae.mk H
              clear H
              go_wp2
              go_roundg k4
              case measure=>have:=aO.out;have:=aP.out;have:=bs.out;have:=df.out;omega
              case rel=>exact ⟨(X),(wrap64 (y+1)),(wrap64 (z+1)),af.F,af.F,H',⟨by have:=aO.out;have:=aP.out;have:=bs.out;have:=df.out;omega⟩,⟨af.Rw j.out⟩,⟨af.Lw HB.out⟩⟩
    ·replace e7:=Bool.eq_false_iff.mpr e7
     subst e7
     replace H:(az.l0 k1 a0 a1 a2 a4 a3 y (wrap64 (z+1))) = some r:=by rw [if_neg (show ¬ (false = true) by decide)] at H;exact H
     have H':=ae.mk H
     clear H
     go_wp2_with (first | (refine af.gl (some 31) Tryz.func89 #[.int .i64 a4,.int .i64 z] ?_;(with_reducible refine (cz.calls a4 z false _ h7.out).mono ?_);rintro e w' ⟨rfl,⟨nd,rfl⟩⟩;refine ⟨_,rfl,?_⟩))
     go_roundg k1
     case measure=>have:=aO.out;omega
     case rel=>exact ⟨(a3),(y),(wrap64 (z+1)),af.F,af.F,H',⟨by have:=aO.out;omega⟩,⟨af.Rw j.out⟩,⟨af.Lw HB.out⟩⟩
   ·rw [if_neg gX] at H
    have f3:decide (z < a2) = false:=decide_eq_false gX
    clear gX
    obtain rfl:=Option.some.inj H
    go_wp2
    go_ret
    exact ⟨af.E,af.L⟩
def bJ.l0:Nat→Int→Int→Int→List Int→Int→Int→Int→List Int→Option (Int×List Int)
 | 0,_,_,_,_,_,_,_,_=>none
 | k+1,x0,x1,Y,x3,X,z,y,j=>(cF.f Y).bind fun a0=>(if z≤a0 then ((bC.f k z).bind fun a1=>(if a1 = X then ((az.f k x0 x1 Y x3 z).bind fun a2=>(if a2 = X then (if j.length < 17592186044416 then (bJ.l0 k x0 x1 Y x3 X (wrap64 (z+1)) y (j ++ [z])) else (none)) else (bJ.l0 k x0 x1 Y x3 X (wrap64 (z+1)) y j))) else (bJ.l0 k x0 x1 Y x3 X (wrap64 (z+1)) y j))) else (some (y,j)))
def bJ.f (k:Nat) (a0:Int) (z:Int) (a2:Int) (l3:List Int):Option (Int×List Int):=(cF.f a2).bind fun j=>((az.f k a0 z a2 l3 j).bind fun y=>(bJ.l0 k a0 z a2 l3 y 0 a2 ([]:List Int)))
set_option maxHeartbeats 8000000 in
set_option maxRecDepth 100000 in
theorem bJ.calls (k:Nat) (a0:Int) (a1:Int) (a2:Int) (A3:Option Addr) (c3:Nat) (l3:List Int) (r1:Int) (r2:List Int) (w:World) (d3:Kd.C (Kd.int .i64) w A3 l3.length l3) (d4:l3.length≤c3) (h:bJ.f k a0 a1 a2 l3 = some (r1,r2)) :
  Calls Tryz.prog 178 #[.int .i64 a0,.int .i64 a1,.int .i64 a2,.slice A3 l3.length c3] w fun e w'=>∃ d5:Value,e = .returned (.agg #[.int .i64 r1,d5])∧Kd.R (Kd.int .i64) 3 w' w.heap.size (fun _=>True) d5 r2∧Below w.heap.size w w':=by
 have ei:=Tryz.underlying30
 have ca:=ae.mk d3
 have cb:=ae.mk d4
 clear d3 d4
 have HB:=ae.mk (Below.refl w.heap.size w)
 unfold bJ.f at h
 have H:=h
 clear h
 obtain ⟨bi,A5,H⟩:=af.be H
 (try dsimp only at H)
 obtain ⟨a6,A6,H⟩:=af.be H
 (try dsimp only at H)
 have H':=ae.mk H
 clear H
 go_enter Tryz.func178,Tryz.ntmps178
 go_wp2_with (first | ((with_reducible refine bh (N:=8) rfl ?_);refine af.bx 8 #[.int .i64 0,.slice none 0 0] 30 ?_;intro a4 hg w7 hbox hb;have y:=ae.mk hbox;have e8:=af.gw hg HB;have ea:=af.gw hg HB;replace HB:=af.lb HB hb;clear hb hbox hg) | ((with_reducible refine bh (N:=9) rfl ?_);refine af.bx 9 #[.int .i64 0,.slice none 0 0] 30 ?_;intro a5 hg w8 hbox hb;have z:=ae.mk hbox;have eb:=af.gL (w:=w) hg af.L;have ec:=af.gL (w:=w) hg af.L;replace HB:=ae.mk (ax af.L hb);have a8:=af.nl hg y;have a9:=af.ng hg y;replace y:=af.bb y hb;clear hb hbox hg;have ej:=a9.out;have el:=a8.out;obtain ⟨d6,d7,d8,d9⟩:=af.bw z.out) | ((with_reducible refine aA (f:=24) rfl ?_);refine af.gl (some 19) Tryz.func24 #[.int .i64 a2] ?_;(with_reducible refine (cF.calls a2 bi _ A5.out).mono ?_);rintro e w' ⟨rfl,⟨nd,rfl⟩⟩;refine ⟨_,rfl,?_⟩) | ((with_reducible refine aA (f:=187) rfl ?_);refine af.gl (some 20) Tryz.func187 #[.int .i64 a0,.int .i64 a1,.int .i64 a2,.slice A3 l3.length c3,.int .i64 bi] ?_;(with_reducible refine (az.calls k a0 a1 a2 _ _ l3 bi a6 _ ?side1 ?side2 A6.out).mono ?_);(case side1=>exact Kd.aT ca.out af.L);(case side2=>exact cb.out);rintro e eo ⟨rfl,hb⟩;refine ⟨_,rfl,?_⟩;replace y:=ae.mk (b7 (g:=a4) (o:=.cells #[.int .i64 0,.slice none 0 0] 30 (0,0)) af.B hb);replace z:=ae.mk (b7 (g:=a5) (o:=.cells #[.int .i64 a2,.slice none 0 0] 30 (0,0)) af.B hb);replace HB:=ae.mk (ax af.L hb);(try clear hb);(try clear db);(try clear hk);(try clear hi)))
 go_loopg [11] k (fun kq v11 w'=>∃ (a3:Int) (X:List Int) (Y:Value),v11 = .int .i64 a3∧ae (bJ.l0 kq a0 a1 a2 l3 a6 a3 a2 X = some (r1,r2))∧ae (kq≤k)∧ae (Kd.R (Kd.int .i64) 3 w' w.heap.size (fun _=>True) Y X)∧ae (w'.heap[a4]? = some (.cells #[.int .i64 0,(.slice none 0 0)] 30 (0,0)))∧ae (w'.heap[a5]? = some (.cells #[.int .i64 a2,Y] 30 (0,0)))∧ae (Below w.heap.size w w'))
 case atStart=>exact ⟨(0),(([]:List Int)),(.slice none 0 0),af.F,H',⟨Nat.le_refl _⟩,⟨af.N⟩,⟨af.Bw y.out⟩,⟨af.Bw z.out⟩,⟨af.L⟩⟩
 case round =>
  clear H'
  obtain ⟨a3,X,Y,rfl,HA,ba,j,y,z,HB⟩:=hrel
  cases gk with
  | zero=>exact absurd HA.out (by simp [bJ.l0])
  | succ k1 =>
   have H:=HA.out
   clear HA
   simp only [bJ.l0] at H
   obtain ⟨aw,bo,H⟩:=af.be H
   (try dsimp only at H)
   by_cases bc:a3≤aw
   ·rw [if_pos bc] at H
    have cc:=decide_eq_true bc
    clear bc
    obtain ⟨aa,ce,H⟩:=af.be H
    (try dsimp only at H)
    by_cases b2:aa = a6
    ·rw [if_pos b2] at H
     have cf:(aa == a6) = true:=beq_iff_eq.mpr b2
     have ci:(aa != a6) = false:=bne_eq_false_iff_eq.mpr b2
     clear b2
     obtain ⟨ab,dd,H⟩:=af.be H
     (try dsimp only at H)
     by_cases b3:ab = a6
     ·rw [if_pos b3] at H
      have cp:(ab == a6) = true:=beq_iff_eq.mpr b3
      have d0:(ab != a6) = false:=bne_eq_false_iff_eq.mpr b3
      clear b3
      obtain ⟨df,H⟩:=af.ip H
      have d1:=ae.mk df
      clear df
      obtain ⟨b5,b4⟩:∃ y_:List Int,y_ = (X ++ [a3]):=⟨_,rfl⟩
      replace H:(bJ.l0 k1 a0 a1 a2 l3 a6 (wrap64 (a3+1)) a2 b5) = some (r1,r2):=by (try rw [b4]);exact af.Z
      have d2:=ae.mk b4
      clear b4
      have H':=ae.mk H
      clear H
      go_wp2_with (first | ((with_reducible refine aA (f:=24) rfl ?_);refine af.gl (some 23) Tryz.func24 #[.int .i64 a2] ?_;(with_reducible refine (cF.calls a2 aw _ bo.out).mono ?_);rintro e w' ⟨rfl,⟨nd,rfl⟩⟩;refine ⟨_,rfl,?_⟩;(try (rw [fD wr];generalize a7:World.drewN wr _ = wr;have am:ae (Kd.R (Kd.int .i64) 3 wr w.heap.size (fun _=>True) Y X):=⟨by rw [← a7];exact (af.Rw j.out)⟩;have ao:ae (wr.heap[a4]? = some (.cells #[.int .i64 0,.slice none 0 0] 30 (0,0))):=⟨by rw [← a7];exact (af.Bw y.out)⟩;have ap:ae (wr.heap[a5]? = some (.cells #[.int .i64 a2,Y] 30 (0,0))):=⟨by rw [← a7];exact (af.Bw z.out)⟩;have ar:ae (Below w.heap.size w wr):=⟨by rw [← a7];exact af.L⟩;clear j y z HB a7;have j:=am;have y:=ao;have z:=ap;have HB:=ar;clear am ao ap ar;have aB:wr.cell? ⟨a4,0,none⟩ = some (.int .i64 0):=(ak y.out 0).trans rfl;have aF:=au y.out 0;have aL:wr.cell? ⟨a4,1,none⟩ = some (.slice none 0 0):=(ak y.out 1).trans rfl;have aO:=au y.out 1;have aP:wr.cell? ⟨a5,0,none⟩ = some (.int .i64 a2):=(ak z.out 0).trans rfl;have aR:=au z.out 0;have aS:wr.cell? ⟨a5,1,none⟩ = some (Y):=(ak z.out 1).trans rfl;have b0:=au z.out 1))) | ((with_reducible refine aA (f:=25) rfl ?_);refine af.gl (some 28) Tryz.func25 #[.int .i64 a3] ?_;(with_reducible refine (bC.calls k1 a3 aa _ ce.out).mono ?_);rintro e w' ⟨rfl,⟨nd,rfl⟩⟩;refine ⟨_,rfl,?_⟩;(try (rw [fD wr];generalize a7:World.drewN wr _ = wr;have am:ae (Kd.R (Kd.int .i64) 3 wr w.heap.size (fun _=>True) Y X):=⟨by rw [← a7];exact (af.Rw j.out)⟩;have ao:ae (wr.heap[a4]? = some (.cells #[.int .i64 0,.slice none 0 0] 30 (0,0))):=⟨by rw [← a7];exact (af.Bw y.out)⟩;have ap:ae (wr.heap[a5]? = some (.cells #[.int .i64 a2,Y] 30 (0,0))):=⟨by rw [← a7];exact (af.Bw z.out)⟩;have ar:ae (Below w.heap.size w wr):=⟨by rw [← a7];exact af.L⟩;clear j y z HB a7;have j:=am;have y:=ao;have z:=ap;have HB:=ar;clear am ao ap ar;have aB:wr.cell? ⟨a4,0,none⟩ = some (.int .i64 0):=(ak y.out 0).trans rfl;have aF:=au y.out 0;have aL:wr.cell? ⟨a4,1,none⟩ = some (.slice none 0 0):=(ak y.out 1).trans rfl;have aO:=au y.out 1;have aP:wr.cell? ⟨a5,0,none⟩ = some (.int .i64 a2):=(ak z.out 0).trans rfl;have aR:=au z.out 0;have aS:wr.cell? ⟨a5,1,none⟩ = some (Y):=(ak z.out 1).trans rfl;have b0:=au z.out 1))) | (go_at_call 187;(with_reducible refine (az.calls k1 a0 a1 a2 _ _ l3 a3 ab _ ?side1 ?side2 dd.out).mono ?_);(case side1=>exact af.Cw (Kd.aT ca.out HB.out));(case side2=>exact cb.out);rintro e eq ⟨rfl,hb⟩;replace j:=af.rb j hb;replace y:=af.bb y hb;replace z:=af.bb z hb;replace HB:=ae.mk (ax af.L hb);(try clear hb);(try clear db);(try clear hk);(try clear hi);have ed:=a9.out;have ee:=a8.out;obtain ⟨dk,dl,dp,dq⟩:=af.bw z.out) | ((with_reducible refine cP (b:=.append) (xs:=#[.tmp 42,.tmp 44]) rfl ?_);at_builtin;refine Kd.eE (Kd.int .i64) (w0:=w) w.heap.size rfl (.tmp 42) (.tmp 44) 28 3 (.int .i64 0) 8 rfl Tryz.underlying28 eI rfl (by decide) (by omega) Y X a3 [.int .i64 a3] (fun _=>True) (fun _=>False) rfl rfl (by exact rfl) (fun _ hk=>hk.elim) (by exact fun _ _=>trivial) (by exact af.Rw j.out) (by exact af.L) (by exact av af.L) (by have:=d1.out;omega) ?_;intro em es ho hb hg hat;rw [← d2.out] at ho;have am:=ae.mk (dJ (g:=a4) (o:=.cells #[.int .i64 0,.slice none 0 0] 30 (0,0)) (af.Bw y.out) hg (Kd.fS j.out y.out (by decide)));have ao:=ae.mk (dJ (g:=a5) (o:=.cells #[.int .i64 a2,Y] 30 (0,0)) (af.Bw z.out) hg (Kd.fS j.out z.out (by decide)));have ap:=ae.mk hb;have ar:=ae.mk ho;clear y;clear z;clear HB;clear j;have y:=am;have z:=ao;have HB:=ap;have bm:=ar;clear am ao ap ar;clear ho hb hg hat;obtain ⟨bs,bv,dt⟩:=Kd.aK bm.out;subst dt;obtain ⟨du,dv,dC,dE⟩:=af.bw z.out))
      go_roundg k1
      case measure=>have:=ba.out;omega
      case rel=>exact ⟨(wrap64 (a3+1)),(b5),(.slice bs b5.length bv),af.F,H',⟨by have:=ba.out;omega⟩,⟨af.Rw (Kd.aC (Kd.bD (p:=⟨a5,1,none⟩) (Kd.bS bm.out z.out (by decide)) (fun _ hk=>hk.2) (.slice bs b5.length bv)) (fun _ hk=>trivial))⟩,⟨af.B⟩,⟨af.B⟩,⟨af.L⟩⟩
     ·rw [if_neg b3] at H
      have cp:(ab == a6) = false:=beq_eq_false_iff_ne.mpr b3
      have d0:(ab != a6) = true:=bne_iff_ne.mpr b3
      have H':=ae.mk H
      clear H
      go_wp2_with (first | ((with_reducible refine aA (f:=24) rfl ?_);refine af.gl (some 23) Tryz.func24 #[.int .i64 a2] ?_;(with_reducible refine (cF.calls a2 aw _ bo.out).mono ?_);rintro e w' ⟨rfl,⟨nd,rfl⟩⟩;refine ⟨_,rfl,?_⟩) | ((with_reducible refine aA (f:=25) rfl ?_);refine af.gl (some 28) Tryz.func25 #[.int .i64 a3] ?_;(with_reducible refine (bC.calls k1 a3 aa _ ce.out).mono ?_);rintro e w' ⟨rfl,⟨nd,rfl⟩⟩;refine ⟨_,rfl,?_⟩) | (go_at_call 187;(with_reducible refine (az.calls k1 a0 a1 a2 _ _ l3 a3 ab _ ?side1 ?side2 dd.out).mono ?_);(case side1=>exact af.Cw (Kd.aT ca.out af.L));(case side2=>exact cb.out);rintro e et ⟨rfl,hb⟩;replace j:=af.rb j hb;replace y:=af.bb y hb;replace z:=af.bb z hb;replace HB:=ae.mk (ax af.L hb);(try clear hb);(try clear db);(try clear hk);(try clear hi)))
      go_roundg k1
      case measure=>have:=ba.out;omega
      case rel=>exact ⟨(wrap64 (a3+1)),(X),(Y),af.F,H',⟨by have:=ba.out;omega⟩,⟨af.Rw j.out⟩,⟨af.Bw y.out⟩,⟨af.Bw z.out⟩,⟨af.L⟩⟩
    ·rw [if_neg b2] at H
     have cf:(aa == a6) = false:=beq_eq_false_iff_ne.mpr b2
     have ci:(aa != a6) = true:=bne_iff_ne.mpr b2
     have H':=ae.mk H
     clear H
     go_wp2_with (first | ((with_reducible refine aA (f:=24) rfl ?_);refine af.gl (some 23) Tryz.func24 #[.int .i64 a2] ?_;(with_reducible refine (cF.calls a2 aw _ bo.out).mono ?_);rintro e w' ⟨rfl,⟨nd,rfl⟩⟩;refine ⟨_,rfl,?_⟩) | ((with_reducible refine aA (f:=25) rfl ?_);refine af.gl (some 28) Tryz.func25 #[.int .i64 a3] ?_;(with_reducible refine (bC.calls k1 a3 aa _ ce.out).mono ?_);rintro e w' ⟨rfl,⟨nd,rfl⟩⟩;refine ⟨_,rfl,?_⟩))
     go_roundg k1
     case measure=>have:=ba.out;omega
     case rel=>exact ⟨(wrap64 (a3+1)),(X),(Y),af.F,H',⟨by have:=ba.out;omega⟩,⟨af.Rw j.out⟩,⟨af.Bw y.out⟩,⟨af.Bw z.out⟩,⟨af.L⟩⟩
   ·rw [if_neg bc] at H
    have cc:decide (a3≤aw) = false:=decide_eq_false bc
    clear bc
    simp only [Option.some.injEq,Prod.mk.injEq] at H
    obtain ⟨rfl,rfl⟩:=H
    go_wp2_with (first | ((with_reducible refine aA (f:=24) rfl ?_);refine af.gl (some 23) Tryz.func24 #[.int .i64 a2] ?_;(with_reducible refine (cF.calls a2 aw _ bo.out).mono ?_);rintro e w' ⟨rfl,⟨nd,rfl⟩⟩;refine ⟨_,rfl,?_⟩;(try (rw [fD wr];generalize a7:World.drewN wr _ = wr;have am:ae (Kd.R (Kd.int .i64) 3 wr w.heap.size (fun _=>True) Y X):=⟨by rw [← a7];exact (af.Rw j.out)⟩;have ao:ae (wr.heap[a4]? = some (.cells #[.int .i64 0,.slice none 0 0] 30 (0,0))):=⟨by rw [← a7];exact (af.Bw y.out)⟩;have ap:ae (wr.heap[a5]? = some (.cells #[.int .i64 a2,Y] 30 (0,0))):=⟨by rw [← a7];exact (af.Bw z.out)⟩;have ar:ae (Below w.heap.size w wr):=⟨by rw [← a7];exact af.L⟩;clear j y z HB a7;have j:=am;have y:=ao;have z:=ap;have HB:=ar;clear am ao ap ar;have aB:wr.cell? ⟨a4,0,none⟩ = some (.int .i64 0):=(ak y.out 0).trans rfl;have aF:=au y.out 0;have aL:wr.cell? ⟨a4,1,none⟩ = some (.slice none 0 0):=(ak y.out 1).trans rfl;have aO:=au y.out 1;have aP:wr.cell? ⟨a5,0,none⟩ = some (.int .i64 a2):=(ak z.out 0).trans rfl;have aR:=au z.out 0;have aS:wr.cell? ⟨a5,1,none⟩ = some (Y):=(ak z.out 1).trans rfl;have b0:=au z.out 1));have ef:=a9.out;have eh:=a8.out;obtain ⟨dT,e0,e1,e2⟩:=af.bw z.out;obtain ⟨e3,e4,e5,e6⟩:=af.bw y.out;obtain ⟨c0,c1,e7⟩:=Kd.aK j.out;subst e7))
    refine bodyPost_ret (results_cell_row rfl _ _ a4 30 #[.int .i64 a2,.slice c0 X.length c1] (0,0) _ rfl af.B Tryz.underlying30 rfl (by kernel_rfl)) rfl ?_
    exact ⟨_,af.E,by (with_reducible repeat (first | apply Kd.cH | apply Kd.cI | apply Kd.bl));exact Kd.aC (Kd.bD (p:=⟨a4,1,none⟩) (Kd.bD (p:=⟨a4,0,none⟩) (Kd.bS j.out y.out (by decide)) (fun _ hk=>hk.2) (.int .i64 a2)) (fun _ hk=>hk.2) (.slice c0 X.length c1)) (fun _ hk=>trivial),af.L⟩
def bq.l0:Nat→Int→Int→Int→List Int→Int→List Int→Int→Int→Option (Int×List Int×Int×Int)
 | 0,_,_,_,_,_,_,_,_=>none
 | k+1,x1,x5,x6,x7,x8,y,z,X=>if x8 < (wrap64 (x6 * x1)) then ((aH.f y z X x5).bind fun j=>(if x7.length < 17592186044416 then (bq.l0 k x1 x5 x6 (x7 ++ [j.1]) (wrap64 (x8+1)) y j.2.1 j.2.2) else (none))) else ((bJ.f k x5 x6 x1 x7).bind fun Y=>(some (Y.1,Y.2,z,X)))
def bq.f (k:Nat) (z:List Int) (X:Int) (Y:Int) (a1:Int):Option (Int×List Int×Int×Int):=(cQ.f z X Y (([2,3,5,2]:List Int))).bind fun j=>((aH.f z j.2.1 j.2.2 3).bind fun y=>(bq.l0 k a1 j.1 (wrap64 (1+y.1)) (([]:List Int)) 0 z y.2.1 y.2.2))
set_option maxHeartbeats 8000000 in
set_option maxRecDepth 100000 in
theorem bq.calls (k:Nat) (g:Nat) (y:List Int) (a7:Int) (a8:Int) (a1:Int) (r1:Int) (r2:List Int) (r3:Int) (r4:Int) (w0 w:World) (hI:aj w0 w g y a7 a8) (hB:Below w0.heap.size w0 w) (h:bq.f k y a7 a8 a1 = some (r1,r2,r3,r4)) :
  Calls Tryz.prog 165 #[.pointer (some ⟨g,0,none⟩),.int .i64 a1] w fun e w'=>∃ d1:Value,e = .returned (.agg #[.int .i64 r1,d1])∧Kd.R (Kd.int .i64) 3 w' w.heap.size (fun _=>True) d1 r2∧aj w0 w' g y r3 r4∧Below w0.heap.size w0 w'∧an w w' g none:=by
 have e4:=Tryz.underlying30
 have a6:=ae.mk hI
 have HK:=ae.mk (an.refl w g none)
 have HL:=ae.mk hB.size
 clear hI
 have dt:=ae.mk hB.size
 have HB:=ae.mk hB
 clear hB
 unfold bq.f at h
 have H:=h
 clear h
 obtain ⟨aO,am⟩:∃ y_:List Int,y_ = (([2,3,5,2]:List Int)):=⟨_,rfl⟩
 replace H:((cQ.f y a7 a8 aO).bind fun ao=>((aH.f y ao.2.1 ao.2.2 3).bind fun ap=>(bq.l0 k a1 ao.1 (wrap64 (1+ap.1)) (([]:List Int)) 0 y ap.2.1 ap.2.2))) = some (r1,r2,r3,r4):=by (try rw [am]);exact af.Z
 have aP:=ae.mk am
 clear am
 obtain ⟨⟨a4,aR,aS⟩,A3,H⟩:=af.be H
 (try dsimp only at H)
 obtain ⟨⟨a5,b0,b2⟩,A4,H⟩:=af.be H
 (try dsimp only at H)
 obtain ⟨bs,ar⟩:∃ y_:List Int,y_ = (([]:List Int)):=⟨_,rfl⟩
 replace H:(bq.l0 k a1 a4 (wrap64 (1+a5)) bs 0 y b0 b2) = some (r1,r2,r3,r4):=by (try rw [ar]);exact af.Z
 have b3:=ae.mk ar
 clear ar
 have H':=ae.mk H
 clear H
 go_enter Tryz.func165,Tryz.ntmps165
 go_wp2_with (first | (refine af.bx 4 #[.int .i64 0,.slice none 0 0] 30 ?_;intro z hg w5 hbox hb;replace HB:=ae.mk (ax (af.J HB) hb);have j:=ae.mk hbox;have du:=ae.mk ((by rw [hg];exact (b9 (w:=w) (g:=g) (row:=none) (af.K HK)):w.heap.size≤z));have dv:=ae.mk ((Nat.le_trans dt.out (by rw [hg];exact (b9 (w:=w) (g:=g) (row:=none) (af.K HK)):w.heap.size≤z):w0.heap.size≤z));replace HK:=ae.mk (an.trans (af.K HK) (an.cW hb g none) (.inl rfl));have b4:=ae.mk ((by rw [hg];exact Nat.ne_of_lt (aj.lt (show aj w0 _ g y a7 a8 from af.I)):g≠z));have a3:=ae.mk ((by rw [hg];exact Nat.ne_of_gt (aj.lt (show aj w0 _ g y a7 a8 from af.I)):z≠g));replace a6:=ae.mk (aj.below af.I hb);clear hb hbox hg) | ((with_reducible refine bh (N:=10) rfl ?_);refine Kd.jH (Kd.int .i64) _ 3 ?hg (N:=10) ?hd (xs:=([2,3,5,2]:List Int)) (inner:=[.int .i64 2,.int .i64 3,.int .i64 5,.int .i64 2]) (ok:=fun _=>True) (okp:=fun _=>True) ?hr ?hp (fun _ hk=>hk) trivial (Below.refl _ _) (Nat.le_refl _) (by simp) ?_;(case hd=>rfl);(case hg=>rfl);(case hr=>first | (go_simp;done) | (go_simp;rfl));(case hp=>exact (cV.one (show Kd.M (Kd.int .i64) _ _ _ 2 [.int .i64 2] from rfl) (cV.one (show Kd.M (Kd.int .i64) _ _ _ 3 [.int .i64 3] from rfl) (cV.one (show Kd.M (Kd.int .i64) _ _ _ 5 [.int .i64 5] from rfl) (cV.one (show Kd.M (Kd.int .i64) _ _ _ 2 [.int .i64 2] from rfl) (cV.none _ _))))));intro e5 w6 b5 hb ca aw;clear ca aw;(first | rw [← aP.out] at b5 | (simp only [Int.reduceToNat] at b5;rw [← aP.out] at b5));have X:=ae.mk (Kd.aV b5 (b9 (w:=w) (g:=g) (row:=none) (af.K HK)));replace j:=af.bb j hb;replace HK:=ae.mk (an.trans (af.K HK) (an.cW hb g none) (.inl rfl));replace HB:=ae.mk (ax (af.J HB) hb);replace a6:=ae.mk (aj.below af.I hb);clear hb b5;obtain ⟨dC,dE,dT⟩:=Kd.aK X.out;subst dT) | (refine af.gl (some 11) Tryz.func119 #[.pointer (some ⟨g,0,none⟩),.slice dC aO.length dE] ?_;(with_reducible refine (cQ.calls g y a7 a8 _ _ aO a4 aR aS w0 _ ?side1 ?side2 ?side3 ?side4 ?side5 A3.out).mono ?_);(case side1=>exact af.I);(case side2=>exact af.J HB);(case side3=>exact af.Cw ((Kd.ah X.out).2.2));(case side4=>exact (Kd.ah X.out).2.1);(case side5=>exact jU (aj.fU a6.out X.out (by decide)));rintro e w9 ⟨rfl,hi,hb,hk⟩;refine ⟨_,rfl,?_⟩;replace j:=ae.mk (an.blk hk (g':=z) (o:=.cells #[.int .i64 0,.slice none 0 0] 30 (0,0)) (af.Bw j.out) a3.out (by simp));replace X:=ae.mk (Kd.aC (Kd.dA (aj.apart (show aj w0 _ g y a7 a8 from af.I) (af.Rw X.out) (by decide)) hk (fun _ h=>h.2)) (fun _ h=>h.1));replace HK:=ae.mk (an.trans (af.K HK) hk (.inl rfl));replace HB:=ae.mk hb;replace a6:=ae.mk hi;(try clear hb);(try clear cb);(try clear hk);(try clear hi)) | (refine af.gl (some 13) Tryz.func80 #[.pointer (some ⟨g,0,none⟩),.int .i64 3] ?_;(with_reducible refine (aH.calls g y aR aS 3 a5 b0 b2 w0 _ ?side1 ?side2 A4.out).mono ?_);(case side1=>exact af.I);(case side2=>exact af.J HB);rintro e ea ⟨rfl,hi,hb,hk⟩;refine ⟨_,rfl,?_⟩;replace j:=ae.mk (an.blk hk (g':=z) (o:=.cells #[.int .i64 0,.slice none 0 0] 30 (0,0)) (af.Bw j.out) a3.out (by simp));replace X:=ae.mk (Kd.aC (Kd.dA (aj.apart (show aj w0 _ g y aR aS from af.I) (af.Rw X.out) (by decide)) hk (fun _ h=>h.2)) (fun _ h=>h.1));replace HK:=ae.mk (an.trans (af.K HK) hk (.inl rfl));replace HB:=ae.mk hb;replace a6:=ae.mk hi;(try clear hb);(try clear cb);(try clear hk);(try clear hi)) | (refine af.lt (Kd.int .i64) 3 15 ?_;intro e6 eb ab hb ca aw;clear ca aw;(first | rw [← b3.out] at ab | (simp only [Int.reduceToNat] at ab;rw [← b3.out] at ab));have cc:=ae.mk (Kd.aV (Kd.br ab (Kd.cK (af.Rw X.out))) (b9 (w:=w) (g:=g) (row:=none) (af.K HK)));replace X:=ae.mk (Kd.aQ (af.Rw X.out) (Kd.bn ab) hb);replace j:=af.bb j hb;replace HK:=ae.mk (an.trans (af.K HK) (an.cW hb g none) (.inl rfl));replace HB:=ae.mk (ax (af.J HB) hb);replace a6:=ae.mk (aj.below af.I hb);clear hb ab))
 go_loopg [7,8] k (fun kq v7 v8 w'=>∃ (a9:List Int) (aa:Int) (a0:Int) (a2:Int),v8 = .int .i64 aa∧ae (bq.l0 kq a1 a4 (wrap64 (1+a5)) a9 aa y a0 a2 = some (r1,r2,r3,r4))∧ae (kq≤k)∧ae (Kd.R (Kd.int .i64) 3 w' w.heap.size (fun _=>True) v7 a9)∧ae (w'.heap[z]? = some (.cells #[.int .i64 0,(.slice none 0 0)] 30 (0,0)))∧ae (aj w0 w' g y a0 a2)∧ae (an w w' g none)∧ae (Below w0.heap.size w0 w'))
 case atStart=>exact ⟨(bs),(0),(b0),(b2),af.F,H',⟨Nat.le_refl _⟩,⟨af.Rw (Kd.aC cc.out (fun _ hk=>trivial))⟩,⟨af.Bw j.out⟩,⟨af.I⟩,⟨af.K HK⟩,⟨af.J HB⟩⟩
 case round =>
  clear H'
  obtain ⟨a9,aa,a0,a2,rfl,HA,d2,Y,j,a6,HK,HB⟩:=hrel
  cases gk with
  | zero=>exact absurd HA.out (by simp [bq.l0])
  | succ k1 =>
   have H:=HA.out
   clear HA
   simp only [bq.l0] at H
   by_cases aL:aa < (wrap64 ((wrap64 (1+a5)) * a1))
   ·rw [if_pos aL] at H
    have ce:=decide_eq_true aL
    clear aL
    obtain ⟨⟨aF,ba,bc⟩,e0,H⟩:=af.be H
    (try dsimp only at H)
    obtain ⟨d3,H⟩:=af.ip H
    have cf:=ae.mk d3
    clear d3
    obtain ⟨bv,aB⟩:∃ y_:List Int,y_ = (a9 ++ [aF]):=⟨_,rfl⟩
    replace H:(bq.l0 k1 a1 a4 (wrap64 (1+a5)) bv (wrap64 (aa+1)) y ba bc) = some (r1,r2,r3,r4):=by (try rw [aB]);exact af.Z
    have ci:=ae.mk aB
    clear aB
    have H':=ae.mk H
    clear H
    go_wp2_with (first | (refine af.gl (some 26) Tryz.func80 #[.pointer (some ⟨g,0,none⟩),.int .i64 a4] ?_;(with_reducible refine (aH.calls g y a0 a2 a4 aF ba bc w0 _ ?side1 ?side2 e0.out).mono ?_);(case side1=>exact af.I);(case side2=>exact af.J HB);rintro e ec ⟨rfl,hi,hb,hk⟩;refine ⟨_,rfl,?_⟩;replace Y:=ae.mk (Kd.aC (Kd.dA (aj.apart (show aj w0 _ g y a0 a2 from af.I) (af.Rw Y.out) (by decide)) hk (fun _ h=>h.2)) (fun _ h=>h.1));replace j:=ae.mk (an.blk hk (g':=z) (o:=.cells #[.int .i64 0,.slice none 0 0] 30 (0,0)) (af.Bw j.out) a3.out (by simp));replace HK:=ae.mk (an.trans (af.K HK) hk (.inl rfl));replace HB:=ae.mk hb;replace a6:=ae.mk hi;(try clear hb);(try clear cb);(try clear hk);(try clear hi)) | ((with_reducible refine cP (b:=.append) (xs:=#[.tmp 23,.tmp 27]) rfl ?_);at_builtin;refine Kd.eE (Kd.int .i64) w.heap.size rfl (.tmp 23) (.tmp 27) 28 3 (.int .i64 0) 8 rfl Tryz.underlying28 eI rfl (by decide) (by omega) u7 a9 aF [.int .i64 aF] (fun _=>True) (fun _=>False) rfl rfl (by exact rfl) (fun _ hk=>hk.elim) (by exact fun _ _=>trivial) (by exact af.Rw Y.out) (Below.refl _ _) (by exact b9 (w:=w) (g:=g) (row:=none) (af.K HK)) (by have:=cf.out;omega) ?_;intro e7 ed ho hb hg hat;rw [← ci.out] at ho;have d4:=ae.mk (dJ (g:=z) (o:=.cells #[.int .i64 0,.slice none 0 0] 30 (0,0)) (af.Bw j.out) hg (Kd.fS Y.out j.out (by decide)));have d5:=ae.mk (aj.grown af.I hg (aj.fU a6.out Y.out (by decide)));have d6:=ae.mk (gy (af.J HB) HL.out hb);have d7:=ae.mk (an.trans (af.K HK) (an.iu hg g) (Kd.jV Y.out));have d8:=ae.mk ho;clear j;clear a6;clear HB;clear HK;clear Y;have j:=d4;have a6:=d5;have HB:=d6;have HK:=d7;have cp:=d8;clear d4 d5 d6 d7 d8;clear ho hb hg hat))
    go_roundg k1
    case measure=>have:=d2.out;omega
    case rel=>exact ⟨(bv),(wrap64 (aa+1)),(ba),(bc),af.F,H',⟨by have:=d2.out;omega⟩,⟨af.Rw cp.out⟩,⟨af.Bw j.out⟩,⟨af.I⟩,⟨af.K HK⟩,⟨af.J HB⟩⟩
   ·rw [if_neg aL] at H
    have ce:decide (aa < (wrap64 ((wrap64 (1+a5)) * a1))) = false:=decide_eq_false aL
    clear aL
    obtain ⟨⟨bi,bm⟩,e1,H⟩:=af.be H
    (try dsimp only at H)
    simp only [Option.some.injEq,Prod.mk.injEq] at H
    obtain ⟨rfl,rfl,rfl,rfl⟩:=H
    obtain ⟨d9,db,dd⟩:=Kd.aK Y.out
    subst dd
    go_wp2_with (first | (refine af.gl (some 33) Tryz.func178 #[.int .i64 a4,.int .i64 (wrap64 (1+a5)),.int .i64 a1,.slice d9 a9.length db] ?_;(with_reducible refine (bJ.calls k1 a4 (wrap64 (1+a5)) a1 _ _ a9 bi bm _ ?side1 ?side2 e1.out).mono ?_);(case side1=>exact af.Cw ((Kd.ah Y.out).2.2));(case side2=>exact (Kd.ah Y.out).2.1);rintro e ee ⟨e8,rfl,d0,hb⟩;refine ⟨_,rfl,?_⟩;have bo:=ae.mk (Kd.aV (Kd.br d0 (Kd.cK (af.Rw Y.out))) (b9 (w:=w) (g:=g) (row:=none) (af.K HK)));replace Y:=ae.mk (Kd.aQ (af.Rw Y.out) (Kd.bn d0) hb);replace j:=af.bb j hb;replace HK:=ae.mk (an.trans (af.K HK) (an.cW hb g none) (.inl rfl));replace HB:=ae.mk (ax (af.J HB) hb);replace a6:=ae.mk (aj.below af.I hb);(try clear hb);(try clear cb);(try clear hk);(try clear hi);(try clear d0);have e2:=a3.out;have e3:=b4.out;obtain ⟨df,dk,dl,dp⟩:=af.bw j.out;obtain ⟨c0,c1,dq⟩:=Kd.aK bo.out;subst dq))
    refine bodyPost_ret (results_cell_row rfl _ _ z 30 #[.int .i64 bi,.slice c0 bm.length c1] (0,0) _ rfl af.B Tryz.underlying30 rfl (by kernel_rfl)) rfl ?_
    exact ⟨_,af.E,by (with_reducible repeat (first | apply Kd.cH | apply Kd.cI | apply Kd.bl));exact Kd.aC (Kd.bD (p:=⟨z,1,none⟩) (Kd.bD (p:=⟨z,0,none⟩) (Kd.bS bo.out j.out (by decide)) (fun _ hk=>hk.2) (.int .i64 bi)) (fun _ hk=>hk.2) (.slice c0 bm.length c1)) (fun _ hk=>trivial),af.I,af.J HB,af.K HK⟩
def cY.f (k:Nat) (z:List Int) (a6:Int) (a7:Int) (a1:Int):Option (Int×List Int×Int×Int):=(aH.f z a6 a7 6).bind fun j=>(if j.1 = 0 then ((aH.f z j.2.1 j.2.2 (wrap64 (a1+1))).bind fun X=>((aH.f z X.2.1 X.2.2 (wrap64 (X.1+1))).bind fun a2=>((bV.f k a2.1 X.1).bind fun a5=>(some (a5.1,a5.2,a2.2.1,a2.2.2))))) else (if j.1 = 1 then ((dI.f k z j.2.1 j.2.2).bind fun y=>(if y.1≤a1 then (some (y.1,y.2.1,y.2.2.1,y.2.2.2)) else ((aH.f z y.2.2.1 y.2.2.2 (wrap64 (a1+1))).bind fun a3=>((bq.f k z a3.2.1 a3.2.2 a3.1).bind fun Y=>(some (Y.1,Y.2.1,Y.2.2.1,Y.2.2.2)))))) else ((aH.f z j.2.1 j.2.2 (wrap64 (a1+1))).bind fun a4=>((bq.f k z a4.2.1 a4.2.2 a4.1).bind fun a0=>(some (a0.1,a0.2.1,a0.2.2.1,a0.2.2.2))))))
set_option maxHeartbeats 8000000 in
set_option maxRecDepth 100000 in
theorem cY.calls (k:Nat) (g:Nat) (X:List Int) (a3:Int) (a4:Int) (a1:Int) (r1:Int) (r2:List Int) (r3:Int) (r4:Int) (w0 w:World) (hI:aj w0 w g X a3 a4) (hB:Below w0.heap.size w0 w) (h:cY.f k X a3 a4 a1 = some (r1,r2,r3,r4)) :
  Calls Tryz.prog 139 #[.pointer (some ⟨g,0,none⟩),.int .i64 a1] w fun e w'=>∃ e3:Value,e = .returned (.agg #[.int .i64 r1,e3])∧Kd.R (Kd.int .i64) 3 w' w.heap.size (fun _=>True) e3 r2∧aj w0 w' g X r3 r4∧Below w0.heap.size w0 w'∧an w w' g none:=by
 have h7:=Tryz.underlying30
 have a6:=ae.mk hI
 have HK:=ae.mk (an.refl w g none)
 have HL:=ae.mk hB.size
 clear hI
 have b3:=ae.mk hB.size
 have HB:=ae.mk hB
 clear hB
 unfold cY.f at h
 have H:=h
 clear h
 obtain ⟨⟨a5,ao,ap⟩,A3,H⟩:=af.be H
 (try dsimp only at H)
 by_cases c4:a5 = 0
 ·rw [if_pos c4] at H
  have e4:(a5 == 0) = true:=beq_iff_eq.mpr c4
  have e5:(a5 != 0) = false:=bne_eq_false_iff_eq.mpr c4
  clear c4
  obtain ⟨⟨aO,dd,df⟩,A5,H⟩:=af.be H
  (try dsimp only at H)
  obtain ⟨⟨b5,e6,e7⟩,A6,H⟩:=af.be H
  (try dsimp only at H)
  obtain ⟨⟨ba,bc⟩,A7,H⟩:=af.be H
  (try dsimp only at H)
  simp only [Option.some.injEq,Prod.mk.injEq] at H
  obtain ⟨rfl,rfl,rfl,rfl⟩:=H
  go_enter Tryz.func139,Tryz.ntmps139
  go_wp2_with (first | (refine af.bx 4 #[.int .i64 0,.slice none 0 0] 30 ?_;intro j hg w8 hbox hb;replace HB:=ae.mk (ax (af.J HB) hb);have y:=ae.mk hbox;have aS:=ae.mk ((by rw [hg];exact (b9 (w:=w) (g:=g) (row:=none) (af.K HK)):w.heap.size≤j));have b0:=ae.mk ((Nat.le_trans b3.out (by rw [hg];exact (b9 (w:=w) (g:=g) (row:=none) (af.K HK)):w.heap.size≤j):w0.heap.size≤j));replace HK:=ae.mk (an.trans (af.K HK) (an.cW hb g none) (.inl rfl));have a2:=ae.mk ((by rw [hg];exact Nat.ne_of_lt (aj.lt (show aj w0 _ g X a3 a4 from af.I)):g≠j));have z:=ae.mk ((by rw [hg];exact Nat.ne_of_gt (aj.lt (show aj w0 _ g X a3 a4 from af.I)):j≠g));replace a6:=ae.mk (aj.below af.I hb);clear hb hbox hg) | (refine af.gl (some 8) Tryz.func80 #[.pointer (some ⟨g,0,none⟩),.int .i64 6] ?_;(with_reducible refine (aH.calls g X a3 a4 6 a5 ao ap w0 _ ?side1 ?side2 A3.out).mono ?_);(case side1=>exact af.I);(case side2=>exact af.J HB);rintro e w9 ⟨rfl,hi,hb,hk⟩;refine ⟨_,rfl,?_⟩;replace y:=ae.mk (an.blk hk (g':=j) (o:=.cells #[.int .i64 0,.slice none 0 0] 30 (0,0)) (af.Bw y.out) z.out (by simp));replace HK:=ae.mk (an.trans (af.K HK) hk (.inl rfl));replace HB:=ae.mk hb;replace a6:=ae.mk hi;(try clear hb);(try clear aF);(try clear hk);(try clear hi)) | (refine af.gl (some 14) Tryz.func80 #[.pointer (some ⟨g,0,none⟩),.int .i64 (wrap64 (a1+1))] ?_;(with_reducible refine (aH.calls g X ao ap (wrap64 (a1+1)) aO dd df w0 _ ?side1 ?side2 A5.out).mono ?_);(case side1=>exact af.I);(case side2=>exact af.J HB);rintro e hl ⟨rfl,hi,hb,hk⟩;refine ⟨_,rfl,?_⟩;replace y:=ae.mk (an.blk hk (g':=j) (o:=.cells #[.int .i64 0,.slice none 0 0] 30 (0,0)) (af.Bw y.out) z.out (by simp));replace HK:=ae.mk (an.trans (af.K HK) hk (.inl rfl));replace HB:=ae.mk hb;replace a6:=ae.mk hi;(try clear hb);(try clear aF);(try clear hk);(try clear hi)) | (refine af.gl (some 18) Tryz.func80 #[.pointer (some ⟨g,0,none⟩),.int .i64 (wrap64 (aO+1))] ?_;(with_reducible refine (aH.calls g X dd df (wrap64 (aO+1)) b5 e6 e7 w0 _ ?side1 ?side2 A6.out).mono ?_);(case side1=>exact af.I);(case side2=>exact af.J HB);rintro e hm ⟨rfl,hi,hb,hk⟩;refine ⟨_,rfl,?_⟩;replace y:=ae.mk (an.blk hk (g':=j) (o:=.cells #[.int .i64 0,.slice none 0 0] 30 (0,0)) (af.Bw y.out) z.out (by simp));replace HK:=ae.mk (an.trans (af.K HK) hk (.inl rfl));replace HB:=ae.mk hb;replace a6:=ae.mk hi;(try clear hb);(try clear aF);(try clear hk);(try clear hi)) | (refine af.gl (some 20) Tryz.func163 #[.int .i64 b5,.int .i64 aO] ?_;(with_reducible refine (bV.calls k b5 aO ba bc _ A7.out).mono ?_);rintro e hn ⟨h8,rfl,aa,hb⟩;refine ⟨_,rfl,?_⟩;have bi:=ae.mk (Kd.aV aa (b9 (w:=w) (g:=g) (row:=none) (af.K HK)));replace y:=af.bb y hb;replace HK:=ae.mk (an.trans (af.K HK) (an.cW hb g none) (.inl rfl));replace HB:=ae.mk (ax (af.J HB) hb);replace a6:=ae.mk (aj.below af.I hb);(try clear hb);(try clear aF);(try clear hk);(try clear hi);(try clear aa);have ft:=z.out;have fw:=a2.out;obtain ⟨e8,ea,eb,ec⟩:=af.bw y.out;obtain ⟨dk,dl,ed⟩:=Kd.aK bi.out;subst ed))
  refine bodyPost_ret (results_cell_row rfl _ _ j 30 #[.int .i64 ba,.slice dk bc.length dl] (0,0) _ rfl af.B Tryz.underlying30 rfl (by kernel_rfl)) rfl ?_
  exact ⟨_,af.E,by (with_reducible repeat (first | apply Kd.cH | apply Kd.cI | apply Kd.bl));exact Kd.aC (Kd.bD (p:=⟨j,1,none⟩) (Kd.bD (p:=⟨j,0,none⟩) (Kd.bS bi.out y.out (by decide)) (fun _ hk=>hk.2) (.int .i64 ba)) (fun _ hk=>hk.2) (.slice dk bc.length dl)) (fun _ hk=>trivial),af.I,af.J HB,af.K HK⟩
 ·rw [if_neg c4] at H
  have e4:(a5 == 0) = false:=beq_eq_false_iff_ne.mpr c4
  have e5:(a5 != 0) = true:=bne_iff_ne.mpr c4
  by_cases b2:a5 = 1
  ·rw [if_pos b2] at H
   have dE:(a5 == 1) = true:=beq_iff_eq.mpr b2
   have dT:(a5 != 1) = false:=bne_eq_false_iff_eq.mpr b2
   clear b2
   obtain ⟨⟨a9,ar,aw,aB⟩,ee,H⟩:=af.be H
   (try dsimp only at H)
   by_cases b4:a9≤a1
   ·rw [if_pos b4] at H
    have e0:=decide_eq_true b4
    clear b4
    simp only [Option.some.injEq,Prod.mk.injEq] at H
    obtain ⟨rfl,rfl,rfl,rfl⟩:=H
    go_enter Tryz.func139,Tryz.ntmps139
    go_wp2_with (first | (refine af.bx 4 #[.int .i64 0,.slice none 0 0] 30 ?_;intro j hg ho hbox hb;replace HB:=ae.mk (ax (af.J HB) hb);have y:=ae.mk hbox;have aS:=ae.mk ((by rw [hg];exact (b9 (w:=w) (g:=g) (row:=none) (af.K HK)):w.heap.size≤j));have b0:=ae.mk ((Nat.le_trans b3.out (by rw [hg];exact (b9 (w:=w) (g:=g) (row:=none) (af.K HK)):w.heap.size≤j):w0.heap.size≤j));replace HK:=ae.mk (an.trans (af.K HK) (an.cW hb g none) (.inl rfl));have a2:=ae.mk ((by rw [hg];exact Nat.ne_of_lt (aj.lt (show aj w0 _ g X a3 a4 from af.I)):g≠j));have z:=ae.mk ((by rw [hg];exact Nat.ne_of_gt (aj.lt (show aj w0 _ g X a3 a4 from af.I)):j≠g));replace a6:=ae.mk (aj.below af.I hb);clear hb hbox hg) | (refine af.gl (some 8) Tryz.func80 #[.pointer (some ⟨g,0,none⟩),.int .i64 6] ?_;(with_reducible refine (aH.calls g X a3 a4 6 a5 ao ap w0 _ ?side1 ?side2 A3.out).mono ?_);(case side1=>exact af.I);(case side2=>exact af.J HB);rintro e hq ⟨rfl,hi,hb,hk⟩;refine ⟨_,rfl,?_⟩;replace y:=ae.mk (an.blk hk (g':=j) (o:=.cells #[.int .i64 0,.slice none 0 0] 30 (0,0)) (af.Bw y.out) z.out (by simp));replace HK:=ae.mk (an.trans (af.K HK) hk (.inl rfl));replace HB:=ae.mk hb;replace a6:=ae.mk hi;(try clear hb);(try clear aF);(try clear hk);(try clear hi)) | (refine af.gl (some 24) Tryz.func164 #[.pointer (some ⟨g,0,none⟩)] ?_;(with_reducible refine (dI.calls k g X ao ap a9 ar aw aB w0 _ ?side1 ?side2 ee.out).mono ?_);(case side1=>exact af.I);(case side2=>exact af.J HB);rintro e hr ⟨ef,rfl,aa,hi,hb,hk⟩;refine ⟨_,rfl,?_⟩;replace y:=ae.mk (an.blk hk (g':=j) (o:=.cells #[.int .i64 0,.slice none 0 0] 30 (0,0)) (af.Bw y.out) z.out (by simp));have a0:=ae.mk (Kd.aV aa (b9 (w:=w) (g:=g) (row:=none) (af.K HK)));replace HK:=ae.mk (an.trans (af.K HK) hk (.inl rfl));replace HB:=ae.mk hb;replace a6:=ae.mk hi;(try clear hb);(try clear aF);(try clear hk);(try clear hi);(try clear aa)) | (refine af.bx 6 #[.int .i64 0,.slice none 0 0] 30 ?_;intro Y hg ht hbox hb;have bm:=af.rb a0 hb;have bo:=ae.mk (aj.below af.I hb);have bs:=af.bb y hb;have bv:=ae.mk (an.trans (af.K HK) (an.cW hb g none) (.inl rfl));have c0:=ae.mk (ax (af.J HB) hb);have c1:=ae.mk hbox;have ca:=ae.mk ((by rw [hg];exact (b9 (w:=w) (g:=g) (row:=none) (af.K HK)):w.heap.size≤Y));have cb:=ae.mk ((Nat.le_trans b3.out (by rw [hg];exact (b9 (w:=w) (g:=g) (row:=none) (af.K HK)):w.heap.size≤Y):w0.heap.size≤Y));have cc:=af.nl hg y;have ce:=af.ng hg y;have aP:=ae.mk ((by rw [hg];exact Nat.ne_of_lt (aj.lt (show aj w0 _ g X aw aB from af.I)):g≠Y));have aR:=ae.mk ((by rw [hg];exact Nat.ne_of_gt (aj.lt (show aj w0 _ g X aw aB from af.I)):Y≠g));clear a0;clear a6;clear y;clear HK;clear HB;have a0:=bm;have a6:=bo;have y:=bs;have HK:=bv;have HB:=c0;have a7:=c1;have e1:=ca;have e2:=cb;have ab:=cc;have am:=ce;have aL:=aP;have a8:=aR;clear bm bo bs bv c0 c1 ca cb cc ce aP aR;clear hb hbox hg;have g0:=am.out;have g1:=ab.out;have g2:=a8.out;have g3:=aL.out;obtain ⟨eh,ei,ej,el⟩:=af.bw a7.out;obtain ⟨cf,ci,em⟩:=Kd.aK a0.out;subst em;have g4:=z.out;have g5:=a2.out;obtain ⟨eo,eq,es,et⟩:=af.bw y.out))
    refine bodyPost_ret (results_cell_row rfl _ _ j 30 #[.int .i64 a9,.slice cf ar.length ci] (0,0) _ rfl af.B Tryz.underlying30 rfl (by kernel_rfl)) rfl ?_
    exact ⟨_,af.E,by (with_reducible repeat (first | apply Kd.cH | apply Kd.cI | apply Kd.bl));exact Kd.aC (Kd.bD (p:=⟨j,1,none⟩) (Kd.bD (p:=⟨j,0,none⟩) (Kd.bD (p:=⟨Y,1,none⟩) (Kd.bD (p:=⟨Y,0,none⟩) (Kd.bS (Kd.bS a0.out a7.out (by decide)) y.out (by decide)) (fun _ hk=>hk.1.2) (.int .i64 a9)) (fun _ hk=>hk.1.2) (.slice cf ar.length ci)) (fun _ hk=>hk.2) (.int .i64 a9)) (fun _ hk=>hk.2) (.slice cf ar.length ci)) (fun _ hk=>trivial),af.I,af.J HB,af.K HK⟩
   ·rw [if_neg b4] at H
    have e0:decide (a9≤a1) = false:=decide_eq_false b4
    clear b4
    obtain ⟨⟨cp,d0,d1⟩,g6,H⟩:=af.be H
    (try dsimp only at H)
    obtain ⟨⟨d2,d3,ev,ew⟩,g7,H⟩:=af.be H
    (try dsimp only at H)
    simp only [Option.some.injEq,Prod.mk.injEq] at H
    obtain ⟨rfl,rfl,rfl,rfl⟩:=H
    go_enter Tryz.func139,Tryz.ntmps139
    go_wp2_with (first | (refine af.bx 4 #[.int .i64 0,.slice none 0 0] 30 ?_;intro j hg hu hbox hb;replace HB:=ae.mk (ax (af.J HB) hb);have y:=ae.mk hbox;have aS:=ae.mk ((by rw [hg];exact (b9 (w:=w) (g:=g) (row:=none) (af.K HK)):w.heap.size≤j));have b0:=ae.mk ((Nat.le_trans b3.out (by rw [hg];exact (b9 (w:=w) (g:=g) (row:=none) (af.K HK)):w.heap.size≤j):w0.heap.size≤j));replace HK:=ae.mk (an.trans (af.K HK) (an.cW hb g none) (.inl rfl));have a2:=ae.mk ((by rw [hg];exact Nat.ne_of_lt (aj.lt (show aj w0 _ g X a3 a4 from af.I)):g≠j));have z:=ae.mk ((by rw [hg];exact Nat.ne_of_gt (aj.lt (show aj w0 _ g X a3 a4 from af.I)):j≠g));replace a6:=ae.mk (aj.below af.I hb);clear hb hbox hg) | (refine af.gl (some 8) Tryz.func80 #[.pointer (some ⟨g,0,none⟩),.int .i64 6] ?_;(with_reducible refine (aH.calls g X a3 a4 6 a5 ao ap w0 _ ?side1 ?side2 A3.out).mono ?_);(case side1=>exact af.I);(case side2=>exact af.J HB);rintro e hx ⟨rfl,hi,hb,hk⟩;refine ⟨_,rfl,?_⟩;replace y:=ae.mk (an.blk hk (g':=j) (o:=.cells #[.int .i64 0,.slice none 0 0] 30 (0,0)) (af.Bw y.out) z.out (by simp));replace HK:=ae.mk (an.trans (af.K HK) hk (.inl rfl));replace HB:=ae.mk hb;replace a6:=ae.mk hi;(try clear hb);(try clear aF);(try clear hk);(try clear hi)) | (refine af.gl (some 24) Tryz.func164 #[.pointer (some ⟨g,0,none⟩)] ?_;(with_reducible refine (dI.calls k g X ao ap a9 ar aw aB w0 _ ?side1 ?side2 ee.out).mono ?_);(case side1=>exact af.I);(case side2=>exact af.J HB);rintro e hz ⟨ef,rfl,aa,hi,hb,hk⟩;refine ⟨_,rfl,?_⟩;replace y:=ae.mk (an.blk hk (g':=j) (o:=.cells #[.int .i64 0,.slice none 0 0] 30 (0,0)) (af.Bw y.out) z.out (by simp));have a0:=ae.mk (Kd.aV aa (b9 (w:=w) (g:=g) (row:=none) (af.K HK)));replace HK:=ae.mk (an.trans (af.K HK) hk (.inl rfl));replace HB:=ae.mk hb;replace a6:=ae.mk hi;(try clear hb);(try clear aF);(try clear hk);(try clear hi);(try clear aa)) | (refine af.bx 6 #[.int .i64 0,.slice none 0 0] 30 ?_;intro Y hg hA hbox hb;have bm:=af.rb a0 hb;have bo:=ae.mk (aj.below af.I hb);have bs:=af.bb y hb;have bv:=ae.mk (an.trans (af.K HK) (an.cW hb g none) (.inl rfl));have c0:=ae.mk (ax (af.J HB) hb);have c1:=ae.mk hbox;have ca:=ae.mk ((by rw [hg];exact (b9 (w:=w) (g:=g) (row:=none) (af.K HK)):w.heap.size≤Y));have cb:=ae.mk ((Nat.le_trans b3.out (by rw [hg];exact (b9 (w:=w) (g:=g) (row:=none) (af.K HK)):w.heap.size≤Y):w0.heap.size≤Y));have cc:=af.nl hg y;have ce:=af.ng hg y;have aP:=ae.mk ((by rw [hg];exact Nat.ne_of_lt (aj.lt (show aj w0 _ g X aw aB from af.I)):g≠Y));have aR:=ae.mk ((by rw [hg];exact Nat.ne_of_gt (aj.lt (show aj w0 _ g X aw aB from af.I)):Y≠g));clear a0;clear a6;clear y;clear HK;clear HB;have a0:=bm;have a6:=bo;have y:=bs;have HK:=bv;have HB:=c0;have a7:=c1;have e1:=ca;have e2:=cb;have ab:=cc;have am:=ce;have aL:=aP;have a8:=aR;clear bm bo bs bv c0 c1 ca cb cc ce aP aR;clear hb hbox hg;have g8:=am.out;have g9:=ab.out;have gb:=a8.out;have gc:=aL.out;obtain ⟨ex,eQ,f0,f1⟩:=af.bw a7.out;obtain ⟨d4,d5,f2⟩:=Kd.aK a0.out;subst f2) | (refine af.gl (some 34) Tryz.func80 #[.pointer (some ⟨g,0,none⟩),.int .i64 (wrap64 (a1+1))] ?_;(with_reducible refine (aH.calls g X aw aB (wrap64 (a1+1)) cp d0 d1 w0 _ ?side1 ?side2 g6.out).mono ?_);(case side1=>exact af.I);(case side2=>exact af.J HB);rintro e hC ⟨rfl,hi,hb,hk⟩;refine ⟨_,rfl,?_⟩;replace y:=ae.mk (an.blk hk (g':=j) (o:=.cells #[.int .i64 0,.slice none 0 0] 30 (0,0)) af.B z.out (by simp));replace a0:=ae.mk (Kd.aC (Kd.dA (aj.apart (show aj w0 _ g X aw aB from af.I) (af.Rw ((Kd.aC (Kd.bD (p:=⟨Y,1,none⟩) (Kd.bD (p:=⟨Y,0,none⟩) (Kd.bS a0.out a7.out (by decide)) (fun _ hk=>hk.2) (.int .i64 a9)) (fun _ hk=>hk.2) (.slice d4 ar.length d5)) (fun _ h_=>h_.1)))) (by decide)) hk (fun _ h=>h.2)) (fun _ h=>h.1));replace a7:=ae.mk (an.blk hk (g':=Y) (o:=.cells #[.int .i64 a9,.slice d4 ar.length d5] 30 (0,0)) af.B a8.out (by simp));replace HK:=ae.mk (an.trans (af.K HK) hk (.inl rfl));replace HB:=ae.mk hb;replace a6:=ae.mk hi;(try clear hb);(try clear aF);(try clear hk);(try clear hi)) | (refine af.gl (some 35) Tryz.func165 #[.pointer (some ⟨g,0,none⟩),.int .i64 cp] ?_;(with_reducible refine (bq.calls k g X d0 d1 cp d2 d3 ev ew w0 _ ?side1 ?side2 g7.out).mono ?_);(case side1=>exact af.I);(case side2=>exact af.J HB);rintro e hD ⟨h9,rfl,aa,hi,hb,hk⟩;refine ⟨_,rfl,?_⟩;replace y:=ae.mk (an.blk hk (g':=j) (o:=.cells #[.int .i64 0,.slice none 0 0] 30 (0,0)) (af.Bw y.out) z.out (by simp));replace a7:=ae.mk (an.blk hk (g':=Y) (o:=.cells #[.int .i64 a9,.slice d4 ar.length d5] 30 (0,0)) (af.Bw a7.out) a8.out (by simp));have d6:=ae.mk (Kd.aV (Kd.br aa (Kd.cK (af.Rw a0.out))) (b9 (w:=w) (g:=g) (row:=none) (af.K HK)));replace a0:=ae.mk (Kd.aC (Kd.nM (Kd.rM (aj.apart (show aj w0 _ g X d0 d1 from af.I) (af.Rw a0.out) (by decide)) hk) (Kd.bn aa)) (fun _ h_=>h_.1));replace HK:=ae.mk (an.trans (af.K HK) hk (.inl rfl));replace HB:=ae.mk hb;replace a6:=ae.mk hi;(try clear hb);(try clear aF);(try clear hk);(try clear hi);(try clear aa);have gk:=z.out;have go:=a2.out;obtain ⟨f3,f4,f5,f6⟩:=af.bw y.out;obtain ⟨dp,dq,f7⟩:=Kd.aK d6.out;subst f7))
    refine bodyPost_ret (results_cell_row rfl _ _ j 30 #[.int .i64 d2,.slice dp d3.length dq] (0,0) _ rfl af.B Tryz.underlying30 rfl (by kernel_rfl)) rfl ?_
    exact ⟨_,af.E,by (with_reducible repeat (first | apply Kd.cH | apply Kd.cI | apply Kd.bl));exact Kd.aC (Kd.bD (p:=⟨j,1,none⟩) (Kd.bD (p:=⟨j,0,none⟩) (Kd.bS d6.out y.out (by decide)) (fun _ hk=>hk.2) (.int .i64 d2)) (fun _ hk=>hk.2) (.slice dp d3.length dq)) (fun _ hk=>trivial),af.I,af.J HB,af.K HK⟩
  ·rw [if_neg b2] at H
   have dE:(a5 == 1) = false:=beq_eq_false_iff_ne.mpr b2
   have dT:(a5 != 1) = true:=bne_iff_ne.mpr b2
   obtain ⟨⟨d7,dt,du⟩,gs,H⟩:=af.be H
   (try dsimp only at H)
   obtain ⟨⟨d8,d9,f8,f9⟩,gt,H⟩:=af.be H
   (try dsimp only at H)
   simp only [Option.some.injEq,Prod.mk.injEq] at H
   obtain ⟨rfl,rfl,rfl,rfl⟩:=H
   go_enter Tryz.func139,Tryz.ntmps139
   go_wp2_with (first | (refine af.bx 4 #[.int .i64 0,.slice none 0 0] 30 ?_;intro j hg hE hbox hb;replace HB:=ae.mk (ax (af.J HB) hb);have y:=ae.mk hbox;have aS:=ae.mk ((by rw [hg];exact (b9 (w:=w) (g:=g) (row:=none) (af.K HK)):w.heap.size≤j));have b0:=ae.mk ((Nat.le_trans b3.out (by rw [hg];exact (b9 (w:=w) (g:=g) (row:=none) (af.K HK)):w.heap.size≤j):w0.heap.size≤j));replace HK:=ae.mk (an.trans (af.K HK) (an.cW hb g none) (.inl rfl));have a2:=ae.mk ((by rw [hg];exact Nat.ne_of_lt (aj.lt (show aj w0 _ g X a3 a4 from af.I)):g≠j));have z:=ae.mk ((by rw [hg];exact Nat.ne_of_gt (aj.lt (show aj w0 _ g X a3 a4 from af.I)):j≠g));replace a6:=ae.mk (aj.below af.I hb);clear hb hbox hg) | (refine af.gl (some 8) Tryz.func80 #[.pointer (some ⟨g,0,none⟩),.int .i64 6] ?_;(with_reducible refine (aH.calls g X a3 a4 6 a5 ao ap w0 _ ?side1 ?side2 A3.out).mono ?_);(case side1=>exact af.I);(case side2=>exact af.J HB);rintro e hG ⟨rfl,hi,hb,hk⟩;refine ⟨_,rfl,?_⟩;replace y:=ae.mk (an.blk hk (g':=j) (o:=.cells #[.int .i64 0,.slice none 0 0] 30 (0,0)) (af.Bw y.out) z.out (by simp));replace HK:=ae.mk (an.trans (af.K HK) hk (.inl rfl));replace HB:=ae.mk hb;replace a6:=ae.mk hi;(try clear hb);(try clear aF);(try clear hk);(try clear hi)) | (refine af.gl (some 34) Tryz.func80 #[.pointer (some ⟨g,0,none⟩),.int .i64 (wrap64 (a1+1))] ?_;(with_reducible refine (aH.calls g X ao ap (wrap64 (a1+1)) d7 dt du w0 _ ?side1 ?side2 gs.out).mono ?_);(case side1=>exact af.I);(case side2=>exact af.J HB);rintro e hH ⟨rfl,hi,hb,hk⟩;refine ⟨_,rfl,?_⟩;replace y:=ae.mk (an.blk hk (g':=j) (o:=.cells #[.int .i64 0,.slice none 0 0] 30 (0,0)) (af.Bw y.out) z.out (by simp));replace HK:=ae.mk (an.trans (af.K HK) hk (.inl rfl));replace HB:=ae.mk hb;replace a6:=ae.mk hi;(try clear hb);(try clear aF);(try clear hk);(try clear hi)) | (refine af.gl (some 35) Tryz.func165 #[.pointer (some ⟨g,0,none⟩),.int .i64 d7] ?_;(with_reducible refine (bq.calls k g X dt du d7 d8 d9 f8 f9 w0 _ ?side1 ?side2 gt.out).mono ?_);(case side1=>exact af.I);(case side2=>exact af.J HB);rintro e hL ⟨hj,rfl,aa,hi,hb,hk⟩;refine ⟨_,rfl,?_⟩;replace y:=ae.mk (an.blk hk (g':=j) (o:=.cells #[.int .i64 0,.slice none 0 0] 30 (0,0)) (af.Bw y.out) z.out (by simp));have db:=ae.mk (Kd.aV aa (b9 (w:=w) (g:=g) (row:=none) (af.K HK)));replace HK:=ae.mk (an.trans (af.K HK) hk (.inl rfl));replace HB:=ae.mk hb;replace a6:=ae.mk hi;(try clear hb);(try clear aF);(try clear hk);(try clear hi);(try clear aa);have h0:=z.out;have h6:=a2.out;obtain ⟨fd,fi,fj,fp⟩:=af.bw y.out;obtain ⟨dv,dC,fs⟩:=Kd.aK db.out;subst fs))
   refine bodyPost_ret (results_cell_row rfl _ _ j 30 #[.int .i64 d8,.slice dv d9.length dC] (0,0) _ rfl af.B Tryz.underlying30 rfl (by kernel_rfl)) rfl ?_
   exact ⟨_,af.E,by (with_reducible repeat (first | apply Kd.cH | apply Kd.cI | apply Kd.bl));exact Kd.aC (Kd.bD (p:=⟨j,1,none⟩) (Kd.bD (p:=⟨j,0,none⟩) (Kd.bS db.out y.out (by decide)) (fun _ hk=>hk.2) (.int .i64 d8)) (fun _ hk=>hk.2) (.slice dv d9.length dC)) (fun _ hk=>trivial),af.I,af.J HB,af.K HK⟩
def dQ.f (k:Nat) (l0:List Int):Option (Int×List Int×Int):=(dj.f k l0).bind fun y=>((cY.f k y.1 y.2.1 y.2.2 6).bind fun j=>((cL.f k j.1 j.2.1).bind fun Y=>((aH.f y.1 j.2.2.1 j.2.2.2 (Y.length:Int)).bind fun z=>(if 0≤z.1 then (if z.1 < (Y.length:Int) then ((e9.f y.1 z.2.1 z.2.2 8).bind fun X=>(if X.1 = true then ((eF.f y.1 X.2.1 X.2.2).bind fun a0=>(some (j.1,j.2.1,a0.1))) else (some (j.1,j.2.1,rd Y z.1)))) else (none)) else (none)))))
set_option maxHeartbeats 8000000 in
set_option maxRecDepth 100000 in
theorem dQ.calls (k:Nat) (A0:Option Addr) (c0:Nat) (l0:List Int) (r1:Int) (r2:List Int) (r3:Int) (w:World) (d5:Kd.C (Kd.int .u8) w A0 l0.length l0) (d6:l0.length≤c0) (h:dQ.f k l0 = some (r1,r2,r3)) :
  Calls Tryz.prog 97 #[.slice A0 l0.length c0] w fun e w'=>∃ d7:Value,e = .returned (.tuple #[.agg #[.int .i64 r1,d7],.int .i64 r3])∧Kd.R (Kd.int .i64) 3 w' w.heap.size (fun _=>True) d7 r2∧Below w.heap.size w w':=by
 have f8:=Tryz.underlying30
 have d8:=ae.mk d5
 have d9:=ae.mk d6
 clear d5 d6
 have HB:=ae.mk (Below.refl w.heap.size w)
 unfold dQ.f at h
 have H:=h
 clear h
 obtain ⟨⟨a3,ba,bc⟩,A2,H⟩:=af.be H
 (try dsimp only at H)
 obtain ⟨⟨a2,a0,a8,a9⟩,A3,H⟩:=af.be H
 (try dsimp only at H)
 obtain ⟨aL,A4,H⟩:=af.be H
 (try dsimp only at H)
 obtain ⟨⟨aO,aR,aS⟩,A5,H⟩:=af.be H
 (try dsimp only at H)
 obtain ⟨c6,H⟩:=af.ip H
 have f9:=decide_eq_true c6
 clear c6
 obtain ⟨c7,H⟩:=af.ip H
 have fd:=decide_eq_true c7
 clear c7
 obtain ⟨⟨db,b3,b4⟩,A8,H⟩:=af.be H
 (try dsimp only at H)
 by_cases c9:db = true
 ·subst c9
  replace H:((eF.f a3 b3 b4).bind fun cp=>(some (a2,a0,cp.1))) = some (r1,r2,r3):=by rw [if_pos rfl] at H;exact H
  obtain ⟨⟨dd,df,dk⟩,eq,H⟩:=af.be H
  (try dsimp only at H)
  simp only [Option.some.injEq,Prod.mk.injEq] at H
  obtain ⟨rfl,rfl,rfl⟩:=H
  go_enter Tryz.func97,Tryz.ntmps97
  go_wp2_with (first | (refine af.bx 2 #[.int .i64 0,.slice none 0 0] 30 ?_;intro a5 hg ft hbox hb;have j:=ae.mk hbox;have d0:=af.gw hg HB;have d1:=af.gw hg HB;replace HB:=af.lb HB hb;clear hb hbox hg) | (refine af.gl (some 9) Tryz.func74 #[.slice A0 l0.length c0] ?_;(with_reducible refine (dj.calls k _ _ l0 a3 ba bc w _ ?side1 ?side2 ?side3 A2.out).mono ?_);(case side1=>exact af.J HB);(case side2=>exact d8.out);(case side3=>exact d9.out);rintro e fw ⟨X,rfl,hi,hb,ab⟩;refine ⟨_,rfl,?_⟩;replace HB:=ae.mk hb;have a7:=ae.mk hi;have ar:=ae.mk (aj.ja hi (b7 (af.Bw j.out) ab) (by decide));have a1:=ae.mk (Ne.symm (aj.ja hi (b7 (af.Bw j.out) ab) (by decide)));replace j:=ae.mk (b7 (af.Bw j.out) ab);(try clear hb);(try clear ab);(try clear hk);(try clear hi)) | (refine af.gl (some 11) Tryz.func139 #[.pointer (some ⟨X,0,none⟩),.int .i64 6] ?_;(with_reducible refine (cY.calls k X a3 ba bc 6 a2 a0 a8 a9 w _ ?side1 ?side2 A3.out).mono ?_);(case side1=>exact af.I);(case side2=>exact af.J HB);rintro e g0 ⟨dl,rfl,aP,hi,hb,hk⟩;refine ⟨_,rfl,?_⟩;replace j:=ae.mk (an.blk hk (g':=a5) (o:=.cells #[.int .i64 0,.slice none 0 0] 30 (0,0)) (af.Bw j.out) a1.out (by simp));have z:=ae.mk (Kd.aV aP (av (af.J HB)));replace HB:=ae.mk hb;replace a7:=ae.mk hi;(try clear hb);(try clear ab);(try clear hk);(try clear hi);(try clear aP)) | (refine af.bx 5 #[.int .i64 0,.slice none 0 0] 30 ?_;intro y hg es hbox hb;have bi:=af.rb z hb;have bm:=af.bb j hb;have bo:=ae.mk (aj.below af.I hb);have bs:=ae.mk (ax (af.J HB) hb);have bv:=ae.mk hbox;have c1:=ae.mk ((by rw [hg];exact (av (af.J HB)):w.heap.size≤y));have ca:=ae.mk ((by rw [hg];exact (av (af.J HB)):w.heap.size≤y));have cb:=af.nl hg j;have cc:=af.ng hg j;have ce:=ae.mk ((by rw [hg];exact Nat.ne_of_lt (aj.lt (show aj w _ X a3 a8 a9 from af.I)):X≠y));have b5:=ae.mk ((by rw [hg];exact Nat.ne_of_gt (aj.lt (show aj w _ X a3 a8 a9 from af.I)):y≠X));clear z;clear j;clear a7;clear HB;have z:=bi;have j:=bm;have a7:=bo;have HB:=bs;have Y:=bv;have d2:=c1;have d3:=ca;have aw:=cb;have aB:=cc;have aF:=ce;have a4:=b5;clear bi bm bo bs bv c1 ca cb cc ce b5;clear hb hbox hg;have et:=aB.out;have ev:=aw.out;have ew:=a4.out;have ex:=aF.out;obtain ⟨dp,dq,dt,du⟩:=af.bw Y.out;obtain ⟨am,aa,dv⟩:=Kd.aK z.out;subst dv) | (refine af.gl (some 13) Tryz.func43 #[.agg #[.int .i64 a2,.slice am a0.length aa]] ?_;(with_reducible refine (cL.calls k a2 _ _ a0 aL _ ?side1 ?side2 A4.out).mono ?_);(case side1=>refine (Kd.ah (e:=3) (base:=w.heap.size) (ok:=fun k_=>True) (n:=a0.length) (c:=aa) ?_).2.2;exact (af.Rw ((Kd.aC (Kd.bD (p:=⟨y,1,none⟩) (Kd.bD (p:=⟨y,0,none⟩) (Kd.bS z.out Y.out (by decide)) (fun _ hk=>hk.2) (.int .i64 a2)) (fun _ hk=>hk.2) (.slice am a0.length aa)) (fun _ h_=>h_.1)))));(case side2=>exact (Kd.ah z.out).2.1);rintro e g1 ⟨dC,rfl,aP,hb⟩;refine ⟨_,rfl,?_⟩;have a6:=ae.mk (Kd.aV (Kd.br aP (Kd.cK (af.Rw ((Kd.aC (Kd.bD (p:=⟨y,1,none⟩) (Kd.bD (p:=⟨y,0,none⟩) (Kd.bS z.out Y.out (by decide)) (fun _ hk=>hk.2) (.int .i64 a2)) (fun _ hk=>hk.2) (.slice am a0.length aa)) (fun _ h_=>h_.1)))))) (av (af.J HB)));replace z:=ae.mk (Kd.aQ (af.Rw ((Kd.aC (Kd.bD (p:=⟨y,1,none⟩) (Kd.bD (p:=⟨y,0,none⟩) (Kd.bS z.out Y.out (by decide)) (fun _ hk=>hk.2) (.int .i64 a2)) (fun _ hk=>hk.2) (.slice am a0.length aa)) (fun _ h_=>h_.1)))) (Kd.bn aP) hb);replace j:=ae.mk (b7 (g:=a5) (o:=.cells #[.int .i64 0,.slice none 0 0] 30 (0,0)) af.B hb);replace Y:=ae.mk (b7 (g:=y) (o:=.cells #[.int .i64 a2,.slice am a0.length aa] 30 (0,0)) af.B hb);replace HB:=ae.mk (ax (af.J HB) hb);replace a7:=ae.mk (aj.below (show aj w ((es.setCell ⟨y,0,none⟩ (.int .i64 a2)).setCell ⟨y,1,none⟩ (.slice am a0.length aa)) X a3 a8 a9 from af.I) hb);(try clear hb);(try clear ab);(try clear hk);(try clear hi);(try clear aP);obtain ⟨fi,fj,dE⟩:=Kd.aK a6.out;subst dE) | (refine af.gl (some 18) Tryz.func80 #[.pointer (some ⟨X,0,none⟩),.int .i64 (aL.length:Int)] ?_;(with_reducible refine (aH.calls X a3 a8 a9 (aL.length:Int) aO aR aS w _ ?side1 ?side2 A5.out).mono ?_);(case side1=>exact af.I);(case side2=>exact af.J HB);rintro e g2 ⟨rfl,hi,hb,hk⟩;refine ⟨_,rfl,?_⟩;replace j:=ae.mk (an.blk hk (g':=a5) (o:=.cells #[.int .i64 0,.slice none 0 0] 30 (0,0)) (af.Bw j.out) a1.out (by simp));replace z:=ae.mk (Kd.aC (Kd.dA (aj.apart (show aj w _ X a3 a8 a9 from af.I) (af.Rw z.out) (by decide)) hk (fun _ h=>h.2)) (fun _ h=>h.1));replace Y:=ae.mk (an.blk hk (g':=y) (o:=.cells #[.int .i64 a2,.slice am a0.length aa] 30 (0,0)) (af.Bw Y.out) a4.out (by simp));replace a6:=ae.mk (Kd.aC (Kd.dA (aj.apart (show aj w _ X a3 a8 a9 from af.I) (af.Rw a6.out) (by decide)) hk (fun _ h=>h.2)) (fun _ h=>h.1));replace HB:=ae.mk hb;replace a7:=ae.mk hi;(try clear hb);(try clear ab);(try clear hk);(try clear hi);have b0:0≤(aO:Int):=af.D;have b2:aO < (aL.length:Int):=af.D;obtain ⟨d4,cf,ci⟩:=Kd.ey (Kd.ah a6.out).2.2 aO b0 b2;cases cf;replace b0:=eq_true b0;replace b2:=eq_true b2) | (refine af.gl (some 22) Tryz.func134 #[.pointer (some ⟨X,0,none⟩),.int .i64 8] ?_;(with_reducible refine (e9.calls X a3 aR aS 8 true b3 b4 w _ ?side1 ?side2 A8.out).mono ?_);(case side1=>exact af.I);(case side2=>exact af.J HB);rintro e g3 ⟨rfl,hi,hb,hk⟩;refine ⟨_,rfl,?_⟩;replace j:=ae.mk (an.blk hk (g':=a5) (o:=.cells #[.int .i64 0,.slice none 0 0] 30 (0,0)) (af.Bw j.out) a1.out (by simp));replace z:=ae.mk (Kd.aC (Kd.dA (aj.apart (show aj w _ X a3 aR aS from af.I) (af.Rw z.out) (by decide)) hk (fun _ h=>h.2)) (fun _ h=>h.1));replace Y:=ae.mk (an.blk hk (g':=y) (o:=.cells #[.int .i64 a2,.slice am a0.length aa] 30 (0,0)) (af.Bw Y.out) a4.out (by simp));replace a6:=ae.mk (Kd.aC (Kd.dA (aj.apart (show aj w _ X a3 aR aS from af.I) (af.Rw a6.out) (by decide)) hk (fun _ h=>h.2)) (fun _ h=>h.1));replace HB:=ae.mk hb;replace a7:=ae.mk hi;(try clear hb);(try clear ab);(try clear hk);(try clear hi)) | (refine af.gl (some 24) Tryz.func90 #[.pointer (some ⟨X,0,none⟩)] ?_;(with_reducible refine (eF.calls X a3 b3 b4 dd df dk w _ ?side1 ?side2 eq.out).mono ?_);(case side1=>exact af.I);(case side2=>exact af.J HB);rintro e g4 ⟨rfl,hi,hb,hk⟩;refine ⟨_,rfl,?_⟩;replace j:=ae.mk (an.blk hk (g':=a5) (o:=.cells #[.int .i64 0,.slice none 0 0] 30 (0,0)) (af.Bw j.out) a1.out (by simp));replace z:=ae.mk (Kd.aC (Kd.dA (aj.apart (show aj w _ X a3 b3 b4 from af.I) (af.Rw z.out) (by decide)) hk (fun _ h=>h.2)) (fun _ h=>h.1));replace Y:=ae.mk (an.blk hk (g':=y) (o:=.cells #[.int .i64 a2,.slice am a0.length aa] 30 (0,0)) (af.Bw Y.out) a4.out (by simp));replace a6:=ae.mk (Kd.aC (Kd.dA (aj.apart (show aj w _ X a3 b3 b4 from af.I) (af.Rw a6.out) (by decide)) hk (fun _ h=>h.2)) (fun _ h=>h.1));replace HB:=ae.mk hb;replace a7:=ae.mk hi;(try clear hb);(try clear ab);(try clear hk);(try clear hi);obtain ⟨dT,e0,e1,e2⟩:=af.bw Y.out;have eQ:=a1.out;have f0:=ar.out;obtain ⟨e3,e4,e5,e6⟩:=af.bw j.out))
  refine bodyPost_ret (eJ rfl _ _ a5 30 #[.int .i64 a2,.slice am a0.length aa] (0,0) _ rfl af.B Tryz.underlying30 rfl (by kernel_rfl)) rfl ?_
  exact ⟨_,af.E,by (with_reducible repeat (first | apply Kd.cH | apply Kd.cI | apply Kd.bl));exact Kd.aC (Kd.bD (p:=⟨a5,1,none⟩) (Kd.bD (p:=⟨a5,0,none⟩) (Kd.bS z.out j.out (by decide)) (fun _ hk=>hk.2) (.int .i64 a2)) (fun _ hk=>hk.2) (.slice am a0.length aa)) (fun _ hk=>trivial),af.J HB⟩
 ·replace c9:=Bool.eq_false_iff.mpr c9
  subst c9
  replace H:(some (a2,a0,rd aL aO)) = some (r1,r2,r3):=by rw [if_neg (show ¬ (false = true) by decide)] at H;exact H
  simp only [Option.some.injEq,Prod.mk.injEq] at H
  obtain ⟨rfl,rfl,rfl⟩:=H
  go_enter Tryz.func97,Tryz.ntmps97
  go_wp2_with (first | (refine af.bx 2 #[.int .i64 0,.slice none 0 0] 30 ?_;intro a5 hg g5 hbox hb;have j:=ae.mk hbox;have d0:=af.gw hg HB;have d1:=af.gw hg HB;replace HB:=af.lb HB hb;clear hb hbox hg) | (refine af.gl (some 9) Tryz.func74 #[.slice A0 l0.length c0] ?_;(with_reducible refine (dj.calls k _ _ l0 a3 ba bc w _ ?side1 ?side2 ?side3 A2.out).mono ?_);(case side1=>exact af.J HB);(case side2=>exact d8.out);(case side3=>exact d9.out);rintro e g6 ⟨X,rfl,hi,hb,ab⟩;refine ⟨_,rfl,?_⟩;replace HB:=ae.mk hb;have a7:=ae.mk hi;have ar:=ae.mk (aj.ja hi (b7 (af.Bw j.out) ab) (by decide));have a1:=ae.mk (Ne.symm (aj.ja hi (b7 (af.Bw j.out) ab) (by decide)));replace j:=ae.mk (b7 (af.Bw j.out) ab);(try clear hb);(try clear ab);(try clear hk);(try clear hi)) | (refine af.gl (some 11) Tryz.func139 #[.pointer (some ⟨X,0,none⟩),.int .i64 6] ?_;(with_reducible refine (cY.calls k X a3 ba bc 6 a2 a0 a8 a9 w _ ?side1 ?side2 A3.out).mono ?_);(case side1=>exact af.I);(case side2=>exact af.J HB);rintro e g7 ⟨dl,rfl,aP,hi,hb,hk⟩;refine ⟨_,rfl,?_⟩;replace j:=ae.mk (an.blk hk (g':=a5) (o:=.cells #[.int .i64 0,.slice none 0 0] 30 (0,0)) (af.Bw j.out) a1.out (by simp));have z:=ae.mk (Kd.aV aP (av (af.J HB)));replace HB:=ae.mk hb;replace a7:=ae.mk hi;(try clear hb);(try clear ab);(try clear hk);(try clear hi);(try clear aP)) | (refine af.bx 5 #[.int .i64 0,.slice none 0 0] 30 ?_;intro y hg f1 hbox hb;have bi:=af.rb z hb;have bm:=af.bb j hb;have bo:=ae.mk (aj.below af.I hb);have bs:=ae.mk (ax (af.J HB) hb);have bv:=ae.mk hbox;have c1:=ae.mk ((by rw [hg];exact (av (af.J HB)):w.heap.size≤y));have ca:=ae.mk ((by rw [hg];exact (av (af.J HB)):w.heap.size≤y));have cb:=af.nl hg j;have cc:=af.ng hg j;have ce:=ae.mk ((by rw [hg];exact Nat.ne_of_lt (aj.lt (show aj w _ X a3 a8 a9 from af.I)):X≠y));have b5:=ae.mk ((by rw [hg];exact Nat.ne_of_gt (aj.lt (show aj w _ X a3 a8 a9 from af.I)):y≠X));clear z;clear j;clear a7;clear HB;have z:=bi;have j:=bm;have a7:=bo;have HB:=bs;have Y:=bv;have d2:=c1;have d3:=ca;have aw:=cb;have aB:=cc;have aF:=ce;have a4:=b5;clear bi bm bo bs bv c1 ca cb cc ce b5;clear hb hbox hg;have f2:=aB.out;have f3:=aw.out;have f4:=a4.out;have f5:=aF.out;obtain ⟨e7,e8,ea,eb⟩:=af.bw Y.out;obtain ⟨ap,ao,ec⟩:=Kd.aK z.out;subst ec) | (refine af.gl (some 13) Tryz.func43 #[.agg #[.int .i64 a2,.slice ap a0.length ao]] ?_;(with_reducible refine (cL.calls k a2 _ _ a0 aL _ ?side1 ?side2 A4.out).mono ?_);(case side1=>refine (Kd.ah (e:=3) (base:=w.heap.size) (ok:=fun k_=>True) (n:=a0.length) (c:=ao) ?_).2.2;exact (af.Rw ((Kd.aC (Kd.bD (p:=⟨y,1,none⟩) (Kd.bD (p:=⟨y,0,none⟩) (Kd.bS z.out Y.out (by decide)) (fun _ hk=>hk.2) (.int .i64 a2)) (fun _ hk=>hk.2) (.slice ap a0.length ao)) (fun _ h_=>h_.1)))));(case side2=>exact (Kd.ah z.out).2.1);rintro e g8 ⟨dC,rfl,aP,hb⟩;refine ⟨_,rfl,?_⟩;have a6:=ae.mk (Kd.aV (Kd.br aP (Kd.cK (af.Rw ((Kd.aC (Kd.bD (p:=⟨y,1,none⟩) (Kd.bD (p:=⟨y,0,none⟩) (Kd.bS z.out Y.out (by decide)) (fun _ hk=>hk.2) (.int .i64 a2)) (fun _ hk=>hk.2) (.slice ap a0.length ao)) (fun _ h_=>h_.1)))))) (av (af.J HB)));replace z:=ae.mk (Kd.aQ (af.Rw ((Kd.aC (Kd.bD (p:=⟨y,1,none⟩) (Kd.bD (p:=⟨y,0,none⟩) (Kd.bS z.out Y.out (by decide)) (fun _ hk=>hk.2) (.int .i64 a2)) (fun _ hk=>hk.2) (.slice ap a0.length ao)) (fun _ h_=>h_.1)))) (Kd.bn aP) hb);replace j:=ae.mk (b7 (g:=a5) (o:=.cells #[.int .i64 0,.slice none 0 0] 30 (0,0)) af.B hb);replace Y:=ae.mk (b7 (g:=y) (o:=.cells #[.int .i64 a2,.slice ap a0.length ao] 30 (0,0)) af.B hb);replace HB:=ae.mk (ax (af.J HB) hb);replace a7:=ae.mk (aj.below (show aj w ((f1.setCell ⟨y,0,none⟩ (.int .i64 a2)).setCell ⟨y,1,none⟩ (.slice ap a0.length ao)) X a3 a8 a9 from af.I) hb);(try clear hb);(try clear ab);(try clear hk);(try clear hi);(try clear aP);obtain ⟨fp,fs,ed⟩:=Kd.aK a6.out;subst ed) | (refine af.gl (some 18) Tryz.func80 #[.pointer (some ⟨X,0,none⟩),.int .i64 (aL.length:Int)] ?_;(with_reducible refine (aH.calls X a3 a8 a9 (aL.length:Int) aO aR aS w _ ?side1 ?side2 A5.out).mono ?_);(case side1=>exact af.I);(case side2=>exact af.J HB);rintro e g9 ⟨rfl,hi,hb,hk⟩;refine ⟨_,rfl,?_⟩;replace j:=ae.mk (an.blk hk (g':=a5) (o:=.cells #[.int .i64 0,.slice none 0 0] 30 (0,0)) (af.Bw j.out) a1.out (by simp));replace z:=ae.mk (Kd.aC (Kd.dA (aj.apart (show aj w _ X a3 a8 a9 from af.I) (af.Rw z.out) (by decide)) hk (fun _ h=>h.2)) (fun _ h=>h.1));replace Y:=ae.mk (an.blk hk (g':=y) (o:=.cells #[.int .i64 a2,.slice ap a0.length ao] 30 (0,0)) (af.Bw Y.out) a4.out (by simp));replace a6:=ae.mk (Kd.aC (Kd.dA (aj.apart (show aj w _ X a3 a8 a9 from af.I) (af.Rw a6.out) (by decide)) hk (fun _ h=>h.2)) (fun _ h=>h.1));replace HB:=ae.mk hb;replace a7:=ae.mk hi;(try clear hb);(try clear ab);(try clear hk);(try clear hi);have b0:0≤(aO:Int):=af.D;have b2:aO < (aL.length:Int):=af.D;obtain ⟨d4,cf,ci⟩:=Kd.ey (Kd.ah a6.out).2.2 aO b0 b2;cases cf;replace b0:=eq_true b0;replace b2:=eq_true b2) | (refine af.gl (some 22) Tryz.func134 #[.pointer (some ⟨X,0,none⟩),.int .i64 8] ?_;(with_reducible refine (e9.calls X a3 aR aS 8 false b3 b4 w _ ?side1 ?side2 A8.out).mono ?_);(case side1=>exact af.I);(case side2=>exact af.J HB);rintro e gb ⟨rfl,hi,hb,hk⟩;refine ⟨_,rfl,?_⟩;replace j:=ae.mk (an.blk hk (g':=a5) (o:=.cells #[.int .i64 0,.slice none 0 0] 30 (0,0)) (af.Bw j.out) a1.out (by simp));replace z:=ae.mk (Kd.aC (Kd.dA (aj.apart (show aj w _ X a3 aR aS from af.I) (af.Rw z.out) (by decide)) hk (fun _ h=>h.2)) (fun _ h=>h.1));replace Y:=ae.mk (an.blk hk (g':=y) (o:=.cells #[.int .i64 a2,.slice ap a0.length ao] 30 (0,0)) (af.Bw Y.out) a4.out (by simp));replace a6:=ae.mk (Kd.aC (Kd.dA (aj.apart (show aj w _ X a3 aR aS from af.I) (af.Rw a6.out) (by decide)) hk (fun _ h=>h.2)) (fun _ h=>h.1));replace HB:=ae.mk hb;replace a7:=ae.mk hi;(try clear hb);(try clear ab);(try clear hk);(try clear hi);obtain ⟨ee,ef,eh,ei⟩:=af.bw Y.out;have f6:=a1.out;have f7:=ar.out;obtain ⟨ej,el,em,eo⟩:=af.bw j.out))
  refine bodyPost_ret (eJ rfl _ _ a5 30 #[.int .i64 a2,.slice ap a0.length ao] (0,0) _ rfl af.B Tryz.underlying30 rfl (by kernel_rfl)) rfl ?_
  exact ⟨_,af.E,by (with_reducible repeat (first | apply Kd.cH | apply Kd.cI | apply Kd.bl));exact Kd.aC (Kd.bD (p:=⟨a5,1,none⟩) (Kd.bD (p:=⟨a5,0,none⟩) (Kd.bS z.out j.out (by decide)) (fun _ hk=>hk.2) (.int .i64 a2)) (fun _ hk=>hk.2) (.slice ap a0.length ao)) (fun _ hk=>trivial),af.J HB⟩
def eg.f (k:Nat) (l0:List Int):Option (Int×List Int×Int):=(dQ.f k l0).bind fun j=>(some (j.1,j.2.1,j.2.2))
set_option maxHeartbeats 8000000 in
set_option maxRecDepth 100000 in
theorem eg.calls (k:Nat) (A0:Option Addr) (c0:Nat) (l0:List Int) (r1:Int) (r2:List Int) (r3:Int) (w:World) (a6:Kd.C (Kd.int .u8) w A0 l0.length l0) (a7:l0.length≤c0) (h:eg.f k l0 = some (r1,r2,r3)) :
  Calls Tryz.prog 27 #[.slice A0 l0.length c0] w fun e w'=>∃ a8:Value,e = .returned (.tuple #[.agg #[.int .i64 r1,a8],.int .i64 r3])∧Kd.R (Kd.int .i64) 3 w' w.heap.size (fun _=>True) a8 r2∧Below w.heap.size w w':=by
 have b3:=Tryz.underlying30
 have aL:=ae.mk a6
 have aO:=ae.mk a7
 clear a6 a7
 have HB:=ae.mk (Below.refl w.heap.size w)
 unfold eg.f at h
 have H:=h
 clear h
 obtain ⟨⟨a0,a1,a9⟩,A2,H⟩:=af.be H
 (try dsimp only at H)
 simp only [Option.some.injEq,Prod.mk.injEq] at H
 obtain ⟨rfl,rfl,rfl⟩:=H
 go_enter Tryz.func27,Tryz.ntmps27
 go_wp2_with (first | (refine af.bx 2 #[.int .i64 0,.slice none 0 0] 30 ?_;intro z hg w3 hbox hb;have j:=ae.mk hbox;have aP:=af.gw hg HB;have aR:=af.gw hg HB;replace HB:=af.lb HB hb;clear hb hbox hg) | (refine af.gl (some 8) Tryz.func97 #[.slice A0 l0.length c0] ?_;(with_reducible refine (dQ.calls k _ _ l0 a0 a1 a9 _ ?side1 ?side2 A2.out).mono ?_);(case side1=>exact af.Cw (Kd.aT aL.out HB.out));(case side2=>exact aO.out);rintro e w4 ⟨b4,rfl,aa,hb⟩;refine ⟨_,rfl,?_⟩;have y:=ae.mk (Kd.aV aa (av (af.Lw HB.out)));replace j:=af.bb j hb;replace HB:=af.lb HB hb;(try clear hb);(try clear bc);(try clear hk);(try clear hi);(try clear aa)) | (refine af.bx 4 #[.int .i64 0,.slice none 0 0] 30 ?_;intro a2 hg w5 hbox hb;replace y:=af.rb y hb;have a3:=ae.mk hbox;have aS:=af.gw hg HB;have b0:=af.gw hg HB;replace HB:=af.lb HB hb;have X:=af.nl hg j;have Y:=af.ng hg j;replace j:=af.bb j hb;clear hb hbox hg;have b5:=Y.out;have ba:=X.out;obtain ⟨ab,am,ao,ap⟩:=af.bw a3.out;obtain ⟨a4,a5,b2⟩:=Kd.aK y.out;subst b2;obtain ⟨ar,aw,aB,aF⟩:=af.bw j.out))
 refine bodyPost_ret (eJ rfl _ _ z 30 #[.int .i64 a0,.slice a4 a1.length a5] (0,0) _ rfl af.B Tryz.underlying30 rfl (by kernel_rfl)) rfl ?_
 exact ⟨_,af.E,by (with_reducible repeat (first | apply Kd.cH | apply Kd.cI | apply Kd.bl));exact Kd.aC (Kd.bD (p:=⟨z,1,none⟩) (Kd.bD (p:=⟨z,0,none⟩) (Kd.bD (p:=⟨a2,1,none⟩) (Kd.bD (p:=⟨a2,0,none⟩) (Kd.bS (Kd.bS y.out a3.out (by decide)) j.out (by decide)) (fun _ hk=>hk.1.2) (.int .i64 a0)) (fun _ hk=>hk.1.2) (.slice a4 a1.length a5)) (fun _ hk=>hk.2) (.int .i64 a0)) (fun _ hk=>hk.2) (.slice a4 a1.length a5)) (fun _ hk=>trivial),af.L⟩
def dB.f (a0:Int):Option (Bool):=if a0≥0 then (some (decide (a0 < 256))) else (some false)
set_option maxHeartbeats 8000000 in
set_option maxRecDepth 100000 in
theorem dB.calls (a0:Int) (r:Bool) (w:World) (h:dB.f a0 = some r) :
  Calls Tryz.prog 147 #[.int .i64 a0] w fun e w'=>e = .returned (.bool r)∧cS w w':=by
 unfold dB.f at h
 have H:=h
 clear h
 by_cases c2:a0≥0
 ·rw [if_pos c2] at H
  have j:=decide_eq_true c2
  clear c2
  obtain rfl:=Option.some.inj H
  go_enter Tryz.func147,Tryz.ntmps147
  go_wp2
  go_ret
  exact ⟨af.F,af.G⟩
 ·rw [if_neg c2] at H
  have j:decide (0≤a0) = false:=decide_eq_false c2
  clear c2
  obtain rfl:=Option.some.inj H
  go_enter Tryz.func147,Tryz.ntmps147
  go_wp2
  go_ret
  exact ⟨af.F,af.G⟩
def fW.f (a0:Int):Option (Int):=some (Go.bits .and .i64 (wrap64 (IntKind.u64.wrap ((IntKind.u64.wrap ((IntKind.u64.wrap ((Go.bits .and .u64 (IntKind.u64.wrap (((IntKind.u64.wrap ((Go.bits .and .u64 ((IntKind.u64.wrap ((Go.bits .and .u64 (a0 / 2) 6148914691236517205)+(Go.bits .and .u64 a0 6148914691236517205))) / 4) 3689348814741910323)+(Go.bits .and .u64 (IntKind.u64.wrap ((Go.bits .and .u64 (a0 / 2) 6148914691236517205)+(Go.bits .and .u64 a0 6148914691236517205))) 3689348814741910323))) / 16)+(IntKind.u64.wrap ((Go.bits .and .u64 ((IntKind.u64.wrap ((Go.bits .and .u64 (a0 / 2) 6148914691236517205)+(Go.bits .and .u64 a0 6148914691236517205))) / 4) 3689348814741910323)+(Go.bits .and .u64 (IntKind.u64.wrap ((Go.bits .and .u64 (a0 / 2) 6148914691236517205)+(Go.bits .and .u64 a0 6148914691236517205))) 3689348814741910323))))) 1085102592571150095)+((Go.bits .and .u64 (IntKind.u64.wrap (((IntKind.u64.wrap ((Go.bits .and .u64 ((IntKind.u64.wrap ((Go.bits .and .u64 (a0 / 2) 6148914691236517205)+(Go.bits .and .u64 a0 6148914691236517205))) / 4) 3689348814741910323)+(Go.bits .and .u64 (IntKind.u64.wrap ((Go.bits .and .u64 (a0 / 2) 6148914691236517205)+(Go.bits .and .u64 a0 6148914691236517205))) 3689348814741910323))) / 16)+(IntKind.u64.wrap ((Go.bits .and .u64 ((IntKind.u64.wrap ((Go.bits .and .u64 (a0 / 2) 6148914691236517205)+(Go.bits .and .u64 a0 6148914691236517205))) / 4) 3689348814741910323)+(Go.bits .and .u64 (IntKind.u64.wrap ((Go.bits .and .u64 (a0 / 2) 6148914691236517205)+(Go.bits .and .u64 a0 6148914691236517205))) 3689348814741910323))))) 1085102592571150095) / 256)))+((IntKind.u64.wrap ((Go.bits .and .u64 (IntKind.u64.wrap (((IntKind.u64.wrap ((Go.bits .and .u64 ((IntKind.u64.wrap ((Go.bits .and .u64 (a0 / 2) 6148914691236517205)+(Go.bits .and .u64 a0 6148914691236517205))) / 4) 3689348814741910323)+(Go.bits .and .u64 (IntKind.u64.wrap ((Go.bits .and .u64 (a0 / 2) 6148914691236517205)+(Go.bits .and .u64 a0 6148914691236517205))) 3689348814741910323))) / 16)+(IntKind.u64.wrap ((Go.bits .and .u64 ((IntKind.u64.wrap ((Go.bits .and .u64 (a0 / 2) 6148914691236517205)+(Go.bits .and .u64 a0 6148914691236517205))) / 4) 3689348814741910323)+(Go.bits .and .u64 (IntKind.u64.wrap ((Go.bits .and .u64 (a0 / 2) 6148914691236517205)+(Go.bits .and .u64 a0 6148914691236517205))) 3689348814741910323))))) 1085102592571150095)+((Go.bits .and .u64 (IntKind.u64.wrap (((IntKind.u64.wrap ((Go.bits .and .u64 ((IntKind.u64.wrap ((Go.bits .and .u64 (a0 / 2) 6148914691236517205)+(Go.bits .and .u64 a0 6148914691236517205))) / 4) 3689348814741910323)+(Go.bits .and .u64 (IntKind.u64.wrap ((Go.bits .and .u64 (a0 / 2) 6148914691236517205)+(Go.bits .and .u64 a0 6148914691236517205))) 3689348814741910323))) / 16)+(IntKind.u64.wrap ((Go.bits .and .u64 ((IntKind.u64.wrap ((Go.bits .and .u64 (a0 / 2) 6148914691236517205)+(Go.bits .and .u64 a0 6148914691236517205))) / 4) 3689348814741910323)+(Go.bits .and .u64 (IntKind.u64.wrap ((Go.bits .and .u64 (a0 / 2) 6148914691236517205)+(Go.bits .and .u64 a0 6148914691236517205))) 3689348814741910323))))) 1085102592571150095) / 256))) / 65536)))+((IntKind.u64.wrap ((IntKind.u64.wrap ((Go.bits .and .u64 (IntKind.u64.wrap (((IntKind.u64.wrap ((Go.bits .and .u64 ((IntKind.u64.wrap ((Go.bits .and .u64 (a0 / 2) 6148914691236517205)+(Go.bits .and .u64 a0 6148914691236517205))) / 4) 3689348814741910323)+(Go.bits .and .u64 (IntKind.u64.wrap ((Go.bits .and .u64 (a0 / 2) 6148914691236517205)+(Go.bits .and .u64 a0 6148914691236517205))) 3689348814741910323))) / 16)+(IntKind.u64.wrap ((Go.bits .and .u64 ((IntKind.u64.wrap ((Go.bits .and .u64 (a0 / 2) 6148914691236517205)+(Go.bits .and .u64 a0 6148914691236517205))) / 4) 3689348814741910323)+(Go.bits .and .u64 (IntKind.u64.wrap ((Go.bits .and .u64 (a0 / 2) 6148914691236517205)+(Go.bits .and .u64 a0 6148914691236517205))) 3689348814741910323))))) 1085102592571150095)+((Go.bits .and .u64 (IntKind.u64.wrap (((IntKind.u64.wrap ((Go.bits .and .u64 ((IntKind.u64.wrap ((Go.bits .and .u64 (a0 / 2) 6148914691236517205)+(Go.bits .and .u64 a0 6148914691236517205))) / 4) 3689348814741910323)+(Go.bits .and .u64 (IntKind.u64.wrap ((Go.bits .and .u64 (a0 / 2) 6148914691236517205)+(Go.bits .and .u64 a0 6148914691236517205))) 3689348814741910323))) / 16)+(IntKind.u64.wrap ((Go.bits .and .u64 ((IntKind.u64.wrap ((Go.bits .and .u64 (a0 / 2) 6148914691236517205)+(Go.bits .and .u64 a0 6148914691236517205))) / 4) 3689348814741910323)+(Go.bits .and .u64 (IntKind.u64.wrap ((Go.bits .and .u64 (a0 / 2) 6148914691236517205)+(Go.bits .and .u64 a0 6148914691236517205))) 3689348814741910323))))) 1085102592571150095) / 256)))+((IntKind.u64.wrap ((Go.bits .and .u64 (IntKind.u64.wrap (((IntKind.u64.wrap ((Go.bits .and .u64 ((IntKind.u64.wrap ((Go.bits .and .u64 (a0 / 2) 6148914691236517205)+(Go.bits .and .u64 a0 6148914691236517205))) / 4) 3689348814741910323)+(Go.bits .and .u64 (IntKind.u64.wrap ((Go.bits .and .u64 (a0 / 2) 6148914691236517205)+(Go.bits .and .u64 a0 6148914691236517205))) 3689348814741910323))) / 16)+(IntKind.u64.wrap ((Go.bits .and .u64 ((IntKind.u64.wrap ((Go.bits .and .u64 (a0 / 2) 6148914691236517205)+(Go.bits .and .u64 a0 6148914691236517205))) / 4) 3689348814741910323)+(Go.bits .and .u64 (IntKind.u64.wrap ((Go.bits .and .u64 (a0 / 2) 6148914691236517205)+(Go.bits .and .u64 a0 6148914691236517205))) 3689348814741910323))))) 1085102592571150095)+((Go.bits .and .u64 (IntKind.u64.wrap (((IntKind.u64.wrap ((Go.bits .and .u64 ((IntKind.u64.wrap ((Go.bits .and .u64 (a0 / 2) 6148914691236517205)+(Go.bits .and .u64 a0 6148914691236517205))) / 4) 3689348814741910323)+(Go.bits .and .u64 (IntKind.u64.wrap ((Go.bits .and .u64 (a0 / 2) 6148914691236517205)+(Go.bits .and .u64 a0 6148914691236517205))) 3689348814741910323))) / 16)+(IntKind.u64.wrap ((Go.bits .and .u64 ((IntKind.u64.wrap ((Go.bits .and .u64 (a0 / 2) 6148914691236517205)+(Go.bits .and .u64 a0 6148914691236517205))) / 4) 3689348814741910323)+(Go.bits .and .u64 (IntKind.u64.wrap ((Go.bits .and .u64 (a0 / 2) 6148914691236517205)+(Go.bits .and .u64 a0 6148914691236517205))) 3689348814741910323))))) 1085102592571150095) / 256))) / 65536))) / 4294967296)))) 127)
set_option maxHeartbeats 8000000 in
set_option maxRecDepth 100000 in
theorem fW.calls (a0:Int) (r:Int) (w:World) (h:fW.f a0 = some r) :
  Calls Tryz.prog 167 #[.int .u64 a0] w fun e w'=>e = .returned (.int .i64 r)∧cS w w':=by
 unfold fW.f at h
 have H:=h
 clear h
 obtain rfl:=Option.some.inj H
 go_enter Tryz.func167,Tryz.ntmps167
 go_wp2
 go_ret
 exact ⟨af.F,af.G⟩
def fX.f (a0:Int):Option (Int):=(fW.f a0).bind fun j=>(some j)
set_option maxHeartbeats 8000000 in
set_option maxRecDepth 100000 in
theorem fX.calls (a0:Int) (r:Int) (w:World) (h:fX.f a0 = some r) :
  Calls Tryz.prog 148 #[.int .u64 a0] w fun e w'=>e = .returned (.int .i64 r)∧cS w w':=by
 unfold fX.f at h
 have H:=h
 clear h
 obtain ⟨j,y,H⟩:=af.be H
 (try dsimp only at H)
 obtain rfl:=Option.some.inj H
 go_enter Tryz.func148,Tryz.ntmps148
 go_wp2_with (first | (refine af.gl (some 7) Tryz.func167 #[.int .u64 a0] ?_;(with_reducible refine (fW.calls a0 j _ y.out).mono ?_);rintro e w' ⟨rfl,⟨nd,rfl⟩⟩;refine ⟨_,rfl,?_⟩))
 go_ret
 exact ⟨af.F,af.G⟩
def eU.f (a0:Int):Option (Int):=(dB.f a0).bind fun j=>(if j = true then ((fX.f (IntKind.u64.wrap (a0))).bind fun y=>(some y)) else (some 0))
set_option maxHeartbeats 8000000 in
set_option maxRecDepth 100000 in
theorem eU.calls (a0:Int) (r:Int) (w:World) (h:eU.f a0 = some r) :
  Calls Tryz.prog 117 #[.int .i64 a0] w fun e w'=>e = .returned (.int .i64 r)∧cS w w':=by
 unfold eU.f at h
 have H:=h
 clear h
 obtain ⟨y,z,H⟩:=af.be H
 (try dsimp only at H)
 by_cases c3:y = true
 ·subst c3
  replace H:((fX.f (IntKind.u64.wrap (a0))).bind fun j=>(some j)) = some r:=by rw [if_pos rfl] at H;exact H
  obtain ⟨j,X,H⟩:=af.be H
  (try dsimp only at H)
  obtain rfl:=Option.some.inj H
  go_enter Tryz.func117,Tryz.ntmps117
  go_wp2_with (first | (refine af.gl (some 4) Tryz.func147 #[.int .i64 a0] ?_;(with_reducible refine (dB.calls a0 true _ z.out).mono ?_);rintro e w' ⟨rfl,⟨nd,rfl⟩⟩;refine ⟨_,rfl,?_⟩) | (refine af.gl (some 8) Tryz.func148 #[.int .u64 (IntKind.u64.wrap (a0))] ?_;(with_reducible refine (fX.calls (IntKind.u64.wrap (a0)) j _ X.out).mono ?_);rintro e w' ⟨rfl,⟨nd,rfl⟩⟩;refine ⟨_,rfl,?_⟩))
  go_ret
  exact ⟨af.F,af.G⟩
 ·replace c3:=Bool.eq_false_iff.mpr c3
  subst c3
  replace H:(some 0) = some r:=by rw [if_neg (show ¬ (false = true) by decide)] at H;exact H
  obtain rfl:=Option.some.inj H
  go_enter Tryz.func117,Tryz.ntmps117
  go_wp2_with (first | (refine af.gl (some 4) Tryz.func147 #[.int .i64 a0] ?_;(with_reducible refine (dB.calls a0 false _ z.out).mono ?_);rintro e w' ⟨rfl,⟨nd,rfl⟩⟩;refine ⟨_,rfl,?_⟩))
  go_ret
  exact ⟨af.F,af.G⟩
def bR.l0:Nat→Int→Int→List Int→Int→Int→Option (Int)
 | 0,_,_,_,_,_=>none
 | k+1,Y,x5,X,y,j=>if j < y then (if 0≤j then (if j < (X.length:Int) then ((eU.f (Go.bits .and .i64 Y (rd X j))).bind fun z=>(bR.l0 k Y (mx x5 z) X y (wrap64 (j+1)))) else (none)) else (none)) else (some x5)
def bR.f (k:Nat) (y:Int) (j:List Int) (z:Int):Option (Int):=bR.l0 k z 0 j (j.length:Int) 0
theorem bR.cX:∀ k,af.S5 bR.l0 k
 | 0=>by and_intros <;> (repeat intro _) <;> exact af.mz rfl
 | k+1=>by
  have j:=bR.cX k
  and_intros <;> (repeat intro _) <;> unfold bR.l0 <;> exact ⟨af.mt⟩
theorem bR.mono:∀ a0 j a2 k,ic (bR.f k a0 j a2) (bR.f (k+1) a0 j a2):=by
 intro a0 j a2 k
 have y:=bR.cX k
 unfold bR.f
 exact af.mt
instance bR.m:af.V3 bR.f:=fun _ _ _ _=>⟨bR.mono _ _ _ _⟩
set_option maxHeartbeats 8000000 in
set_option maxRecDepth 100000 in
theorem bR.calls (k:Nat) (a2:Int) (a3:Option Addr) (a4:Nat) (j:List Int) (a1:Int) (r:Int) (w:World) (a6:Kd.C (Kd.int .i64) w a3 j.length j) (a7:j.length≤a4) (h:bR.f k a2 j a1 = some r) :
  Calls Tryz.prog 102 #[.agg #[.int .i64 a2,.slice a3 j.length a4],.int .i64 a1] w fun e w'=>e = .returned (.int .i64 r)∧Below w.heap.size w w':=by
 have aS:=Tryz.underlying30
 have a8:=ae.mk a6
 have aF:=ae.mk a7
 clear a6 a7
 have HB:=ae.mk (Below.refl w.heap.size w)
 unfold bR.f at h
 have H:=h
 clear h
 have H':=ae.mk H
 clear H
 go_enter Tryz.func102,Tryz.ntmps102
 go_wp2_with (first | (refine af.bx 2 #[.int .i64 a2,.slice a3 j.length a4] 30 ?_;intro a9 hg w3 hbox hb;have Y:=ae.mk hbox;have aL:=af.gw hg HB;have aO:=af.gw hg HB;replace HB:=af.lb HB hb;clear hb hbox hg;obtain ⟨ap,ar,aw,aB⟩:=af.bw Y.out))
 go_loopg [5,11] k (fun kq v5 v11 w'=>∃ (X:Int) (y:Int),v5 = .int .i64 X∧v11 = .int .i64 y∧ae (bR.l0 kq a1 X j (j.length:Int) y = some r)∧ae (kq≤k)∧ae (w'.heap[a9]? = some (.cells #[.int .i64 a2,(.slice a3 j.length a4)] 30 (0,0)))∧ae (Below w.heap.size w w'))
 case atStart=>exact ⟨(0),(0),af.F,af.F,H',⟨Nat.le_refl _⟩,⟨af.Bw Y.out⟩,⟨af.Lw HB.out⟩⟩
 case round =>
  clear H'
  obtain ⟨X,y,rfl,rfl,HA,ab,Y,HB⟩:=hrel
  cases gk with
  | zero=>exact absurd HA.out (by simp [bR.l0])
  | succ k1 =>
   have H:=HA.out
   clear HA
   simp only [bR.l0] at H
   by_cases c5:y < (j.length:Int)
   ·rw [if_pos c5] at H
    have am:=decide_eq_true c5
    clear c5
    obtain ⟨c6,H⟩:=af.ip H
    have b0:=decide_eq_true c6
    clear c6
    obtain ⟨c7,H⟩:=af.ip H
    have b2:=decide_eq_true c7
    clear c7
    obtain ⟨a5,A8,H⟩:=af.be H
    (try dsimp only at H)
    obtain ⟨aa,a0⟩:∃ j_:Int,(mx X a5) = j_:=⟨_,rfl⟩
    replace H:(bR.l0 k1 a1 aa j (j.length:Int) (wrap64 (y+1))) = some r:=by first | (rw [a0] at H;exact H) | (simp only [a0] at H ⊢;exact H)
    (try rw [a0] at A8)
    have aP:(if X < a5 then a5 else X) = aa:=a0
    have H':=ae.mk H
    clear H
    obtain ⟨aR,ao,z,b3,b4⟩:=af.ai a8.out y
    cases ao
    try replace z:=(HB.out.cell (World.block_lt_of_cell? w _ z)).trans z
    go_wp2_with (first | (refine af.gl (some 19) Tryz.func117 #[.int .i64 (Go.bits .and .i64 a1 (rd j y))] ?_;(with_reducible refine (eU.calls (Go.bits .and .i64 a1 (rd j y)) a5 _ A8.out).mono ?_);rintro e w' ⟨rfl,⟨nd,rfl⟩⟩;refine ⟨_,rfl,?_⟩))
    go_roundg k1
    case measure=>have:=ab.out;omega
    case rel=>exact ⟨(aa),(wrap64 (y+1)),(by first | rfl | (simp;done) | (simp only [← a0] <;> (first | rfl | simp)) | (simp [*];done)),af.F,H',⟨by have:=ab.out;omega⟩,⟨af.Bw Y.out⟩,⟨af.Lw HB.out⟩⟩
   ·rw [if_neg c5] at H
    have am:decide (y < (j.length:Int)) = false:=decide_eq_false c5
    clear c5
    obtain rfl:=Option.some.inj H
    go_wp2
    go_ret
    exact ⟨af.E,af.L⟩
def b6.l0:Nat→Int→Int→Int→Int→Int→List Int→Option (Int)
 | 0,_,_,_,_,_,_=>none
 | k+1,Y,x5,x6,z,j,y=>if z < j then (if 0≤z then ((bR.f k j y (Go.bits .or .i64 Y (shl .i64 1 z))).bind fun X=>(if X = x5 then (b6.l0 k Y x5 (Go.bits .or .i64 x6 (shl .i64 1 z)) (wrap64 (z+1)) j y) else (b6.l0 k Y x5 x6 (wrap64 (z+1)) j y))) else (none)) else (some x6)
def b6.f (k:Nat) (j:Int) (y:List Int) (X:Int):Option (Int):=(bR.f k j y X).bind fun z=>(b6.l0 k X z 0 0 j y)
theorem b6.cX:∀ k,af.S6 b6.l0 k
 | 0=>by and_intros <;> (repeat intro _) <;> exact af.mz rfl
 | k+1=>by
  have j:=b6.cX k
  and_intros <;> (repeat intro _) <;> unfold b6.l0 <;> exact ⟨af.mt⟩
theorem b6.mono:∀ a0 j a2 k,ic (b6.f k a0 j a2) (b6.f (k+1) a0 j a2):=by
 intro a0 j a2 k
 have y:=b6.cX k
 unfold b6.f
 exact af.mt
instance b6.m:af.V3 b6.f:=fun _ _ _ _=>⟨b6.mono _ _ _ _⟩
def b6.T6:Bool×List (List Nat×List Nat):=(true,[([],[]),([],[]),([],[]),([2],[2]),([1,3],[1,3]),([0,4],[0,4]),([],[]),([5,6],[5,6])])
def b6.B6:List Nat:=[0,0,0,4,14,31,0,127]
theorem b6.lS:gm .any (opsOf Tryz.f106 6) = b6.T6:=by kernel_rfl
theorem b6.jA:eT b6.T6.2 b6.B6 = true:=by kernel_rfl
set_option maxHeartbeats 8000000 in
set_option maxRecDepth 100000 in
theorem b6.calls (k:Nat) (X:Int) (a2:Option Addr) (a3:Nat) (z:List Int) (a1:Int) (r:Int) (w:World) (am:Kd.C (Kd.int .i64) w a2 z.length z) (ao:z.length≤a3) (h:b6.f k X z a1 = some r) :
  Calls Tryz.prog 106 #[.agg #[.int .i64 X,.slice a2 z.length a3],.int .i64 a1] w fun e w'=>e = .returned (.int .i64 r)∧Below w.heap.size w w':=by
 have d2:=Tryz.underlying30
 have a9:=ae.mk am
 have aa:=ae.mk ao
 clear am ao
 have HB:=ae.mk (Below.refl w.heap.size w)
 unfold b6.f at h
 have H:=h
 clear h
 obtain ⟨a0,A3,H⟩:=af.be H
 (try dsimp only at H)
 have H':=ae.mk H
 clear H
 go_enter Tryz.func106,Tryz.ntmps106
 go_wp2_with (first | (refine af.bx 2 #[.int .i64 X,.slice a2 z.length a3] 30 ?_;intro a6 hg w4 hbox hb;have j:=ae.mk hbox;have cc:=af.gw hg HB;have ce:=af.gw hg HB;replace HB:=af.lb HB hb;clear hb hbox hg;obtain ⟨c0,c1,ca,cb⟩:=af.bw j.out) | (refine af.gl (some 10) Tryz.func102 #[.agg #[.int .i64 X,.slice a2 z.length a3],.int .i64 a1] ?_;(with_reducible refine (bR.calls k X _ _ z a1 a0 _ ?side1 ?side2 A3.out).mono ?_);(case side1=>exact af.Cw (Kd.aT a9.out HB.out));(case side2=>exact aa.out);rintro e w6 ⟨rfl,hb⟩;refine ⟨_,rfl,?_⟩;replace j:=af.bb j hb;replace HB:=af.lb HB hb;(try clear hb);(try clear aO);(try clear hk);(try clear hi)))
 go_loopg [6,7] k (fun kq v6 v7 w'=>∃ (a7:Int) (y:Int),v6 = .int .i64 a7∧v7 = .int .i64 y∧ae (b6.l0 kq a1 a0 a7 y X z = some r)∧ae (kq≤k)∧ae (w'.heap[a6]? = some (.cells #[.int .i64 X,(.slice a2 z.length a3)] 30 (0,0)))∧ae (Below w.heap.size w w'))
 case atStart=>exact ⟨(0),(0),af.F,af.F,H',⟨Nat.le_refl _⟩,⟨af.Bw j.out⟩,⟨af.Lw HB.out⟩⟩
 case round =>
  clear H'
  obtain ⟨a7,y,rfl,rfl,HA,aw,j,HB⟩:=hrel
  cases gk with
  | zero=>exact absurd HA.out (by simp [b6.l0])
  | succ k1 =>
   have H:=HA.out
   clear HA
   simp only [b6.l0] at H
   by_cases c7:y < X
   ·rw [if_pos c7] at H
    have aP:=decide_eq_true c7
    clear c7
    obtain ⟨c8,H⟩:=af.ip H
    have d3:=eq_true c8
    have d4:decide (0≤y) = true:=decide_eq_true c8
    clear c8
    obtain ⟨a5,a8⟩:∃ j_:Int,(shl .i64 1 y) = j_:=⟨_,rfl⟩
    replace H:((bR.f k1 X z (Go.bits .or .i64 a1 (a5))).bind fun a4=>(if a4 = a0 then (b6.l0 k1 a1 a0 (Go.bits .or .i64 a7 (a5)) (wrap64 (y+1)) X z) else (b6.l0 k1 a1 a0 a7 (wrap64 (y+1)) X z))) = some r:=by first | (rw [a8] at H;exact H) | (simp only [a8] at H ⊢;exact H)
    have ap:(IntKind.i64.wrap (1 * 2 ^ min y.toNat 64)) = a5:=a8
    have ar:y≤64→(IntKind.i64.wrap (1 * 2 ^ y.toNat)) = a5:=fI a8
    have cf:(IntKind.i64.wrap (2 ^ min y.toNat 64)) = a5:=by have h_:=ap;rw [Int.one_mul] at h_;exact h_
    have ci:y≤64→(IntKind.i64.wrap (2 ^ y.toNat)) = a5:=fun aR=>by have h_:=ar aR;rw [Int.one_mul] at h_;exact h_
    have cp:(wrap64 (1 * 2 ^ min y.toNat 64)) = a5:=(aM _).symm.trans ap
    have d0:y≤64→(wrap64 (1 * 2 ^ y.toNat)) = a5:=fun h_=>(aM _).symm.trans (ar h_)
    obtain ⟨a4,aS,H⟩:=af.be H
    (try dsimp only at H)
    by_cases ab:a4 = a0
    ·rw [if_pos ab] at H
     have aB:(a4 == a0) = true:=beq_iff_eq.mpr ab
     have aF:(a4 != a0) = false:=bne_eq_false_iff_eq.mpr ab
     clear ab
     have d1:=eq_true (af.D:0≤y)
     have H':=ae.mk H
     clear H
     obtain ⟨b0,b2,b3,b4⟩:=af.bw j.out
     try go_wp2
     replace j:=ae.mk (cO j.out)
     replace HB:=ae.mk (cn HB.out)
     refine eM (n:=8) (S:=fun w'=>w'.cell? ⟨a6,0,none⟩ = some (.int .i64 X)∧w'.cell? ⟨a6,1,none⟩ = some (.slice a2 z.length a3)) (ds:=[]) #[false,false,false,false,false,false,false,false] (by kernel_rfl) rfl rfl ⟨(ak j.out 0).trans rfl,(ak j.out 1).trans rfl⟩ (fun hHeld=>?_);refine dc b6.lS b6.jA (fun Y aL=>?_)
     generalize wr.drew = d5 at j HB hHeld ⊢
     refine af.pu 1 18 Y ?_
     refine af.pu 2 19 Y ?_
     refine af.pu 3 20 Y ?_
     refine af.pu 4 21 Y ?_
     refine af.pu 6 23 Y ?_
     refine af.tk 0 17 Y aL hHeld ?_
     refine fN (i:=5) (N:=some 22) #[true,true,true,true,true,true,true,false] rfl rfl (da Y.out (by kernel_rfl)) (by decide) (fun K hK=>?_)
     refine fC Tryz.func102 (by kernel_rfl) rfl #[.agg #[.int .i64 X,.slice a2 z.length a3],.int .i64 (Go.bits .or .i64 a1 (a5))] (by rfl) rfl rfl (by (try simp only [List.map_toArray,List.map_cons,List.map_nil]);first | done | (simp only [a8];rfl) | rfl | (simp only [List.length_drop,List.length_take];rfl)) ?_
     with_reducible refine (bR.calls k1 X _ _ z (Go.bits .or .i64 a1 (a5)) a4 _ ?side1 ?side2 aS.out).mono ?_
     (case side1=>exact af.Cw (Kd.aT a9.out HB.out))
     (case side2=>exact aa.out)
     rintro e d6 ⟨rfl,hb⟩
     refine ⟨_,rfl,?_⟩
     replace j:=af.bb j hb
     replace HB:=af.lb HB hb
     (try clear hb)
     (try clear aO)
     (try clear hk)
     (try clear hi)
     refine hK.out _ _ ⟨(ak j.out 0).trans rfl,(ak j.out 1).trans rfl⟩ (fun hHeld=>?_)
     clear hK K
     refine er (a':=?_) ?_ ?_
     rotate_left
     ·show Act.put _ (some 22) _ = _
      simp only [Act.put,List.setIfInBounds_toArray,List.set_cons_zero,List.set_cons_succ,aM,b8]
      rfl
     refine af.pu 7 24 Y ?_
     refine fO (dU Y.out (by kernel_rfl)) ?_
     try go_wp2
     go_roundg k1
     case measure=>have:=aw.out;omega
     case rel=>exact ⟨(Go.bits .or .i64 a7 (a5)),(wrap64 (y+1)),(by first | rfl | (simp;done) | (simp only [← a8] <;> (first | rfl | simp)) | (simp [*];done)),af.F,H',⟨by have:=aw.out;omega⟩,⟨af.Bw j.out⟩,⟨af.Lw HB.out⟩⟩
    ·rw [if_neg ab] at H
     have aB:(a4 == a0) = false:=beq_eq_false_iff_ne.mpr ab
     have aF:(a4 != a0) = true:=bne_iff_ne.mpr ab
     have H':=ae.mk H
     clear H
     obtain ⟨b5,ba,bc,bi⟩:=af.bw j.out
     try go_wp2
     replace j:=ae.mk (cO j.out)
     replace HB:=ae.mk (cn HB.out)
     refine eM (n:=8) (S:=fun w'=>w'.cell? ⟨a6,0,none⟩ = some (.int .i64 X)∧w'.cell? ⟨a6,1,none⟩ = some (.slice a2 z.length a3)) (ds:=[]) #[false,false,false,false,false,false,false,false] (by kernel_rfl) rfl rfl ⟨(ak j.out 0).trans rfl,(ak j.out 1).trans rfl⟩ (fun hHeld=>?_);refine dc b6.lS b6.jA (fun Y aL=>?_)
     generalize wr.drew = d7 at j HB hHeld ⊢
     refine af.pu 1 18 Y ?_
     refine af.pu 2 19 Y ?_
     refine af.pu 3 20 Y ?_
     refine af.pu 4 21 Y ?_
     refine af.pu 6 23 Y ?_
     refine af.tk 0 17 Y aL hHeld ?_
     refine fN (i:=5) (N:=some 22) #[true,true,true,true,true,true,true,false] rfl rfl (da Y.out (by kernel_rfl)) (by decide) (fun K hK=>?_)
     refine fC Tryz.func102 (by kernel_rfl) rfl #[.agg #[.int .i64 X,.slice a2 z.length a3],.int .i64 (Go.bits .or .i64 a1 (a5))] (by rfl) rfl rfl (by (try simp only [List.map_toArray,List.map_cons,List.map_nil]);first | done | (simp only [a8];rfl) | rfl | (simp only [List.length_drop,List.length_take];rfl)) ?_
     with_reducible refine (bR.calls k1 X _ _ z (Go.bits .or .i64 a1 (a5)) a4 _ ?side1 ?side2 aS.out).mono ?_
     (case side1=>exact af.Cw (Kd.aT a9.out HB.out))
     (case side2=>exact aa.out)
     rintro e d8 ⟨rfl,hb⟩
     refine ⟨_,rfl,?_⟩
     replace j:=af.bb j hb
     replace HB:=af.lb HB hb
     (try clear hb)
     (try clear aO)
     (try clear hk)
     (try clear hi)
     refine hK.out _ _ ⟨(ak j.out 0).trans rfl,(ak j.out 1).trans rfl⟩ (fun hHeld=>?_)
     clear hK K
     refine er (a':=?_) ?_ ?_
     rotate_left
     ·show Act.put _ (some 22) _ = _
      simp only [Act.put,List.setIfInBounds_toArray,List.set_cons_zero,List.set_cons_succ,aM,b8]
      rfl
     refine af.pu 7 24 Y ?_
     refine fO (dU Y.out (by kernel_rfl)) ?_
     try go_wp2
     go_roundg k1
     case measure=>have:=aw.out;omega
     case rel=>exact ⟨(a7),(wrap64 (y+1)),af.F,af.F,H',⟨by have:=aw.out;omega⟩,⟨af.Bw j.out⟩,⟨af.Lw HB.out⟩⟩
   ·rw [if_neg c7] at H
    have aP:decide (y < X) = false:=decide_eq_false c7
    clear c7
    obtain rfl:=Option.some.inj H
    obtain ⟨bm,bo,bs,bv⟩:=af.bw j.out
    go_wp2
    go_ret
    exact ⟨af.E,af.L⟩
def eu.f (a0:Int):Option (Bool):=if a0≥0 then (some (decide (a0≤8))) else (some false)
set_option maxHeartbeats 8000000 in
set_option maxRecDepth 100000 in
theorem eu.calls (a0:Int) (r:Bool) (w:World) (h:eu.f a0 = some r) :
  Calls Tryz.prog 123 #[.int .i64 a0] w fun e w'=>e = .returned (.bool r)∧cS w w':=by
 unfold eu.f at h
 have H:=h
 clear h
 by_cases c2:a0≥0
 ·rw [if_pos c2] at H
  have j:=decide_eq_true c2
  clear c2
  obtain rfl:=Option.some.inj H
  go_enter Tryz.func123,Tryz.ntmps123
  go_wp2
  go_ret
  exact ⟨af.F,af.G⟩
 ·rw [if_neg c2] at H
  have j:decide (0≤a0) = false:=decide_eq_false c2
  clear c2
  obtain rfl:=Option.some.inj H
  go_enter Tryz.func123,Tryz.ntmps123
  go_wp2
  go_ret
  exact ⟨af.F,af.G⟩
def eR.f (a0:Int) (y:Int):Option (Bool):=(eu.f a0).bind fun j=>(if j = true then (if y≥0 then (if 0≤a0 then (some (decide (y < (shl .i64 1 a0)))) else (none)) else (some false)) else (some false))
set_option maxHeartbeats 8000000 in
set_option maxRecDepth 100000 in
theorem eR.calls (a0:Int) (Y:Int) (r:Bool) (w:World) (h:eR.f a0 Y = some r) :
  Calls Tryz.prog 82 #[.int .i64 a0,.int .i64 Y] w fun e w'=>e = .returned (.bool r)∧cS w w':=by
 unfold eR.f at h
 have H:=h
 clear h
 obtain ⟨a2,A3,H⟩:=af.be H
 (try dsimp only at H)
 by_cases c4:a2 = true
 ·subst c4
  replace H:(if Y≥0 then (if 0≤a0 then (some (decide (Y < (shl .i64 1 a0)))) else (none)) else (some false)) = some r:=by rw [if_pos rfl] at H;exact H
  by_cases c5:Y≥0
  ·rw [if_pos c5] at H
   have a3:=decide_eq_true c5
   clear c5
   obtain ⟨c6,H⟩:=af.ip H
   have a9:=eq_true c6
   have aa:decide (0≤a0) = true:=decide_eq_true c6
   clear c6
   obtain ⟨y,j⟩:∃ j_:Int,(shl .i64 1 a0) = j_:=⟨_,rfl⟩
   replace H:(some (decide (Y < (y)))) = some r:=by first | (rw [j] at H;exact H) | (simp only [j] at H ⊢;exact H)
   (try rw [j] at A3)
   have z:(IntKind.i64.wrap (1 * 2 ^ min a0.toNat 64)) = y:=j
   have X:a0≤64→(IntKind.i64.wrap (1 * 2 ^ a0.toNat)) = y:=fI j
   have a5:(IntKind.i64.wrap (2 ^ min a0.toNat 64)) = y:=by have h_:=z;rw [Int.one_mul] at h_;exact h_
   have a6:a0≤64→(IntKind.i64.wrap (2 ^ a0.toNat)) = y:=fun a4=>by have h_:=X a4;rw [Int.one_mul] at h_;exact h_
   have a7:(wrap64 (1 * 2 ^ min a0.toNat 64)) = y:=(aM _).symm.trans z
   have a8:a0≤64→(wrap64 (1 * 2 ^ a0.toNat)) = y:=fun h_=>(aM _).symm.trans (X h_)
   obtain rfl:=Option.some.inj H
   go_enter Tryz.func82,Tryz.ntmps82
   go_wp2_with (first | (refine af.gl (some 6) Tryz.func123 #[.int .i64 a0] ?_;(with_reducible refine (eu.calls a0 true _ A3.out).mono ?_);rintro e w' ⟨rfl,⟨nd,rfl⟩⟩;refine ⟨_,rfl,?_⟩))
   go_ret
   exact ⟨by first | rfl | (simp;done) | (simp only [← j] <;> (first | rfl | simp)) | (simp [*];done),af.G⟩
  ·rw [if_neg c5] at H
   have a3:decide (0≤Y) = false:=decide_eq_false c5
   clear c5
   obtain rfl:=Option.some.inj H
   go_enter Tryz.func82,Tryz.ntmps82
   go_wp2_with (first | (refine af.gl (some 6) Tryz.func123 #[.int .i64 a0] ?_;(with_reducible refine (eu.calls a0 true _ A3.out).mono ?_);rintro e w' ⟨rfl,⟨nd,rfl⟩⟩;refine ⟨_,rfl,?_⟩))
   go_ret
   exact ⟨af.F,af.G⟩
 ·replace c4:=Bool.eq_false_iff.mpr c4
  subst c4
  replace H:(some false) = some r:=by rw [if_neg (show ¬ (false = true) by decide)] at H;exact H
  obtain rfl:=Option.some.inj H
  go_enter Tryz.func82,Tryz.ntmps82
  go_wp2_with (first | (refine af.gl (some 6) Tryz.func123 #[.int .i64 a0] ?_;(with_reducible refine (eu.calls a0 false _ A3.out).mono ?_);rintro e w' ⟨rfl,⟨nd,rfl⟩⟩;refine ⟨_,rfl,?_⟩))
  go_ret
  exact ⟨af.F,af.G⟩
def cv.l0:Nat→Int→List Int→List Int→Int→Int→Option (Bool)
 | 0,_,_,_,_,_=>none
 | k+1,Y,x1,y,x8,j=>if j < x8 then (if 0≤j then (if j < (y.length:Int) then ((eR.f Y (rd y j)).bind fun z=>(if z = true then (if j > 0 then (if 0≤(wrap64 (j - 1)) then (if (wrap64 (j - 1)) < (x1.length:Int) then (if (rd y j)≤(rd x1 (wrap64 (j - 1))) then (some false) else (cv.l0 k Y x1 y x8 (wrap64 (j+1)))) else (none)) else (none)) else (cv.l0 k Y x1 y x8 (wrap64 (j+1)))) else (some false))) else (none)) else (none)) else ((eu.f Y).bind fun X=>(some X))
def cv.f (k:Nat) (a0:Int) (l1:List Int):Option (Bool):=cv.l0 k a0 l1 l1 (l1.length:Int) 0
set_option maxHeartbeats 8000000 in
set_option maxRecDepth 100000 in
theorem cv.calls (k:Nat) (a0:Int) (A1:Option Addr) (c1:Nat) (l1:List Int) (r:Bool) (w:World) (ao:Kd.C (Kd.int .i64) w A1 l1.length l1) (ap:l1.length≤c1) (h:cv.f k a0 l1 = some r) :
  Calls Tryz.prog 150 #[.int .i64 a0,.slice A1 l1.length c1] w fun e w'=>e = .returned (.bool r)∧cS w w':=by
 have a5:=ae.mk ao
 have b3:=ae.mk ap
 clear ao ap
 unfold cv.f at h
 have H:=h
 clear h
 have H':=ae.mk H
 clear H
 go_enter Tryz.func150,Tryz.ntmps150
 go_wp2
 go_loopg [9] k (fun kq v9 w'=>∃ (j:Int),v9 = .int .i64 j∧ae (cv.l0 kq a0 l1 l1 (l1.length:Int) j = some r)∧ae (kq≤k)∧cS w w')
 case atStart=>exact ⟨(0),af.F,H',⟨Nat.le_refl _⟩,af.G⟩
 case round =>
  clear H'
  obtain ⟨j,rfl,HA,ab,⟨m1,rfl⟩⟩:=hrel
  cases gk with
  | zero=>exact absurd HA.out (by simp [cv.l0])
  | succ k1 =>
   have H:=HA.out
   clear HA
   simp only [cv.l0] at H
   by_cases c3:j < (l1.length:Int)
   ·rw [if_pos c3] at H
    have ar:=decide_eq_true c3
    clear c3
    obtain ⟨c4,H⟩:=af.ip H
    have b0:=decide_eq_true c4
    clear c4
    obtain ⟨c5,H⟩:=af.ip H
    have b2:=decide_eq_true c5
    clear c5
    obtain ⟨aw,A6,H⟩:=af.be H
    (try dsimp only at H)
    by_cases c7:aw = true
    ·subst c7
     replace H:(if j > 0 then (if 0≤(wrap64 (j - 1)) then (if (wrap64 (j - 1)) < (l1.length:Int) then (if (rd l1 j)≤(rd l1 (wrap64 (j - 1))) then (some false) else (cv.l0 k1 a0 l1 l1 (l1.length:Int) (wrap64 (j+1)))) else (none)) else (none)) else (cv.l0 k1 a0 l1 l1 (l1.length:Int) (wrap64 (j+1)))) = some r:=by rw [if_pos rfl] at H;exact H
     by_cases c8:j > 0
     ·rw [if_pos c8] at H
      have aB:=decide_eq_true c8
      clear c8
      obtain ⟨y,a3⟩:∃ j_:Int,(wrap64 (j - 1)) = j_:=⟨_,rfl⟩
      replace H:(if 0≤(y) then (if (y) < (l1.length:Int) then (if (rd l1 j)≤(rd l1 (y)) then (some false) else (cv.l0 k1 a0 l1 l1 (l1.length:Int) (wrap64 (j+1)))) else (none)) else (none)) = some r:=by first | (rw [a3] at H;exact H) | (simp only [a3] at H ⊢;exact H)
      (try rw [a3] at A6)
      have aO:(IntKind.i64.wrap (j - 1)) = y:=(aM _).trans a3
      obtain ⟨gX,H⟩:=af.ip H
      have aP:=decide_eq_true gX
      clear gX
      obtain ⟨aF,H⟩:=af.ip H
      have aR:=decide_eq_true aF
      clear aF
      by_cases a6:(rd l1 j)≤(rd l1 (y))
      ·rw [if_pos a6] at H
       have am:=decide_eq_true a6
       clear a6
       obtain rfl:=Option.some.inj H
       obtain ⟨z,X,Y,a7,a8⟩:=af.ai a5.out j
       cases X
       go_wp2_with (first | (refine af.gl (some 16) Tryz.func82 #[.int .i64 a0,.int .i64 (rd l1 j)] ?_;(with_reducible refine (eR.calls a0 (rd l1 j) true _ A6.out).mono ?_);rintro e w' ⟨rfl,⟨nd,rfl⟩⟩;refine ⟨_,rfl,?_⟩;have a1:0≤((y):Int):=af.D;have a2:(y) < (l1.length:Int):=af.D;obtain ⟨a4,a9,aa⟩:=Kd.ey a5.out (y) a1 a2;obtain rfl:z = a4:=(by injection a9);replace a1:=eq_true a1;replace a2:=eq_true a2))
       go_ret
       exact ⟨by first | rfl | (simp;done) | (simp only [← a3] <;> (first | rfl | simp)) | (simp [*];done),af.G⟩
      ·rw [if_neg a6] at H
       have am:decide ((rd l1 j)≤(rd l1 (y))) = false:=decide_eq_false a6
       clear a6
       have H':=ae.mk H
       clear H
       obtain ⟨z,X,Y,a7,a8⟩:=af.ai a5.out j
       cases X
       go_wp2_with (first | (refine af.gl (some 16) Tryz.func82 #[.int .i64 a0,.int .i64 (rd l1 j)] ?_;(with_reducible refine (eR.calls a0 (rd l1 j) true _ A6.out).mono ?_);rintro e w' ⟨rfl,⟨nd,rfl⟩⟩;refine ⟨_,rfl,?_⟩;have a1:0≤((y):Int):=af.D;have a2:(y) < (l1.length:Int):=af.D;obtain ⟨a4,a9,aa⟩:=Kd.ey a5.out (y) a1 a2;obtain rfl:z = a4:=(by injection a9);replace a1:=eq_true a1;replace a2:=eq_true a2))
       go_roundg k1
       case measure=>have:=ab.out;omega
       case rel=>exact ⟨(wrap64 (j+1)),af.F,H',⟨by have:=ab.out;omega⟩,af.G⟩
     ·rw [if_neg c8] at H
      have aB:decide (0 < j) = false:=decide_eq_false c8
      clear c8
      have H':=ae.mk H
      clear H
      obtain ⟨z,X,Y,a7,a8⟩:=af.ai a5.out j
      cases X
      go_wp2_with (first | (refine af.gl (some 16) Tryz.func82 #[.int .i64 a0,.int .i64 (rd l1 j)] ?_;(with_reducible refine (eR.calls a0 (rd l1 j) true _ A6.out).mono ?_);rintro e w' ⟨rfl,⟨nd,rfl⟩⟩;refine ⟨_,rfl,?_⟩))
      go_roundg k1
      case measure=>have:=ab.out;omega
      case rel=>exact ⟨(wrap64 (j+1)),af.F,H',⟨by have:=ab.out;omega⟩,af.G⟩
    ·replace c7:=Bool.eq_false_iff.mpr c7
     subst c7
     replace H:(some false) = some r:=by rw [if_neg (show ¬ (false = true) by decide)] at H;exact H
     obtain rfl:=Option.some.inj H
     obtain ⟨z,X,Y,a7,a8⟩:=af.ai a5.out j
     cases X
     go_wp2_with (first | (refine af.gl (some 16) Tryz.func82 #[.int .i64 a0,.int .i64 (rd l1 j)] ?_;(with_reducible refine (eR.calls a0 (rd l1 j) false _ A6.out).mono ?_);rintro e w' ⟨rfl,⟨nd,rfl⟩⟩;refine ⟨_,rfl,?_⟩))
     go_ret
     exact ⟨af.F,af.G⟩
   ·rw [if_neg c3] at H
    have ar:decide (j < (l1.length:Int)) = false:=decide_eq_false c3
    clear c3
    obtain ⟨aL,aS,H⟩:=af.be H
    (try dsimp only at H)
    obtain rfl:=Option.some.inj H
    go_wp2_with (first | (refine af.gl (some 33) Tryz.func123 #[.int .i64 a0] ?_;(with_reducible refine (eu.calls a0 aL _ aS.out).mono ?_);rintro e w' ⟨rfl,⟨nd,rfl⟩⟩;refine ⟨_,rfl,?_⟩))
    go_ret
    exact ⟨af.F,af.G⟩
def eO.f (a0:Int) (y:Int):Option (Bool):=(dB.f a0).bind fun j=>(if j = true then (if y≥0 then (if y < 8 then (if 0≤y then (some ((Go.bits .and .i64 (shr .i64 a0 y) 1) == 1)) else (none)) else (some false)) else (some false)) else (some false))
set_option maxHeartbeats 8000000 in
set_option maxRecDepth 100000 in
theorem eO.calls (a0:Int) (y:Int) (r:Bool) (w:World) (h:eO.f a0 y = some r) :
  Calls Tryz.prog 132 #[.int .i64 a0,.int .i64 y] w fun e w'=>e = .returned (.bool r)∧cS w w':=by
 unfold eO.f at h
 have H:=h
 clear h
 obtain ⟨X,Y,H⟩:=af.be H
 (try dsimp only at H)
 by_cases c4:X = true
 ·subst c4
  replace H:(if y≥0 then (if y < 8 then (if 0≤y then (some ((Go.bits .and .i64 (shr .i64 a0 y) 1) == 1)) else (none)) else (some false)) else (some false)) = some r:=by rw [if_pos rfl] at H;exact H
  by_cases c5:y≥0
  ·rw [if_pos c5] at H
   have a2:=decide_eq_true c5
   clear c5
   by_cases c6:y < 8
   ·rw [if_pos c6] at H
    have a3:=decide_eq_true c6
    clear c6
    obtain ⟨c7,H⟩:=af.ip H
    have a6:=eq_true c7
    have a7:decide (0≤y) = true:=decide_eq_true c7
    clear c7
    obtain ⟨z,j⟩:∃ j_:Int,(shr .i64 a0 y) = j_:=⟨_,rfl⟩
    replace H:(some ((Go.bits .and .i64 (z) 1) == 1)) = some r:=by first | (rw [j] at H;exact H) | (simp only [j] at H ⊢;exact H)
    (try rw [j] at Y)
    have a4:(a0 / 2 ^ min y.toNat 64) = z:=j
    have a5:y≤64→(a0 / 2 ^ y.toNat) = z:=n4 j
    obtain rfl:=Option.some.inj H
    go_enter Tryz.func132,Tryz.ntmps132
    go_wp2_with (first | (refine af.gl (some 6) Tryz.func147 #[.int .i64 a0] ?_;(with_reducible refine (dB.calls a0 true _ Y.out).mono ?_);rintro e w' ⟨rfl,⟨nd,rfl⟩⟩;refine ⟨_,rfl,?_⟩))
    go_ret
    exact ⟨by first | rfl | (simp;done) | (simp only [← j] <;> (first | rfl | simp)) | (simp [*];done),af.G⟩
   ·rw [if_neg c6] at H
    have a3:decide (y < 8) = false:=decide_eq_false c6
    clear c6
    obtain rfl:=Option.some.inj H
    go_enter Tryz.func132,Tryz.ntmps132
    go_wp2_with (first | (refine af.gl (some 6) Tryz.func147 #[.int .i64 a0] ?_;(with_reducible refine (dB.calls a0 true _ Y.out).mono ?_);rintro e w' ⟨rfl,⟨nd,rfl⟩⟩;refine ⟨_,rfl,?_⟩))
    go_ret
    exact ⟨af.F,af.G⟩
  ·rw [if_neg c5] at H
   have a2:decide (0≤y) = false:=decide_eq_false c5
   clear c5
   obtain rfl:=Option.some.inj H
   go_enter Tryz.func132,Tryz.ntmps132
   go_wp2_with (first | (refine af.gl (some 6) Tryz.func147 #[.int .i64 a0] ?_;(with_reducible refine (dB.calls a0 true _ Y.out).mono ?_);rintro e w' ⟨rfl,⟨nd,rfl⟩⟩;refine ⟨_,rfl,?_⟩))
   go_ret
   exact ⟨af.F,af.G⟩
 ·replace c4:=Bool.eq_false_iff.mpr c4
  subst c4
  replace H:(some false) = some r:=by rw [if_neg (show ¬ (false = true) by decide)] at H;exact H
  obtain rfl:=Option.some.inj H
  go_enter Tryz.func132,Tryz.ntmps132
  go_wp2_with (first | (refine af.gl (some 6) Tryz.func147 #[.int .i64 a0] ?_;(with_reducible refine (dB.calls a0 false _ Y.out).mono ?_);rintro e w' ⟨rfl,⟨nd,rfl⟩⟩;refine ⟨_,rfl,?_⟩))
  go_ret
  exact ⟨af.F,af.G⟩
def bM.l0:Nat→Int→List Int→Int→Option (List Int)
 | 0,_,_,_=>none
 | k+1,X,z,j=>if j < 8 then ((eO.f X j).bind fun y=>(if y = true then (if z.length < 17592186044416 then (bM.l0 k X (z ++ [j]) (wrap64 (j+1))) else (none)) else (bM.l0 k X z (wrap64 (j+1))))) else (some z)
def bM.f (k:Nat) (a0:Int):Option (List Int):=bM.l0 k a0 (([]:List Int)) 0
set_option maxHeartbeats 8000000 in
set_option maxRecDepth 100000 in
theorem bM.calls (k:Nat) (a0:Int) (r:List Int) (w:World) (h:bM.f k a0 = some r) :
  Calls Tryz.prog 83 #[.int .i64 a0] w fun e w'=>∃ aa:Value,e = .returned (aa)∧Kd.R (Kd.int .i64) 3 w' w.heap.size (fun _=>True) aa r∧Below w.heap.size w w':=by
 have HB:=ae.mk (Below.refl w.heap.size w)
 unfold bM.f at h
 have H:=h
 clear h
 obtain ⟨a4,z⟩:∃ y_:List Int,y_ = (([]:List Int)):=⟨_,rfl⟩
 replace H:(bM.l0 k a0 a4 0) = some r:=by (try rw [z]);exact af.Z
 have a1:=ae.mk z
 clear z
 have H':=ae.mk H
 clear H
 go_enter Tryz.func83,Tryz.ntmps83
 go_wp2_with (first | (refine af.lt (Kd.int .i64) 3 5 ?_;intro aB w2 a2 hb aw a6;clear aw a6;(first | rw [← a1.out] at a2 | (simp only [Int.reduceToNat] at a2;rw [← a1.out] at a2));have a7:=ae.mk (Kd.aV a2 (av (af.Lw HB.out)));replace HB:=af.lb HB hb;clear hb a2))
 go_loopg [3,4] k (fun kq v3 v4 w'=>∃ (y:List Int) (j:Int),v4 = .int .i64 j∧ae (bM.l0 kq a0 y j = some r)∧ae (kq≤k)∧ae (Kd.R (Kd.int .i64) 3 w' w.heap.size (fun _=>True) v3 y)∧ae (Below w.heap.size w w'))
 case atStart=>exact ⟨(a4),(0),af.F,H',⟨Nat.le_refl _⟩,⟨af.Rw a7.out⟩,⟨af.Lw HB.out⟩⟩
 case round =>
  clear H'
  obtain ⟨y,j,rfl,HA,a3,Y,HB⟩:=hrel
  cases gk with
  | zero=>exact absurd HA.out (by simp [bM.l0])
  | succ k1 =>
   have H:=HA.out
   clear HA
   simp only [bM.l0] at H
   by_cases c4:j < 8
   ·rw [if_pos c4] at H
    have ab:=decide_eq_true c4
    clear c4
    obtain ⟨am,A5,H⟩:=af.be H
    (try dsimp only at H)
    by_cases c6:am = true
    ·subst c6
     replace H:(if y.length < 17592186044416 then (bM.l0 k1 a0 (y ++ [j]) (wrap64 (j+1))) else (none)) = some r:=by rw [if_pos rfl] at H;exact H
     obtain ⟨c7,H⟩:=af.ip H
     have ao:=ae.mk c7
     clear c7
     obtain ⟨a5,X⟩:∃ y_:List Int,y_ = (y ++ [j]):=⟨_,rfl⟩
     replace H:(bM.l0 k1 a0 a5 (wrap64 (j+1))) = some r:=by (try rw [X]);exact af.Z
     have a8:=ae.mk X
     clear X
     have H':=ae.mk H
     clear H
     go_wp2_with (first | (refine af.gl (some 12) Tryz.func132 #[.int .i64 a0,.int .i64 j] ?_;(with_reducible refine (eO.calls a0 j true _ A5.out).mono ?_);rintro e w' ⟨rfl,⟨nd,rfl⟩⟩;refine ⟨_,rfl,?_⟩) | ((with_reducible refine cP (b:=.append) (xs:=#[.tmp 13,.tmp 15]) rfl ?_);at_builtin;refine Kd.eE (Kd.int .i64) (w0:=w) w.heap.size rfl (.tmp 13) (.tmp 15) 28 3 (.int .i64 0) 8 rfl Tryz.underlying28 eI rfl (by decide) (by omega) u3 y j [.int .i64 j] (fun _=>True) (fun _=>False) rfl rfl (by exact rfl) (fun _ hk=>hk.elim) (by exact fun _ _=>trivial) (by exact af.Rw Y.out) (by exact af.Lw HB.out) (by exact av (af.Lw HB.out)) (by have:=ao.out;omega) ?_;intro aF w8 ho hb hg hat;rw [← a8.out] at ho;have ap:=ae.mk hb;have ar:=ae.mk ho;clear HB;clear Y;have HB:=ap;have a9:=ar;clear ap ar;clear ho hb hg hat))
     go_roundg k1
     case measure=>have:=a3.out;omega
     case rel=>exact ⟨(a5),(wrap64 (j+1)),af.F,H',⟨by have:=a3.out;omega⟩,⟨af.Rw a9.out⟩,⟨af.Lw HB.out⟩⟩
    ·replace c6:=Bool.eq_false_iff.mpr c6
     subst c6
     replace H:(bM.l0 k1 a0 y (wrap64 (j+1))) = some r:=by rw [if_neg (show ¬ (false = true) by decide)] at H;exact H
     have H':=ae.mk H
     clear H
     go_wp2_with (first | (refine af.gl (some 12) Tryz.func132 #[.int .i64 a0,.int .i64 j] ?_;(with_reducible refine (eO.calls a0 j false _ A5.out).mono ?_);rintro e w' ⟨rfl,⟨nd,rfl⟩⟩;refine ⟨_,rfl,?_⟩))
     go_roundg k1
     case measure=>have:=a3.out;omega
     case rel=>exact ⟨(y),(wrap64 (j+1)),af.F,H',⟨by have:=a3.out;omega⟩,⟨af.Rw Y.out⟩,⟨af.Lw HB.out⟩⟩
   ·rw [if_neg c4] at H
    have ab:decide (j < 8) = false:=decide_eq_false c4
    clear c4
    obtain rfl:=Option.some.inj H
    go_wp2
    go_ret
    exact ⟨_,af.E,by (with_reducible repeat (first | apply Kd.cH | apply Kd.cI | apply Kd.bl));exact Y.out,af.L⟩
def bO.l0 (g:Int→Option Bool):Nat→List Int→Int→Option Int
 | 0,_,_=>none
 | k+1,y,j=>if j < (y.length:Int) then (if 0≤j then ((g (rd y j)).bind fun t=>(if t = true then (some j) else (bO.l0 g k y (wrap64 (j+1))))) else (none)) else (some (-1))
def bO.f (k:Nat) (l0:List Int) (g:Int→Option Bool):Option Int:=bO.l0 g k l0 0
set_option maxHeartbeats 8000000 in
set_option maxRecDepth 100000 in
theorem bO.calls (k:Nat) (A0:Option Addr) (c0:Nat) (l0:List Int) (fv:Value) (g:Int→Option Bool) (r:Int) (w:World) (a0:Kd.C (Kd.int .i64) w A0 l0.length l0) (hF:af.nO Tryz.prog w fv g) (h:bO.f k l0 g = some r) :
  Calls Tryz.prog 174 #[.slice A0 l0.length c0,fv] w fun e w'=>e = .returned (.int .i64 r)∧Below w.heap.size w w':=by
 have a5:=ae.mk a0
 clear a0
 have HB:=ae.mk (Below.refl w.heap.size w)
 unfold bO.f at h
 have H:=h
 clear h
 have H':=ae.mk H
 clear H
 go_enter Tryz.func174,Tryz.ntmps174
 go_wp2
 go_loopg [8] k (fun kq v8 w'=>∃ (j:Int),v8 = .int .i64 j∧ae (bO.l0 g kq l0 j = some r)∧ae (kq≤k)∧ae (Below w.heap.size w w'))
 case atStart=>exact ⟨0,rfl,H',⟨Nat.le_refl _⟩,HB⟩
 case round =>
  clear H' HB
  obtain ⟨j,rfl,HA,a1,HB⟩:=hrel
  cases gk with
  | zero=>exact absurd HA.out (by simp [bO.l0])
  | succ k1 =>
   have H:=HA.out
   clear HA
   simp only [bO.l0] at H
   by_cases c3:j < (l0.length:Int)
   ·rw [if_pos c3] at H
    have a2:=decide_eq_true c3
    clear c3
    obtain ⟨c4,H⟩:=af.ip H
    have a7:=decide_eq_true c4
    clear c4
    obtain ⟨t,a3,H⟩:=Option.bind_eq_some_iff.mp H
    have A5:=ae.mk a3
    clear a3
    have z:0≤(j:Int):=of_decide_eq_true (by assumption)
    have X:j < (l0.length:Int):=of_decide_eq_true (by assumption)
    obtain ⟨a6,a4,y⟩:=Kd.ey a5.out j z X
    cases a4
    replace y:=(HB.out.cell (World.block_lt_of_cell? w _ y)).trans y
    replace z:=eq_true z
    replace X:=eq_true X
    by_cases c6:t = true
    ·subst c6
     have H1:(some j) = some r:=by rw [if_pos rfl] at H;exact H
     clear H
     obtain rfl:=Option.some.inj H1
     clear H1
     go_wp2_with (first | (refine af.nP (some 16) rfl rfl 11 rfl hF A5.out HB.out rfl (by (try simp only [List.map_toArray,List.map_cons,List.map_nil]);first | done | rfl) ?_;intro w5 hb;have Y:=ae.mk (ax HB.out hb);clear HB;have HB:=Y;clear Y hb))
     go_ret
     exact ⟨rfl,HB.out⟩
    ·replace c6:=Bool.eq_false_iff.mpr c6
     subst c6
     have H1:(bO.l0 g k1 l0 (wrap64 (j+1))) = some r:=by rw [if_neg (show ¬ (false = true) by decide)] at H;exact H
     clear H
     have H':=ae.mk H1
     clear H1
     go_wp2_with (first | (refine af.nP (some 16) rfl rfl 11 rfl hF A5.out HB.out rfl (by (try simp only [List.map_toArray,List.map_cons,List.map_nil]);first | done | rfl) ?_;intro w5 hb;have Y:=ae.mk (ax HB.out hb);clear HB;have HB:=Y;clear Y hb))
     go_roundg k1
     case measure=>have:=a1.out;omega
     case rel=>exact ⟨(wrap64 (j+1)),rfl,H',⟨by have:=a1.out;omega⟩,HB⟩
   ·rw [if_neg c3] at H
    have a2:decide (j < (l0.length:Int)) = false:=decide_eq_false c3
    clear c3
    obtain rfl:=Option.some.inj H
    go_wp2
    go_ret
    exact ⟨rfl,HB.out⟩
def cB.f (k:Nat) (l0:List Int) (g:Int→Option Bool):Option Bool:=(bO.f k l0 g).bind fun t=>some (decide (t≥0))
set_option maxHeartbeats 8000000 in
set_option maxRecDepth 100000 in
theorem cB.calls (k:Nat) (y:Option Addr) (X:Nat) (l0:List Int) (fv:Value) (g:Int→Option Bool) (r:Bool) (w:World) (j:Kd.C (Kd.int .i64) w y l0.length l0) (hF:af.nO Tryz.prog w fv g) (h:cB.f k l0 g = some r) :
  Calls Tryz.prog 159 #[.slice y l0.length X,fv] w fun e w'=>e = .returned (.bool r)∧Below w.heap.size w w':=by
 have z:=ae.mk j
 clear j
 unfold cB.f at h
 obtain ⟨t,h1,h⟩:=Option.bind_eq_some_iff.mp h
 have Y:=ae.mk h1
 clear h1
 obtain rfl:=Option.some.inj h
 clear h
 go_enter Tryz.func159,Tryz.ntmps159
 go_wp2_with (first | (refine af.gl (some 7) Tryz.func174 #[.slice y l0.length X,fv] ?_;(with_reducible refine (bO.calls k _ _ l0 fv g t _ z.out hF Y.out).mono ?_);rintro e w5 ⟨rfl,hb⟩;refine ⟨_,rfl,?_⟩;have HB:=ae.mk hb;clear hb))
 go_ret
 exact ⟨rfl,HB.out⟩
def cx.l0:Nat→List Int→Int→Int→Int→Option (Int)
 | 0,_,_,_,_=>none
 | k+1,y,z,X,j=>if j < X then (if 0≤j then (if j < (y.length:Int) then (if z = (rd y j) then (some j) else (cx.l0 k y z X (wrap64 (j+1)))) else (none)) else (none)) else (some (-1))
def cx.f (k:Nat) (l0:List Int) (j:Int):Option (Int):=cx.l0 k l0 j (l0.length:Int) 0
set_option maxHeartbeats 8000000 in
set_option maxRecDepth 100000 in
theorem cx.calls (k:Nat) (A0:Option Addr) (c0:Nat) (l0:List Int) (X:Int) (r:Int) (w:World) (a0:Kd.C (Kd.int .i64) w A0 l0.length l0) (a2:l0.length≤c0) (h:cx.f k l0 X = some r) :
  Calls Tryz.prog 86 #[.slice A0 l0.length c0,.int .i64 X] w fun e w'=>e = .returned (.int .i64 r)∧cS w w':=by
 have a3:=ae.mk a0
 have am:=ae.mk a2
 clear a0 a2
 unfold cx.f at h
 have H:=h
 clear h
 have H':=ae.mk H
 clear H
 go_enter Tryz.func86,Tryz.ntmps86
 go_wp2
 go_loopg [8] k (fun kq v8 w'=>∃ (j:Int),v8 = .int .i64 j∧ae (cx.l0 kq l0 X (l0.length:Int) j = some r)∧ae (kq≤k)∧cS w w')
 case atStart=>exact ⟨(0),af.F,H',⟨Nat.le_refl _⟩,af.G⟩
 case round =>
  clear H'
  obtain ⟨j,rfl,HA,a4,⟨m1,rfl⟩⟩:=hrel
  cases gk with
  | zero=>exact absurd HA.out (by simp [cx.l0])
  | succ k1 =>
   have H:=HA.out
   clear HA
   simp only [cx.l0] at H
   by_cases c3:j < (l0.length:Int)
   ·rw [if_pos c3] at H
    have a5:=decide_eq_true c3
    clear c3
    obtain ⟨c4,H⟩:=af.ip H
    have aa:=decide_eq_true c4
    clear c4
    obtain ⟨c5,H⟩:=af.ip H
    have ab:=decide_eq_true c5
    clear c5
    by_cases c6:X = (rd l0 j)
    ·rw [if_pos c6] at H
     have a6:(X == (rd l0 j)) = true:=beq_iff_eq.mpr c6
     have a7:(X != (rd l0 j)) = false:=bne_eq_false_iff_eq.mpr c6
     clear c6
     obtain rfl:=Option.some.inj H
     obtain ⟨Y,y,z,a8,a9⟩:=af.ai a3.out j
     cases y
     go_wp2
     go_ret
     exact ⟨af.F,af.G⟩
    ·rw [if_neg c6] at H
     have a6:(X == (rd l0 j)) = false:=beq_eq_false_iff_ne.mpr c6
     have a7:(X != (rd l0 j)) = true:=bne_iff_ne.mpr c6
     have H':=ae.mk H
     clear H
     obtain ⟨Y,y,z,a8,a9⟩:=af.ai a3.out j
     cases y
     go_wp2
     go_roundg k1
     case measure=>have:=a4.out;omega
     case rel=>exact ⟨(wrap64 (j+1)),af.F,H',⟨by have:=a4.out;omega⟩,af.G⟩
   ·rw [if_neg c3] at H
    have a5:decide (j < (l0.length:Int)) = false:=decide_eq_false c3
    clear c3
    obtain rfl:=Option.some.inj H
    go_wp2
    go_ret
    exact ⟨af.F,af.G⟩
def dV.f (k:Nat) (l0:List Int) (y:Int):Option (Bool):=(cx.f k l0 y).bind fun j=>(some (decide (j≥0)))
set_option maxHeartbeats 8000000 in
set_option maxRecDepth 100000 in
theorem dV.calls (k:Nat) (Y:Option Addr) (c0:Nat) (l0:List Int) (X:Int) (r:Bool) (w:World) (j:Kd.C (Kd.int .i64) w Y l0.length l0) (y:l0.length≤c0) (h:dV.f k l0 X = some r) :
  Calls Tryz.prog 179 #[.slice Y l0.length c0,.int .i64 X] w fun e w'=>e = .returned (.bool r)∧cS w w':=by
 have a0:=ae.mk j
 have a2:=ae.mk y
 clear j y
 unfold dV.f at h
 have H:=h
 clear h
 obtain ⟨z,A3,H⟩:=af.be H
 (try dsimp only at H)
 obtain rfl:=Option.some.inj H
 go_enter Tryz.func179,Tryz.ntmps179
 go_wp2_with (first | (refine af.gl (some 7) Tryz.func86 #[.slice Y l0.length c0,.int .i64 X] ?_;(with_reducible refine (cx.calls k _ _ l0 X z _ ?side1 ?side2 A3.out).mono ?_);(case side1=>exact af.Cw a0.out);(case side2=>exact a2.out);rintro e w' ⟨rfl,⟨nd,rfl⟩⟩;refine ⟨_,rfl,?_⟩))
 go_ret
 exact ⟨af.F,af.G⟩
def gr.f (k:Nat) (l0:List Int) (y:Int):Option (Bool):=(dV.f k l0 y).bind fun j=>(some j)
set_option maxHeartbeats 8000000 in
set_option maxRecDepth 100000 in
theorem gr.calls (k:Nat) (Y:Option Addr) (c0:Nat) (l0:List Int) (X:Int) (r:Bool) (w:World) (j:Kd.C (Kd.int .i64) w Y l0.length l0) (y:l0.length≤c0) (h:gr.f k l0 X = some r) :
  Calls Tryz.prog 169 #[.slice Y l0.length c0,.int .i64 X] w fun e w'=>e = .returned (.bool r)∧cS w w':=by
 have a0:=ae.mk j
 have a2:=ae.mk y
 clear j y
 unfold gr.f at h
 have H:=h
 clear h
 obtain ⟨z,A3,H⟩:=af.be H
 (try dsimp only at H)
 obtain rfl:=Option.some.inj H
 go_enter Tryz.func169,Tryz.ntmps169
 go_wp2_with (first | (refine af.gl (some 7) Tryz.func179 #[.slice Y l0.length c0,.int .i64 X] ?_;(with_reducible refine (dV.calls k _ _ l0 X z _ ?side1 ?side2 A3.out).mono ?_);(case side1=>exact af.Cw a0.out);(case side2=>exact a2.out);rintro e w' ⟨rfl,⟨nd,rfl⟩⟩;refine ⟨_,rfl,?_⟩))
 go_ret
 exact ⟨af.F,af.G⟩
def cE.f (k:Nat) (l:List Int) (a e f:Int):Option Bool:=if 0≤e then (if 0≤f then (gr.f k l (Go.bits .or .i64 (Go.bits .andNot .i64 a (shl .i64 1 e)) (shl .i64 1 f))) else (none)) else (none)
mutual
def aJ.l0:Nat→Int→List Int→Int→Option (Int×Int×Int×Bool)
 | 0,_,_,_=>none
 | k+1,n,l,x=>if x < (l.length:Int) then (if 0≤x then (aJ.l1 k n l x (rd l x) 0) else (none)) else (some (0,0,0,false))
def aJ.l1:Nat→Int→List Int→Int→Int→Int→Option (Int×Int×Int×Bool)
 | 0,_,_,_,_,_=>none
 | k+1,n,l,x,a,y=>if y < (l.length:Int) then (if 0≤y then ((bM.f k (Go.bits .andNot .i64 a (rd l y))).bind fun es=>(aJ.l2 k n l x a y (rd l y) es 0)) else (none)) else (aJ.l0 k n l (wrap64 (x+1)))
def aJ.l2:Nat→Int→List Int→Int→Int→Int→Int→List Int→Int→Option (Int×Int×Int×Bool)
 | 0,_,_,_,_,_,_,_,_=>none
 | k+1,n,l,x,a,y,b,es,z=>if z < (es.length:Int) then (if 0≤z then ((bM.f k (Go.bits .andNot .i64 b a)).bind fun fs=>((cB.f k fs (fun f=>cE.f k l a (rd es z) f)).bind fun t=>(if t = true then (aJ.l2 k n l x a y b es (wrap64 (z+1))) else (some (a,b,rd es z,true))))) else (none)) else (aJ.l1 k n l x a (wrap64 (y+1)))
end
def aJ.f (k:Nat) (j:Int) (y:List Int):Option (Int×Int×Int×Bool):=(cv.f k j y).bind fun t=>(if t = true then (aJ.l0 k j y 0) else (some (0,0,0,false)))
set_option maxHeartbeats 8000000 in
set_option maxRecDepth 100000 in
theorem cE.calls (k:Nat) (ao:Int) (a5:Option Addr) (a6:Nat) (j:List Int) (a e f:Int) (b:Bool) (am ap ar:Nat) (w:World) (h1:w.heap[am]? = some (.cells #[.int .i64 ao,(.slice a5 j.length a6)] 30 (0,0))) (h5:w.heap[ap]? = some (.cells #[.int .i64 a] 3 (0,0))) (h9:w.heap[ar]? = some (.cells #[.int .i64 e] 3 (0,0))) (a7:Kd.C (Kd.int .i64) w a5 j.length j) (a8:j.length≤a6) (h:cE.f k j a e f = some b) :
  Calls Tryz.prog 168 #[.int .i64 f,.pointer (some ⟨am,0,none⟩),.pointer (some ⟨ap,0,none⟩),.pointer (some ⟨ar,0,none⟩)] w fun e w'=>e = .returned (.bool b)∧Below w.heap.size w w':=by
 have bm:=Tryz.underlying30
 have HR:=ae.mk a7
 have HC:=ae.mk a8
 have aw:w.cell? ⟨am,0,none⟩ = some (.int .i64 ao):=(ak h1 0).trans rfl
 have aB:w.cell? ⟨am,1,none⟩ = some (.slice a5 j.length a6):=(ak h1 1).trans rfl
 have aF:w.cell? ⟨ap,0,none⟩ = some (.int .i64 a):=(ak h5 0).trans rfl
 have aL:w.cell? ⟨ar,0,none⟩ = some (.int .i64 e):=(ak h9 0).trans rfl
 clear a7 a8 h1 h5 h9
 have H:=h
 clear h
 unfold cE.f at H
 by_cases a9:0≤e
 case neg=>rw [if_neg a9] at H;exact absurd H (by simp)
 rw [if_pos a9] at H
 have b5:=eq_true a9
 have ba:decide (0≤e) = true:=decide_eq_true a9
 clear a9
 by_cases aa:0≤f
 case neg=>rw [if_neg aa] at H;exact absurd H (by simp)
 rw [if_pos aa] at H
 have bc:=eq_true aa
 have bi:decide (0≤f) = true:=decide_eq_true aa
 clear aa
 obtain ⟨y,X⟩:∃ j_:Int,(shl .i64 1 e) = j_:=⟨_,rfl⟩
 rw [X] at H
 have a1:(IntKind.i64.wrap (1 * 2 ^ min e.toNat 64)) = y:=X
 have a2:e≤64→(IntKind.i64.wrap (1 * 2 ^ e.toNat)) = y:=fI X
 have aO:(IntKind.i64.wrap (2 ^ min e.toNat 64)) = y:=by have Y:=a1;rw [Int.one_mul] at Y;exact Y
 have aP:e≤64→(IntKind.i64.wrap (2 ^ e.toNat)) = y:=fun ab=>by have Y:=a2 ab;rw [Int.one_mul] at Y;exact Y
 have aR:(wrap64 (1 * 2 ^ min e.toNat 64)) = y:=(aM _).symm.trans a1
 have aS:e≤64→(wrap64 (1 * 2 ^ e.toNat)) = y:=fun Y=>(aM _).symm.trans (a2 Y)
 obtain ⟨z,a0⟩:∃ j_:Int,(shl .i64 1 f) = j_:=⟨_,rfl⟩
 rw [a0] at H
 have a3:(IntKind.i64.wrap (1 * 2 ^ min f.toNat 64)) = z:=a0
 have a4:f≤64→(IntKind.i64.wrap (1 * 2 ^ f.toNat)) = z:=fI a0
 have b0:(IntKind.i64.wrap (2 ^ min f.toNat 64)) = z:=by have Y:=a3;rw [Int.one_mul] at Y;exact Y
 have b2:f≤64→(IntKind.i64.wrap (2 ^ f.toNat)) = z:=fun ab=>by have Y:=a4 ab;rw [Int.one_mul] at Y;exact Y
 have b3:(wrap64 (1 * 2 ^ min f.toNat 64)) = z:=(aM _).symm.trans a3
 have b4:f≤64→(wrap64 (1 * 2 ^ f.toNat)) = z:=fun Y=>(aM _).symm.trans (a4 Y)
 have A1:=ae.mk H
 clear H
 go_enter Tryz.func168,Tryz.ntmps168
 go_wp2_with fail
 go_quiet (first | (go_at_call 169;(with_reducible refine (gr.calls k _ _ j (Go.bits .or .i64 (Go.bits .andNot .i64 a y) z) b _ ?side1 ?side2 A1.out).mono ?_);(case side1=>repeat (first | exact HR.out | (with_reducible refine Kd.fE ?_ _) | (with_reducible refine Kd.fF ?_ _) | (with_reducible refine Kd.fV ?_)));(case side2=>exact HC.out);rintro e w' ⟨rfl,⟨nd,rfl⟩⟩;(first | exact ⟨rfl,_,World.drewN_drewN _ _ _⟩ | exact ⟨rfl,_,Eq.trans (World.drewN_drewN _ _ _) (congrArg (World.drewN _) (Nat.add_assoc _ _ _))⟩)))
 go_wp2
 go_ret
 exact ⟨rfl,by first | exact dY (Below.refl _ _) _ | exact Below.refl _ _⟩
theorem cE.tv (k:Nat) (a1:Int) (y:Option Addr) (z:Nat) (j:List Int) (a e:Int) (X Y a0:Nat) (w:World) (h1:w.heap[X]? = some (.cells #[.int .i64 a1,(.slice y j.length z)] 30 (0,0))) (h5:w.heap[Y]? = some (.cells #[.int .i64 a] 3 (0,0))) (h9:w.heap[a0]? = some (.cells #[.int .i64 e] 3 (0,0))) (a2:Kd.C (Kd.int .i64) w y j.length j) (a3:j.length≤z) :
  af.nO Tryz.prog w (.func (.func 168) #[] #[.pointer (some ⟨X,0,none⟩),.pointer (some ⟨Y,0,none⟩),.pointer (some ⟨a0,0,none⟩)]) (fun f=>cE.f k j a e f) :=
 ⟨⟨168,#[.pointer (some ⟨X,0,none⟩),.pointer (some ⟨Y,0,none⟩),.pointer (some ⟨a0,0,none⟩)],Tryz.f168,rfl,Tryz.func168,by kernel_rfl,rfl,fun f b w' hw hg=>cE.calls k a1 y z j a e f b X Y a0 w' (b7 h1 hw) (b7 h5 hw) (b7 h9 hw) (Kd.aT a2 hw) a3 hg⟩⟩
set_option maxHeartbeats 8000000 in
set_option maxRecDepth 100000 in
theorem aJ.calls (k:Nat) (aw:Int) (aO:Option Addr) (aF:Nat) (a3:List Int) (r1:Int) (r2:Int) (r3:Int) (r4:Bool) (w:World) (bo:Kd.C (Kd.int .i64) w aO a3.length a3) (bs:a3.length≤aF) (h:aJ.f k aw a3 = some (r1,r2,r3,r4)) :
  Calls Tryz.prog 149 #[.agg #[.int .i64 aw,.slice aO a3.length aF]] w fun e w'=>e = .returned (.tuple #[.agg #[.int .i64 r1,.int .i64 r2,.int .i64 r3],.bool r4])∧Below w.heap.size w w':=by
 have dl:=Tryz.underlying30
 have dp:=Tryz.underlying89
 have HR:=ae.mk bo
 have HC:=ae.mk bs
 have HB:=ae.mk (Below.refl w.heap.size w)
 clear bo bs
 unfold aJ.f at h
 obtain ⟨t,h1,h⟩:=Option.bind_eq_some_iff.mp h
 have A1:=ae.mk h1
 clear h1
 cases t with
 | false =>
  rw [if_neg (by decide)] at h
  simp only [Option.some.injEq,Prod.mk.injEq] at h
  obtain ⟨rfl,rfl,rfl,rfl⟩:=h
  go_enter Tryz.func149,Tryz.ntmps149
  go_wp2_with (first | ((with_reducible refine bh (N:=1) rfl ?_);refine af.bx 1 #[.int .i64 aw,.slice aO a3.length aF] 30 ?_;intro aB hg w3 hbox hb;have cp:=ae.mk ((by rw [hg];exact av HB.out):w.heap.size≤aB);replace HB:=ae.mk (ax HB.out hb);have y:=ae.mk hbox;have X:w3.cell? ⟨aB,0,none⟩ = some ((.int .i64 aw)):=(ak y.out 0).trans rfl;have Y:=au y.out 0;have a0:w3.cell? ⟨aB,1,none⟩ = some ((.slice aO a3.length aF)):=(ak y.out 1).trans rfl;have a1:=au y.out 1;clear hb hbox hg) | ((with_reducible refine bh (N:=2) rfl ?_);refine af.bx 2 #[.int .i64 0,.int .i64 0,.int .i64 0] 89 ?_;intro ao hg w4 hbox hb;have bc:=ae.mk ((by rw [hg];exact av HB.out):w.heap.size≤ao);replace HB:=ae.mk (ax HB.out hb);have j:=ae.mk hbox;have m_:=ae.mk (b7 y.out hb);clear y;have y:=m_;clear m_;have X:w4.cell? ⟨aB,0,none⟩ = some ((.int .i64 aw)):=(ak y.out 0).trans rfl;have Y:=au y.out 0;have a0:w4.cell? ⟨aB,1,none⟩ = some ((.slice aO a3.length aF)):=(ak y.out 1).trans rfl;have a1:=au y.out 1;have a4:w4.cell? ⟨ao,0,none⟩ = some (.int .i64 0):=(ak j.out 0).trans rfl;have a5:=au j.out 0;have a6:w4.cell? ⟨ao,1,none⟩ = some (.int .i64 0):=(ak j.out 1).trans rfl;have a7:=au j.out 1;have a8:w4.cell? ⟨ao,2,none⟩ = some (.int .i64 0):=(ak j.out 2).trans rfl;have a9:=au j.out 2;clear hb hbox hg) | ((with_reducible refine aA (f:=150) rfl ?_);refine af.gl (some 15) Tryz.func150 #[.int .i64 aw,.slice aO a3.length aF] ?_;(with_reducible refine (cv.calls k aw _ _ a3 false _ ?side1 ?side2 A1.out).mono ?_);(case side1=>exact Kd.aT HR.out HB.out);(case side2=>exact HC.out);rintro e w5 ⟨rfl,hd⟩;refine ⟨_,rfl,?_⟩;have hb:=hd.below;clear hd;replace HB:=ae.mk (ax HB.out hb);have m_:=ae.mk (b7 y.out hb);clear y;have y:=m_;clear m_;have m_:=ae.mk (b7 j.out hb);clear j;have j:=m_;clear m_;clear hb;have X:w5.cell? ⟨aB,0,none⟩ = some ((.int .i64 aw)):=(ak y.out 0).trans rfl;have Y:=au y.out 0;have a0:w5.cell? ⟨aB,1,none⟩ = some ((.slice aO a3.length aF)):=(ak y.out 1).trans rfl;have a1:=au y.out 1;have a4:w5.cell? ⟨ao,0,none⟩ = some (.int .i64 0):=(ak j.out 0).trans rfl;have a5:=au j.out 0;have a6:w5.cell? ⟨ao,1,none⟩ = some (.int .i64 0):=(ak j.out 1).trans rfl;have a7:=au j.out 1;have a8:w5.cell? ⟨ao,2,none⟩ = some (.int .i64 0):=(ak j.out 2).trans rfl;have a9:=au j.out 2))
  refine bodyPost_ret (eJ rfl _ _ ao 89 #[.int .i64 0,.int .i64 0,.int .i64 0] (0,0) _ rfl (by refine gz (cs:=#[.int .i64 0,.int .i64 0,.int .i64 0]) ?_ 2 _ rfl;refine gz (cs:=#[.int .i64 0,.int .i64 0,.int .i64 0]) ?_ 1 _ rfl;refine gz (cs:=#[.int .i64 0,.int .i64 0,.int .i64 0]) ?_ 0 _ rfl;exact j.out) Tryz.underlying89 rfl (by kernel_rfl)) rfl ?_
  exact ⟨rfl,by repeat (first | exact HB.out | refine dP ?_ bc.out)⟩
 | true =>
  rw [if_pos rfl] at h
  have H':=ae.mk h
  clear h
  go_enter Tryz.func149,Tryz.ntmps149
  go_wp2_with (first | ((with_reducible refine bh (N:=1) rfl ?_);refine af.bx 1 #[.int .i64 aw,.slice aO a3.length aF] 30 ?_;intro aB hg w3 hbox hb;have cp:=ae.mk ((by rw [hg];exact av HB.out):w.heap.size≤aB);replace HB:=ae.mk (ax HB.out hb);have y:=ae.mk hbox;have X:w3.cell? ⟨aB,0,none⟩ = some ((.int .i64 aw)):=(ak y.out 0).trans rfl;have Y:=au y.out 0;have a0:w3.cell? ⟨aB,1,none⟩ = some ((.slice aO a3.length aF)):=(ak y.out 1).trans rfl;have a1:=au y.out 1;clear hb hbox hg) | ((with_reducible refine bh (N:=2) rfl ?_);refine af.bx 2 #[.int .i64 0,.int .i64 0,.int .i64 0] 89 ?_;intro ao hg w4 hbox hb;have bc:=ae.mk ((by rw [hg];exact av HB.out):w.heap.size≤ao);replace HB:=ae.mk (ax HB.out hb);have j:=ae.mk hbox;have m_:=ae.mk (b7 y.out hb);clear y;have y:=m_;clear m_;have X:w4.cell? ⟨aB,0,none⟩ = some ((.int .i64 aw)):=(ak y.out 0).trans rfl;have Y:=au y.out 0;have a0:w4.cell? ⟨aB,1,none⟩ = some ((.slice aO a3.length aF)):=(ak y.out 1).trans rfl;have a1:=au y.out 1;have a4:w4.cell? ⟨ao,0,none⟩ = some (.int .i64 0):=(ak j.out 0).trans rfl;have a5:=au j.out 0;have a6:w4.cell? ⟨ao,1,none⟩ = some (.int .i64 0):=(ak j.out 1).trans rfl;have a7:=au j.out 1;have a8:w4.cell? ⟨ao,2,none⟩ = some (.int .i64 0):=(ak j.out 2).trans rfl;have a9:=au j.out 2;clear hb hbox hg) | ((with_reducible refine aA (f:=150) rfl ?_);refine af.gl (some 15) Tryz.func150 #[.int .i64 aw,.slice aO a3.length aF] ?_;(with_reducible refine (cv.calls k aw _ _ a3 true _ ?side1 ?side2 A1.out).mono ?_);(case side1=>exact Kd.aT HR.out HB.out);(case side2=>exact HC.out);rintro e w5 ⟨rfl,hd⟩;refine ⟨_,rfl,?_⟩;have hb:=hd.below;clear hd;replace HB:=ae.mk (ax HB.out hb);have m_:=ae.mk (b7 y.out hb);clear y;have y:=m_;clear m_;have m_:=ae.mk (b7 j.out hb);clear j;have j:=m_;clear m_;clear hb;have X:w5.cell? ⟨aB,0,none⟩ = some ((.int .i64 aw)):=(ak y.out 0).trans rfl;have Y:=au y.out 0;have a0:w5.cell? ⟨aB,1,none⟩ = some ((.slice aO a3.length aF)):=(ak y.out 1).trans rfl;have a1:=au y.out 1;have a4:w5.cell? ⟨ao,0,none⟩ = some (.int .i64 0):=(ak j.out 0).trans rfl;have a5:=au j.out 0;have a6:w5.cell? ⟨ao,1,none⟩ = some (.int .i64 0):=(ak j.out 1).trans rfl;have a7:=au j.out 1;have a8:w5.cell? ⟨ao,2,none⟩ = some (.int .i64 0):=(ak j.out 2).trans rfl;have a9:=au j.out 2))
  clear X a0 Y a1 a4 a6 a8 a5 a7 a9
  go_loopg [21] k (fun kq v21 w'=>∃ (x1:Int),v21 = .int .i64 x1∧ae (aJ.l0 kq aw a3 x1 = some (r1,r2,r3,r4))∧ae (kq≤k)∧ae (w'.heap[aB]? = some (.cells #[.int .i64 aw,(.slice aO a3.length aF)] 30 (0,0)))∧ae (w'.heap[ao]? = some (.cells #[.int .i64 0,.int .i64 0,.int .i64 0] 89 (0,0)))∧ae (Below w.heap.size w w'))
  case atStart=>exact ⟨0,rfl,H',⟨Nat.le_refl _⟩,y,j,HB⟩
  case round =>
   clear H' y j HB
   obtain ⟨x1,rfl,HA,bi,y,j,HB⟩:=hrel
   cases gk with
   | zero=>exact absurd HA.out (by simp [aJ.l0])
   | succ k1 =>
    have H:=HA.out
    clear HA
    simp only [aJ.l0] at H
    by_cases c3:x1 < (a3.length:Int)
    case neg =>
     rw [if_neg c3] at H
     have cc:decide (x1 < (a3.length:Int)) = false:=decide_eq_false c3
     clear c3
     simp only [Option.some.injEq,Prod.mk.injEq] at H
     obtain ⟨rfl,rfl,rfl,rfl⟩:=H
     have a4:wr.cell? ⟨ao,0,none⟩ = some (.int .i64 0):=(ak j.out 0).trans rfl
     have a5:=au j.out 0
     have a6:wr.cell? ⟨ao,1,none⟩ = some (.int .i64 0):=(ak j.out 1).trans rfl
     have a7:=au j.out 1
     have a8:wr.cell? ⟨ao,2,none⟩ = some (.int .i64 0):=(ak j.out 2).trans rfl
     have a9:=au j.out 2
     go_wp2
     refine bodyPost_ret (eJ rfl _ _ ao 89 #[.int .i64 0,.int .i64 0,.int .i64 0] (0,0) _ rfl (by refine gz (cs:=#[.int .i64 0,.int .i64 0,.int .i64 0]) ?_ 2 _ rfl;refine gz (cs:=#[.int .i64 0,.int .i64 0,.int .i64 0]) ?_ 1 _ rfl;refine gz (cs:=#[.int .i64 0,.int .i64 0,.int .i64 0]) ?_ 0 _ rfl;exact j.out) Tryz.underlying89 rfl (by kernel_rfl)) rfl ?_
     exact ⟨rfl,by repeat (first | exact HB.out | refine dP ?_ bc.out)⟩
    rw [if_pos c3] at H
    have cc:=decide_eq_true c3
    clear c3
    by_cases c4:0≤x1
    case neg=>rw [if_neg c4] at H;exact absurd H (by simp)
    rw [if_pos c4] at H
    have d3:=decide_eq_true c4
    clear c4
    obtain ⟨aa,d0⟩:∃ j_:Int,rd a3 x1 = j_:=⟨_,rfl⟩
    rw [d0] at H
    have H':=ae.mk H
    clear H
    have p1:0≤(x1:Int):=of_decide_eq_true (by assumption)
    have q1:x1 < (a3.length:Int):=of_decide_eq_true (by assumption)
    obtain ⟨b2,e1,b3⟩:=Kd.ey HR.out x1 p1 q1
    rw [d0] at b3
    clear d0
    cases e1
    replace b3:=(HB.out.cell (World.block_lt_of_cell? w _ b3)).trans b3
    replace p1:=eq_true p1
    replace q1:=eq_true q1
    have X:wr.cell? ⟨aB,0,none⟩ = some ((.int .i64 aw)):=(ak y.out 0).trans rfl
    have Y:=au y.out 0
    have a0:wr.cell? ⟨aB,1,none⟩ = some ((.slice (some b2) a3.length aF)):=(ak y.out 1).trans rfl
    have a1:=au y.out 1
    go_wp2_with (first | ((with_reducible refine bh (N:=5) rfl ?_);refine af.bx 5 #[.int .i64 0] 3 ?_;intro aP hg w7 hbox hb;have df:=ae.mk ((by rw [hg];exact av HB.out):w.heap.size≤aP);have d4:=ae.mk hg;have d5:=ae.mk hb;have z:=ae.mk hbox;clear hb hg hbox;have ab:w7.cell? ⟨aP,0,none⟩ = some (.int .i64 0):=(ak z.out 0).trans rfl;have am:=au z.out 0) | ((with_reducible refine gf (t:=3) (p:=5) rfl ?_);refine fM (t:=3) (p:=5) (v:=?vo1) (w1:=(w7.setCell ⟨aP,0,none⟩ (.int .i64 aa))) ?hg ?ho ?hn ?hr ?_;(case ho=>rfl);(case hg=>rfl);(case hn=>rfl);(case hr=>first | (go_simp;done) | (go_simp;rfl));intro w8 hw;have hb:Below wr.heap.size wr w8:=(by rw [hw];exact dP d5.out (Nat.le_of_eq d4.out.symm));have m5:ae (w8.heap[aP]? = some (.cells #[.int .i64 aa] 3 (0,0))):=⟨by rw [hw];exact gz z.out 0 _ rfl⟩;clear z hw ab am;have z:=m5;clear m5;replace HB:=ae.mk (ax HB.out hb);have m_:=ae.mk (b7 y.out hb);clear y;have y:=m_;clear m_;have m_:=ae.mk (b7 j.out hb);clear j;have j:=m_;clear m_;clear hb d5 d4;have X:w8.cell? ⟨aB,0,none⟩ = some ((.int .i64 aw)):=(ak y.out 0).trans rfl;have Y:=au y.out 0;have a0:w8.cell? ⟨aB,1,none⟩ = some ((.slice (some b2) a3.length aF)):=(ak y.out 1).trans rfl;have a1:=au y.out 1))
    clear p1 q1 cc d3 b3 X a0 Y a1
    go_loopg [28] k1 (fun kq v28 w'=>∃ (x2:Int),v28 = .int .i64 x2∧ae (aJ.l1 kq aw a3 x1 aa x2 = some (r1,r2,r3,r4))∧ae (kq≤k1)∧ae (w'.heap[aB]? = some (.cells #[.int .i64 aw,(.slice (some b2) a3.length aF)] 30 (0,0)))∧ae (w'.heap[ao]? = some (.cells #[.int .i64 0,.int .i64 0,.int .i64 0] 89 (0,0)))∧ae (w'.heap[aP]? = some (.cells #[.int .i64 aa] 3 (0,0)))∧ae (Below w.heap.size w w'))
    case atStart=>exact ⟨0,rfl,H',⟨Nat.le_refl _⟩,y,j,z,HB⟩
    case round =>
     clear H' y j z HB
     obtain ⟨x2,rfl,HA,bm,y,j,z,HB⟩:=hrel
     cases gk with
     | zero=>exact absurd HA.out (by simp [aJ.l1])
     | succ k2 =>
      have H:=HA.out
      clear HA
      simp only [aJ.l1] at H
      by_cases c5:x2 < (a3.length:Int)
      case neg =>
       rw [if_neg c5] at H
       have ci:decide (x2 < (a3.length:Int)) = false:=decide_eq_false c5
       clear c5
       have H':=ae.mk H
       clear H
       go_wp2
       go_roundg k2
       case measure=>have:=bi.out;have:=bm.out;omega
       case rel=>exact ⟨(wrap64 (x1+1)),rfl,H',⟨by have:=bi.out;have:=bm.out;omega⟩,y,j,HB⟩
      rw [if_pos c5] at H
      have ci:=decide_eq_true c5
      clear c5
      by_cases c6:0≤x2
      case neg=>rw [if_neg c6] at H;exact absurd H (by simp)
      rw [if_pos c6] at H
      have d6:=decide_eq_true c6
      clear c6
      obtain ⟨bb,hbb⟩:∃ j_:Int,rd a3 x2 = j_:=⟨_,rfl⟩
      rw [hbb] at H
      obtain ⟨es,d7,H⟩:=Option.bind_eq_some_iff.mp H
      have A2:=ae.mk d7
      clear d7
      have H':=ae.mk H
      clear H
      have p2:0≤(x2:Int):=of_decide_eq_true (by assumption)
      have q2:x2 < (a3.length:Int):=of_decide_eq_true (by assumption)
      obtain ⟨dk,e2,b4⟩:=Kd.ey HR.out x2 p2 q2
      obtain rfl:b2 = dk:=(by injection e2)
      clear e2
      rw [hbb] at b4
      clear hbb
      replace b4:=(HB.out.cell (World.block_lt_of_cell? w _ b4)).trans b4
      replace p2:=eq_true p2
      replace q2:=eq_true q2
      have X:wr.cell? ⟨aB,0,none⟩ = some ((.int .i64 aw)):=(ak y.out 0).trans rfl
      have Y:=au y.out 0
      have a0:wr.cell? ⟨aB,1,none⟩ = some ((.slice (some b2) a3.length aF)):=(ak y.out 1).trans rfl
      have a1:=au y.out 1
      have ab:wr.cell? ⟨aP,0,none⟩ = some (.int .i64 aa):=(ak z.out 0).trans rfl
      have am:=au z.out 0
      go_wp2_with (first | ((with_reducible refine aA (f:=83) rfl ?_);refine af.gl (some 35) Tryz.func83 #[.int .i64 (Go.bits .andNot .i64 aa bb)] ?_;(with_reducible refine (bM.calls k2 (Go.bits .andNot .i64 aa bb) es _ A2.out).mono ?_);rintro e w9 ⟨v1,rfl,ho,hb⟩;refine ⟨_,rfl,?_⟩;have aL:=ae.mk (Kd.aV ho (av HB.out));have d8:=ae.mk (ax HB.out hb);clear HB;have HB:=d8;clear d8 ho;have m_:=ae.mk (b7 y.out hb);clear y;have y:=m_;clear m_;have m_:=ae.mk (b7 j.out hb);clear j;have j:=m_;clear m_;have m_:=ae.mk (b7 z.out hb);clear z;have z:=m_;clear m_;clear hb X a0 Y a1 ab am b4;obtain ⟨Ae,ce,eo⟩:=Kd.aK aL.out;subst eo))
      clear p2 q2 ci d6
      go_loopg [37] k2 (fun kq v37 w'=>∃ (x3:Int),v37 = .int .i64 x3∧ae (aJ.l2 kq aw a3 x1 aa x2 bb es x3 = some (r1,r2,r3,r4))∧ae (kq≤k2)∧ae (w'.heap[aB]? = some (.cells #[.int .i64 aw,(.slice (some b2) a3.length aF)] 30 (0,0)))∧ae (w'.heap[ao]? = some (.cells #[.int .i64 0,.int .i64 0,.int .i64 0] 89 (0,0)))∧ae (w'.heap[aP]? = some (.cells #[.int .i64 aa] 3 (0,0)))∧ae (Kd.R (Kd.int .i64) 3 w' w.heap.size (fun _=>True) (.slice Ae es.length ce) es)∧ae (Below w.heap.size w w'))
      case atStart=>exact ⟨0,rfl,H',⟨Nat.le_refl _⟩,y,j,z,aL,HB⟩
      case round =>
       clear H' y j z aL HB
       obtain ⟨x3,rfl,HA,cb,y,j,z,aL,HB⟩:=hrel
       cases gk with
       | zero=>exact absurd HA.out (by simp [aJ.l2])
       | succ k3 =>
        have H:=HA.out
        clear HA
        simp only [aJ.l2] at H
        by_cases c7:x3 < (es.length:Int)
        case neg =>
         rw [if_neg c7] at H
         have d9:decide (x3 < (es.length:Int)) = false:=decide_eq_false c7
         clear c7
         have H':=ae.mk H
         clear H
         go_wp2
         go_roundg k3
         case measure=>have:=bi.out;have:=bm.out;have:=cb.out;omega
         case rel=>exact ⟨(wrap64 (x2+1)),rfl,H',⟨by have:=bi.out;have:=bm.out;have:=cb.out;omega⟩,y,j,z,HB⟩
        rw [if_pos c7] at H
        have d9:=decide_eq_true c7
        clear c7
        by_cases c8:0≤x3
        case neg=>rw [if_neg c8] at H;exact absurd H (by simp)
        rw [if_pos c8] at H
        have dq:=decide_eq_true c8
        clear c8
        obtain ⟨ee,hee⟩:∃ j_:Int,rd es x3 = j_:=⟨_,rfl⟩
        rw [hee] at H
        obtain ⟨fs,db,H⟩:=Option.bind_eq_some_iff.mp H
        have A3:=ae.mk db
        clear db
        obtain ⟨t,dd,H⟩:=Option.bind_eq_some_iff.mp H
        have A4:=ae.mk dd
        clear dd
        have p3:0≤(x3:Int):=of_decide_eq_true (by assumption)
        have q3:x3 < (es.length:Int):=of_decide_eq_true (by assumption)
        obtain ⟨dt,e3,d1⟩:=Kd.ey (Kd.ah aL.out).2.2 x3 p3 q3
        rw [hee] at d1
        clear hee
        cases e3
        replace p3:=eq_true p3
        replace q3:=eq_true q3
        cases t with
        | true =>
         rw [if_pos rfl] at H
         have H':=ae.mk H
         clear H
         have ab:wr.cell? ⟨aP,0,none⟩ = some (.int .i64 aa):=(ak z.out 0).trans rfl
         have am:=au z.out 0
         have X:wr.cell? ⟨aB,0,none⟩ = some ((.int .i64 aw)):=(ak y.out 0).trans rfl
         have Y:=au y.out 0
         have a0:wr.cell? ⟨aB,1,none⟩ = some ((.slice (some b2) a3.length aF)):=(ak y.out 1).trans rfl
         have a1:=au y.out 1
         have a4:wr.cell? ⟨ao,0,none⟩ = some (.int .i64 0):=(ak j.out 0).trans rfl
         have a5:=au j.out 0
         have a6:wr.cell? ⟨ao,1,none⟩ = some (.int .i64 0):=(ak j.out 1).trans rfl
         have a7:=au j.out 1
         have a8:wr.cell? ⟨ao,2,none⟩ = some (.int .i64 0):=(ak j.out 2).trans rfl
         have a9:=au j.out 2
         go_wp2_with (first | ((with_reducible refine bh (N:=9) rfl ?_);refine af.bx 9 #[.int .i64 0] 3 ?_;intro aR hg bv hbox hb;have d2:=ae.mk ((by rw [hg];exact av HB.out):w.heap.size≤aR);have c0:=ae.mk hg;have c1:=ae.mk hb;have a2:=ae.mk hbox;clear hb hg hbox;have ap:bv.cell? ⟨aR,0,none⟩ = some (.int .i64 0):=(ak a2.out 0).trans rfl;have ar:=au a2.out 0) | ((with_reducible refine gf (t:=3) (p:=9) rfl ?_);refine fM (t:=3) (p:=9) (v:=?vo2) (w1:=(bv.setCell ⟨aR,0,none⟩ (.int .i64 ee))) ?hg ?ho ?hn ?hr ?_;(case ho=>rfl);(case hg=>rfl);(case hn=>rfl);(case hr=>first | (go_simp;done) | (go_simp;rfl));intro aS hw;have hb:Below wr.heap.size wr aS:=(by rw [hw];exact dP c1.out (Nat.le_of_eq c0.out.symm));have m5:ae (aS.heap[aR]? = some (.cells #[.int .i64 ee] 3 (0,0))):=⟨by rw [hw];exact gz a2.out 0 _ rfl⟩;clear a2 hw ap ar;have a2:=m5;clear m5;replace HB:=ae.mk (ax HB.out hb);have m_:=ae.mk (Kd.dW aL.out hb);clear aL;have aL:=m_;clear m_;have m_:=ae.mk (b7 y.out hb);clear y;have y:=m_;clear m_;have m_:=ae.mk (b7 j.out hb);clear j;have j:=m_;clear m_;have m_:=ae.mk (b7 z.out hb);clear z;have z:=m_;clear m_;clear hb c1 c0;have X:aS.cell? ⟨aB,0,none⟩ = some ((.int .i64 aw)):=(ak y.out 0).trans rfl;have Y:=au y.out 0;have a0:aS.cell? ⟨aB,1,none⟩ = some ((.slice (some b2) a3.length aF)):=(ak y.out 1).trans rfl;have a1:=au y.out 1;have a4:aS.cell? ⟨ao,0,none⟩ = some (.int .i64 0):=(ak j.out 0).trans rfl;have a5:=au j.out 0;have a6:aS.cell? ⟨ao,1,none⟩ = some (.int .i64 0):=(ak j.out 1).trans rfl;have a7:=au j.out 1;have a8:aS.cell? ⟨ao,2,none⟩ = some (.int .i64 0):=(ak j.out 2).trans rfl;have a9:=au j.out 2;have ab:aS.cell? ⟨aP,0,none⟩ = some (.int .i64 aa):=(ak z.out 0).trans rfl;have am:=au z.out 0;have ap:aS.cell? ⟨aR,0,none⟩ = some (.int .i64 ee):=(ak a2.out 0).trans rfl;have ar:=au a2.out 0) | ((with_reducible refine aA (f:=83) rfl ?_);refine af.gl (some 44) Tryz.func83 #[.int .i64 (Go.bits .andNot .i64 bb aa)] ?_;(with_reducible refine (bM.calls k3 (Go.bits .andNot .i64 bb aa) fs _ A3.out).mono ?_);rintro e b0 ⟨v1,rfl,ho,hb⟩;refine ⟨_,rfl,?_⟩;obtain ⟨Af,cf,ef⟩:=Kd.aK ho;subst ef;have b5:=ae.mk (Kd.ah ho).2.2;clear ho;replace HB:=ae.mk (ax HB.out hb);have m_:=ae.mk (Kd.dW aL.out hb);clear aL;have aL:=m_;clear m_;have m_:=ae.mk (b7 y.out hb);clear y;have y:=m_;clear m_;have m_:=ae.mk (b7 j.out hb);clear j;have j:=m_;clear m_;have m_:=ae.mk (b7 z.out hb);clear z;have z:=m_;clear m_;have m_:=ae.mk (b7 a2.out hb);clear a2;have a2:=m_;clear m_;have ca:=b5;clear b5;clear hb X a0 Y a1 ab am a4 a6 a8 a5 a7 a9 ap ar;have X:b0.cell? ⟨aB,0,none⟩ = some ((.int .i64 aw)):=(ak y.out 0).trans rfl;have Y:=au y.out 0;have a0:b0.cell? ⟨aB,1,none⟩ = some ((.slice (some b2) a3.length aF)):=(ak y.out 1).trans rfl;have a1:=au y.out 1;have a4:b0.cell? ⟨ao,0,none⟩ = some (.int .i64 0):=(ak j.out 0).trans rfl;have a5:=au j.out 0;have a6:b0.cell? ⟨ao,1,none⟩ = some (.int .i64 0):=(ak j.out 1).trans rfl;have a7:=au j.out 1;have a8:b0.cell? ⟨ao,2,none⟩ = some (.int .i64 0):=(ak j.out 2).trans rfl;have a9:=au j.out 2;have ab:b0.cell? ⟨aP,0,none⟩ = some (.int .i64 aa):=(ak z.out 0).trans rfl;have am:=au z.out 0;have ap:b0.cell? ⟨aR,0,none⟩ = some (.int .i64 ee):=(ak a2.out 0).trans rfl;have ar:=au a2.out 0) | ((with_reducible refine aA (f:=159) rfl ?_);refine af.gl (some 46) Tryz.func159 #[.slice Af fs.length cf,.func (.func 168) #[] #[.pointer (some ⟨aB,0,none⟩),.pointer (some ⟨aP,0,none⟩),.pointer (some ⟨aR,0,none⟩)]] ?_;(with_reducible refine (cB.calls k3 _ _ fs _ (fun f=>cE.f k3 a3 aa ee f) true _ ca.out (cE.tv k3 aw (some b2) aF a3 aa ee aB aP aR _ y.out z.out a2.out (Kd.aT HR.out HB.out) HC.out) A4.out).mono ?_);rintro e ba ⟨rfl,hb⟩;refine ⟨_,rfl,?_⟩;replace HB:=ae.mk (ax HB.out hb);have m_:=ae.mk (Kd.dW aL.out hb);clear aL;have aL:=m_;clear m_;have m_:=ae.mk (b7 y.out hb);clear y;have y:=m_;clear m_;have m_:=ae.mk (b7 j.out hb);clear j;have j:=m_;clear m_;have m_:=ae.mk (b7 z.out hb);clear z;have z:=m_;clear m_;have m_:=ae.mk (b7 a2.out hb);clear a2;have a2:=m_;clear m_;clear hb X a0 Y a1 ab am a4 a6 a8 a5 a7 a9 ap ar;have a4:ba.cell? ⟨ao,0,none⟩ = some (.int .i64 0):=(ak j.out 0).trans rfl;have a5:=au j.out 0;have a6:ba.cell? ⟨ao,1,none⟩ = some (.int .i64 0):=(ak j.out 1).trans rfl;have a7:=au j.out 1;have a8:ba.cell? ⟨ao,2,none⟩ = some (.int .i64 0):=(ak j.out 2).trans rfl;have a9:=au j.out 2;have ab:ba.cell? ⟨aP,0,none⟩ = some (.int .i64 aa):=(ak z.out 0).trans rfl;have am:=au z.out 0;have ap:ba.cell? ⟨aR,0,none⟩ = some (.int .i64 ee):=(ak a2.out 0).trans rfl;have ar:=au a2.out 0))
         go_roundg k3
         case measure=>have:=bi.out;have:=bm.out;have:=cb.out;omega
         case rel=>exact ⟨(wrap64 (x3+1)),rfl,H',⟨by have:=bi.out;have:=bm.out;have:=cb.out;omega⟩,y,j,z,aL,HB⟩
        | false =>
         rw [if_neg (by decide)] at H
         simp only [Option.some.injEq,Prod.mk.injEq] at H
         obtain ⟨rfl,rfl,rfl,rfl⟩:=H
         have ab:wr.cell? ⟨aP,0,none⟩ = some (.int .i64 aa):=(ak z.out 0).trans rfl
         have am:=au z.out 0
         have X:wr.cell? ⟨aB,0,none⟩ = some ((.int .i64 aw)):=(ak y.out 0).trans rfl
         have Y:=au y.out 0
         have a0:wr.cell? ⟨aB,1,none⟩ = some ((.slice (some b2) a3.length aF)):=(ak y.out 1).trans rfl
         have a1:=au y.out 1
         have a4:wr.cell? ⟨ao,0,none⟩ = some (.int .i64 0):=(ak j.out 0).trans rfl
         have a5:=au j.out 0
         have a6:wr.cell? ⟨ao,1,none⟩ = some (.int .i64 0):=(ak j.out 1).trans rfl
         have a7:=au j.out 1
         have a8:wr.cell? ⟨ao,2,none⟩ = some (.int .i64 0):=(ak j.out 2).trans rfl
         have a9:=au j.out 2
         go_wp2_with (first | ((with_reducible refine bh (N:=9) rfl ?_);refine af.bx 9 #[.int .i64 0] 3 ?_;intro aR hg bv hbox hb;have d2:=ae.mk ((by rw [hg];exact av HB.out):w.heap.size≤aR);have c0:=ae.mk hg;have c1:=ae.mk hb;have a2:=ae.mk hbox;clear hb hg hbox;have ap:bv.cell? ⟨aR,0,none⟩ = some (.int .i64 0):=(ak a2.out 0).trans rfl;have ar:=au a2.out 0) | ((with_reducible refine gf (t:=3) (p:=9) rfl ?_);refine fM (t:=3) (p:=9) (v:=?vo3) (w1:=(bv.setCell ⟨aR,0,none⟩ (.int .i64 ee))) ?hg ?ho ?hn ?hr ?_;(case ho=>rfl);(case hg=>rfl);(case hn=>rfl);(case hr=>first | (go_simp;done) | (go_simp;rfl));intro aS hw;have hb:Below wr.heap.size wr aS:=(by rw [hw];exact dP c1.out (Nat.le_of_eq c0.out.symm));have m5:ae (aS.heap[aR]? = some (.cells #[.int .i64 ee] 3 (0,0))):=⟨by rw [hw];exact gz a2.out 0 _ rfl⟩;clear a2 hw ap ar;have a2:=m5;clear m5;replace HB:=ae.mk (ax HB.out hb);have m_:=ae.mk (Kd.dW aL.out hb);clear aL;have aL:=m_;clear m_;have m_:=ae.mk (b7 y.out hb);clear y;have y:=m_;clear m_;have m_:=ae.mk (b7 j.out hb);clear j;have j:=m_;clear m_;have m_:=ae.mk (b7 z.out hb);clear z;have z:=m_;clear m_;clear hb c1 c0;have X:aS.cell? ⟨aB,0,none⟩ = some ((.int .i64 aw)):=(ak y.out 0).trans rfl;have Y:=au y.out 0;have a0:aS.cell? ⟨aB,1,none⟩ = some ((.slice (some b2) a3.length aF)):=(ak y.out 1).trans rfl;have a1:=au y.out 1;have a4:aS.cell? ⟨ao,0,none⟩ = some (.int .i64 0):=(ak j.out 0).trans rfl;have a5:=au j.out 0;have a6:aS.cell? ⟨ao,1,none⟩ = some (.int .i64 0):=(ak j.out 1).trans rfl;have a7:=au j.out 1;have a8:aS.cell? ⟨ao,2,none⟩ = some (.int .i64 0):=(ak j.out 2).trans rfl;have a9:=au j.out 2;have ab:aS.cell? ⟨aP,0,none⟩ = some (.int .i64 aa):=(ak z.out 0).trans rfl;have am:=au z.out 0;have ap:aS.cell? ⟨aR,0,none⟩ = some (.int .i64 ee):=(ak a2.out 0).trans rfl;have ar:=au a2.out 0) | ((with_reducible refine aA (f:=83) rfl ?_);refine af.gl (some 44) Tryz.func83 #[.int .i64 (Go.bits .andNot .i64 bb aa)] ?_;(with_reducible refine (bM.calls k3 (Go.bits .andNot .i64 bb aa) fs _ A3.out).mono ?_);rintro e b0 ⟨v1,rfl,ho,hb⟩;refine ⟨_,rfl,?_⟩;obtain ⟨Af,cf,ef⟩:=Kd.aK ho;subst ef;have b5:=ae.mk (Kd.ah ho).2.2;clear ho;replace HB:=ae.mk (ax HB.out hb);have m_:=ae.mk (Kd.dW aL.out hb);clear aL;have aL:=m_;clear m_;have m_:=ae.mk (b7 y.out hb);clear y;have y:=m_;clear m_;have m_:=ae.mk (b7 j.out hb);clear j;have j:=m_;clear m_;have m_:=ae.mk (b7 z.out hb);clear z;have z:=m_;clear m_;have m_:=ae.mk (b7 a2.out hb);clear a2;have a2:=m_;clear m_;have ca:=b5;clear b5;clear hb X a0 Y a1 ab am a4 a6 a8 a5 a7 a9 ap ar;have X:b0.cell? ⟨aB,0,none⟩ = some ((.int .i64 aw)):=(ak y.out 0).trans rfl;have Y:=au y.out 0;have a0:b0.cell? ⟨aB,1,none⟩ = some ((.slice (some b2) a3.length aF)):=(ak y.out 1).trans rfl;have a1:=au y.out 1;have a4:b0.cell? ⟨ao,0,none⟩ = some (.int .i64 0):=(ak j.out 0).trans rfl;have a5:=au j.out 0;have a6:b0.cell? ⟨ao,1,none⟩ = some (.int .i64 0):=(ak j.out 1).trans rfl;have a7:=au j.out 1;have a8:b0.cell? ⟨ao,2,none⟩ = some (.int .i64 0):=(ak j.out 2).trans rfl;have a9:=au j.out 2;have ab:b0.cell? ⟨aP,0,none⟩ = some (.int .i64 aa):=(ak z.out 0).trans rfl;have am:=au z.out 0;have ap:b0.cell? ⟨aR,0,none⟩ = some (.int .i64 ee):=(ak a2.out 0).trans rfl;have ar:=au a2.out 0) | ((with_reducible refine aA (f:=159) rfl ?_);refine af.gl (some 46) Tryz.func159 #[.slice Af fs.length cf,.func (.func 168) #[] #[.pointer (some ⟨aB,0,none⟩),.pointer (some ⟨aP,0,none⟩),.pointer (some ⟨aR,0,none⟩)]] ?_;(with_reducible refine (cB.calls k3 _ _ fs _ (fun f=>cE.f k3 a3 aa ee f) false _ ca.out (cE.tv k3 aw (some b2) aF a3 aa ee aB aP aR _ y.out z.out a2.out (Kd.aT HR.out HB.out) HC.out) A4.out).mono ?_);rintro e ba ⟨rfl,hb⟩;refine ⟨_,rfl,?_⟩;replace HB:=ae.mk (ax HB.out hb);have m_:=ae.mk (Kd.dW aL.out hb);clear aL;have aL:=m_;clear m_;have m_:=ae.mk (b7 y.out hb);clear y;have y:=m_;clear m_;have m_:=ae.mk (b7 j.out hb);clear j;have j:=m_;clear m_;have m_:=ae.mk (b7 z.out hb);clear z;have z:=m_;clear m_;have m_:=ae.mk (b7 a2.out hb);clear a2;have a2:=m_;clear m_;clear hb X a0 Y a1 ab am a4 a6 a8 a5 a7 a9 ap ar;have a4:ba.cell? ⟨ao,0,none⟩ = some (.int .i64 0):=(ak j.out 0).trans rfl;have a5:=au j.out 0;have a6:ba.cell? ⟨ao,1,none⟩ = some (.int .i64 0):=(ak j.out 1).trans rfl;have a7:=au j.out 1;have a8:ba.cell? ⟨ao,2,none⟩ = some (.int .i64 0):=(ak j.out 2).trans rfl;have a9:=au j.out 2;have ab:ba.cell? ⟨aP,0,none⟩ = some (.int .i64 aa):=(ak z.out 0).trans rfl;have am:=au z.out 0;have ap:ba.cell? ⟨aR,0,none⟩ = some (.int .i64 ee):=(ak a2.out 0).trans rfl;have ar:=au a2.out 0))
         refine bodyPost_ret (eJ rfl _ _ ao 89 #[.int .i64 aa,.int .i64 bb,.int .i64 ee] (0,0) _ rfl (by refine gz (cs:=#[.int .i64 aa,.int .i64 bb,.int .i64 0]) ?_ 2 _ rfl;refine gz (cs:=#[.int .i64 aa,.int .i64 0,.int .i64 0]) ?_ 1 _ rfl;refine gz (cs:=#[.int .i64 0,.int .i64 0,.int .i64 0]) ?_ 0 _ rfl;exact j.out) Tryz.underlying89 rfl (by kernel_rfl)) rfl ?_
         exact ⟨rfl,by repeat (first | exact HB.out | refine dP ?_ bc.out)⟩
def dF.f (k:Nat) (y:Int) (j:List Int):Option (Bool):=(aJ.f k y j).bind fun z=>((cv.f k y j).bind fun X=>(if X = true then (if (j.length:Int) > 0 then (some (!z.2.2.2)) else (some false)) else (some false)))
set_option maxHeartbeats 8000000 in
set_option maxRecDepth 100000 in
theorem dF.calls (k:Nat) (z:Int) (a0:Option Addr) (a1:Nat) (y:List Int) (r:Bool) (w:World) (a6:Kd.C (Kd.int .i64) w a0 y.length y) (a7:y.length≤a1) (h:dF.f k z y = some r) :
  Calls Tryz.prog 120 #[.agg #[.int .i64 z,.slice a0 y.length a1]] w fun e w'=>e = .returned (.bool r)∧Below w.heap.size w w':=by
 have e1:=Tryz.underlying30
 have e2:=Tryz.underlying89
 have a2:=ae.mk a6
 have a3:=ae.mk a7
 clear a6 a7
 have HB:=ae.mk (Below.refl w.heap.size w)
 unfold dF.f at h
 have H:=h
 clear h
 obtain ⟨⟨a8,a9,aa,a5⟩,A2,H⟩:=af.be H
 (try dsimp only at H)
 obtain ⟨aB,A3,H⟩:=af.be H
 (try dsimp only at H)
 by_cases c4:aB = true
 ·subst c4
  replace H:(if (y.length:Int) > 0 then (some (!a5)) else (some false)) = some r:=by rw [if_pos rfl] at H;exact H
  by_cases c5:(y.length:Int) > 0
  ·rw [if_pos c5] at H
   have aF:=decide_eq_true c5
   have aL:decide (0 < y.length) = true:=decide_eq_true (by omega)
   clear c5
   obtain rfl:=Option.some.inj H
   go_enter Tryz.func120,Tryz.ntmps120
   go_wp2_with (first | ((with_reducible refine bh (N:=1) rfl ?_);(try (refine ff (by rfl) ?_;dsimp only));refine fy ?hg (N:=1) ?hd (cs:=#[.int .i64 z,.slice a0 y.length a1]) (t:=30) ?hr ?_;(case hd=>rfl);(case hg=>rfl);(case hr=>first | (go_simp;done) | (go_simp;rfl));intro ab hg w6 hbox hb;have j:=ae.mk hbox;have am:=af.gw hg HB;have ao:=af.gw hg HB;replace HB:=af.lb HB hb;clear hb hbox hg;obtain ⟨dl,dp,dq,dt⟩:=af.bw j.out) | (refine af.gl (some 7) Tryz.func149 #[.agg #[.int .i64 z,.slice a0 y.length a1]] ?_;(with_reducible refine (aJ.calls k z _ _ y a8 a9 aa a5 _ ?side1 ?side2 A2.out).mono ?_);(case side1=>exact af.Cw (Kd.aT a2.out HB.out));(case side2=>exact a3.out);rintro e w8 ⟨rfl,hb⟩;refine ⟨_,rfl,?_⟩;replace j:=af.bb j hb;replace HB:=ae.mk (ax af.L hb);(try clear hb);(try clear aO);(try clear hk);(try clear hi)) | ((with_reducible refine bh (N:=3) rfl ?_);(try (refine ff (by rfl) ?_;dsimp only));refine fy ?hg (N:=3) ?hd (cs:=#[.int .i64 0,.int .i64 0,.int .i64 0]) (t:=89) ?hr ?_;(case hd=>rfl);(case hg=>rfl);(case hr=>first | (go_simp;done) | (go_simp;rfl));intro ap hg w9 hbox hb;have a4:=ae.mk hbox;have ar:=af.gL (w:=w) hg af.L;have aw:=af.gL (w:=w) hg af.L;replace HB:=ae.mk (ax af.L hb);have X:=af.nl hg j;have Y:=af.ng hg j;replace j:=af.bb j hb;clear hb hbox hg;have du:=Y.out;have dv:=X.out;obtain ⟨aP,aR,aS,b0,b2,b3⟩:=af.nQ a4.out;obtain ⟨b4,b5,ba,bc⟩:=af.bw j.out) | (refine af.gl (some 14) Tryz.func150 #[.int .i64 z,.slice a0 y.length a1] ?_;(with_reducible refine (cv.calls k z _ _ y true _ ?side1 ?side2 A3.out).mono ?_);(case side1=>exact Kd.aT a2.out af.L);(case side2=>exact a3.out);rintro e w' ⟨rfl,⟨nd,rfl⟩⟩;refine ⟨_,rfl,?_⟩))
   go_ret
   exact ⟨af.E,af.L⟩
  ·rw [if_neg c5] at H
   have aF:decide (0 < (y.length:Int)) = false:=decide_eq_false c5
   have aL:decide (0 < y.length) = false:=decide_eq_false (by omega)
   clear c5
   obtain rfl:=Option.some.inj H
   go_enter Tryz.func120,Tryz.ntmps120
   go_wp2_with (first | ((with_reducible refine bh (N:=1) rfl ?_);(try (refine ff (by rfl) ?_;dsimp only));refine fy ?hg (N:=1) ?hd (cs:=#[.int .i64 z,.slice a0 y.length a1]) (t:=30) ?hr ?_;(case hd=>rfl);(case hg=>rfl);(case hr=>first | (go_simp;done) | (go_simp;rfl));intro ab hg e3 hbox hb;have j:=ae.mk hbox;have am:=af.gw hg HB;have ao:=af.gw hg HB;replace HB:=af.lb HB hb;clear hb hbox hg;obtain ⟨bi,bm,bo,bs⟩:=af.bw j.out) | (refine af.gl (some 7) Tryz.func149 #[.agg #[.int .i64 z,.slice a0 y.length a1]] ?_;(with_reducible refine (aJ.calls k z _ _ y a8 a9 aa a5 _ ?side1 ?side2 A2.out).mono ?_);(case side1=>exact af.Cw (Kd.aT a2.out HB.out));(case side2=>exact a3.out);rintro e e4 ⟨rfl,hb⟩;refine ⟨_,rfl,?_⟩;replace j:=af.bb j hb;replace HB:=ae.mk (ax af.L hb);(try clear hb);(try clear aO);(try clear hk);(try clear hi)) | ((with_reducible refine bh (N:=3) rfl ?_);(try (refine ff (by rfl) ?_;dsimp only));refine fy ?hg (N:=3) ?hd (cs:=#[.int .i64 0,.int .i64 0,.int .i64 0]) (t:=89) ?hr ?_;(case hd=>rfl);(case hg=>rfl);(case hr=>first | (go_simp;done) | (go_simp;rfl));intro ap hg e5 hbox hb;have a4:=ae.mk hbox;have ar:=af.gL (w:=w) hg af.L;have aw:=af.gL (w:=w) hg af.L;replace HB:=ae.mk (ax af.L hb);have X:=af.nl hg j;have Y:=af.ng hg j;replace j:=af.bb j hb;clear hb hbox hg;have dC:=Y.out;have dE:=X.out;obtain ⟨bv,c0,c1,ca,cb,cc⟩:=af.nQ a4.out;obtain ⟨ce,cf,ci,cp⟩:=af.bw j.out) | (refine af.gl (some 14) Tryz.func150 #[.int .i64 z,.slice a0 y.length a1] ?_;(with_reducible refine (cv.calls k z _ _ y true _ ?side1 ?side2 A3.out).mono ?_);(case side1=>exact Kd.aT a2.out af.L);(case side2=>exact a3.out);rintro e w' ⟨rfl,⟨nd,rfl⟩⟩;refine ⟨_,rfl,?_⟩))
   go_ret
   exact ⟨af.E,af.L⟩
 ·replace c4:=Bool.eq_false_iff.mpr c4
  subst c4
  replace H:(some false) = some r:=by rw [if_neg (show ¬ (false = true) by decide)] at H;exact H
  obtain rfl:=Option.some.inj H
  go_enter Tryz.func120,Tryz.ntmps120
  go_wp2_with (first | ((with_reducible refine bh (N:=1) rfl ?_);(try (refine ff (by rfl) ?_;dsimp only));refine fy ?hg (N:=1) ?hd (cs:=#[.int .i64 z,.slice a0 y.length a1]) (t:=30) ?hr ?_;(case hd=>rfl);(case hg=>rfl);(case hr=>first | (go_simp;done) | (go_simp;rfl));intro ab hg e6 hbox hb;have j:=ae.mk hbox;have am:=af.gw hg HB;have ao:=af.gw hg HB;replace HB:=af.lb HB hb;clear hb hbox hg;obtain ⟨d0,d1,d2,d3⟩:=af.bw j.out) | (refine af.gl (some 7) Tryz.func149 #[.agg #[.int .i64 z,.slice a0 y.length a1]] ?_;(with_reducible refine (aJ.calls k z _ _ y a8 a9 aa a5 _ ?side1 ?side2 A2.out).mono ?_);(case side1=>exact af.Cw (Kd.aT a2.out HB.out));(case side2=>exact a3.out);rintro e e7 ⟨rfl,hb⟩;refine ⟨_,rfl,?_⟩;replace j:=af.bb j hb;replace HB:=ae.mk (ax af.L hb);(try clear hb);(try clear aO);(try clear hk);(try clear hi)) | ((with_reducible refine bh (N:=3) rfl ?_);(try (refine ff (by rfl) ?_;dsimp only));refine fy ?hg (N:=3) ?hd (cs:=#[.int .i64 0,.int .i64 0,.int .i64 0]) (t:=89) ?hr ?_;(case hd=>rfl);(case hg=>rfl);(case hr=>first | (go_simp;done) | (go_simp;rfl));intro ap hg e8 hbox hb;have a4:=ae.mk hbox;have ar:=af.gL (w:=w) hg af.L;have aw:=af.gL (w:=w) hg af.L;replace HB:=ae.mk (ax af.L hb);have X:=af.nl hg j;have Y:=af.ng hg j;replace j:=af.bb j hb;clear hb hbox hg;have dT:=Y.out;have e0:=X.out;obtain ⟨d4,d5,d6,d7,d8,d9⟩:=af.nQ a4.out;obtain ⟨db,dd,df,dk⟩:=af.bw j.out) | (refine af.gl (some 14) Tryz.func150 #[.int .i64 z,.slice a0 y.length a1] ?_;(with_reducible refine (cv.calls k z _ _ y false _ ?side1 ?side2 A3.out).mono ?_);(case side1=>exact Kd.aT a2.out af.L);(case side2=>exact a3.out);rintro e w' ⟨rfl,⟨nd,rfl⟩⟩;refine ⟨_,rfl,?_⟩))
  go_ret
  exact ⟨af.E,af.L⟩
def gJ.f (k:Nat) (j:Int) (y:List Int) (Y:Int):Option (Bool):=(dF.f k j y).bind fun z=>(if z = true then ((eR.f j Y).bind fun X=>(some X)) else (some false))
set_option maxHeartbeats 8000000 in
set_option maxRecDepth 100000 in
theorem gJ.calls (k:Nat) (z:Int) (X:Option Addr) (Y:Nat) (j:List Int) (a1:Int) (r:Bool) (w:World) (a0:Kd.C (Kd.int .i64) w X j.length j) (a2:j.length≤Y) (h:gJ.f k z j a1 = some r) :
  Calls Tryz.prog 140 #[.agg #[.int .i64 z,.slice X j.length Y],.int .i64 a1] w fun e w'=>e = .returned (.bool r)∧Below w.heap.size w w':=by
 have aS:=Tryz.underlying30
 have a3:=ae.mk a0
 have a4:=ae.mk a2
 clear a0 a2
 have HB:=ae.mk (Below.refl w.heap.size w)
 unfold gJ.f at h
 have H:=h
 clear h
 obtain ⟨a9,A3,H⟩:=af.be H
 (try dsimp only at H)
 by_cases c4:a9 = true
 ·subst c4
  replace H:((eR.f z a1).bind fun a5=>(some a5)) = some r:=by rw [if_pos rfl] at H;exact H
  obtain ⟨a5,A5,H⟩:=af.be H
  (try dsimp only at H)
  obtain rfl:=Option.some.inj H
  go_enter Tryz.func140,Tryz.ntmps140
  go_wp2_with (first | ((with_reducible refine bh (N:=2) rfl ?_);refine af.bx 2 #[.int .i64 z,.slice X j.length Y] 30 ?_;intro a6 hg w6 hbox hb;have y:=ae.mk hbox;have a7:=af.gw hg HB;have a8:=af.gw hg HB;replace HB:=af.lb HB hb;clear hb hbox hg;obtain ⟨ap,ar,aw,aB⟩:=af.bw y.out) | ((with_reducible refine aA (f:=120) rfl ?_);refine af.gl (some 6) Tryz.func120 #[.agg #[.int .i64 z,.slice X j.length Y]] ?_;(with_reducible refine (dF.calls k z _ _ j true _ ?side1 ?side2 A3.out).mono ?_);(case side1=>exact af.Cw (Kd.aT a3.out HB.out));(case side2=>exact a4.out);rintro e w8 ⟨rfl,hb⟩;refine ⟨_,rfl,?_⟩;replace y:=af.bb y hb;replace HB:=af.lb HB hb;(try clear hb);(try clear aR);(try clear hk);(try clear hi);obtain ⟨aF,aL,aO,aP⟩:=af.bw y.out) | (go_at_call 82;(with_reducible refine (eR.calls z a1 a5 _ A5.out).mono ?_);rintro e w' ⟨rfl,⟨nd,rfl⟩⟩))
  go_ret
  exact ⟨af.E,af.L⟩
 ·replace c4:=Bool.eq_false_iff.mpr c4
  subst c4
  replace H:(some false) = some r:=by rw [if_neg (show ¬ (false = true) by decide)] at H;exact H
  obtain rfl:=Option.some.inj H
  go_enter Tryz.func140,Tryz.ntmps140
  go_wp2_with (first | ((with_reducible refine bh (N:=2) rfl ?_);refine af.bx 2 #[.int .i64 z,.slice X j.length Y] 30 ?_;intro a6 hg b0 hbox hb;have y:=ae.mk hbox;have a7:=af.gw hg HB;have a8:=af.gw hg HB;replace HB:=af.lb HB hb;clear hb hbox hg;obtain ⟨aa,ab,am,ao⟩:=af.bw y.out) | ((with_reducible refine aA (f:=120) rfl ?_);refine af.gl (some 6) Tryz.func120 #[.agg #[.int .i64 z,.slice X j.length Y]] ?_;(with_reducible refine (dF.calls k z _ _ j false _ ?side1 ?side2 A3.out).mono ?_);(case side1=>exact af.Cw (Kd.aT a3.out HB.out));(case side2=>exact a4.out);rintro e b2 ⟨rfl,hb⟩;refine ⟨_,rfl,?_⟩;replace y:=af.bb y hb;replace HB:=af.lb HB hb;(try clear hb);(try clear aR);(try clear hk);(try clear hi)))
  go_ret
  exact ⟨af.E,af.L⟩
def cU.f (k:Nat) (j:Int) (y:List Int) (Y:Int):Option (Bool):=(gJ.f k j y Y).bind fun z=>(if z = true then ((b6.f k j y Y).bind fun X=>(some (X == Y))) else (some false))
set_option maxHeartbeats 8000000 in
set_option maxRecDepth 100000 in
theorem cU.calls (k:Nat) (z:Int) (X:Option Addr) (Y:Nat) (y:List Int) (a1:Int) (r:Bool) (w:World) (a3:Kd.C (Kd.int .i64) w X y.length y) (a4:y.length≤Y) (h:cU.f k z y a1 = some r) :
  Calls Tryz.prog 98 #[.agg #[.int .i64 z,.slice X y.length Y],.int .i64 a1] w fun e w'=>e = .returned (.bool r)∧Below w.heap.size w w':=by
 have aS:=Tryz.underlying30
 have a0:=ae.mk a3
 have a2:=ae.mk a4
 clear a3 a4
 have HB:=ae.mk (Below.refl w.heap.size w)
 unfold cU.f at h
 have H:=h
 clear h
 obtain ⟨a9,A3,H⟩:=af.be H
 (try dsimp only at H)
 by_cases c4:a9 = true
 ·subst c4
  replace H:((b6.f k z y a1).bind fun a5=>(some (a5 == a1))) = some r:=by rw [if_pos rfl] at H;exact H
  obtain ⟨a5,A5,H⟩:=af.be H
  (try dsimp only at H)
  obtain rfl:=Option.some.inj H
  go_enter Tryz.func98,Tryz.ntmps98
  go_wp2_with (first | ((with_reducible refine bh (N:=2) rfl ?_);refine af.bx 2 #[.int .i64 z,.slice X y.length Y] 30 ?_;intro a6 hg w6 hbox hb;have j:=ae.mk hbox;have a7:=af.gw hg HB;have a8:=af.gw hg HB;replace HB:=af.lb HB hb;clear hb hbox hg;obtain ⟨ar,aw,aB,aF⟩:=af.bw j.out) | ((with_reducible refine aA (f:=140) rfl ?_);refine af.gl (some 7) Tryz.func140 #[.agg #[.int .i64 z,.slice X y.length Y],.int .i64 a1] ?_;(with_reducible refine (gJ.calls k z _ _ y a1 true _ ?side1 ?side2 A3.out).mono ?_);(case side1=>exact af.Cw (Kd.aT a0.out HB.out));(case side2=>exact a2.out);rintro e w8 ⟨rfl,hb⟩;refine ⟨_,rfl,?_⟩;replace j:=af.bb j hb;replace HB:=af.lb HB hb;(try clear hb);(try clear aa);(try clear hk);(try clear hi);obtain ⟨aL,aO,aP,aR⟩:=af.bw j.out) | (go_at_call 106;(with_reducible refine (b6.calls k z _ _ y a1 a5 _ ?side1 ?side2 A5.out).mono ?_);(case side1=>exact af.Cw (Kd.aT a0.out HB.out));(case side2=>exact a2.out);rintro e b0 ⟨rfl,hb⟩;replace j:=af.bb j hb;replace HB:=af.lb HB hb;(try clear hb);(try clear aa);(try clear hk);(try clear hi)))
  go_ret
  exact ⟨af.E,af.L⟩
 ·replace c4:=Bool.eq_false_iff.mpr c4
  subst c4
  replace H:(some false) = some r:=by rw [if_neg (show ¬ (false = true) by decide)] at H;exact H
  obtain rfl:=Option.some.inj H
  go_enter Tryz.func98,Tryz.ntmps98
  go_wp2_with (first | ((with_reducible refine bh (N:=2) rfl ?_);refine af.bx 2 #[.int .i64 z,.slice X y.length Y] 30 ?_;intro a6 hg b2 hbox hb;have j:=ae.mk hbox;have a7:=af.gw hg HB;have a8:=af.gw hg HB;replace HB:=af.lb HB hb;clear hb hbox hg;obtain ⟨ab,am,ao,ap⟩:=af.bw j.out) | ((with_reducible refine aA (f:=140) rfl ?_);refine af.gl (some 7) Tryz.func140 #[.agg #[.int .i64 z,.slice X y.length Y],.int .i64 a1] ?_;(with_reducible refine (gJ.calls k z _ _ y a1 false _ ?side1 ?side2 A3.out).mono ?_);(case side1=>exact af.Cw (Kd.aT a0.out HB.out));(case side2=>exact a2.out);rintro e b3 ⟨rfl,hb⟩;refine ⟨_,rfl,?_⟩;replace j:=af.bb j hb;replace HB:=af.lb HB hb;(try clear hb);(try clear aa);(try clear hk);(try clear hi)))
  go_ret
  exact ⟨af.E,af.L⟩
def eA.f (a0:Int):Option (Int):=(eu.f a0).bind fun j=>(if j = true then (if 0≤a0 then (some (wrap64 ((shl .i64 1 a0) - 1))) else (none)) else (some 0))
set_option maxHeartbeats 8000000 in
set_option maxRecDepth 100000 in
theorem eA.calls (a0:Int) (r:Int) (w:World) (h:eA.f a0 = some r) :
  Calls Tryz.prog 115 #[.int .i64 a0] w fun e w'=>e = .returned (.int .i64 r)∧cS w w':=by
 unfold eA.f at h
 have H:=h
 clear h
 obtain ⟨a1,A2,H⟩:=af.be H
 (try dsimp only at H)
 by_cases c3:a1 = true
 ·subst c3
  replace H:(if 0≤a0 then (some (wrap64 ((shl .i64 1 a0) - 1))) else (none)) = some r:=by rw [if_pos rfl] at H;exact H
  obtain ⟨c4,H⟩:=af.ip H
  have a7:=eq_true c4
  have a8:decide (0≤a0) = true:=decide_eq_true c4
  clear c4
  obtain ⟨y,j⟩:∃ j_:Int,(shl .i64 1 a0) = j_:=⟨_,rfl⟩
  replace H:(some (wrap64 ((y) - 1))) = some r:=by first | (rw [j] at H;exact H) | (simp only [j] at H ⊢;exact H)
  (try rw [j] at A2)
  have z:(IntKind.i64.wrap (1 * 2 ^ min a0.toNat 64)) = y:=j
  have X:a0≤64→(IntKind.i64.wrap (1 * 2 ^ a0.toNat)) = y:=fI j
  have a3:(IntKind.i64.wrap (2 ^ min a0.toNat 64)) = y:=by have Y:=z;rw [Int.one_mul] at Y;exact Y
  have a4:a0≤64→(IntKind.i64.wrap (2 ^ a0.toNat)) = y:=fun a2=>by have Y:=X a2;rw [Int.one_mul] at Y;exact Y
  have a5:(wrap64 (1 * 2 ^ min a0.toNat 64)) = y:=(aM _).symm.trans z
  have a6:a0≤64→(wrap64 (1 * 2 ^ a0.toNat)) = y:=fun Y=>(aM _).symm.trans (X Y)
  obtain rfl:=Option.some.inj H
  go_enter Tryz.func115,Tryz.ntmps115
  go_wp2_with (first | (refine af.gl (some 4) Tryz.func123 #[.int .i64 a0] ?_;(with_reducible refine (eu.calls a0 true _ A2.out).mono ?_);rintro e w' ⟨rfl,⟨nd,rfl⟩⟩;refine ⟨_,rfl,?_⟩))
  go_ret
  exact ⟨by first | rfl | (simp;done) | (simp only [← j] <;> (first | rfl | simp)) | (simp [*];done),af.G⟩
 ·replace c3:=Bool.eq_false_iff.mpr c3
  subst c3
  replace H:(some 0) = some r:=by rw [if_neg (show ¬ (false = true) by decide)] at H;exact H
  obtain rfl:=Option.some.inj H
  go_enter Tryz.func115,Tryz.ntmps115
  go_wp2_with (first | (refine af.gl (some 4) Tryz.func123 #[.int .i64 a0] ?_;(with_reducible refine (eu.calls a0 false _ A2.out).mono ?_);rintro e w' ⟨rfl,⟨nd,rfl⟩⟩;refine ⟨_,rfl,?_⟩))
  go_ret
  exact ⟨af.F,af.G⟩
def cA.l0 (g:Int→Option Bool):Nat→Int→List Int→Int→Option (List Int)
 | 0,_,_,_=>none
 | k+1,z,y,j=>(eA.f z).bind fun t=>(if j≤t then ((g j).bind fun b=>(if b = true then (if y.length < 17592186044416 then (cA.l0 g k z (y ++ [j]) (wrap64 (j+1))) else (none)) else (cA.l0 g k z y (wrap64 (j+1))))) else (some y))
def cA.f (k:Nat) (a0:Int) (g:Int→Option Bool):Option (List Int):=cA.l0 g k a0 [] 0
set_option maxHeartbeats 8000000 in
set_option maxRecDepth 100000 in
theorem cA.calls (k:Nat) (a0:Int) (fv:Value) (g:Int→Option Bool) (r:List Int) (w:World) (hF:af.nO Tryz.prog w fv g) (h:cA.f k a0 g = some r) :
  Calls Tryz.prog 78 #[.int .i64 a0,fv] w fun e w'=>∃ am:Value,e = .returned (am)∧Kd.R (Kd.int .i64) 3 w' w.heap.size (fun _=>True) am r∧Below w.heap.size w w':=by
 have HB:=ae.mk (Below.refl w.heap.size w)
 obtain ⟨a5,a1⟩:∃ y_:List Int,y_ = (([]:List Int)):=⟨_,rfl⟩
 have H:(cA.l0 g k a0 a5 0) = some r:=by rw [a1];exact h
 clear h
 have a7:=ae.mk a1
 clear a1
 have H':=ae.mk H
 clear H
 go_enter Tryz.func78,Tryz.ntmps78
 go_wp2_with (first | (refine af.lt (Kd.int .i64) 3 7 ?_;intro aF w2 a8 hb aB a9;clear aB a9;rw [← a7.out] at a8;have a3:=ae.mk (Kd.aV a8 (av HB.out));replace HB:=ae.mk (ax HB.out hb);clear hb a8))
 go_loopg [5,6] k (fun kq v5 v6 w'=>∃ (Y:List Int) (y:Int),v6 = .int .i64 y∧ae (cA.l0 g kq a0 Y y = some r)∧ae (kq≤k)∧ae (Kd.R (Kd.int .i64) 3 w' w.heap.size (fun _=>True) v5 Y)∧ae (Below w.heap.size w w'))
 case atStart=>exact ⟨a5,0,rfl,H',⟨Nat.le_refl _⟩,a3,HB⟩
 case round =>
  clear H'
  try clear HB
  try clear a3
  obtain ⟨Y,y,rfl,HA,a4,j,HB⟩:=hrel
  cases gk with
  | zero=>exact absurd HA.out (by simp [cA.l0])
  | succ k1 =>
   have H:=HA.out
   clear HA
   simp only [cA.l0] at H
   obtain ⟨t,ao,H⟩:=Option.bind_eq_some_iff.mp H
   have A4:=ae.mk ao
   clear ao
   by_cases c4:y≤t
   ·rw [if_pos c4] at H
    have ap:=decide_eq_true c4
    clear c4
    obtain ⟨t127,ar,H⟩:=Option.bind_eq_some_iff.mp H
    have A5:=ae.mk ar
    clear ar
    by_cases c6:t127 = true
    ·subst c6
     replace H:(if Y.length < 17592186044416 then (cA.l0 g k1 a0 (Y ++ [y]) (wrap64 (y+1))) else (none)) = some r:=by rw [if_pos rfl] at H;exact H
     obtain ⟨c7,H⟩:=af.ip H
     have aw:=ae.mk c7
     clear c7
     obtain ⟨a6,a2⟩:∃ y_:List Int,y_ = (Y ++ [y]):=⟨_,rfl⟩
     replace H:(cA.l0 g k1 a0 a6 (wrap64 (y+1))) = some r:=by rw [a2];exact H
     have aa:=ae.mk a2
     clear a2
     have H':=ae.mk H
     clear H
     go_wp2_with (first | (refine af.gl (some 10) Tryz.func115 #[.int .i64 a0] ?_;(with_reducible refine (eA.calls a0 t _ A4.out).mono ?_);rintro e w' ⟨rfl,hd⟩;refine ⟨_,rfl,?_⟩;have z:=ae.mk (ax HB.out hd.below);have X:=ae.mk (Kd.dW j.out hd.below);clear HB j hd;have HB:=z;have j:=X;clear X z) | ((with_reducible refine bh (N:=16) rfl ?_);refine af.nP (some 16) rfl rfl 14 rfl hF A5.out HB.out rfl (by (try simp only [List.map_toArray,List.map_cons,List.map_nil]);first | done | rfl) ?_;intro w5 hb;have z:=ae.mk (ax HB.out hb);have X:=ae.mk (Kd.dW j.out hb);clear HB j hb;have HB:=z;have j:=X;clear X z) | ((with_reducible refine cP (b:=.append) (xs:=#[.tmp 17,.tmp 19]) rfl ?_);at_builtin;refine Kd.eE (Kd.int .i64) (w0:=w) w.heap.size rfl (.tmp 17) (.tmp 19) 28 3 (.int .i64 0) 8 rfl Tryz.underlying28 eI rfl (by decide) (by omega) u5 Y y [.int .i64 y] (fun _=>True) (fun _=>False) rfl rfl (by exact rfl) (fun _ hk=>hk.elim) (by exact fun _ _=>trivial) (by exact by (with_reducible repeat (first | apply Kd.cH | apply Kd.cI | apply Kd.bl));exact j.out) (by exact af.L) (by exact av af.L) (by have:=aw.out;omega) ?_;intro aL w8 ho hb hg hat;rw [← aa.out] at ho;have X:=ae.mk (hb);have z:=ae.mk (ho);clear HB;clear j;have HB:=X;have ab:=z;clear X z;clear ho hb hg hat))
     go_roundg k1
     case measure=>have:=a4.out;omega
     case rel=>exact ⟨(a6),(wrap64 (y+1)),rfl,H',⟨by have:=a4.out;omega⟩,ab,HB⟩
    ·replace c6:=Bool.eq_false_iff.mpr c6
     subst c6
     have H1:(cA.l0 g k1 a0 Y (wrap64 (y+1))) = some r:=by rw [if_neg (show ¬ (false = true) by decide)] at H;exact H
     clear H
     have H':=ae.mk H1
     clear H1
     go_wp2_with (first | (refine af.gl (some 10) Tryz.func115 #[.int .i64 a0] ?_;(with_reducible refine (eA.calls a0 t _ A4.out).mono ?_);rintro e w' ⟨rfl,hd⟩;refine ⟨_,rfl,?_⟩;have z:=ae.mk (ax HB.out hd.below);have X:=ae.mk (Kd.dW j.out hd.below);clear HB j hd;have HB:=z;have j:=X;clear X z) | ((with_reducible refine bh (N:=16) rfl ?_);refine af.nP (some 16) rfl rfl 14 rfl hF A5.out HB.out rfl (by (try simp only [List.map_toArray,List.map_cons,List.map_nil]);first | done | rfl) ?_;intro w5 hb;have z:=ae.mk (ax HB.out hb);have X:=ae.mk (Kd.dW j.out hb);clear HB j hb;have HB:=z;have j:=X;clear X z))
     go_roundg k1
     case measure=>have:=a4.out;omega
     case rel=>exact ⟨Y,(wrap64 (y+1)),rfl,H',⟨by have:=a4.out;omega⟩,j,HB⟩
   ·rw [if_neg c4] at H
    have ap:decide (y≤t) = false:=decide_eq_false c4
    clear c4
    obtain rfl:=Option.some.inj H
    go_wp2_with (first | (refine af.gl (some 10) Tryz.func115 #[.int .i64 a0] ?_;(with_reducible refine (eA.calls a0 t _ A4.out).mono ?_);rintro e w' ⟨rfl,hd⟩;refine ⟨_,rfl,?_⟩;have z:=ae.mk (ax HB.out hd.below);have X:=ae.mk (Kd.dW j.out hd.below);clear HB j hd;have HB:=z;have j:=X;clear X z))
    go_ret
    exact ⟨_,rfl,j.out,HB.out⟩
def dr.f (k:Nat) (j:Int) (y:List Int) (s:Int):Option Bool:=(b6.f k j y s).bind fun t=>some (t == s)
theorem dr.mono (a0:Int) (l0:List Int) (s:Int) (k:Nat):ic (dr.f k a0 l0 s) (dr.f (k+1) a0 l0 s):=ic.bind (b6.mono _ _ _ _) fun _=>ic.refl _
def eV.f (k:Nat) (j:Int) (y:List Int):Option (List Int):=cA.f k j (fun s=>dr.f k j y s)
set_option maxHeartbeats 8000000 in
set_option maxRecDepth 100000 in
theorem dr.calls (k:Nat) (y:Int) (z:Option Addr) (X:Nat) (j:List Int) (s:Int) (b:Bool) (gb:Nat) (w:World) (hbk:w.heap[gb]? = some (.cells #[.int .i64 y,(.slice z j.length X)] 30 (0,0))) (Y:Kd.C (Kd.int .i64) w z j.length j) (a0:j.length≤X) (h:dr.f k y j s = some b) :
  Calls Tryz.prog 143 #[.int .i64 s,.pointer (some ⟨gb,0,none⟩)] w fun e w'=>e = .returned (.bool b)∧Below w.heap.size w w':=by
 have a3:=Tryz.underlying30
 have HR:=ae.mk Y
 have HC:=ae.mk a0
 have a1:w.cell? ⟨gb,0,none⟩ = some (.int .i64 y):=(ak hbk 0).trans rfl
 have a2:w.cell? ⟨gb,1,none⟩ = some (.slice z j.length X):=(ak hbk 1).trans rfl
 clear Y a0 hbk
 unfold dr.f at h
 obtain ⟨t,h1,h⟩:=Option.bind_eq_some_iff.mp h
 have A1:=ae.mk h1
 clear h1
 obtain rfl:=Option.some.inj h
 clear h
 go_enter Tryz.func143,Tryz.ntmps143
 go_wp2_with (first | (refine af.gl (some 6) Tryz.func106 #[.agg #[.int .i64 y,.slice z j.length X],.int .i64 s] ?_;(with_reducible refine (b6.calls k y _ _ j s t _ HR.out HC.out A1.out).mono ?_);rintro e w6 ⟨rfl,hb⟩;refine ⟨_,rfl,?_⟩;have HB:=ae.mk hb;clear hb))
 go_ret
 exact ⟨rfl,HB.out⟩
theorem dr.tv (k:Nat) (y:Int) (z:Option Addr) (X:Nat) (j:List Int) (gb:Nat) (w:World) (hbk:w.heap[gb]? = some (.cells #[.int .i64 y,(.slice z j.length X)] 30 (0,0))) (Y:Kd.C (Kd.int .i64) w z j.length j) (a0:j.length≤X) :
  af.nO Tryz.prog w (.func (.func 143) #[] #[.pointer (some ⟨gb,0,none⟩)]) (fun s=>dr.f k y j s) :=
 ⟨⟨143,#[.pointer (some ⟨gb,0,none⟩)],Tryz.f143,rfl,Tryz.func143,by kernel_rfl,rfl,fun s b w' hw hg=>dr.calls k y z X j s b gb w' (b7 hbk hw) (Kd.aT Y hw) a0 hg⟩⟩
set_option maxHeartbeats 8000000 in
set_option maxRecDepth 100000 in
theorem eV.calls (k:Nat) (j:Int) (X:Option Addr) (Y:Nat) (y:List Int) (r:List Int) (w:World) (a1:Kd.C (Kd.int .i64) w X y.length y) (a2:y.length≤Y) (h:eV.f k j y = some r) :
  Calls Tryz.prog 104 #[.agg #[.int .i64 j,.slice X y.length Y]] w fun e w'=>∃ a6:Value,e = .returned (a6)∧Kd.R (Kd.int .i64) 3 w' w.heap.size (fun _=>True) a6 r∧Below w.heap.size w w':=by
 have a7:=Tryz.underlying30
 have HR:=ae.mk a1
 have HC:=ae.mk a2
 have HB:=ae.mk (Below.refl w.heap.size w)
 have A1:=ae.mk (show cA.f k j (fun s=>dr.f k j y s) = some r from h)
 clear a1 a2 h
 go_enter Tryz.func104,Tryz.ntmps104
 go_wp2_with (first | (refine af.bx 1 #[.int .i64 j,.slice X y.length Y] 30 ?_;intro z hg w4 hbox hb;have a3:=ae.mk (ax HB.out hb);clear HB;have HB:=a3;have a0:=ae.mk hbox;clear a3 hb hbox hg;have a4:w4.cell? ⟨z,0,none⟩ = some (.int .i64 j):=(ak a0.out 0).trans rfl;have a5:w4.cell? ⟨z,1,none⟩ = some (.slice X y.length Y):=(ak a0.out 1).trans rfl) | (refine af.gl (some 6) Tryz.func78 #[.int .i64 j,.func (.func 143) #[] #[.pointer (some ⟨z,0,none⟩)]] ?_;(with_reducible refine (cA.calls k j _ (fun s=>dr.f k j y s) r _ (dr.tv k j X Y y z _ a0.out (Kd.aT HR.out HB.out) HC.out) A1.out).mono ?_);rintro e w6 ⟨v1,rfl,ho,hb⟩;refine ⟨_,rfl,?_⟩;have HO:=ae.mk (Kd.aV ho (av HB.out));have a3:=ae.mk (ax HB.out hb);clear HB;have HB:=a3;clear a3 hb ho a4 a5))
 go_ret
 exact ⟨_,rfl,HO.out,HB.out⟩
def fu.f (a0:Int) (z:Int):Option (Bool):=(dB.f a0).bind fun j=>(if j = true then ((dB.f z).bind fun y=>(if y = true then (some ((Go.bits .andNot .i64 a0 z) == 0)) else (some false))) else (some false))
set_option maxHeartbeats 8000000 in
set_option maxRecDepth 100000 in
theorem fu.calls (a0:Int) (y:Int) (r:Bool) (w:World) (h:fu.f a0 y = some r) :
  Calls Tryz.prog 141 #[.int .i64 a0,.int .i64 y] w fun e w'=>e = .returned (.bool r)∧cS w w':=by
 unfold fu.f at h
 have H:=h
 clear h
 obtain ⟨z,X,H⟩:=af.be H
 (try dsimp only at H)
 by_cases c4:z = true
 ·subst c4
  replace H:((dB.f y).bind fun j=>(if j = true then (some ((Go.bits .andNot .i64 a0 y) == 0)) else (some false))) = some r:=by rw [if_pos rfl] at H;exact H
  obtain ⟨j,Y,H⟩:=af.be H
  (try dsimp only at H)
  by_cases c6:j = true
  ·subst c6
   replace H:(some ((Go.bits .andNot .i64 a0 y) == 0)) = some r:=by rw [if_pos rfl] at H;exact H
   obtain rfl:=Option.some.inj H
   go_enter Tryz.func141,Tryz.ntmps141
   go_wp2_with (first | ((with_reducible refine aA (f:=147) rfl ?_);refine af.gl (some 6) Tryz.func147 #[.int .i64 a0] ?_;(with_reducible refine (dB.calls a0 true _ X.out).mono ?_);rintro e w' ⟨rfl,⟨nd,rfl⟩⟩;refine ⟨_,rfl,?_⟩) | (go_at_call 147;(with_reducible refine (dB.calls y true _ Y.out).mono ?_);rintro e w' ⟨rfl,⟨nd,rfl⟩⟩))
   go_ret
   exact ⟨af.F,af.G⟩
  ·replace c6:=Bool.eq_false_iff.mpr c6
   subst c6
   replace H:(some false) = some r:=by rw [if_neg (show ¬ (false = true) by decide)] at H;exact H
   obtain rfl:=Option.some.inj H
   go_enter Tryz.func141,Tryz.ntmps141
   go_wp2_with (first | ((with_reducible refine aA (f:=147) rfl ?_);refine af.gl (some 6) Tryz.func147 #[.int .i64 a0] ?_;(with_reducible refine (dB.calls a0 true _ X.out).mono ?_);rintro e w' ⟨rfl,⟨nd,rfl⟩⟩;refine ⟨_,rfl,?_⟩) | (go_at_call 147;(with_reducible refine (dB.calls y false _ Y.out).mono ?_);rintro e w' ⟨rfl,⟨nd,rfl⟩⟩))
   go_ret
   exact ⟨af.F,af.G⟩
 ·replace c4:=Bool.eq_false_iff.mpr c4
  subst c4
  replace H:(some false) = some r:=by rw [if_neg (show ¬ (false = true) by decide)] at H;exact H
  obtain rfl:=Option.some.inj H
  go_enter Tryz.func141,Tryz.ntmps141
  go_wp2_with (first | ((with_reducible refine aA (f:=147) rfl ?_);refine af.gl (some 6) Tryz.func147 #[.int .i64 a0] ?_;(with_reducible refine (dB.calls a0 false _ X.out).mono ?_);rintro e w' ⟨rfl,⟨nd,rfl⟩⟩;refine ⟨_,rfl,?_⟩))
  go_ret
  exact ⟨af.F,af.G⟩
end Go.Proofs.YtmpodackojmojaaGreat.Pr
end
