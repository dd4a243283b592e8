/- The claim FnLattice: every text that its row comes to, laid together by slim.py (the words of the kit's print, the printed walks, the pure law, the row). -/
import Derived.Test.YtmpodackojmojaaGreatYFnLattice2
section
namespace Go.Proofs.YtmpodackojmojaaGreat.Pr
open Go.RowKit Go.Proofs.ag.aX Go.Proofs.ag.bU Go.Proofs.ag.bQ
attribute [local go_sem] je jf jW jX iF iG jg jh
set_option linter.unusedVariables false
set_option linter.unusedSimpArgs false
mutual
def bG.l0:Nat→List Int→List Int→List Int→Int→Int→Option (List Int×List Int)
 | 0,_,_,_,_,_=>none
 | k+1,Y,x5,y,X,j=>if j < X then (if 0≤j then (if j < (y.length:Int) then (if j≤(Y.length:Int) then ((some (Y.take (j:Int).toNat:List Int)).bind fun a1=>(bG.l1 k Y x5 j (rd y j) 0 y X j a1 (a1.length:Int) 0)) else (none)) else (none)) else (none)) else (some (Y,x5))
def bG.l1:Nat→List Int→List Int→Int→Int→Int→List Int→Int→Int→List Int→Int→Int→Option (List Int×List Int)
 | 0,_,_,_,_,_,_,_,_,_,_,_=>none
 | k+1,Y,x5,x6,x7,x8,y,X,j,a0,a3,z=>if z < a3 then (if 0≤z then (if z < (a0.length:Int) then ((fu.f (rd a0 z) x7).bind fun a4=>(if a4 = true then (if z < (x5.length:Int) then (bG.l1 k Y x5 x6 x7 (wrap64 (x8+(rd x5 z))) y X j a0 a3 (wrap64 (z+1))) else (none)) else (bG.l1 k Y x5 x6 x7 x8 y X j a0 a3 (wrap64 (z+1))))) else (none)) else (none)) else (if 0≤x6 then (if x6 < (x5.length:Int) then ((some (x5.set (x6:Int).toNat (wrap64 (-x8)):List Int)).bind fun a2=>(if x6 = 0 then (bG.l0 k Y (a2.set (x6:Int).toNat 1) y X (wrap64 (j+1))) else (bG.l0 k Y a2 y X (wrap64 (j+1))))) else (none)) else (none))
end
def bG.f (k:Nat) (y:Int) (z:List Int):Option (List Int×List Int):=(eV.f k y z).bind fun j=>(if 0≤(j.length:Int) then (if ((j.length:Int):Int).toNat≤35184372088832 then (bG.l0 k j (List.replicate ((j.length:Int):Int).toNat 0) j (j.length:Int) 0) else (none)) else (none))
set_option maxHeartbeats 8000000 in
set_option maxRecDepth 100000 in
theorem bG.calls (k:Nat) (am:Int) (ao:Option Addr) (ap:Nat) (a9:List Int) (r1:List Int) (r2:List Int) (w:World) (ce:Kd.C (Kd.int .i64) w ao a9.length a9) (cf:a9.length≤ap) (h:bG.f k am a9 = some (r1,r2)) :
  Calls Tryz.prog 99 #[.agg #[.int .i64 am,.slice ao a9.length ap]] w fun e w'=>∃ e0 e1:Value,e = .returned (.tuple #[e0,e1])∧Kd.R (Kd.int .i64) 3 w' w.heap.size (fun k_=>some k_≠(e1:Value).ownBlock) e0 r1∧Kd.R (Kd.int .i64) 3 w' w.heap.size (fun k_=>some k_≠(e0:Value).ownBlock) e1 r2∧Below w.heap.size w w':=by
 have h7:=Tryz.underlying30
 have e2:=ae.mk ce
 have e3:=ae.mk cf
 clear ce cf
 have HB:=ae.mk (Below.refl w.heap.size w)
 unfold bG.f at h
 have H:=h
 clear h
 obtain ⟨y,A2,H⟩:=af.be H
 (try dsimp only at H)
 obtain ⟨c3,H⟩:=af.ip H
 have h8:=eq_true c3
 have h9:decide (0≤(y.length:Int)) = true:=decide_eq_true c3
 clear c3
 obtain ⟨c4,H⟩:=af.ip H
 have hj:=eq_true c4
 have hl:decide (((y.length:Int):Int).toNat≤35184372088832) = true:=decide_eq_true c4
 clear c4
 obtain ⟨dE,ba⟩:∃ y_:List Int,y_ = (List.replicate ((y.length:Int):Int).toNat 0):=⟨_,rfl⟩
 replace H:(bG.l0 k y dE y (y.length:Int) 0) = some (r1,r2):=by (try rw [ba]);exact af.Z
 have ci:=ae.mk ba
 clear ba
 have H':=ae.mk H
 clear H
 go_enter Tryz.func99,Tryz.ntmps99
 go_wp2_with (first | (refine af.bx 1 #[.int .i64 am,.slice ao a9.length ap] 30 ?_;intro aw hg w5 hbox hb;have X:=ae.mk hbox;have fs:=af.gw hg HB;have ft:=af.gw hg HB;replace HB:=af.lb HB hb;clear hb hbox hg;obtain ⟨f8,f9,fd,fi⟩:=af.bw X.out) | (refine af.gl (some 12) Tryz.func104 #[.agg #[.int .i64 am,.slice ao a9.length ap]] ?_;(with_reducible refine (eV.calls k am _ _ a9 y _ ?side1 ?side2 A2.out).mono ?_);(case side1=>exact af.Cw (Kd.aT e2.out HB.out));(case side2=>exact e3.out);rintro e w7 ⟨hm,rfl,ej,hb⟩;refine ⟨_,rfl,?_⟩;have ar:=ae.mk (Kd.aV ej (av (af.Lw HB.out)));replace X:=af.bb X hb;replace HB:=af.lb HB hb;(try clear hb);(try clear hA);(try clear hk);(try clear hi);(try clear ej);obtain ⟨dl,ab,fw⟩:=Kd.aK ar.out;subst fw) | ((with_reducible refine bh (N:=15) rfl ?_);refine Kd.lq (Kd.int .i64) _ 3 rfl (N:=15) rfl 28 _ _ rfl (y.length:Int) rfl rfl Tryz.underlying28 (.int .i64 0) 8 eI rfl (by decide) (by omega) 0 (ok:=fun _=>True) (okp:=fun _=>True) rfl (fun _ hk=>hk) trivial (af.D) (Nat.le_trans (Nat.mul_le_mul_right _ (af.D:(y.length:Int).toNat≤35184372088832)) (by omega)) (Below.refl _ _) (Nat.le_refl _) ?_;intro aF w9 aL hb g0 e4;clear g0 e4;(first | rw [← ci.out] at aL | (simp only [Int.reduceToNat] at aL;rw [← ci.out] at aL));have e5:=ae.mk (Kd.aV (Kd.br aL (Kd.cK (af.Rw ar.out))) (av (af.Lw HB.out)));replace ar:=ae.mk (Kd.aQ (af.Rw ar.out) (Kd.bn aL) hb);replace X:=af.bb X hb;replace HB:=af.lb HB hb;clear hb aL))
 go_loopg [18] k (fun kq g1 w'=>∃ (z:List Int) (j:Int),g1 = .int .i64 j∧ae (bG.l0 kq y z y (y.length:Int) j = some (r1,r2))∧ae (kq≤k)∧ae (Kd.R (Kd.int .i64) 3 w' w.heap.size (fun k_=>some k_≠(aF:Value).ownBlock) (.slice dl y.length ab) y)∧ae (Kd.R (Kd.int .i64) 3 w' w.heap.size (fun k_=>some k_≠((.slice dl y.length ab):Value).ownBlock∧some k_≠((.slice dl y.length ab):Value).ownBlock) aF z)∧ae (Kd.R (Kd.int .i64) 3 w' w.heap.size (fun k_=>some k_≠(aF:Value).ownBlock) (.slice dl y.length ab) y)∧ae (w'.heap[aw]? = some (.cells #[.int .i64 am,(.slice ao a9.length ap)] 30 (0,0)))∧ae (Below w.heap.size w w'))
 case atStart=>exact ⟨(dE),(0),af.F,H',⟨Nat.le_refl _⟩,⟨af.Rw (Kd.aC ar.out (fun _ hk=>hk.2))⟩,⟨af.Rw (Kd.aC e5.out (fun _ hk=>(by first | exact ⟨hk.2,hk.2⟩ | (simp_all;done))))⟩,⟨af.Rw (Kd.aC ar.out (fun _ hk=>hk.2))⟩,⟨af.Bw X.out⟩,⟨af.Lw HB.out⟩⟩
 case round =>
  clear H'
  obtain ⟨z,j,rfl,HA,aR,a5,a2,a6,X,HB⟩:=hrel
  cases gk with
  | zero=>exact absurd HA.out (by simp [bG.l0])
  | succ k1 =>
   have H:=HA.out
   clear HA
   simp only [bG.l0] at H
   by_cases ca:j < (y.length:Int)
   ·rw [if_pos ca] at H
    have e6:=decide_eq_true ca
    clear ca
    obtain ⟨el,H⟩:=af.ip H
    have g2:=decide_eq_true el
    clear el
    obtain ⟨em,H⟩:=af.ip H
    have g3:=decide_eq_true em
    clear em
    have g4:=eq_true (af.D:0≤j)
    obtain ⟨e7,H⟩:=af.ip H
    have g5:=eq_true e7
    have g6:decide (j≤(y.length:Int)) = true:=decide_eq_true e7
    clear e7
    obtain ⟨a3,bc⟩:∃ y_:List Int,y_ = (y.take (j:Int).toNat):=⟨_,rfl⟩
    replace H:(bG.l1 k1 y z j (rd y j) 0 y (y.length:Int) j a3 (a3.length:Int) 0) = some (r1,r2):=by (try rw [bc]);exact af.Z
    have aB:=ae.mk bc
    clear bc
    have H':=ae.mk H
    clear H
    obtain ⟨a1,eo,cp,hq,eq⟩:=af.ai (Kd.ah a6.out).2.2 j
    cases eo
    have d0:(j:Int)≤((y.length:Int):Int):=af.D
    obtain ⟨ht,d1,_,e8,_⟩:=info_parts eI
    have aS:y.length≤ab:=(Kd.ah a5.out).2.1
    have dT:Kd.C (Kd.int .i64) _ (some a1) y.length y:=(Kd.ah a5.out).2.2
    have dp:=nE (P:=Tryz.prog) 28 3 .i64 Tryz.underlying28 d1 (some a1) y.length ab j (af.D) d0 aS
    have d2:=Kd.kD (m:=(j:Int).toNat) dT (by omega)
    have d3:a3.length = (j:Int).toNat:=(by rw [aB.out,List.length_take];omega)
    rw [← aB.out] at d2
    rw [← d3] at dp
    have a7:=ae.mk d2
    have g7:=ae.mk (show a3.length≤ab from by omega)
    clear d2 dT aS d1 e8
    have hu:=ae.mk d3
    clear d3
    have d4:=ae.mk (show (j:Int).toNat≤y.length from by omega)
    replace d0:=eq_true d0
    go_wp2
    go_loopg [8,27] k1 (fun kq v8 g8 w'=>∃ (aa:Int) (Y:Int),v8 = .int .i64 aa∧g8 = .int .i64 Y∧ae (bG.l1 kq y z j (rd y j) aa y (y.length:Int) j a3 (a3.length:Int) Y = some (r1,r2))∧ae (kq≤k1)∧ae (Kd.R (Kd.int .i64) 3 w' w.heap.size (fun k_=>some k_≠(aF:Value).ownBlock) (.slice (some a1) y.length ab) y)∧ae (Kd.R (Kd.int .i64) 3 w' w.heap.size (fun k_=>some k_≠((.slice (some a1) y.length ab):Value).ownBlock∧some k_≠((.slice (some a1) y.length ab):Value).ownBlock) aF z)∧ae (Kd.R (Kd.int .i64) 3 w' w.heap.size (fun k_=>some k_≠(aF:Value).ownBlock) (.slice (some a1) y.length ab) y)∧ae (w'.heap[aw]? = some (.cells #[.int .i64 am,(.slice ao a9.length ap)] 30 (0,0)))∧ae (Kd.C (Kd.int .i64) w' (some a1) a3.length a3)∧ae (Below w.heap.size w w'))
    case atStart=>exact ⟨(0),(0),af.F,af.F,H',⟨Nat.le_refl _⟩,⟨af.Rw a5.out⟩,⟨af.Rw a2.out⟩,⟨af.Rw a6.out⟩,⟨af.Bw X.out⟩,⟨by repeat (first | (with_reducible exact a7.out) | (with_reducible refine Kd.fE ?_ _) | (with_reducible refine Kd.fF ?_ _) | (with_reducible refine Kd.fV ?_) | exact a7.out)⟩,⟨af.Lw HB.out⟩⟩
    case round =>
     clear H'
     try clear q1
     try clear q4
     try clear hC
     try clear d0
     try clear cp
     try clear d0
     try clear eq
     obtain ⟨aa,Y,rfl,rfl,HA,b0,a5,a2,a6,X,a7,HB⟩:=hrel
     cases gk with
     | zero=>exact absurd HA.out (by simp [bG.l1])
     | succ k2 =>
      have H:=HA.out
      clear HA
      simp only [bG.l1] at H
      by_cases cb:Y < (a3.length:Int)
      ·rw [if_pos cb] at H
       have ea:=decide_eq_true cb
       clear cb
       obtain ⟨es,H⟩:=af.ip H
       have g9:=decide_eq_true es
       clear es
       obtain ⟨et,H⟩:=af.ip H
       have gb:=decide_eq_true et
       clear et
       obtain ⟨ev,ew,H⟩:=af.be H
       (try dsimp only at H)
       by_cases dq:ev = true
       ·subst dq
        replace H:(if Y < (z.length:Int) then (bG.l1 k2 y z j (rd y j) (wrap64 (aa+(rd z Y))) y (y.length:Int) j a3 (a3.length:Int) (wrap64 (Y+1))) else (none)) = some (r1,r2):=by rw [if_pos rfl] at H;exact H
        obtain ⟨ex,H⟩:=af.ip H
        have gc:=decide_eq_true ex
        clear ex
        have H':=ae.mk H
        clear H
        obtain ⟨bi,d5,a8,eQ,f0⟩:=af.ai a7.out Y
        obtain rfl:a1 = bi:=(by injection d5)
        try replace a8:=(HB.out.cell (World.block_lt_of_cell? w _ a8)).trans a8
        go_wp2_with (first | (refine af.gl (some 34) Tryz.func141 #[.int .i64 (rd a3 Y),.int .i64 (rd y j)] ?_;(with_reducible refine (fu.calls (rd a3 Y) (rd y j) true _ ew.out).mono ?_);rintro e w' ⟨rfl,⟨nd,rfl⟩⟩;refine ⟨_,rfl,?_⟩;obtain ⟨hx,hz,f1⟩:=Kd.aK a2.out;subst f1;have d6:0≤(Y:Int):=af.D;have d7:Y < (z.length:Int):=af.D;obtain ⟨go,f2,f3⟩:=Kd.ey (Kd.ah a2.out).2.2 Y d6 d7;cases f2;replace d6:=eq_true d6;replace d7:=eq_true d7))
        go_roundg k2
        case measure=>have:=aR.out;have:=b0.out;omega
        case rel=>exact ⟨(wrap64 (aa+(rd z Y))),(wrap64 (Y+1)),af.F,af.F,H',⟨by have:=aR.out;have:=b0.out;omega⟩,⟨af.Rw a5.out⟩,⟨af.Rw a2.out⟩,⟨af.Rw a6.out⟩,⟨af.Bw X.out⟩,⟨by repeat (first | (with_reducible exact a7.out) | (with_reducible refine Kd.fE ?_ _) | (with_reducible refine Kd.fF ?_ _) | (with_reducible refine Kd.fV ?_) | exact a7.out)⟩,⟨af.Lw HB.out⟩⟩
       ·replace dq:=Bool.eq_false_iff.mpr dq
        subst dq
        replace H:(bG.l1 k2 y z j (rd y j) aa y (y.length:Int) j a3 (a3.length:Int) (wrap64 (Y+1))) = some (r1,r2):=by rw [if_neg (show ¬ (false = true) by decide)] at H;exact H
        have H':=ae.mk H
        clear H
        obtain ⟨bi,d5,a8,eQ,f0⟩:=af.ai a7.out Y
        obtain rfl:a1 = bi:=(by injection d5)
        try replace a8:=(HB.out.cell (World.block_lt_of_cell? w _ a8)).trans a8
        go_wp2_with (first | (refine af.gl (some 34) Tryz.func141 #[.int .i64 (rd a3 Y),.int .i64 (rd y j)] ?_;(with_reducible refine (fu.calls (rd a3 Y) (rd y j) false _ ew.out).mono ?_);rintro e w' ⟨rfl,⟨nd,rfl⟩⟩;refine ⟨_,rfl,?_⟩))
        go_roundg k2
        case measure=>have:=aR.out;have:=b0.out;omega
        case rel=>exact ⟨(aa),(wrap64 (Y+1)),af.F,af.F,H',⟨by have:=aR.out;have:=b0.out;omega⟩,⟨af.Rw a5.out⟩,⟨af.Rw a2.out⟩,⟨af.Rw a6.out⟩,⟨af.Bw X.out⟩,⟨by repeat (first | (with_reducible exact a7.out) | (with_reducible refine Kd.fE ?_ _) | (with_reducible refine Kd.fF ?_ _) | (with_reducible refine Kd.fV ?_) | exact a7.out)⟩,⟨af.Lw HB.out⟩⟩
      ·rw [if_neg cb] at H
       have ea:decide (Y < (a3.length:Int)) = false:=decide_eq_false cb
       clear cb
       obtain ⟨f4,H⟩:=af.ip H
       have gs:=decide_eq_true f4
       clear f4
       obtain ⟨f5,H⟩:=af.ip H
       have gt:=decide_eq_true f5
       clear f5
       obtain ⟨aO,bm⟩:∃ y_:List Int,y_ = (z.set (j:Int).toNat (wrap64 (-aa))):=⟨_,rfl⟩
       replace H:(if j = 0 then (bG.l0 k2 y (aO.set (j:Int).toNat 1) y (y.length:Int) (wrap64 (j+1))) else (bG.l0 k2 y aO y (y.length:Int) (wrap64 (j+1)))) = some (r1,r2):=by (try rw [bm]);exact af.Z
       have d8:=ae.mk bm
       clear bm
       by_cases bo:j = 0
       ·rw [if_pos bo] at H
        have eb:(j == 0) = true:=beq_iff_eq.mpr bo
        have ec:(j != 0) = false:=bne_eq_false_iff_eq.mpr bo
        clear bo
        obtain ⟨d9,bs⟩:∃ y_:List Int,y_ = (aO.set (j:Int).toNat 1):=⟨_,rfl⟩
        replace H:(bG.l0 k2 y d9 y (y.length:Int) (wrap64 (j+1))) = some (r1,r2):=by (try rw [bs]);exact af.Z
        have ed:=ae.mk bs
        clear bs
        have H':=ae.mk H
        clear H
        have bv:0≤(j:Int):=af.D
        have c0:(j:Int) < ((z.length:Int):Int):=af.D
        obtain ⟨a0,a4,b2,b3,db,f6,b4⟩:=Kd.jr a2.out (by omega)
        (first | cases b2 | (injection b2 with aP ee ef;(first | subst aP | (injection aP with aP;subst aP));subst ef;clear ee))
        have c1:=ae.mk b3
        have f7:=ae.mk b4
        clear b3 db b4
        obtain ⟨dt,du⟩:=Kd.gA 0 a2.out (j:Int) bv c0
        replace bv:=eq_true bv
        replace c0:=eq_true c0
        have dd:=Kd.kF a2.out (j:Int) (wrap64 (-aa))
        go_wp2_with (first | ((with_reducible refine gf (t:=3) (p:=46) rfl ?_);refine fM (t:=3) (p:=46) (v:=?vo_w30) (w1:=(wr.setCell ⟨a0,(j:Int).toNat,none⟩ (.int .i64 (wrap64 (-aa))))) ?hg ?ho ?hn ?hr ?_;(case ho=>rfl);(case hg=>rfl);(case hn=>rfl);(case hr=>first | (go_simp;done) | (go_simp;rfl));intro cc hw;have hg:wr.grownBy cc (some a0):=(by rw [hw];exact dd.2);have b5:Kd.R (Kd.int .i64) 3 cc w.heap.size (fun k_=>some k_≠(.slice (some a1) y.length ab:Value).ownBlock∧some k_≠(.slice (some a1) y.length ab:Value).ownBlock) (.slice (some ⟨a0,0,none⟩) z.length a4) aO:=(by rw [hw,d8.out];exact dd.1);clear dd;replace a6:=ae.mk (Kd.dO (v:=(.slice (some ⟨a0,0,none⟩) z.length a4)) (v1:=(.slice (some ⟨a0,0,none⟩) z.length a4)) (ok:=(fun _=>True)) (af.Rw (Kd.aC a6.out (fun _ hk=>⟨trivial,hk⟩))) hg (.inl rfl));replace X:=ae.mk (dJ (g:=aw) (o:=.cells #[.int .i64 am,.slice ao a9.length ap] 30 (0,0)) (af.Bw X.out) hg (Kd.fS a2.out X.out (by decide)));replace a2:=ae.mk b5;replace HB:=ae.mk ((by rw [hw];exact dP (HB.out) c1.out:Below w.heap.size w cc));replace a7:=ae.mk ((show Kd.C (Kd.int .i64) cc (some a1) a3.length a3 from by rw [aB.out];exact Kd.kD (m:=(j:Int).toNat) ((Kd.ah (Kd.dO (v:=(.slice (some ⟨a0,0,none⟩) z.length a4)) (v1:=(.slice (some ⟨a0,0,none⟩) z.length a4)) (ok:=(fun _=>True)) (af.Rw (Kd.aC a5.out (fun _ hk=>⟨trivial,hk⟩))) hg (.inl rfl))).2.2) d4.out));replace a5:=ae.mk (Kd.dO (v:=(.slice (some ⟨a0,0,none⟩) z.length a4)) (v1:=(.slice (some ⟨a0,0,none⟩) z.length a4)) (ok:=(fun _=>True)) (af.Rw (Kd.aC a5.out (fun _ hk=>⟨trivial,hk⟩))) hg (.inl rfl));clear hg hw b5;have eh:0≤(j:Int):=af.D;have ei:(j:Int) < ((z.length:Int):Int):=af.D;obtain ⟨fj,fp⟩:=Kd.gA 0 a2.out (j:Int) eh ei;replace eh:=eq_true eh;replace ei:=eq_true ei;obtain ⟨h0,h6⟩:=Kd.gA 0 a2.out (j:Int) (af.D) (af.D);have df:=Kd.kF a2.out (j:Int) 1) | ((with_reducible refine gf (t:=3) (p:=51) rfl ?_);refine fM (t:=3) (p:=51) (v:=?vo_w32) (w1:=(cc.setCell ⟨a0,(j:Int).toNat,none⟩ (.int .i64 1))) ?hg ?ho ?hn ?hr ?_;(case ho=>rfl);(case hg=>rfl);(case hn=>rfl);(case hr=>first | (go_simp;done) | (go_simp;rfl));intro dv hw;have hg:cc.grownBy dv (some a0):=(by rw [hw];exact df.2);have b5:Kd.R (Kd.int .i64) 3 dv w.heap.size (fun k_=>some k_≠(.slice (some a1) y.length ab:Value).ownBlock∧some k_≠(.slice (some a1) y.length ab:Value).ownBlock) (.slice (some ⟨a0,0,none⟩) z.length a4) d9:=(by rw [hw,ed.out];exact df.1);clear df;replace a6:=ae.mk (Kd.dO (v:=(.slice (some ⟨a0,0,none⟩) z.length a4)) (v1:=(.slice (some ⟨a0,0,none⟩) z.length a4)) (ok:=(fun _=>True)) (af.Rw a6.out) hg (.inl rfl));replace X:=ae.mk (dJ (g:=aw) (o:=.cells #[.int .i64 am,.slice ao a9.length ap] 30 (0,0)) (af.Bw X.out) hg (Kd.fS a2.out X.out (by decide)));replace a2:=ae.mk b5;replace HB:=ae.mk ((by rw [hw];exact dP (HB.out) c1.out:Below w.heap.size w dv));replace a7:=ae.mk ((show Kd.C (Kd.int .i64) dv (some a1) a3.length a3 from by rw [aB.out];exact Kd.kD (m:=(j:Int).toNat) ((Kd.ah (Kd.dO (v:=(.slice (some ⟨a0,0,none⟩) z.length a4)) (v1:=(.slice (some ⟨a0,0,none⟩) z.length a4)) (ok:=(fun _=>True)) (af.Rw a5.out) hg (.inl rfl))).2.2) d4.out));replace a5:=ae.mk (Kd.dO (v:=(.slice (some ⟨a0,0,none⟩) z.length a4)) (v1:=(.slice (some ⟨a0,0,none⟩) z.length a4)) (ok:=(fun _=>True)) (af.Rw a5.out) hg (.inl rfl));clear hg hw b5))
        go_roundg k2
        case measure=>have:=aR.out;have:=b0.out;omega
        case rel=>exact ⟨(d9),(wrap64 (j+1)),af.F,H',⟨by have:=aR.out;have:=b0.out;omega⟩,⟨af.Rw (Kd.aC a5.out (fun _ hk=>hk.2))⟩,⟨af.Rw a2.out⟩,⟨af.Rw (Kd.aC a6.out (fun _ hk=>hk.2))⟩,⟨af.Bw X.out⟩,⟨af.Lw HB.out⟩⟩
       ·rw [if_neg bo] at H
        have eb:(j == 0) = false:=beq_eq_false_iff_ne.mpr bo
        have ec:(j != 0) = true:=bne_iff_ne.mpr bo
        have H':=ae.mk H
        clear H
        have bv:0≤(j:Int):=af.D
        have c0:(j:Int) < ((z.length:Int):Int):=af.D
        obtain ⟨a0,a4,b2,b3,db,f6,b4⟩:=Kd.jr a2.out (by omega)
        (first | cases b2 | (injection b2 with aP ee ef;(first | subst aP | (injection aP with aP;subst aP));subst ef;clear ee))
        have c1:=ae.mk b3
        have f7:=ae.mk b4
        clear b3 db b4
        obtain ⟨dt,du⟩:=Kd.gA 0 a2.out (j:Int) bv c0
        replace bv:=eq_true bv
        replace c0:=eq_true c0
        have dk:=Kd.kF a2.out (j:Int) (wrap64 (-aa))
        go_wp2_with (first | ((with_reducible refine gf (t:=3) (p:=46) rfl ?_);refine fM (t:=3) (p:=46) (v:=?vo_w34) (w1:=(wr.setCell ⟨a0,(j:Int).toNat,none⟩ (.int .i64 (wrap64 (-aa))))) ?hg ?ho ?hn ?hr ?_;(case ho=>rfl);(case hg=>rfl);(case hn=>rfl);(case hr=>first | (go_simp;done) | (go_simp;rfl));intro dC hw;have hg:wr.grownBy dC (some a0):=(by rw [hw];exact dk.2);have b5:Kd.R (Kd.int .i64) 3 dC w.heap.size (fun k_=>some k_≠(.slice (some a1) y.length ab:Value).ownBlock∧some k_≠(.slice (some a1) y.length ab:Value).ownBlock) (.slice (some ⟨a0,0,none⟩) z.length a4) aO:=(by rw [hw,d8.out];exact dk.1);clear dk;replace a6:=ae.mk (Kd.dO (v:=(.slice (some ⟨a0,0,none⟩) z.length a4)) (v1:=(.slice (some ⟨a0,0,none⟩) z.length a4)) (ok:=(fun _=>True)) (af.Rw (Kd.aC a6.out (fun _ hk=>⟨trivial,hk⟩))) hg (.inl rfl));replace X:=ae.mk (dJ (g:=aw) (o:=.cells #[.int .i64 am,.slice ao a9.length ap] 30 (0,0)) (af.Bw X.out) hg (Kd.fS a2.out X.out (by decide)));replace a2:=ae.mk b5;replace HB:=ae.mk ((by rw [hw];exact dP (HB.out) c1.out:Below w.heap.size w dC));replace a7:=ae.mk ((show Kd.C (Kd.int .i64) dC (some a1) a3.length a3 from by rw [aB.out];exact Kd.kD (m:=(j:Int).toNat) ((Kd.ah (Kd.dO (v:=(.slice (some ⟨a0,0,none⟩) z.length a4)) (v1:=(.slice (some ⟨a0,0,none⟩) z.length a4)) (ok:=(fun _=>True)) (af.Rw (Kd.aC a5.out (fun _ hk=>⟨trivial,hk⟩))) hg (.inl rfl))).2.2) d4.out));replace a5:=ae.mk (Kd.dO (v:=(.slice (some ⟨a0,0,none⟩) z.length a4)) (v1:=(.slice (some ⟨a0,0,none⟩) z.length a4)) (ok:=(fun _=>True)) (af.Rw (Kd.aC a5.out (fun _ hk=>⟨trivial,hk⟩))) hg (.inl rfl));clear hg hw b5))
        go_roundg k2
        case measure=>have:=aR.out;have:=b0.out;omega
        case rel=>exact ⟨(aO),(wrap64 (j+1)),af.F,H',⟨by have:=aR.out;have:=b0.out;omega⟩,⟨af.Rw (Kd.aC a5.out (fun _ hk=>hk.2))⟩,⟨af.Rw a2.out⟩,⟨af.Rw (Kd.aC a6.out (fun _ hk=>hk.2))⟩,⟨af.Bw X.out⟩,⟨af.Lw HB.out⟩⟩
   ·rw [if_neg ca] at H
    have e6:decide (j < (y.length:Int)) = false:=decide_eq_false ca
    clear ca
    simp only [Option.some.injEq,Prod.mk.injEq] at H
    obtain ⟨rfl,rfl⟩:=H
    go_wp2
    go_ret2
    exact ⟨_,_,af.E,by (with_reducible repeat (first | apply Kd.cH | apply Kd.cI | apply Kd.bl));exact a5.out,by (with_reducible repeat (first | apply Kd.cH | apply Kd.cI | apply Kd.bl));exact Kd.aC a2.out (fun _ hk=>hk.1),af.L⟩
def cT.l0:Nat→Int→List Int→List Int→Int→Int→Option (Int)
 | 0,_,_,_,_,_=>none
 | k+1,Y,X,y,z,j=>if j < z then (if 0≤j then (if j < (y.length:Int) then (if (rd y j) = Y then (if j < (X.length:Int) then (some (rd X j)) else (none)) else (cT.l0 k Y X y z (wrap64 (j+1)))) else (none)) else (none)) else (some 0)
def cT.f (k:Nat) (y:Int) (z:List Int) (Y:Int):Option (Int):=(cU.f k y z Y).bind fun X=>(if X = true then ((bG.f k y z).bind fun j=>(cT.l0 k Y j.2 j.1 (j.1.length:Int) 0)) else (some 0))
set_option maxHeartbeats 8000000 in
set_option maxRecDepth 100000 in
theorem cT.calls (k:Nat) (Y:Int) (a0:Option Addr) (a2:Nat) (z:List Int) (a1:Int) (r:Int) (w:World) (a9:Kd.C (Kd.int .i64) w a0 z.length z) (aa:z.length≤a2) (h:cT.f k Y z a1 = some r) :
  Calls Tryz.prog 28 #[.agg #[.int .i64 Y,.slice a0 z.length a2],.int .i64 a1] w fun e w'=>e = .returned (.int .i64 r)∧Below w.heap.size w w':=by
 have df:=Tryz.underlying30
 have a3:=ae.mk a9
 have a4:=ae.mk aa
 clear a9 aa
 have HB:=ae.mk (Below.refl w.heap.size w)
 unfold cT.f at h
 have H:=h
 clear h
 obtain ⟨b4,A3,H⟩:=af.be H
 (try dsimp only at H)
 by_cases c4:b4 = true
 ·subst c4
  replace H:((bG.f k Y z).bind fun a5=>(cT.l0 k a1 a5.2 a5.1 (a5.1.length:Int) 0)) = some r:=by rw [if_pos rfl] at H;exact H
  obtain ⟨⟨X,ab⟩,A5,H⟩:=af.be H
  (try dsimp only at H)
  have H':=ae.mk H
  clear H
  go_enter Tryz.func28,Tryz.ntmps28
  go_wp2_with (first | (refine af.bx 2 #[.int .i64 Y,.slice a0 z.length a2] 30 ?_;intro am hg w6 hbox hb;have y:=ae.mk hbox;have aO:=af.gw hg HB;have aP:=af.gw hg HB;replace HB:=af.lb HB hb;clear hb hbox hg;obtain ⟨d0,d1,d2,d3⟩:=af.bw y.out) | (refine af.gl (some 11) Tryz.func98 #[.agg #[.int .i64 Y,.slice a0 z.length a2],.int .i64 a1] ?_;(with_reducible refine (cU.calls k Y _ _ z a1 true _ ?side1 ?side2 A3.out).mono ?_);(case side1=>exact af.Cw (Kd.aT a3.out HB.out));(case side2=>exact a4.out);rintro e w8 ⟨rfl,hb⟩;refine ⟨_,rfl,?_⟩;replace y:=af.bb y hb;replace HB:=af.lb HB hb;(try clear hb);(try clear b5);(try clear hk);(try clear hi);obtain ⟨d4,d5,d6,d7⟩:=af.bw y.out) | (refine af.gl (some 15) Tryz.func99 #[.agg #[.int .i64 Y,.slice a0 z.length a2]] ?_;(with_reducible refine (bG.calls k Y _ _ z X ab _ ?side1 ?side2 A5.out).mono ?_);(case side1=>exact af.Cw (Kd.aT a3.out HB.out));(case side2=>exact a4.out);rintro e du ⟨dk,aB,rfl,ba,bc,hb⟩;refine ⟨_,rfl,?_⟩;have ao:=ae.mk (Kd.aV ba (av (af.Lw HB.out)));have aR:=ae.mk (Kd.aV bc (av (af.Lw HB.out)));replace y:=af.bb y hb;replace HB:=af.lb HB hb;(try clear hb);(try clear b5);(try clear hk);(try clear hi);(try clear ba);(try clear bc);obtain ⟨aF,aL,bi⟩:=Kd.aK ao.out;subst bi))
  go_loopg [20] k (fun kq v20 w'=>∃ (j:Int),v20 = .int .i64 j∧ae (cT.l0 kq a1 ab X (X.length:Int) j = some r)∧ae (kq≤k)∧ae (Kd.R (Kd.int .i64) 3 w' w.heap.size (fun k_=>some k_≠((.slice aF X.length aL):Value).ownBlock) aB ab)∧ae (Kd.R (Kd.int .i64) 3 w' w.heap.size (fun k_=>some k_≠(aB:Value).ownBlock) (.slice aF X.length aL) X)∧ae (w'.heap[am]? = some (.cells #[.int .i64 Y,(.slice a0 z.length a2)] 30 (0,0)))∧ae (Below w.heap.size w w'))
  case atStart=>exact ⟨(0),af.F,H',⟨Nat.le_refl _⟩,⟨af.Rw aR.out⟩,⟨af.Rw ao.out⟩,⟨af.Bw y.out⟩,⟨af.Lw HB.out⟩⟩
  case round =>
   clear H'
   obtain ⟨j,rfl,HA,bm,ap,a6,y,HB⟩:=hrel
   cases gk with
   | zero=>exact absurd HA.out (by simp [cT.l0])
   | succ k1 =>
    have H:=HA.out
    clear HA
    simp only [cT.l0] at H
    by_cases a8:j < (X.length:Int)
    ·rw [if_pos a8] at H
     have aS:=decide_eq_true a8
     clear a8
     obtain ⟨bo,H⟩:=af.ip H
     have d8:=decide_eq_true bo
     clear bo
     obtain ⟨bs,H⟩:=af.ip H
     have d9:=decide_eq_true bs
     clear bs
     by_cases a7:(rd X j) = a1
     ·rw [if_pos a7] at H
      have b0:((rd X j) == a1) = true:=beq_iff_eq.mpr a7
      have b2:((rd X j) != a1) = false:=bne_eq_false_iff_eq.mpr a7
      clear a7
      obtain ⟨bv,H⟩:=af.ip H
      have db:=decide_eq_true bv
      clear bv
      obtain rfl:=Option.some.inj H
      obtain ⟨b3,ar,aw,c0,c1⟩:=af.ai (Kd.ah a6.out).2.2 j
      cases ar
      obtain ⟨dl,dp,ca⟩:=Kd.aK ap.out
      subst ca
      obtain ⟨dd,cb,cc,dq,dt⟩:=af.ai (Kd.ah ap.out).2.2 j
      cases cb
      go_wp2
      go_ret
      exact ⟨af.E,af.L⟩
     ·rw [if_neg a7] at H
      have b0:((rd X j) == a1) = false:=beq_eq_false_iff_ne.mpr a7
      have b2:((rd X j) != a1) = true:=bne_iff_ne.mpr a7
      have H':=ae.mk H
      clear H
      obtain ⟨b3,ar,aw,c0,c1⟩:=af.ai (Kd.ah a6.out).2.2 j
      cases ar
      go_wp2
      go_roundg k1
      case measure=>have:=bm.out;omega
      case rel=>exact ⟨(wrap64 (j+1)),af.F,H',⟨by have:=bm.out;omega⟩,⟨af.Rw ap.out⟩,⟨af.Rw a6.out⟩,⟨af.Bw y.out⟩,⟨af.Lw HB.out⟩⟩
    ·rw [if_neg a8] at H
     have aS:decide (j < (X.length:Int)) = false:=decide_eq_false a8
     clear a8
     obtain rfl:=Option.some.inj H
     go_wp2
     go_ret
     exact ⟨af.E,af.L⟩
 ·replace c4:=Bool.eq_false_iff.mpr c4
  subst c4
  replace H:(some 0) = some r:=by rw [if_neg (show ¬ (false = true) by decide)] at H;exact H
  obtain rfl:=Option.some.inj H
  go_enter Tryz.func28,Tryz.ntmps28
  go_wp2_with (first | (refine af.bx 2 #[.int .i64 Y,.slice a0 z.length a2] 30 ?_;intro am hg dv hbox hb;have y:=ae.mk hbox;have aO:=af.gw hg HB;have aP:=af.gw hg HB;replace HB:=af.lb HB hb;clear hb hbox hg;obtain ⟨ce,cf,ci,cp⟩:=af.bw y.out) | (refine af.gl (some 11) Tryz.func98 #[.agg #[.int .i64 Y,.slice a0 z.length a2],.int .i64 a1] ?_;(with_reducible refine (cU.calls k Y _ _ z a1 false _ ?side1 ?side2 A3.out).mono ?_);(case side1=>exact af.Cw (Kd.aT a3.out HB.out));(case side2=>exact a4.out);rintro e dC ⟨rfl,hb⟩;refine ⟨_,rfl,?_⟩;replace y:=af.bb y hb;replace HB:=af.lb HB hb;(try clear hb);(try clear b5);(try clear hk);(try clear hi)))
  go_ret
  exact ⟨af.E,af.L⟩
def gK.f (a0:Int) (j:Int):Option (Int):=if a0 < j then (some a0) else (some j)
set_option maxHeartbeats 8000000 in
set_option maxRecDepth 100000 in
theorem gK.calls (a0:Int) (y:Int) (r:Int) (w:World) (h:gK.f a0 y = some r) :
  Calls Tryz.prog 81 #[.int .i64 a0,.int .i64 y] w fun e w'=>e = .returned (.int .i64 r)∧cS w w':=by
 unfold gK.f at h
 have H:=h
 clear h
 by_cases c3:a0 < y
 ·rw [if_pos c3] at H
  have j:=decide_eq_true c3
  clear c3
  obtain rfl:=Option.some.inj H
  go_enter Tryz.func81,Tryz.ntmps81
  go_wp2
  go_ret
  exact ⟨af.F,af.G⟩
 ·rw [if_neg c3] at H
  have j:decide (a0 < y) = false:=decide_eq_false c3
  clear c3
  obtain rfl:=Option.some.inj H
  go_enter Tryz.func81,Tryz.ntmps81
  go_wp2
  go_ret
  exact ⟨af.F,af.G⟩
mutual
def aD.l0:Nat→List Int→List Int→Int→Option (List Int)
 | 0,_,_,_=>none
 | k+1,z,y,j=>if j < (z.length:Int) then (aD.l1 k z y j 0) else (some y)
def aD.l1:Nat→List Int→List Int→Int→Int→Option (List Int)
 | 0,_,_,_,_=>none
 | k+1,z,y,j,X=>if X < (y.length:Int) then (if 0≤X then (if 0≤j then (if j < (z.length:Int) then (if (rd y X) < (rd z j) then (aD.l1 k z y j (wrap64 (X+1))) else (if (rd y X) = (rd z j) then (aD.l0 k z y (wrap64 (j+1))) else ((some (([]:List Int):List Int)).bind fun Y=>(if X≤(y.length:Int) then ((some (y.drop (X:Int).toNat:List Int)).bind fun a0=>(if Y.length+a0.length < 17592186044416 then ((some (Y ++ a0:List Int)).bind fun a1=>((some (y.take (X:Int).toNat:List Int)).bind fun a2=>(if a2.length < 17592186044416 then ((some (a2 ++ [rd z j]:List Int)).bind fun a3=>(if a3.length+a1.length < 17592186044416 then (aD.l0 k z (a3 ++ a1) (wrap64 (j+1))) else (none))) else (none)))) else (none))) else (none))))) else (none)) else (none)) else (none)) else ((some (([]:List Int):List Int)).bind fun a4=>(if 0≤X then (if X≤(y.length:Int) then ((some (y.drop (X:Int).toNat:List Int)).bind fun a5=>(if a4.length+a5.length < 17592186044416 then ((some (a4 ++ a5:List Int)).bind fun a6=>((some (y.take (X:Int).toNat:List Int)).bind fun a7=>(if 0≤j then (if j < (z.length:Int) then (if a7.length < 17592186044416 then ((some (a7 ++ [rd z j]:List Int)).bind fun a8=>(if a8.length+a6.length < 17592186044416 then (aD.l0 k z (a8 ++ a6) (wrap64 (j+1))) else (none))) else (none)) else (none)) else (none)))) else (none))) else (none)) else (none)))
end
def aD.f (k:Nat) (l0:List Int):Option (List Int):=aD.l0 k l0 (([]:List Int)) 0
def aD.T6:Bool×List (List Nat×List Nat):=(true,[([],[]),([],[]),([1],[1]),([0,2],[0,2]),([3],[3]),([4],[4]),([4],[4]),([5,6,4],[4,5,6]),([7,4],[4,7]),([4],[4]),([4],[4]),([9,10,4],[4,9,10]),([11,4],[4,11]),([8,12,4],[4,8,12]),([4,13],[4,13])])
def aD.B6:List Nat:=[0,0,2,7,15,31,31,127,255,31,31,1567,3615,8191,16383]
theorem aD.lS:gm .any (opsOf Tryz.f137 6) = aD.T6:=by kernel_rfl
theorem aD.jA:eT aD.T6.2 aD.B6 = true:=by kernel_rfl
def aD.T8:Bool×List (List Nat×List Nat):=(true,[([],[]),([],[]),([1],[1]),([0,2],[0,2]),([3],[3]),([4],[4]),([4],[4]),([5,6,4],[4,5,6]),([7,4],[4,7]),([4],[4]),([4],[4]),([9,10,4],[4,9,10]),([11,4],[4,11]),([8,12,4],[4,8,12]),([4,13],[4,13])])
def aD.B8:List Nat:=[0,0,2,7,15,31,31,127,255,31,31,1567,3615,8191,16383]
theorem aD.rS:gm .any (opsOf Tryz.f137 8) = aD.T8:=by kernel_rfl
theorem aD.ox:eT aD.T8.2 aD.B8 = true:=by kernel_rfl
def aD.uc:Bool×List (List Nat×List Nat):=(true,[([],[]),([],[]),([0,1],[0,1]),([],[]),([],[]),([3,4],[3,4]),([5],[5]),([6],[6]),([2,7],[2,7]),([],[]),([8,9,8],[8,9]),([10,10,0,1,2,3,4,5,6,7,8,9,10],[0,10])])
def aD.vQ:List Nat:=[0,0,3,0,0,24,56,120,255,0,1023,2047]
theorem aD.n8:gm .any (opsOf Tryz.f137 10) = aD.uc:=by kernel_rfl
theorem aD.lB:eT aD.uc.2 aD.vQ = true:=by kernel_rfl
set_option maxHeartbeats 8000000 in
set_option maxRecDepth 100000 in
theorem aD.calls (k:Nat) (A0:Option Addr) (c0:Nat) (l0:List Int) (r:List Int) (w:World) (i1:Kd.C (Kd.int .i64) w A0 l0.length l0) (i2:l0.length≤c0) (h:aD.f k l0 = some r) :
  Calls Tryz.prog 137 #[.slice A0 l0.length c0] w fun e w'=>∃ i3:Value,e = .returned (i3)∧Kd.R (Kd.int .i64) 3 w' w.heap.size (fun _=>True) i3 r∧Below w.heap.size w w':=by
 have dk:=ae.mk i1
 have nz:=ae.mk i2
 clear i1 i2
 have HB:=ae.mk (Below.refl w.heap.size w)
 unfold aD.f at h
 have H:=h
 clear h
 obtain ⟨g0,dl⟩:∃ y_:List Int,y_ = (([]:List Int)):=⟨_,rfl⟩
 replace H:(aD.l0 k l0 g0 0) = some r:=by (try rw [dl]);exact af.Z
 have ej:=ae.mk dl
 clear dl
 have H':=ae.mk H
 clear H
 go_enter Tryz.func137,Tryz.ntmps137
 go_wp2_with (first | (refine af.lt (Kd.int .i64) 3 7 ?_;intro mf w2 el hb em cf;clear em cf;(first | rw [← ej.out] at el | (simp only [Int.reduceToNat] at el;rw [← ej.out] at el));have hj:=ae.mk (Kd.aV el (av (af.Lw HB.out)));replace HB:=af.lb HB hb;clear hb el))
 go_loopg [3,4] k (fun kq v3 v4 w'=>∃ (Y:List Int) (z:Int),v4 = .int .i64 z∧ae (aD.l0 kq l0 Y z = some r)∧ae (kq≤k)∧ae (Kd.R (Kd.int .i64) 3 w' w.heap.size (fun _=>True) v3 Y)∧ae (Below w.heap.size w w'))
 case atStart=>exact ⟨(g0),(0),af.F,H',⟨Nat.le_refl _⟩,⟨af.Rw hj.out⟩,⟨af.Lw HB.out⟩⟩
 case round =>
  clear H'
  obtain ⟨Y,z,rfl,HA,d7,X,HB⟩:=hrel
  cases gk with
  | zero=>exact absurd HA.out (by simp [aD.l0])
  | succ k1 =>
   have H:=HA.out
   clear HA
   simp only [aD.l0] at H
   by_cases c4:z < (l0.length:Int)
   ·rw [if_pos c4] at H
    have i4:=decide_eq_true c4
    clear c4
    have H':=ae.mk H
    clear H
    go_wp2
    go_loopg [5] k1 (fun kq v5 w'=>∃ (y:Int),v5 = .int .i64 y∧ae (aD.l1 kq l0 Y z y = some r)∧ae (kq≤k1)∧ae (Kd.R (Kd.int .i64) 3 w' w.heap.size (fun _=>True) u3 Y)∧ae (Below w.heap.size w w'))
    case atStart=>exact ⟨(0),af.F,H',⟨Nat.le_refl _⟩,⟨af.Rw X.out⟩,⟨af.Lw HB.out⟩⟩
    case round =>
     clear H'
     obtain ⟨y,rfl,HA,d8,X,HB⟩:=hrel
     cases gk with
     | zero=>exact absurd HA.out (by simp [aD.l1])
     | succ k2 =>
      have H:=HA.out
      clear HA
      simp only [aD.l1] at H
      by_cases c5:y < (Y.length:Int)
      ·rw [if_pos c5] at H
       have i5:=decide_eq_true c5
       clear c5
       obtain ⟨c6,H⟩:=af.ip H
       have mi:=decide_eq_true c6
       clear c6
       obtain ⟨c7,H⟩:=af.ip H
       have ml:=decide_eq_true c7
       clear c7
       obtain ⟨c8,H⟩:=af.ip H
       have mn:=decide_eq_true c8
       clear c8
       by_cases c9:(rd Y y) < (rd l0 z)
       ·rw [if_pos c9] at H
        have i6:=decide_eq_true c9
        clear c9
        have H':=ae.mk H
        clear H
        try go_wp2
        replace X:=ae.mk (Kd.bl X.out)
        replace HB:=ae.mk (cn HB.out)
        obtain ⟨g1,mr,g2⟩:=Kd.aK X.out
        (first | subst g2 | (injection g2 with b3 ci b4;have cp:=b3.symm;have d0:=b4.symm;clear b3 ci b4;subst cp;subst d0))
        obtain ⟨a2,d9,a7,g3,g4⟩:=af.ai (Kd.ah X.out).2.2 y
        cases d9
        obtain ⟨ab,db,a0,g5,g6⟩:=af.ai dk.out z
        have a8:=a0
        cases db
        try replace a0:=(HB.out.cell (World.block_lt_of_cell? w _ a0)).trans a0
        refine eM (n:=15) (S:=fun w'=>w'.cell? (a2.add (y).toNat) = some (.int .i64 (rd Y y))∧w'.cell? (ab.add (z).toNat) = some (.int .i64 (rd l0 z))) (ds:=[]) #[false,false,false,false,false,false,false,false,false,false,false,false,false,false,false] (by kernel_rfl) rfl rfl ⟨a7,((HB.out.cell (World.block_lt_of_cell? w _ a8)).trans a8)⟩ (fun hHeld=>?_);refine dc aD.lS aD.jA (fun j b2=>?_)
        generalize wr.drew = o0 at X HB a7 a0 hHeld ⊢
        refine af.pu 0 14 j ?_
        refine af.pu 1 15 j ?_
        refine af.pu 2 16 j ?_
        refine af.pu 3 17 j ?_
        refine af.pu 4 18 j ?_
        refine af.pu 5 19 j ?_
        refine af.pu 6 20 j ?_
        refine af.pu 7 21 j ?_
        refine af.pu 9 23 j ?_
        refine af.pu 10 24 j ?_
        refine af.pu 11 25 j ?_
        refine af.tk 8 22 j b2 hHeld ?_
        refine af.tk 12 26 j b2 hHeld ?_
        refine af.pu 13 27 j ?_
        refine af.pu 14 28 j ?_
        refine fO (dU j.out (by kernel_rfl)) ?_
        try go_wp2
        go_roundg k2
        case measure=>have:=d7.out;have:=d8.out;omega
        case rel=>exact ⟨(wrap64 (y+1)),af.F,H',⟨by have:=d7.out;have:=d8.out;omega⟩,⟨af.Rw X.out⟩,⟨af.Lw HB.out⟩⟩
       ·rw [if_neg c9] at H
        have i6:decide ((rd Y y) < (rd l0 z)) = false:=decide_eq_false c9
        clear c9
        by_cases dp:(rd Y y) = (rd l0 z)
        ·rw [if_pos dp] at H
         have hl:((rd Y y) == (rd l0 z)) = true:=beq_iff_eq.mpr dp
         have hm:((rd Y y) != (rd l0 z)) = false:=bne_eq_false_iff_eq.mpr dp
         clear dp
         have H':=ae.mk H
         clear H
         try go_wp2
         replace X:=ae.mk (Kd.bl X.out)
         replace HB:=ae.mk (cn HB.out)
         obtain ⟨g7,ms,g8⟩:=Kd.aK X.out
         (first | subst g8 | (injection g8 with b3 ci b4;have cp:=b3.symm;have d0:=b4.symm;clear b3 ci b4;subst cp;subst d0))
         obtain ⟨a2,d9,a7,g3,g4⟩:=af.ai (Kd.ah X.out).2.2 y
         cases d9
         obtain ⟨ab,db,a0,g5,g6⟩:=af.ai dk.out z
         have a8:=a0
         cases db
         try replace a0:=(HB.out.cell (World.block_lt_of_cell? w _ a0)).trans a0
         refine eM (n:=15) (S:=fun w'=>w'.cell? (a2.add (y).toNat) = some (.int .i64 (rd Y y))∧w'.cell? (ab.add (z).toNat) = some (.int .i64 (rd l0 z))) (ds:=[]) #[false,false,false,false,false,false,false,false,false,false,false,false,false,false,false] (by kernel_rfl) rfl rfl ⟨a7,((HB.out.cell (World.block_lt_of_cell? w _ a8)).trans a8)⟩ (fun hHeld=>?_);refine dc aD.lS aD.jA (fun j b2=>?_)
         generalize wr.drew = lj at X HB a7 a0 hHeld ⊢
         refine af.pu 0 14 j ?_
         refine af.pu 1 15 j ?_
         refine af.pu 2 16 j ?_
         refine af.pu 3 17 j ?_
         refine af.pu 4 18 j ?_
         refine af.pu 5 19 j ?_
         refine af.pu 6 20 j ?_
         refine af.pu 7 21 j ?_
         refine af.pu 9 23 j ?_
         refine af.pu 10 24 j ?_
         refine af.pu 11 25 j ?_
         refine af.tk 8 22 j b2 hHeld ?_
         refine af.tk 12 26 j b2 hHeld ?_
         refine af.pu 13 27 j ?_
         refine af.pu 14 28 j ?_
         refine fO (dU j.out (by kernel_rfl)) ?_
         try go_wp2
         replace X:=ae.mk (Kd.bl X.out)
         replace HB:=ae.mk (cn HB.out)
         obtain ⟨dq,eo,b5,i7,i8⟩:=af.ai (Kd.ah X.out).2.2 y
         obtain rfl:a2 = dq:=(by injection eo)
         obtain ⟨dt,eq,a1,i9,ib⟩:=af.ai dk.out z
         have ba:=a1
         obtain rfl:ab = dt:=(by injection eq)
         try replace a1:=(HB.out.cell (World.block_lt_of_cell? w _ a1)).trans a1
         refine eM (n:=15) (S:=fun w'=>w'.cell? (a2.add (y).toNat) = some (.int .i64 (rd Y y))∧w'.cell? (ab.add (z).toNat) = some (.int .i64 (rd l0 z))) (ds:=[]) #[false,false,false,false,false,false,false,false,false,false,false,false,false,false,false] (by kernel_rfl) rfl rfl ⟨b5,((HB.out.cell (World.block_lt_of_cell? w _ ba)).trans ba)⟩ (fun hHeld=>?_);refine dc aD.rS aD.ox (fun j b2=>?_)
         generalize lj.drew = o1 at X HB b5 a1 hHeld ⊢
         refine af.pu 0 31 j ?_
         refine af.pu 1 32 j ?_
         refine af.pu 2 33 j ?_
         refine af.pu 3 34 j ?_
         refine af.pu 4 35 j ?_
         refine af.pu 5 36 j ?_
         refine af.pu 6 37 j ?_
         refine af.pu 7 38 j ?_
         refine af.pu 9 40 j ?_
         refine af.pu 10 41 j ?_
         refine af.pu 11 42 j ?_
         refine af.tk 8 39 j b2 hHeld ?_
         refine af.tk 12 43 j b2 hHeld ?_
         refine af.pu 13 44 j ?_
         refine af.pu 14 45 j ?_
         refine fO (dU j.out (by kernel_rfl)) ?_
         try go_wp2
         go_roundg k2
         case measure=>have:=d7.out;have:=d8.out;omega
         case rel=>exact ⟨(Y),(wrap64 (z+1)),af.F,H',⟨by have:=d7.out;have:=d8.out;omega⟩,⟨af.Rw X.out⟩,⟨af.Lw HB.out⟩⟩
        ·rw [if_neg dp] at H
         have hl:((rd Y y) == (rd l0 z)) = false:=beq_eq_false_iff_ne.mpr dp
         have hm:((rd Y y) != (rd l0 z)) = true:=bne_iff_ne.mpr dp
         obtain ⟨d3,du⟩:∃ y_:List Int,y_ = (([]:List Int)):=⟨_,rfl⟩
         replace H:(if y≤(Y.length:Int) then ((some (Y.drop (y:Int).toNat:List Int)).bind fun aw=>(if d3.length+aw.length < 17592186044416 then ((some (d3 ++ aw:List Int)).bind fun am=>((some (Y.take (y:Int).toNat:List Int)).bind fun ao=>(if ao.length < 17592186044416 then ((some (ao ++ [rd l0 z]:List Int)).bind fun a9=>(if a9.length+am.length < 17592186044416 then (aD.l0 k2 l0 (a9 ++ am) (wrap64 (z+1))) else (none))) else (none)))) else (none))) else (none)) = some r:=by (try rw [du]);exact af.Z
         have es:=ae.mk du
         clear du
         have lk:=eq_true (af.D:0≤y)
         obtain ⟨hn,H⟩:=af.ip H
         have ll:=eq_true hn
         have lm:decide (y≤(Y.length:Int)) = true:=decide_eq_true hn
         clear hn
         obtain ⟨aw,dv⟩:∃ y_:List Int,y_ = (Y.drop (y:Int).toNat):=⟨_,rfl⟩
         replace H:(if d3.length+aw.length < 17592186044416 then ((some (d3 ++ aw:List Int)).bind fun am=>((some (Y.take (y:Int).toNat:List Int)).bind fun ao=>(if ao.length < 17592186044416 then ((some (ao ++ [rd l0 z]:List Int)).bind fun a9=>(if a9.length+am.length < 17592186044416 then (aD.l0 k2 l0 (a9 ++ am) (wrap64 (z+1))) else (none))) else (none)))) else (none)) = some r:=by (try rw [dv]);exact af.Z
         have dC:=ae.mk dv
         clear dv
         obtain ⟨ih,H⟩:=af.ip H
         have hq:=ae.mk ih
         clear ih
         obtain ⟨am,dE⟩:∃ y_:List Int,y_ = (d3 ++ aw):=⟨_,rfl⟩
         replace H:((some (Y.take (y:Int).toNat:List Int)).bind fun ao=>(if ao.length < 17592186044416 then ((some (ao ++ [rd l0 z]:List Int)).bind fun a9=>(if a9.length+am.length < 17592186044416 then (aD.l0 k2 l0 (a9 ++ am) (wrap64 (z+1))) else (none))) else (none))) = some r:=by (try rw [dE]);exact af.Z
         have hr:=ae.mk dE
         clear dE
         have ln:=eq_true (af.D:y≤(Y.length:Int))
         obtain ⟨ao,dT⟩:∃ y_:List Int,y_ = (Y.take (y:Int).toNat):=⟨_,rfl⟩
         replace H:(if ao.length < 17592186044416 then ((some (ao ++ [rd l0 z]:List Int)).bind fun a9=>(if a9.length+am.length < 17592186044416 then (aD.l0 k2 l0 (a9 ++ am) (wrap64 (z+1))) else (none))) else (none)) = some r:=by (try rw [dT]);exact af.Z
         have et:=ae.mk dT
         clear dT
         obtain ⟨ii,H⟩:=af.ip H
         have ht:=ae.mk ii
         clear ii
         obtain ⟨a9,e0⟩:∃ y_:List Int,y_ = (ao ++ [rd l0 z]):=⟨_,rfl⟩
         replace H:(if a9.length+am.length < 17592186044416 then (aD.l0 k2 l0 (a9 ++ am) (wrap64 (z+1))) else (none)) = some r:=by (try rw [e0]);exact af.Z
         have hu:=ae.mk e0
         clear e0
         obtain ⟨il,H⟩:=af.ip H
         have hx:=ae.mk il
         clear il
         obtain ⟨g9,e1⟩:∃ y_:List Int,y_ = (a9 ++ am):=⟨_,rfl⟩
         replace H:(aD.l0 k2 l0 g9 (wrap64 (z+1))) = some r:=by (try rw [e1]);exact af.Z
         have hz:=ae.mk e1
         clear e1
         have H':=ae.mk H
         clear H
         try go_wp2
         replace X:=ae.mk (Kd.bl X.out)
         replace HB:=ae.mk (cn HB.out)
         obtain ⟨gb,cb,gc⟩:=Kd.aK X.out
         (first | subst gc | (injection gc with b3 ci b4;have cp:=b3.symm;have d0:=b4.symm;clear b3 ci b4;subst cp;subst d0))
         obtain ⟨a2,d9,a7,g3,g4⟩:=af.ai (Kd.ah X.out).2.2 y
         cases d9
         obtain ⟨ab,db,a0,g5,g6⟩:=af.ai dk.out z
         have a8:=a0
         cases db
         try replace a0:=(HB.out.cell (World.block_lt_of_cell? w _ a0)).trans a0
         refine eM (n:=15) (S:=fun w'=>w'.cell? (a2.add (y).toNat) = some (.int .i64 (rd Y y))∧w'.cell? (ab.add (z).toNat) = some (.int .i64 (rd l0 z))) (ds:=[]) #[false,false,false,false,false,false,false,false,false,false,false,false,false,false,false] (by kernel_rfl) rfl rfl ⟨a7,((HB.out.cell (World.block_lt_of_cell? w _ a8)).trans a8)⟩ (fun hHeld=>?_);refine dc aD.lS aD.jA (fun j b2=>?_)
         generalize wr.drew = lo at X HB a7 a0 hHeld ⊢
         refine af.pu 0 14 j ?_
         refine af.pu 1 15 j ?_
         refine af.pu 2 16 j ?_
         refine af.pu 3 17 j ?_
         refine af.pu 4 18 j ?_
         refine af.pu 5 19 j ?_
         refine af.pu 6 20 j ?_
         refine af.pu 7 21 j ?_
         refine af.pu 9 23 j ?_
         refine af.pu 10 24 j ?_
         refine af.pu 11 25 j ?_
         refine af.tk 8 22 j b2 hHeld ?_
         refine af.tk 12 26 j b2 hHeld ?_
         refine af.pu 13 27 j ?_
         refine af.pu 14 28 j ?_
         refine fO (dU j.out (by kernel_rfl)) ?_
         try go_wp2
         replace X:=ae.mk (Kd.bl X.out)
         replace HB:=ae.mk (cn HB.out)
         obtain ⟨dq,eo,b5,i7,i8⟩:=af.ai (Kd.ah X.out).2.2 y
         obtain rfl:a2 = dq:=(by injection eo)
         obtain ⟨dt,eq,a1,i9,ib⟩:=af.ai dk.out z
         have ba:=a1
         obtain rfl:ab = dt:=(by injection eq)
         try replace a1:=(HB.out.cell (World.block_lt_of_cell? w _ a1)).trans a1
         refine eM (n:=15) (S:=fun w'=>w'.cell? (a2.add (y).toNat) = some (.int .i64 (rd Y y))∧w'.cell? (ab.add (z).toNat) = some (.int .i64 (rd l0 z))) (ds:=[]) #[false,false,false,false,false,false,false,false,false,false,false,false,false,false,false] (by kernel_rfl) rfl rfl ⟨b5,((HB.out.cell (World.block_lt_of_cell? w _ ba)).trans ba)⟩ (fun hHeld=>?_);refine dc aD.rS aD.ox (fun j b2=>?_)
         generalize lo.drew = o2 at X HB b5 a1 hHeld ⊢
         refine af.pu 0 31 j ?_
         refine af.pu 1 32 j ?_
         refine af.pu 2 33 j ?_
         refine af.pu 3 34 j ?_
         refine af.pu 4 35 j ?_
         refine af.pu 5 36 j ?_
         refine af.pu 6 37 j ?_
         refine af.pu 7 38 j ?_
         refine af.pu 9 40 j ?_
         refine af.pu 10 41 j ?_
         refine af.pu 11 42 j ?_
         refine af.tk 8 39 j b2 hHeld ?_
         refine af.tk 12 43 j b2 hHeld ?_
         refine af.pu 13 44 j ?_
         refine af.pu 14 45 j ?_
         refine fO (dU j.out (by kernel_rfl)) ?_
         try go_wp2_with (first | (refine af.lt (Kd.int .i64) 3 46 ?_;intro im ob d4 hb em cf;clear em cf;(first | rw [← es.out] at d4 | (simp only [Int.reduceToNat] at d4;rw [← es.out] at d4));have ev:=ae.mk (Kd.aV (Kd.br d4 (Kd.cK (af.Rw X.out))) (av (af.Lw HB.out)));replace X:=ae.mk (Kd.aQ (af.Rw X.out) (Kd.bn d4) hb);replace HB:=af.lb HB hb;clear hb d4;have hA:(y:Int)≤((Y.length:Int):Int):=af.D;obtain ⟨mv,ew,_,ex,_⟩:=info_parts eI;have d1:Y.length≤cb:=(Kd.ah X.out).2.1;have go:Kd.C (Kd.int .i64) _ (some a2) Y.length Y:=(Kd.ah X.out).2.2;have io:(0:Int)≤(y:Int):=af.D;have fp:=m3 (P:=Tryz.prog) 28 3 .i64 Tryz.underlying28 ew 1 ex (some a2) Y.length cb y io hA;have dd:=Kd.kE (m:=(y:Int).toNat) (c:=cb) go (by omega) d1;obtain ⟨it,ec⟩:∃ A1,A1 = (if cb = (y:Int).toNat then (some a2) else ((some a2):Option Addr).map (·.add ((y:Int).toNat * 1))):=⟨_,rfl⟩;obtain ⟨lr,eQ⟩:∃ c1,c1 = cb - (y:Int).toNat:=⟨_,rfl⟩;have ed:aw.length = Y.length - (y:Int).toNat:=(by rw [dC.out,List.length_drop] <;> omega);rw [show (Y).drop (y:Int).toNat = aw from dC.out.symm] at dd;replace dd:Kd.C (Kd.int .i64) _ it aw.length aw:=(by rw [ec];exact dd);rw [← ed,← ec,← eQ] at fp;have bv:=ae.mk dd;have ls:=ae.mk (show aw.length≤lr from by rw [ed,eQ];exact Nat.sub_le_sub_right d1 _);clear dd go d1 ew ex eQ;have n0:=ae.mk ed;have jp:=ae.mk ec;clear ed ec;have k0:=ae.mk (show (y:Int).toNat≤Y.length from by omega);replace hA:=eq_true hA) | ((with_reducible refine cP (b:=.append) (xs:=#[.tmp 46,.tmp 49]) rfl ?_);at_builtin;refine Kd.j9 (Kd.int .i64) (w0:=w) w.heap.size rfl (.tmp 46) (.tmp 49) 28 3 (.int .i64 0) 8 rfl Tryz.underlying28 eI rfl (by decide) (by omega) im d3 aw _ _ _ (fun k_=>some k_≠(.slice (some a2) Y.length cb:Value).ownBlock) (fun _=>False) rfl rfl (by exact af.Rw (Kd.aC ev.out (fun _ hk=>hk.2))) (by repeat (first | exact (by repeat (first | (with_reducible exact bv.out) | (with_reducible refine Kd.fE ?_ _) | (with_reducible refine Kd.fF ?_ _) | (with_reducible refine Kd.fV ?_) | exact bv.out)) | (with_reducible refine Kd.fE ?_ _) | (with_reducible refine Kd.fF ?_ _) | (with_reducible refine Kd.fV ?_))) (fun _ _ h=>h) (fun _ h=>h.elim) (by exact fun k_ hk=>Kd.fresh' (Kd.cK (af.Rw X.out)) k_ hk) (by exact af.Lw HB.out) (by exact av (af.Lw HB.out)) (by have:=hq.out;omega) ?_;intro k3 k4 ho hb hg hat;rw [← hr.out] at ho;have bc:=ae.mk (Kd.dO (ok:=(fun _=>True)) (af.Rw X.out) hg hat);have bi:=ae.mk hb;have bm:=ae.mk ((show Kd.C (Kd.int .i64) k4 it aw.length aw from by rw [dC.out,jp.out];exact Kd.kE (m:=(y:Int).toNat) (c:=cb) ((Kd.ah (Kd.dO (ok:=(fun _=>True)) (af.Rw X.out) hg hat)).2.2) k0.out ((Kd.ah (Kd.dO (ok:=(fun _=>True)) (af.Rw X.out) hg hat)).2.1)));have f0:=ae.mk ho;clear X;clear HB;clear bv;clear ev;have X:=bc;have HB:=bi;have bv:=bm;have a5:=f0;clear bc bi bm f0;clear ho hb hg hat))
         replace X:=ae.mk (Kd.bl X.out)
         replace a5:=ae.mk (Kd.bl a5.out)
         replace bv:=ae.mk (Kd.fV bv.out)
         replace HB:=ae.mk (cn HB.out)
         have hC:(y:Int)≤((Y.length:Int):Int):=af.D
         obtain ⟨n1,f1,_,hD,_⟩:=info_parts eI
         have fs:=nE (P:=Tryz.prog) 28 3 .i64 Tryz.underlying28 f1 (some a2) Y.length cb y (af.D) hC (Kd.ah X.out).2.1
         have ee:=Kd.rD (m:=(y:Int).toNat) X.out (by omega)
         have gs:ao.length = (y:Int).toNat:=(by rw [et.out,List.length_take];omega)
         rw [← et.out] at ee
         rw [← gs] at ee fs
         clear gs f1 hD X
         have e2:=ae.mk ee
         clear ee
         replace hC:=eq_true hC
         obtain ⟨hE,k5,bo,n3,n6⟩:=af.ai dk.out z
         have a3:=bo
         obtain rfl:ab = hE:=(by injection k5)
         try replace bo:=(HB.out.cell (World.block_lt_of_cell? w _ bo)).trans bo
         refine eM (n:=12) (S:=fun w'=>w'.cell? (ab.add (z).toNat) = some (.int .i64 (rd l0 z))) (ds:=[]) #[false,false,false,false,false,false,false,false,false,false,false,false] (by kernel_rfl) rfl rfl (((HB.out.cell (World.block_lt_of_cell? w _ a3)).trans a3)) (fun hHeld=>?_);refine dc aD.n8 aD.lB (fun j b2=>?_)
         generalize k4.drew = oj at X a5 bv HB e2 bo hHeld ⊢
         refine af.pu 0 51 j ?_
         refine af.pu 1 52 j ?_
         refine af.pu 2 53 j ?_
         refine af.pu 3 54 j ?_
         refine af.pu 4 55 j ?_
         refine af.pu 5 56 j ?_
         refine af.pu 9 60 j ?_
         refine lG (i:=6) (N:=some 57) (v:=?_) (a':=?_) #[true,true,true,true,true,true,true,false,false,true,false,false] rfl rfl (ji j.out b2.out (by kernel_rfl)) (fun _ _ _ h=>h) (Or.inl ⟨by rfl,?_⟩) hHeld ?_ ?_
         rotate_left
         ·intro w' s0
          go_simp
          with_reducible rfl
         rotate_left
         ·simp only [Act.put,List.setIfInBounds_toArray,List.set_cons_zero,List.set_cons_succ,aM,b8]
          rfl
         refine fN (i:=7) (N:=some 58) #[true,true,true,true,true,true,true,true,false,true,false,false] rfl rfl (da j.out (by kernel_rfl)) (by decide) (fun K hK=>?_)
         refine nI (w1:=?_) (v:=?_) (by rfl) rfl ?_ ?_
         rotate_left 2
         ·go_simp
          constructor
          ·rfl
          ·rfl
         refine hK.out _ _ ((World.cell?_alloc_lt _ _ _ (World.block_lt_of_cell? _ _ (((HB.out.cell (World.block_lt_of_cell? w _ a3)).trans a3)))).trans (((HB.out.cell (World.block_lt_of_cell? w _ a3)).trans a3))) (fun hHeld=>?_)
         clear hK K
         refine er (a':=?_) ?_ ?_
         rotate_left
         ·show Act.put _ (some 58) _ = _
          simp only [Act.put,List.setIfInBounds_toArray,List.set_cons_zero,List.set_cons_succ,aM,b8]
          rfl
         refine fN (i:=8) (N:=some 59) #[true,true,true,true,true,true,true,true,true,true,false,false] rfl rfl (da j.out (by kernel_rfl)) (by decide) (fun K hK=>?_)
         refine Kd.ie (Kd.int .i64) (w0:=w) w.heap.size (by rfl) (.tmp 53) (.tmp 58) 28 3 (.int .i64 0) 8 rfl Tryz.underlying28 eI rfl (by decide) (by omega) (.slice (some a2) ao.length cb) ao (rd l0 z) [.int .i64 (rd l0 z)] (fun k_=>some k_≠(k3:Value).ownBlock) (fun _=>False) rfl rfl ?aP (fun _ hk=>hk.elim) ?aF ?aO ?aB ?aS ?aL ?_
         (case aP=>exact rfl)
         (case aB=>exact (af.Lw HB.out))
         (case aF=>exact (fun k_ hk=>Kd.fresh' (Kd.cK (af.Rw a5.out)) k_ hk))
         (case aO=>exact (af.Rw (Kd.aC e2.out (fun _ hk=>hk.2))))
         (case aS=>exact (av (af.Lw HB.out)))
         (case aL=>have:=ht.out;omega)
         intro ka ol ho hb hg hat
         rw [← hu.out] at ho
         have bc:=ae.mk (Kd.dO (ok:=(fun _=>True)) (af.Rw (Kd.aC a5.out (fun _ hk=>⟨trivial,(by first | exact hk | (cases g1 <;> exact hk) | (cases g7 <;> exact hk) | (cases gb <;> exact hk) | (cases f2 <;> exact hk) | (cases cc <;> exact hk) | (cases f3 <;> exact hk))⟩))) hg hat)
         have bi:=ae.mk hb
         have bm:=ae.mk ho
         clear a5
         clear HB
         clear e2
         have a5:=bc
         have HB:=bi
         have f4:=bm
         clear bc bi bm
         clear ho hb hg hat
         obtain ⟨f2,kb,gt⟩:=Kd.aK a5.out
         (first | subst gt | (injection gt with b3 ci b4;have cp:=b3.symm;have d0:=b4.symm;clear b3 ci b4;subst cp;subst d0))
         refine hK.out _ _ (((HB.out.cell (World.block_lt_of_cell? w _ a3)).trans a3)) (fun hHeld=>?_)
         clear hK K
         refine er (a':=?_) ?_ ?_
         rotate_left
         ·show Act.put _ (some 59) _ = _
          simp only [Act.put,List.setIfInBounds_toArray,List.set_cons_zero,List.set_cons_succ,aM,b8]
          rfl
         refine fN (i:=10) (N:=some 61) #[true,true,true,true,true,true,true,true,true,true,true,false] rfl rfl (da j.out (by kernel_rfl)) (by decide) (fun K hK=>?_)
         refine Kd.gg (Kd.int .i64) (w0:=w) w.heap.size (by rfl) (.tmp 59) (.tmp 60) 28 3 (.int .i64 0) 8 rfl Tryz.underlying28 eI rfl (by decide) (by omega) ka a9 am _ _ _ (fun k_=>some k_≠(.slice f2 am.length kb:Value).ownBlock) (fun _=>False) rfl rfl ?aO ?aR (fun _ _ h=>h) (fun _ h=>h.elim) ?aF ?aB ?aS ?aL ?_
         (case aR=>repeat (first | exact (Kd.ah a5.out).2.2 | (with_reducible refine Kd.fE ?_ _) | (with_reducible refine Kd.fF ?_ _) | (with_reducible refine Kd.fV ?_)))
         (case aB=>exact (af.Lw HB.out))
         (case aF=>exact (fun k_ hk=>Kd.fresh' (Kd.cK (af.Rw a5.out)) k_ hk))
         (case aO=>exact (af.Rw f4.out))
         (case aS=>exact (av (af.Lw HB.out)))
         (case aL=>have:=hx.out;omega)
         intro na on ho hb hg hat
         rw [← hz.out] at ho
         have bc:=ae.mk (Kd.dO (ok:=(fun _=>True)) (af.Rw a5.out) hg hat)
         have bi:=ae.mk hb
         have bm:=ae.mk ho
         clear a5
         clear HB
         clear f4
         have a5:=bc
         have HB:=bi
         have hG:=bm
         clear bc bi bm
         clear ho hb hg hat
         refine hK.out _ _ (((HB.out.cell (World.block_lt_of_cell? w _ a3)).trans a3)) (fun hHeld=>?_)
         clear hK K
         refine er (a':=?_) ?_ ?_
         rotate_left
         ·show Act.put _ (some 61) _ = _
          simp only [Act.put,List.setIfInBounds_toArray,List.set_cons_zero,List.set_cons_succ,aM,b8]
          rfl
         refine af.pu 11 3 j ?_
         refine fO (dU j.out (by kernel_rfl)) ?_
         try go_wp2
         go_roundg k2
         case measure=>have:=d7.out;have:=d8.out;omega
         case rel=>exact ⟨(g9),(wrap64 (z+1)),af.F,H',⟨by have:=d7.out;have:=d8.out;omega⟩,⟨af.Rw (Kd.aC hG.out (fun _ hk=>trivial))⟩,⟨af.Lw HB.out⟩⟩
      ·rw [if_neg c5] at H
       have i5:decide (y < (Y.length:Int)) = false:=decide_eq_false c5
       clear c5
       obtain ⟨d5,e3⟩:∃ y_:List Int,y_ = (([]:List Int)):=⟨_,rfl⟩
       replace H:(if 0≤y then (if y≤(Y.length:Int) then ((some (Y.drop (y:Int).toNat:List Int)).bind fun b0=>(if d5.length+b0.length < 17592186044416 then ((some (d5 ++ b0:List Int)).bind fun ap=>((some (Y.take (y:Int).toNat:List Int)).bind fun ar=>(if 0≤z then (if z < (l0.length:Int) then (if ar.length < 17592186044416 then ((some (ar ++ [rd l0 z]:List Int)).bind fun aa=>(if aa.length+ap.length < 17592186044416 then (aD.l0 k2 l0 (aa ++ ap) (wrap64 (z+1))) else (none))) else (none)) else (none)) else (none)))) else (none))) else (none)) else (none)) = some r:=by (try rw [e3]);exact af.Z
       have f5:=ae.mk e3
       clear e3
       obtain ⟨hH,H⟩:=af.ip H
       have lv:=eq_true hH
       have lw:decide (0≤y) = true:=decide_eq_true hH
       clear hH
       obtain ⟨hI,H⟩:=af.ip H
       have lx:=eq_true hI
       have ly:decide (y≤(Y.length:Int)) = true:=decide_eq_true hI
       clear hI
       obtain ⟨b0,e4⟩:∃ y_:List Int,y_ = (Y.drop (y:Int).toNat):=⟨_,rfl⟩
       replace H:(if d5.length+b0.length < 17592186044416 then ((some (d5 ++ b0:List Int)).bind fun ap=>((some (Y.take (y:Int).toNat:List Int)).bind fun ar=>(if 0≤z then (if z < (l0.length:Int) then (if ar.length < 17592186044416 then ((some (ar ++ [rd l0 z]:List Int)).bind fun aa=>(if aa.length+ap.length < 17592186044416 then (aD.l0 k2 l0 (aa ++ ap) (wrap64 (z+1))) else (none))) else (none)) else (none)) else (none)))) else (none)) = some r:=by (try rw [e4]);exact af.Z
       have e5:=ae.mk e4
       clear e4
       obtain ⟨kc,H⟩:=af.ip H
       have hL:=ae.mk kc
       clear kc
       obtain ⟨ap,e6⟩:∃ y_:List Int,y_ = (d5 ++ b0):=⟨_,rfl⟩
       replace H:((some (Y.take (y:Int).toNat:List Int)).bind fun ar=>(if 0≤z then (if z < (l0.length:Int) then (if ar.length < 17592186044416 then ((some (ar ++ [rd l0 z]:List Int)).bind fun aa=>(if aa.length+ap.length < 17592186044416 then (aD.l0 k2 l0 (aa ++ ap) (wrap64 (z+1))) else (none))) else (none)) else (none)) else (none))) = some r:=by (try rw [e6]);exact af.Z
       have hM:=ae.mk e6
       clear e6
       have lL:=eq_true (af.D:y≤(Y.length:Int))
       obtain ⟨ar,e7⟩:∃ y_:List Int,y_ = (Y.take (y:Int).toNat):=⟨_,rfl⟩
       replace H:(if 0≤z then (if z < (l0.length:Int) then (if ar.length < 17592186044416 then ((some (ar ++ [rd l0 z]:List Int)).bind fun aa=>(if aa.length+ap.length < 17592186044416 then (aD.l0 k2 l0 (aa ++ ap) (wrap64 (z+1))) else (none))) else (none)) else (none)) else (none)) = some r:=by (try rw [e7]);exact af.Z
       have f6:=ae.mk e7
       clear e7
       obtain ⟨kd,H⟩:=af.ip H
       have lN:=decide_eq_true kd
       clear kd
       obtain ⟨kh,H⟩:=af.ip H
       have m1:=decide_eq_true kh
       clear kh
       obtain ⟨kl,H⟩:=af.ip H
       have hP:=ae.mk kl
       clear kl
       obtain ⟨aa,e8⟩:∃ y_:List Int,y_ = (ar ++ [rd l0 z]):=⟨_,rfl⟩
       replace H:(if aa.length+ap.length < 17592186044416 then (aD.l0 k2 l0 (aa ++ ap) (wrap64 (z+1))) else (none)) = some r:=by (try rw [e8]);exact af.Z
       have hR:=ae.mk e8
       clear e8
       obtain ⟨km,H⟩:=af.ip H
       have hT:=ae.mk km
       clear km
       obtain ⟨h0,ea⟩:∃ y_:List Int,y_ = (aa ++ ap):=⟨_,rfl⟩
       replace H:(aD.l0 k2 l0 h0 (wrap64 (z+1))) = some r:=by (try rw [ea]);exact af.Z
       have hU:=ae.mk ea
       clear ea
       have H':=ae.mk H
       clear H
       try go_wp2
       replace X:=ae.mk (Kd.bl X.out)
       replace HB:=ae.mk (cn HB.out)
       obtain ⟨cc,ce,h6⟩:=Kd.aK X.out
       (first | subst h6 | (injection h6 with b3 ci b4;have cp:=b3.symm;have d0:=b4.symm;clear b3 ci b4;subst cp;subst d0))
       refine eM (n:=15) (S:=fun w'=>True) (ds:=[]) #[false,false,false,false,false,false,false,false,false,false,false,false,false,false,false] (by kernel_rfl) rfl rfl trivial (fun hHeld=>?_);refine dc aD.lS aD.jA (fun j b2=>?_)
       generalize wr.drew = m2 at X HB hHeld ⊢
       refine af.pu 0 14 j ?_
       refine af.pu 1 15 j ?_
       refine af.pu 2 16 j ?_
       refine af.pu 3 17 j ?_
       refine af.pu 4 18 j ?_
       refine cq (i:=5) (N:=some 19) (v:=undef) (a':=?_) #[true,true,true,true,true,true,false,false,false,false,false,false,false,false,false] rfl rfl (bp j.out (by kernel_rfl)) (fun _ _ _ h=>h) (Or.inr ⟨by rfl,rfl⟩) ?_ ?_
       rotate_left
       ·simp only [Act.put,List.setIfInBounds_toArray,List.set_cons_zero,List.set_cons_succ,aM,b8]
        rfl
       refine cq (i:=6) (N:=some 20) (v:=undef) (a':=?_) #[true,true,true,true,true,true,true,false,false,false,false,false,false,false,false] rfl rfl (bp j.out (by kernel_rfl)) (fun _ _ _ h=>h) (Or.inr ⟨by rfl,rfl⟩) ?_ ?_
       rotate_left
       ·simp only [Act.put,List.setIfInBounds_toArray,List.set_cons_zero,List.set_cons_succ,aM,b8]
        rfl
       refine cq (i:=7) (N:=some 21) (v:=undef) (a':=?_) #[true,true,true,true,true,true,true,true,false,false,false,false,false,false,false] rfl rfl (bp j.out (by kernel_rfl)) (fun _ _ _ h=>h) (Or.inr ⟨by rfl,rfl⟩) ?_ ?_
       rotate_left
       ·simp only [Act.put,List.setIfInBounds_toArray,List.set_cons_zero,List.set_cons_succ,aM,b8]
        rfl
       refine cq (i:=8) (N:=some 22) (v:=undef) (a':=?_) #[true,true,true,true,true,true,true,true,true,false,false,false,false,false,false] rfl rfl (bp j.out (by kernel_rfl)) (fun _ _ _ h=>h) (Or.inr ⟨by rfl,rfl⟩) ?_ ?_
       rotate_left
       ·simp only [Act.put,List.setIfInBounds_toArray,List.set_cons_zero,List.set_cons_succ,aM,b8]
        rfl
       refine cq (i:=9) (N:=some 23) (v:=undef) (a':=?_) #[true,true,true,true,true,true,true,true,true,true,false,false,false,false,false] rfl rfl (bp j.out (by kernel_rfl)) (fun _ _ _ h=>h) (Or.inr ⟨by rfl,rfl⟩) ?_ ?_
       rotate_left
       ·simp only [Act.put,List.setIfInBounds_toArray,List.set_cons_zero,List.set_cons_succ,aM,b8]
        rfl
       refine cq (i:=10) (N:=some 24) (v:=undef) (a':=?_) #[true,true,true,true,true,true,true,true,true,true,true,false,false,false,false] rfl rfl (bp j.out (by kernel_rfl)) (fun _ _ _ h=>h) (Or.inr ⟨by rfl,rfl⟩) ?_ ?_
       rotate_left
       ·simp only [Act.put,List.setIfInBounds_toArray,List.set_cons_zero,List.set_cons_succ,aM,b8]
        rfl
       refine cq (i:=11) (N:=some 25) (v:=undef) (a':=?_) #[true,true,true,true,true,true,true,true,true,true,true,true,false,false,false] rfl rfl (bp j.out (by kernel_rfl)) (fun _ _ _ h=>h) (Or.inr ⟨by rfl,rfl⟩) ?_ ?_
       rotate_left
       ·simp only [Act.put,List.setIfInBounds_toArray,List.set_cons_zero,List.set_cons_succ,aM,b8]
        rfl
       refine cq (i:=12) (N:=some 26) (v:=undef) (a':=?_) #[true,true,true,true,true,true,true,true,true,true,true,true,true,false,false] rfl rfl (bp j.out (by kernel_rfl)) (fun _ _ _ h=>h) (Or.inr ⟨by rfl,rfl⟩) ?_ ?_
       rotate_left
       ·simp only [Act.put,List.setIfInBounds_toArray,List.set_cons_zero,List.set_cons_succ,aM,b8]
        rfl
       refine cq (i:=13) (N:=some 27) (v:=undef) (a':=?_) #[true,true,true,true,true,true,true,true,true,true,true,true,true,true,false] rfl rfl (bp j.out (by kernel_rfl)) (fun _ _ _ h=>h) (Or.inr ⟨by rfl,rfl⟩) ?_ ?_
       rotate_left
       ·simp only [Act.put,List.setIfInBounds_toArray,List.set_cons_zero,List.set_cons_succ,aM,b8]
        rfl
       refine af.pu 14 28 j ?_
       refine fO (dU j.out (by kernel_rfl)) ?_
       try go_wp2
       replace X:=ae.mk (Kd.bl X.out)
       replace HB:=ae.mk (cn HB.out)
       refine eM (n:=15) (S:=fun w'=>True) (ds:=[]) #[false,false,false,false,false,false,false,false,false,false,false,false,false,false,false] (by kernel_rfl) rfl rfl trivial (fun hHeld=>?_);refine dc aD.rS aD.ox (fun j b2=>?_)
       generalize m2.drew = os at X HB hHeld ⊢
       refine af.pu 0 31 j ?_
       refine af.pu 1 32 j ?_
       refine af.pu 2 33 j ?_
       refine af.pu 3 34 j ?_
       refine af.pu 4 35 j ?_
       refine cq (i:=5) (N:=some 36) (v:=undef) (a':=?_) #[true,true,true,true,true,true,false,false,false,false,false,false,false,false,false] rfl rfl (bp j.out (by kernel_rfl)) (fun _ _ _ h=>h) (Or.inr ⟨by rfl,rfl⟩) ?_ ?_
       rotate_left
       ·simp only [Act.put,List.setIfInBounds_toArray,List.set_cons_zero,List.set_cons_succ,aM,b8]
        rfl
       refine cq (i:=6) (N:=some 37) (v:=undef) (a':=?_) #[true,true,true,true,true,true,true,false,false,false,false,false,false,false,false] rfl rfl (bp j.out (by kernel_rfl)) (fun _ _ _ h=>h) (Or.inr ⟨by rfl,rfl⟩) ?_ ?_
       rotate_left
       ·simp only [Act.put,List.setIfInBounds_toArray,List.set_cons_zero,List.set_cons_succ,aM,b8]
        rfl
       refine cq (i:=7) (N:=some 38) (v:=undef) (a':=?_) #[true,true,true,true,true,true,true,true,false,false,false,false,false,false,false] rfl rfl (bp j.out (by kernel_rfl)) (fun _ _ _ h=>h) (Or.inr ⟨by rfl,rfl⟩) ?_ ?_
       rotate_left
       ·simp only [Act.put,List.setIfInBounds_toArray,List.set_cons_zero,List.set_cons_succ,aM,b8]
        rfl
       refine cq (i:=8) (N:=some 39) (v:=undef) (a':=?_) #[true,true,true,true,true,true,true,true,true,false,false,false,false,false,false] rfl rfl (bp j.out (by kernel_rfl)) (fun _ _ _ h=>h) (Or.inr ⟨by rfl,rfl⟩) ?_ ?_
       rotate_left
       ·simp only [Act.put,List.setIfInBounds_toArray,List.set_cons_zero,List.set_cons_succ,aM,b8]
        rfl
       refine cq (i:=9) (N:=some 40) (v:=undef) (a':=?_) #[true,true,true,true,true,true,true,true,true,true,false,false,false,false,false] rfl rfl (bp j.out (by kernel_rfl)) (fun _ _ _ h=>h) (Or.inr ⟨by rfl,rfl⟩) ?_ ?_
       rotate_left
       ·simp only [Act.put,List.setIfInBounds_toArray,List.set_cons_zero,List.set_cons_succ,aM,b8]
        rfl
       refine cq (i:=10) (N:=some 41) (v:=undef) (a':=?_) #[true,true,true,true,true,true,true,true,true,true,true,false,false,false,false] rfl rfl (bp j.out (by kernel_rfl)) (fun _ _ _ h=>h) (Or.inr ⟨by rfl,rfl⟩) ?_ ?_
       rotate_left
       ·simp only [Act.put,List.setIfInBounds_toArray,List.set_cons_zero,List.set_cons_succ,aM,b8]
        rfl
       refine cq (i:=11) (N:=some 42) (v:=undef) (a':=?_) #[true,true,true,true,true,true,true,true,true,true,true,true,false,false,false] rfl rfl (bp j.out (by kernel_rfl)) (fun _ _ _ h=>h) (Or.inr ⟨by rfl,rfl⟩) ?_ ?_
       rotate_left
       ·simp only [Act.put,List.setIfInBounds_toArray,List.set_cons_zero,List.set_cons_succ,aM,b8]
        rfl
       refine cq (i:=12) (N:=some 43) (v:=undef) (a':=?_) #[true,true,true,true,true,true,true,true,true,true,true,true,true,false,false] rfl rfl (bp j.out (by kernel_rfl)) (fun _ _ _ h=>h) (Or.inr ⟨by rfl,rfl⟩) ?_ ?_
       rotate_left
       ·simp only [Act.put,List.setIfInBounds_toArray,List.set_cons_zero,List.set_cons_succ,aM,b8]
        rfl
       refine cq (i:=13) (N:=some 44) (v:=undef) (a':=?_) #[true,true,true,true,true,true,true,true,true,true,true,true,true,true,false] rfl rfl (bp j.out (by kernel_rfl)) (fun _ _ _ h=>h) (Or.inr ⟨by rfl,rfl⟩) ?_ ?_
       rotate_left
       ·simp only [Act.put,List.setIfInBounds_toArray,List.set_cons_zero,List.set_cons_succ,aM,b8]
        rfl
       refine af.pu 14 45 j ?_
       refine fO (dU j.out (by kernel_rfl)) ?_
       try go_wp2_with (first | (refine af.lt (Kd.int .i64) 3 46 ?_;intro ks p0 d6 hb em cf;clear em cf;(first | rw [← f5.out] at d6 | (simp only [Int.reduceToNat] at d6;rw [← f5.out] at d6));have f7:=ae.mk (Kd.aV (Kd.br d6 (Kd.cK (af.Rw X.out))) (av (af.Lw HB.out)));replace X:=ae.mk (Kd.aQ (af.Rw X.out) (Kd.bn d6) hb);replace HB:=af.lb HB hb;clear hb d6;have hV:(y:Int)≤((Y.length:Int):Int):=af.D;obtain ⟨nb,f8,_,f9,_⟩:=info_parts eI;have d2:Y.length≤ce:=(Kd.ah X.out).2.1;have h7:Kd.C (Kd.int .i64) _ cc Y.length Y:=(Kd.ah X.out).2.2;have kt:(0:Int)≤(y:Int):=af.D;have ft:=m3 (P:=Tryz.prog) 28 3 .i64 Tryz.underlying28 f8 1 f9 cc Y.length ce y kt hV;have df:=Kd.kE (m:=(y:Int).toNat) (c:=ce) h7 (by omega) d2;obtain ⟨kv,ef⟩:∃ A1,A1 = (if ce = (y:Int).toNat then cc else (cc:Option Addr).map (·.add ((y:Int).toNat * 1))):=⟨_,rfl⟩;obtain ⟨m5,fd⟩:∃ c1,c1 = ce - (y:Int).toNat:=⟨_,rfl⟩;have eh:b0.length = Y.length - (y:Int).toNat:=(by rw [e5.out,List.length_drop] <;> omega);rw [show (Y).drop (y:Int).toNat = b0 from e5.out.symm] at df;replace df:Kd.C (Kd.int .i64) _ kv b0.length b0:=(by rw [ef];exact df);rw [← eh,← ef,← fd] at ft;have ca:=ae.mk df;have ma:=ae.mk (show b0.length≤m5 from by rw [eh,fd];exact Nat.sub_le_sub_right d2 _);clear df h7 d2 f8 f9 fd;have nd:=ae.mk eh;have kw:=ae.mk ef;clear eh ef;have ky:=ae.mk (show (y:Int).toNat≤Y.length from by omega);replace hV:=eq_true hV) | ((with_reducible refine cP (b:=.append) (xs:=#[.tmp 46,.tmp 49]) rfl ?_);at_builtin;refine Kd.j9 (Kd.int .i64) (w0:=w) w.heap.size rfl (.tmp 46) (.tmp 49) 28 3 (.int .i64 0) 8 rfl Tryz.underlying28 eI rfl (by decide) (by omega) ks d5 b0 _ _ _ (fun k_=>some k_≠(.slice cc Y.length ce:Value).ownBlock) (fun _=>False) rfl rfl (by exact af.Rw (Kd.aC f7.out (fun _ hk=>hk.2))) (by repeat (first | exact (by repeat (first | (with_reducible exact ca.out) | (with_reducible refine Kd.fE ?_ _) | (with_reducible refine Kd.fF ?_ _) | (with_reducible refine Kd.fV ?_) | exact ca.out)) | (with_reducible refine Kd.fE ?_ _) | (with_reducible refine Kd.fF ?_ _) | (with_reducible refine Kd.fV ?_))) (fun _ _ h=>h) (fun _ h=>h.elim) (by exact fun k_ hk=>Kd.fresh' (Kd.cK (af.Rw X.out)) k_ hk) (by exact af.Lw HB.out) (by exact av (af.Lw HB.out)) (by have:=hL.out;omega) ?_;intro la lc ho hb hg hat;rw [← hM.out] at ho;have bc:=ae.mk (Kd.dO (ok:=(fun _=>True)) (af.Rw X.out) hg hat);have bi:=ae.mk hb;have bm:=ae.mk ((show Kd.C (Kd.int .i64) lc kv b0.length b0 from by rw [e5.out,kw.out];exact Kd.kE (m:=(y:Int).toNat) (c:=ce) ((Kd.ah (Kd.dO (ok:=(fun _=>True)) (af.Rw X.out) hg hat)).2.2) ky.out ((Kd.ah (Kd.dO (ok:=(fun _=>True)) (af.Rw X.out) hg hat)).2.1)));have f0:=ae.mk ho;clear X;clear HB;clear ca;clear f7;have X:=bc;have HB:=bi;have ca:=bm;have a6:=f0;clear bc bi bm f0;clear ho hb hg hat))
       replace X:=ae.mk (Kd.bl X.out)
       replace a6:=ae.mk (Kd.bl a6.out)
       replace ca:=ae.mk (Kd.fV ca.out)
       replace HB:=ae.mk (cn HB.out)
       have hW:(y:Int)≤((Y.length:Int):Int):=af.D
       obtain ⟨ne,fi,_,hX,_⟩:=info_parts eI
       have fw:=nE (P:=Tryz.prog) 28 3 .i64 Tryz.underlying28 fi cc Y.length ce y (af.D) hW (Kd.ah X.out).2.1
       have ei:=Kd.rD (m:=(y:Int).toNat) X.out (by omega)
       have h8:ar.length = (y:Int).toNat:=(by rw [f6.out,List.length_take];omega)
       rw [← f6.out] at ei
       rw [← h8] at ei fw
       clear h8 fi hX X
       have eb:=ae.mk ei
       clear ei
       replace hW:=eq_true hW
       obtain ⟨hZ,le,bs,no,np⟩:=af.ai dk.out z
       have a4:=bs
       cases le
       try replace bs:=(HB.out.cell (World.block_lt_of_cell? w _ bs)).trans bs
       refine eM (n:=12) (S:=fun w'=>w'.cell? (hZ.add (z).toNat) = some (.int .i64 (rd l0 z))) (ds:=[]) #[false,false,false,false,false,false,false,false,false,false,false,false] (by kernel_rfl) rfl rfl (((HB.out.cell (World.block_lt_of_cell? w _ a4)).trans a4)) (fun hHeld=>?_);refine dc aD.n8 aD.lB (fun j b2=>?_)
       generalize lc.drew = p1 at X a6 ca HB eb bs hHeld ⊢
       refine af.pu 0 51 j ?_
       refine af.pu 1 52 j ?_
       refine af.pu 2 53 j ?_
       refine af.pu 3 54 j ?_
       refine af.pu 4 55 j ?_
       refine af.pu 5 56 j ?_
       refine af.pu 9 60 j ?_
       refine lG (i:=6) (N:=some 57) (v:=?_) (a':=?_) #[true,true,true,true,true,true,true,false,false,true,false,false] rfl rfl (ji j.out b2.out (by kernel_rfl)) (fun _ _ _ h=>h) (Or.inl ⟨by rfl,?_⟩) hHeld ?_ ?_
       rotate_left
       ·intro w' s0
        go_simp
        with_reducible rfl
       rotate_left
       ·simp only [Act.put,List.setIfInBounds_toArray,List.set_cons_zero,List.set_cons_succ,aM,b8]
        rfl
       refine fN (i:=7) (N:=some 58) #[true,true,true,true,true,true,true,true,false,true,false,false] rfl rfl (da j.out (by kernel_rfl)) (by decide) (fun K hK=>?_)
       refine nI (w1:=?_) (v:=?_) (by rfl) rfl ?_ ?_
       rotate_left 2
       ·go_simp
        constructor
        ·rfl
        ·rfl
       refine hK.out _ _ ((World.cell?_alloc_lt _ _ _ (World.block_lt_of_cell? _ _ (((HB.out.cell (World.block_lt_of_cell? w _ a4)).trans a4)))).trans (((HB.out.cell (World.block_lt_of_cell? w _ a4)).trans a4))) (fun hHeld=>?_)
       clear hK K
       refine er (a':=?_) ?_ ?_
       rotate_left
       ·show Act.put _ (some 58) _ = _
        simp only [Act.put,List.setIfInBounds_toArray,List.set_cons_zero,List.set_cons_succ,aM,b8]
        rfl
       refine fN (i:=8) (N:=some 59) #[true,true,true,true,true,true,true,true,true,true,false,false] rfl rfl (da j.out (by kernel_rfl)) (by decide) (fun K hK=>?_)
       refine Kd.ie (Kd.int .i64) (w0:=w) w.heap.size (by rfl) (.tmp 53) (.tmp 58) 28 3 (.int .i64 0) 8 rfl Tryz.underlying28 eI rfl (by decide) (by omega) (.slice cc ar.length ce) ar (rd l0 z) [.int .i64 (rd l0 z)] (fun k_=>some k_≠(la:Value).ownBlock) (fun _=>False) rfl rfl ?aP (fun _ hk=>hk.elim) ?aF ?aO ?aB ?aS ?aL ?_
       (case aP=>exact rfl)
       (case aB=>exact (af.Lw HB.out))
       (case aF=>exact (fun k_ hk=>Kd.fresh' (Kd.cK (af.Rw a6.out)) k_ hk))
       (case aO=>exact (af.Rw (Kd.aC eb.out (fun _ hk=>hk.2))))
       (case aS=>exact (av (af.Lw HB.out)))
       (case aL=>have:=hP.out;omega)
       intro lh p2 ho hb hg hat
       rw [← hR.out] at ho
       have bc:=ae.mk (Kd.dO (ok:=(fun _=>True)) (af.Rw (Kd.aC a6.out (fun _ hk=>⟨trivial,(by first | exact hk | (cases g1 <;> exact hk) | (cases g7 <;> exact hk) | (cases gb <;> exact hk) | (cases f2 <;> exact hk) | (cases cc <;> exact hk) | (cases f3 <;> exact hk))⟩))) hg hat)
       have bi:=ae.mk hb
       have bm:=ae.mk ho
       clear a6
       clear HB
       clear eb
       have a6:=bc
       have HB:=bi
       have fj:=bm
       clear bc bi bm
       clear ho hb hg hat
       obtain ⟨f3,li,h9⟩:=Kd.aK a6.out
       (first | subst h9 | (injection h9 with b3 ci b4;have cp:=b3.symm;have d0:=b4.symm;clear b3 ci b4;subst cp;subst d0))
       refine hK.out _ _ (((HB.out.cell (World.block_lt_of_cell? w _ a4)).trans a4)) (fun hHeld=>?_)
       clear hK K
       refine er (a':=?_) ?_ ?_
       rotate_left
       ·show Act.put _ (some 59) _ = _
        simp only [Act.put,List.setIfInBounds_toArray,List.set_cons_zero,List.set_cons_succ,aM,b8]
        rfl
       refine fN (i:=10) (N:=some 61) #[true,true,true,true,true,true,true,true,true,true,true,false] rfl rfl (da j.out (by kernel_rfl)) (by decide) (fun K hK=>?_)
       refine Kd.gg (Kd.int .i64) (w0:=w) w.heap.size (by rfl) (.tmp 59) (.tmp 60) 28 3 (.int .i64 0) 8 rfl Tryz.underlying28 eI rfl (by decide) (by omega) lh aa ap _ _ _ (fun k_=>some k_≠(.slice f3 ap.length li:Value).ownBlock) (fun _=>False) rfl rfl ?aO ?aR (fun _ _ h=>h) (fun _ h=>h.elim) ?aF ?aB ?aS ?aL ?_
       (case aR=>repeat (first | exact (Kd.ah a6.out).2.2 | (with_reducible refine Kd.fE ?_ _) | (with_reducible refine Kd.fF ?_ _) | (with_reducible refine Kd.fV ?_)))
       (case aB=>exact (af.Lw HB.out))
       (case aF=>exact (fun k_ hk=>Kd.fresh' (Kd.cK (af.Rw a6.out)) k_ hk))
       (case aO=>exact (af.Rw fj.out))
       (case aS=>exact (av (af.Lw HB.out)))
       (case aL=>have:=hT.out;omega)
       intro ns p3 ho hb hg hat
       rw [← hU.out] at ho
       have bc:=ae.mk (Kd.dO (ok:=(fun _=>True)) (af.Rw a6.out) hg hat)
       have bi:=ae.mk hb
       have bm:=ae.mk ho
       clear a6
       clear HB
       clear fj
       have a6:=bc
       have HB:=bi
       have i0:=bm
       clear bc bi bm
       clear ho hb hg hat
       refine hK.out _ _ (((HB.out.cell (World.block_lt_of_cell? w _ a4)).trans a4)) (fun hHeld=>?_)
       clear hK K
       refine er (a':=?_) ?_ ?_
       rotate_left
       ·show Act.put _ (some 61) _ = _
        simp only [Act.put,List.setIfInBounds_toArray,List.set_cons_zero,List.set_cons_succ,aM,b8]
        rfl
       refine af.pu 11 3 j ?_
       refine fO (dU j.out (by kernel_rfl)) ?_
       try go_wp2
       go_roundg k2
       case measure=>have:=d7.out;have:=d8.out;omega
       case rel=>exact ⟨(h0),(wrap64 (z+1)),af.F,H',⟨by have:=d7.out;have:=d8.out;omega⟩,⟨af.Rw (Kd.aC i0.out (fun _ hk=>trivial))⟩,⟨af.Lw HB.out⟩⟩
   ·rw [if_neg c4] at H
    have i4:decide (z < (l0.length:Int)) = false:=decide_eq_false c4
    clear c4
    obtain rfl:=Option.some.inj H
    go_wp2
    go_ret
    exact ⟨_,af.E,by (with_reducible repeat (first | apply Kd.cH | apply Kd.cI | apply Kd.bl));exact X.out,af.L⟩
def dy.l0:Nat→Int→List Int→Int→Int→List Int→Int→Int→Option (List Int×Int×Int)
 | 0,_,_,_,_,_,_,_=>none
 | k+1,Y,x5,x6,x7,y,z,X=>if x7 < x6 then (if 0≤(IntKind.u64.wrap (Y)) then ((aH.f y z X (shl .i64 1 (IntKind.u64.wrap (Y)))).bind fun j=>(if x5.length < 17592186044416 then (dy.l0 k Y (x5 ++ [j.1]) x6 (wrap64 (x7+1)) y j.2.1 j.2.2) else (none))) else (none)) else (some (x5,z,X))
def dy.f (k:Nat) (y:List Int) (z:Int) (X:Int) (Y:Int):Option (List Int×Int×Int):=(aH.f y z X 6).bind fun j=>(dy.l0 k Y (([]:List Int)) j.1 0 y j.2.1 j.2.2)
set_option maxHeartbeats 8000000 in
set_option maxRecDepth 100000 in
theorem dy.calls (k:Nat) (g:Nat) (j:List Int) (a7:Int) (a8:Int) (a1:Int) (r1:List Int) (r2:Int) (r3:Int) (w0 w:World) (hI:aj w0 w g j a7 a8) (hB:Below w0.heap.size w0 w) (h:dy.f k j a7 a8 a1 = some (r1,r2,r3)) :
  Calls Tryz.prog 142 #[.pointer (some ⟨g,0,none⟩),.int .i64 a1] w fun e w'=>∃ bc:Value,e = .returned (bc)∧Kd.R (Kd.int .i64) 3 w' w.heap.size (fun _=>True) bc r1∧aj w0 w' g j r2 r3∧Below w0.heap.size w0 w'∧an w w' g none:=by
 have a9:=ae.mk hI
 have HK:=ae.mk (an.refl w g none)
 have HL:=ae.mk hB.size
 clear hI
 have d5:=ae.mk hB.size
 have HB:=ae.mk hB
 clear hB
 unfold dy.f at h
 have H:=h
 clear h
 obtain ⟨aP,aa⟩:∃ y_:List Int,y_ = (([]:List Int)):=⟨_,rfl⟩
 replace H:((aH.f j a7 a8 6).bind fun ab=>(dy.l0 k a1 aP ab.1 0 j ab.2.1 ab.2.2)) = some (r1,r2,r3):=by (try rw [aa]);exact af.Z
 have aB:=ae.mk aa
 clear aa
 obtain ⟨⟨a4,aR,aS⟩,A3,H⟩:=af.be H
 (try dsimp only at H)
 have H':=ae.mk H
 clear H
 go_enter Tryz.func142,Tryz.ntmps142
 go_wp2_with (first | (refine af.lt (Kd.int .i64) 3 8 ?_;intro d1 w4 aF hb ci b3;clear ci b3;(first | rw [← aB.out] at aF | (simp only [Int.reduceToNat] at aF;rw [← aB.out] at aF));have am:=ae.mk (Kd.aV aF (b9 (w:=w) (g:=g) (row:=none) (af.K HK)));replace HK:=ae.mk (an.trans (af.K HK) (an.cW hb g none) (.inl rfl));replace HB:=ae.mk (ax (af.J HB) hb);replace a9:=ae.mk (aj.below af.I hb);clear hb aF) | (refine af.gl (some 10) Tryz.func80 #[.pointer (some ⟨g,0,none⟩),.int .i64 6] ?_;(with_reducible refine (aH.calls g j a7 a8 6 a4 aR aS w0 _ ?side1 ?side2 A3.out).mono ?_);(case side1=>exact af.I);(case side2=>exact af.J HB);rintro e w6 ⟨rfl,hi,hb,hk⟩;refine ⟨_,rfl,?_⟩;replace am:=ae.mk (Kd.aC (Kd.dA (aj.apart (show aj w0 _ g j a7 a8 from af.I) (af.Rw am.out) (by decide)) hk (fun _ h=>h.2)) (fun _ h=>h.1));replace HK:=ae.mk (an.trans (af.K HK) hk (.inl rfl));replace HB:=ae.mk hb;replace a9:=ae.mk hi;(try clear hb);(try clear cp);(try clear hk);(try clear hi)))
 go_loopg [5,7] k (fun kq v5 v7 w'=>∃ (Y:List Int) (a0:Int) (y:Int) (z:Int),v7 = .int .i64 a0∧ae (dy.l0 kq a1 Y a4 a0 j y z = some (r1,r2,r3))∧ae (kq≤k)∧ae (Kd.R (Kd.int .i64) 3 w' w.heap.size (fun _=>True) v5 Y)∧ae (aj w0 w' g j y z)∧ae (an w w' g none)∧ae (Below w0.heap.size w0 w'))
 case atStart=>exact ⟨(aP),(0),(aR),(aS),af.F,H',⟨Nat.le_refl _⟩,⟨af.Rw am.out⟩,⟨af.I⟩,⟨af.K HK⟩,⟨af.J HB⟩⟩
 case round =>
  clear H'
  obtain ⟨Y,a0,y,z,rfl,HA,bi,a5,a9,HK,HB⟩:=hrel
  cases gk with
  | zero=>exact absurd HA.out (by simp [dy.l0])
  | succ k1 =>
   have H:=HA.out
   clear HA
   simp only [dy.l0] at H
   by_cases c7:a0 < a4
   ·rw [if_pos c7] at H
    have bm:=decide_eq_true c7
    clear c7
    obtain ⟨a3,b0⟩:∃ j_:Int,(IntKind.u64.wrap (a1)) = j_:=⟨_,rfl⟩
    replace H:(if 0≤(a3) then ((aH.f j y z (shl .i64 1 (a3))).bind fun X=>(if Y.length < 17592186044416 then (dy.l0 k1 a1 (Y ++ [X.1]) a4 (wrap64 (a0+1)) j X.2.1 X.2.2) else (none))) else (none)) = some (r1,r2,r3):=by first | (rw [b0] at H;exact H) | (simp only [b0] at H ⊢;exact H)
    obtain ⟨c9,H⟩:=af.ip H
    have d2:=eq_true c9
    have d3:decide (0≤(a3)) = true:=decide_eq_true c9
    clear c9
    obtain ⟨a2,a6⟩:∃ j_:Int,(shl .i64 1 (a3)) = j_:=⟨_,rfl⟩
    replace H:((aH.f j y z (a2)).bind fun X=>(if Y.length < 17592186044416 then (dy.l0 k1 a1 (Y ++ [X.1]) a4 (wrap64 (a0+1)) j X.2.1 X.2.2) else (none))) = some (r1,r2,r3):=by first | (rw [a6] at H;exact H) | (simp only [a6] at H ⊢;exact H)
    have ap:(IntKind.i64.wrap (1 * 2 ^ min (a3).toNat 64)) = a2:=a6
    have ar:(a3)≤64→(IntKind.i64.wrap (1 * 2 ^ (a3).toNat)) = a2:=fI a6
    have cb:(IntKind.i64.wrap (2 ^ min (a3).toNat 64)) = a2:=by have h_:=ap;rw [Int.one_mul] at h_;exact h_
    have cc:(a3)≤64→(IntKind.i64.wrap (2 ^ (a3).toNat)) = a2:=fun bo=>by have h_:=ar bo;rw [Int.one_mul] at h_;exact h_
    have ce:(wrap64 (1 * 2 ^ min (a3).toNat 64)) = a2:=(aM _).symm.trans ap
    have cf:(a3)≤64→(wrap64 (1 * 2 ^ (a3).toNat)) = a2:=fun h_=>(aM _).symm.trans (ar h_)
    obtain ⟨⟨aw,aL,aO⟩,d0,H⟩:=af.be H
    (try dsimp only at H)
    obtain ⟨bs,H⟩:=af.ip H
    have b4:=ae.mk bs
    clear bs
    obtain ⟨b2,ao⟩:∃ y_:List Int,y_ = (Y ++ [aw]):=⟨_,rfl⟩
    replace H:(dy.l0 k1 a1 b2 a4 (wrap64 (a0+1)) j aL aO) = some (r1,r2,r3):=by (try rw [ao]);exact af.Z
    have b5:=ae.mk ao
    clear ao
    have H':=ae.mk H
    clear H
    go_wp2_with (first | ((with_reducible refine aA (f:=80) rfl ?_);refine nH (some 21) rfl rfl Tryz.func80 (by kernel_rfl) rfl #[.pointer (some ⟨g,0,none⟩),.int .i64 a2] rfl (by (try simp only [List.map_toArray,List.map_cons,List.map_nil]);first | done | (simp only [a6];rfl) | rfl | (simp only [List.length_drop,List.length_take];rfl)) ?_;(with_reducible refine (aH.calls g j y z a2 aw aL aO w0 _ ?side1 ?side2 d0.out).mono ?_);(case side1=>exact af.I);(case side2=>exact af.J HB);rintro e d6 ⟨rfl,hi,hb,hk⟩;refine ⟨_,rfl,?_⟩;replace a5:=ae.mk (Kd.aC (Kd.dA (aj.apart (show aj w0 _ g j y z from af.I) (af.Rw a5.out) (by decide)) hk (fun _ h=>h.2)) (fun _ h=>h.1));replace HK:=ae.mk (an.trans (af.K HK) hk (.inl rfl));replace HB:=ae.mk hb;replace a9:=ae.mk hi;(try clear hb);(try clear cp);(try clear hk);(try clear hi)) | ((with_reducible refine cP (b:=.append) (xs:=#[.tmp 16,.tmp 22]) rfl ?_);at_builtin;refine Kd.eE (Kd.int .i64) w.heap.size rfl (.tmp 16) (.tmp 22) 28 3 (.int .i64 0) 8 rfl Tryz.underlying28 eI rfl (by decide) (by omega) u5 Y aw [.int .i64 aw] (fun _=>True) (fun _=>False) rfl rfl (by exact rfl) (fun _ hk=>hk.elim) (by exact fun _ _=>trivial) (by exact af.Rw a5.out) (Below.refl _ _) (by exact b9 (w:=w) (g:=g) (row:=none) (af.K HK)) (by have:=b4.out;omega) ?_;intro d4 d7 ho hb hg hat;rw [← b5.out] at ho;have bv:=ae.mk (aj.grown af.I hg (aj.fU a9.out a5.out (by decide)));have c0:=ae.mk (gy (af.J HB) HL.out hb);have c1:=ae.mk (an.trans (af.K HK) (an.iu hg g) (Kd.jV a5.out));have ca:=ae.mk ho;clear a9;clear HB;clear HK;clear a5;have a9:=bv;have HB:=c0;have HK:=c1;have ba:=ca;clear bv c0 c1 ca;clear ho hb hg hat))
    go_roundg k1
    case measure=>have:=bi.out;omega
    case rel=>exact ⟨(b2),(wrap64 (a0+1)),(aL),(aO),af.F,H',⟨by have:=bi.out;omega⟩,⟨af.Rw ba.out⟩,⟨af.I⟩,⟨af.K HK⟩,⟨af.J HB⟩⟩
   ·rw [if_neg c7] at H
    have bm:decide (a0 < a4) = false:=decide_eq_false c7
    clear c7
    simp only [Option.some.injEq,Prod.mk.injEq] at H
    obtain ⟨rfl,rfl,rfl⟩:=H
    go_wp2
    go_ret
    exact ⟨_,af.E,by (with_reducible repeat (first | apply Kd.cH | apply Kd.cI | apply Kd.bl));exact a5.out,af.I,af.J HB,af.K HK⟩
def cR.f (k:Nat) (X:List Int) (a7:Int) (a8:Int) (a1:Int):Option (Int×List Int×Int×Int):=(cY.f k X a7 a8 a1).bind fun j=>((aH.f X j.2.2.1 j.2.2.2 10).bind fun y=>(if y.1 = 0 then ((cQ.f X y.2.1 y.2.2 (([(-1),0,2,9]:List Int))).bind fun Y=>(some (Y.1,j.2.1,Y.2.1,Y.2.2))) else (if y.1 = 1 then ((eF.f X y.2.1 y.2.2).bind fun a0=>(if j.2.1.length < 17592186044416 then (some (j.1,(j.2.1 ++ [a0.1]),a0.2.1,a0.2.2)) else (none))) else (if y.1 = 2 then (if (j.2.1.length:Int) > 1 then ((aH.f X y.2.1 y.2.2 (j.2.1.length:Int)).bind fun z=>((some (([]:List Int):List Int)).bind fun a3=>(if 0≤z.1 then (if z.1≤(j.2.1.length:Int) then ((some (j.2.1.take (z.1:Int).toNat:List Int)).bind fun a4=>(if a3.length+a4.length < 17592186044416 then ((some (a3 ++ a4:List Int)).bind fun a5=>(if 0≤(wrap64 (z.1+1)) then (if (wrap64 (z.1+1))≤(j.2.1.length:Int) then ((some (j.2.1.drop ((wrap64 (z.1+1)):Int).toNat:List Int)).bind fun a6=>(if a5.length+a6.length < 17592186044416 then (some (j.1,(a5 ++ a6),z.2.1,z.2.2)) else (none))) else (none)) else (none))) else (none))) else (none)) else (none)))) else (some (j.1,j.2.1,y.2.1,y.2.2))) else (if y.1 = 3 then ((gK.f j.1 8).bind fun a9=>((fg.f 0 a9).bind fun aa=>((dy.f k X y.2.1 y.2.2 aa).bind fun a2=>((aD.f k a2.1).bind fun ab=>(some (j.1,ab,a2.2.1,a2.2.2)))))) else (some (j.1,j.2.1,y.2.1,y.2.2)))))))
def cR.T6:Bool×List (List Nat×List Nat):=(true,[([],[]),([0],[0]),([],[]),([2],[2]),([3],[3]),([1,4,3],[1,4]),([0,1,2,3,4,5],[]),([6,5,5,0,1,2,3,4,5],[5,6])])
def cR.B6:List Nat:=[0,1,0,4,12,31,63,127]
theorem cR.lS:gm .any (opsOf Tryz.f100 6) = cR.T6:=by kernel_rfl
theorem cR.jA:eT cR.T6.2 cR.B6 = true:=by kernel_rfl
def cR.uc:Bool×List (List Nat×List Nat):=(true,[([],[]),([],[]),([1],[1]),([],[]),([2,3],[2,3]),([0,4],[0,4]),([],[]),([6],[6]),([],[]),([8],[8]),([7,9],[7,9]),([5,10,5],[5,10]),([0,1,2,3,4,5,6,7,8,9,10,11],[]),([12,11,11,0,1,2,3,4,5,6,7,8,9,10,11],[11,12])])
def cR.vQ:List Nat:=[0,0,2,0,14,31,0,64,0,256,960,2047,4095,8191]
theorem cR.n8:gm .any (opsOf Tryz.f100 10) = cR.uc:=by kernel_rfl
theorem cR.lB:eT cR.uc.2 cR.vQ = true:=by kernel_rfl
set_option maxHeartbeats 8000000 in
set_option maxRecDepth 100000 in
theorem cR.calls (k:Nat) (g:Nat) (a2:List Int) (b5:Int) (ba:Int) (a1:Int) (r1:Int) (r2:List Int) (r3:Int) (r4:Int) (w0 w:World) (hI:aj w0 w g a2 b5 ba) (hB:Below w0.heap.size w0 w) (h:cR.f k a2 b5 ba a1 = some (r1,r2,r3,r4)) :
  Calls Tryz.prog 100 #[.pointer (some ⟨g,0,none⟩),.int .i64 a1] w fun e w'=>∃ kw:Value,e = .returned (.agg #[.int .i64 r1,kw])∧Kd.R (Kd.int .i64) 3 w' w.heap.size (fun _=>True) kw r2∧aj w0 w' g a2 r3 r4∧Below w0.heap.size w0 w'∧an w w' g none:=by
 have v0:=Tryz.underlying30
 have a6:=ae.mk hI
 have HK:=ae.mk (an.refl w g none)
 have HL:=ae.mk hB.size
 clear hI
 have dk:=ae.mk hB.size
 have HB:=ae.mk hB
 clear hB
 unfold cR.f at h
 have H:=h
 clear h
 obtain ⟨⟨a4,a0,a9,aa⟩,A3,H⟩:=af.be H
 (try dsimp only at H)
 obtain ⟨⟨ab,bm,bo⟩,A4,H⟩:=af.be H
 (try dsimp only at H)
 by_cases c5:ab = 0
 ·rw [if_pos c5] at H
  have ky:(ab == 0) = true:=beq_iff_eq.mpr c5
  have la:(ab != 0) = false:=bne_eq_false_iff_eq.mpr c5
  clear c5
  obtain ⟨fw,ed⟩:∃ y_:List Int,y_ = (([(-1),0,2,9]:List Int)):=⟨_,rfl⟩
  replace H:((cQ.f a2 bm bo fw).bind fun ee=>(some (ee.1,a0,ee.2.1,ee.2.2))) = some (r1,r2,r3,r4):=by (try rw [ed]);exact af.Z
  have g0:=ae.mk ed
  clear ed
  obtain ⟨⟨ex,lc,le⟩,A6,H⟩:=af.be H
  (try dsimp only at H)
  simp only [Option.some.injEq,Prod.mk.injEq] at H
  obtain ⟨rfl,rfl,rfl,rfl⟩:=H
  go_enter Tryz.func100,Tryz.ntmps100
  go_wp2_with (first | (refine af.bx 4 #[.int .i64 0,.slice none 0 0] 30 ?_;intro X hg w7 hbox hb;replace HB:=ae.mk (ax (af.J HB) hb);have j:=ae.mk hbox;have dl:=ae.mk ((by rw [hg];exact (b9 (w:=w) (g:=g) (row:=none) (af.K HK)):w.heap.size≤X));have dp:=ae.mk ((Nat.le_trans dk.out (by rw [hg];exact (b9 (w:=w) (g:=g) (row:=none) (af.K HK)):w.heap.size≤X):w0.heap.size≤X));replace HK:=ae.mk (an.trans (af.K HK) (an.cW hb g none) (.inl rfl));have ap:=ae.mk ((by rw [hg];exact Nat.ne_of_lt (aj.lt (show aj w0 _ g a2 b5 ba from af.I)):g≠X));have a3:=ae.mk ((by rw [hg];exact Nat.ne_of_gt (aj.lt (show aj w0 _ g a2 b5 ba from af.I)):X≠g));replace a6:=ae.mk (aj.below af.I hb);clear hb hbox hg) | (refine af.gl (some 9) Tryz.func139 #[.pointer (some ⟨g,0,none⟩),.int .i64 a1] ?_;(with_reducible refine (cY.calls k g a2 b5 ba a1 a4 a0 a9 aa w0 _ ?side1 ?side2 A3.out).mono ?_);(case side1=>exact af.I);(case side2=>exact af.J HB);rintro e w8 ⟨e7,rfl,bs,hi,hb,hk⟩;refine ⟨_,rfl,?_⟩;replace j:=ae.mk (an.blk hk (g':=X) (o:=.cells #[.int .i64 0,.slice none 0 0] 30 (0,0)) (af.Bw j.out) a3.out (by simp));have z:=ae.mk (Kd.aV bs (b9 (w:=w) (g:=g) (row:=none) (af.K HK)));replace HK:=ae.mk (an.trans (af.K HK) hk (.inl rfl));replace HB:=ae.mk hb;replace a6:=ae.mk hi;(try clear hb);(try clear d4);(try clear hk);(try clear hi);(try clear bs)) | (refine af.bx 5 #[.int .i64 0,.slice none 0 0] 30 ?_;intro Y hg w9 hbox hb;have ar:=af.rb z hb;have aw:=ae.mk (aj.below af.I hb);have aB:=af.bb j hb;have b0:=ae.mk (an.trans (af.K HK) (an.cW hb g none) (.inl rfl));have b2:=ae.mk (ax (af.J HB) hb);have b3:=ae.mk hbox;have bv:=ae.mk ((by rw [hg];exact (b9 (w:=w) (g:=g) (row:=none) (af.K HK)):w.heap.size≤Y));have c0:=ae.mk ((Nat.le_trans dk.out (by rw [hg];exact (b9 (w:=w) (g:=g) (row:=none) (af.K HK)):w.heap.size≤Y):w0.heap.size≤Y));have ca:=af.nl hg j;have d3:=af.ng hg j;have cb:=ae.mk ((by rw [hg];exact Nat.ne_of_lt (aj.lt (show aj w0 _ g a2 a9 aa from af.I)):g≠Y));have cc:=ae.mk ((by rw [hg];exact Nat.ne_of_gt (aj.lt (show aj w0 _ g a2 a9 aa from af.I)):Y≠g));clear z;clear a6;clear j;clear HK;clear HB;have z:=ar;have a6:=aw;have j:=aB;have HK:=b0;have HB:=b2;have y:=b3;have dq:=bv;have dt:=c0;have a7:=ca;have a8:=d3;have b4:=cb;have a5:=cc;clear ar aw aB b0 b2 b3 bv c0 ca d3 cb cc;clear hb hbox hg;have s1:=a8.out;have s2:=a7.out;have s3:=a5.out;have sa:=b4.out;obtain ⟨lh,li,lj,lk⟩:=af.bw y.out;obtain ⟨e8,ea,ll⟩:=Kd.aK z.out;subst ll) | (refine af.gl (some 11) Tryz.func80 #[.pointer (some ⟨g,0,none⟩),.int .i64 10] ?_;(with_reducible refine (aH.calls g a2 a9 aa 10 ab bm bo w0 _ ?side1 ?side2 A4.out).mono ?_);(case side1=>exact af.I);(case side2=>exact af.J HB);rintro e vi ⟨rfl,hi,hb,hk⟩;refine ⟨_,rfl,?_⟩;replace j:=ae.mk (an.blk hk (g':=X) (o:=.cells #[.int .i64 0,.slice none 0 0] 30 (0,0)) af.B a3.out (by simp));replace z:=ae.mk (Kd.aC (Kd.dA (aj.apart (show aj w0 _ g a2 a9 aa from af.I) (af.Rw ((Kd.aC (Kd.bD (p:=⟨Y,1,none⟩) (Kd.bD (p:=⟨Y,0,none⟩) (Kd.bS z.out y.out (by decide)) (fun _ hk=>hk.2) (.int .i64 a4)) (fun _ hk=>hk.2) (.slice e8 a0.length ea)) (fun _ h_=>h_.1)))) (by decide)) hk (fun _ h=>h.2)) (fun _ h=>h.1));replace y:=ae.mk (an.blk hk (g':=Y) (o:=.cells #[.int .i64 a4,.slice e8 a0.length ea] 30 (0,0)) af.B a5.out (by simp));replace HK:=ae.mk (an.trans (af.K HK) hk (.inl rfl));replace HB:=ae.mk hb;replace a6:=ae.mk hi;(try clear hb);(try clear d4);(try clear hk);(try clear hi)) | ((with_reducible refine bh (N:=15) rfl ?_);refine Kd.jH (Kd.int .i64) _ 3 ?hg (N:=15) ?hd (xs:=([(-1),0,2,9]:List Int)) (inner:=[.int .i64 (-1),.int .i64 0,.int .i64 2,.int .i64 9]) (ok:=fun _=>True) (okp:=fun _=>True) ?hr ?hp (fun _ hk=>hk) trivial (Below.refl _ _) (Nat.le_refl _) (by simp) ?_;(case hd=>rfl);(case hg=>rfl);(case hr=>first | (go_simp;done) | (go_simp;rfl));(case hp=>exact (cV.one (show Kd.M (Kd.int .i64) _ _ _ (-1) [.int .i64 (-1)] from rfl) (cV.one (show Kd.M (Kd.int .i64) _ _ _ 0 [.int .i64 0] from rfl) (cV.one (show Kd.M (Kd.int .i64) _ _ _ 2 [.int .i64 2] from rfl) (cV.one (show Kd.M (Kd.int .i64) _ _ _ 9 [.int .i64 9] from rfl) (cV.none _ _))))));intro v2 vj e0 hb hD ef;clear hD ef;(first | rw [← g0.out] at e0 | (simp only [Int.reduceToNat] at e0;rw [← g0.out] at e0));have d9:=ae.mk (Kd.aV (Kd.br e0 (Kd.cK (af.Rw z.out))) (b9 (w:=w) (g:=g) (row:=none) (af.K HK)));replace z:=ae.mk (Kd.aQ (af.Rw z.out) (Kd.bn e0) hb);replace j:=af.bb j hb;replace y:=af.bb y hb;replace HK:=ae.mk (an.trans (af.K HK) (an.cW hb g none) (.inl rfl));replace HB:=ae.mk (ax (af.J HB) hb);replace a6:=ae.mk (aj.below af.I hb);clear hb e0;obtain ⟨lm,ln,lo⟩:=Kd.aK d9.out;subst lo) | (refine af.gl (some 16) Tryz.func119 #[.pointer (some ⟨g,0,none⟩),.slice lm fw.length ln] ?_;(with_reducible refine (cQ.calls g a2 bm bo _ _ fw ex lc le w0 _ ?side1 ?side2 ?side3 ?side4 ?side5 A6.out).mono ?_);(case side1=>exact af.I);(case side2=>exact af.J HB);(case side3=>exact af.Cw ((Kd.ah d9.out).2.2));(case side4=>exact (Kd.ah d9.out).2.1);(case side5=>exact jU (aj.fU a6.out d9.out (by decide)));rintro e w2 ⟨rfl,hi,hb,hk⟩;refine ⟨_,rfl,?_⟩;replace j:=ae.mk (an.blk hk (g':=X) (o:=.cells #[.int .i64 0,.slice none 0 0] 30 (0,0)) (af.Bw j.out) a3.out (by simp));replace z:=ae.mk (Kd.aC (Kd.dA (aj.apart (show aj w0 _ g a2 bm bo from af.I) (af.Rw z.out) (by decide)) hk (fun _ h=>h.2)) (fun _ h=>h.1));replace y:=ae.mk (an.blk hk (g':=Y) (o:=.cells #[.int .i64 a4,.slice e8 a0.length ea] 30 (0,0)) (af.Bw y.out) a5.out (by simp));replace d9:=ae.mk (Kd.aC (Kd.dA (aj.apart (show aj w0 _ g a2 bm bo from af.I) (af.Rw d9.out) (by decide)) hk (fun _ h=>h.2)) (fun _ h=>h.1));replace HK:=ae.mk (an.trans (af.K HK) hk (.inl rfl));replace HB:=ae.mk hb;replace a6:=ae.mk hi;(try clear hb);(try clear d4);(try clear hk);(try clear hi);obtain ⟨lr,ls,lv,lw⟩:=af.bw y.out;have sb:=a3.out;have sc:=ap.out;obtain ⟨lx,ly,lL,lN⟩:=af.bw j.out))
  refine bodyPost_ret (results_cell_row rfl _ _ X 30 #[.int .i64 ex,.slice e8 a0.length ea] (0,0) _ rfl af.B Tryz.underlying30 rfl (by kernel_rfl)) rfl ?_
  exact ⟨_,af.E,by (with_reducible repeat (first | apply Kd.cH | apply Kd.cI | apply Kd.bl));exact Kd.aC (Kd.bD (p:=⟨X,1,none⟩) (Kd.bD (p:=⟨X,0,none⟩) (Kd.bD (p:=⟨Y,0,none⟩) (Kd.bS (Kd.bS z.out y.out (by decide)) j.out (by decide)) (fun _ hk=>hk.1.2) (.int .i64 ex)) (fun _ hk=>hk.2) (.int .i64 ex)) (fun _ hk=>hk.2) (.slice e8 a0.length ea)) (fun _ hk=>trivial),af.I,af.J HB,af.K HK⟩
 ·rw [if_neg c5] at H
  have ky:(ab == 0) = false:=beq_eq_false_iff_ne.mpr c5
  have la:(ab != 0) = true:=bne_iff_ne.mpr c5
  by_cases eh:ab = 1
  ·rw [if_pos eh] at H
   have hE:(ab == 1) = true:=beq_iff_eq.mpr eh
   have hG:(ab != 1) = false:=bne_eq_false_iff_eq.mpr eh
   clear eh
   obtain ⟨⟨eQ,hm,hn⟩,sd,H⟩:=af.be H
   (try dsimp only at H)
   obtain ⟨m1,H⟩:=af.ip H
   have hH:=ae.mk m1
   clear m1
   obtain ⟨f0,ei⟩:∃ y_:List Int,y_ = (a0 ++ [eQ]):=⟨_,rfl⟩
   replace H:(some (a4,f0,hm,hn)) = some (r1,r2,r3,r4):=by (try rw [ei]);exact af.Z
   have hL:=ae.mk ei
   clear ei
   simp only [Option.some.injEq,Prod.mk.injEq] at H
   obtain ⟨rfl,rfl,rfl,rfl⟩:=H
   go_enter Tryz.func100,Tryz.ntmps100
   try go_wp2_with (first | (refine af.bx 4 #[.int .i64 0,.slice none 0 0] 30 ?_;intro X hg w3 hbox hb;replace HB:=ae.mk (ax (af.J HB) hb);have j:=ae.mk hbox;have dl:=ae.mk ((by rw [hg];exact (b9 (w:=w) (g:=g) (row:=none) (af.K HK)):w.heap.size≤X));have dp:=ae.mk ((Nat.le_trans dk.out (by rw [hg];exact (b9 (w:=w) (g:=g) (row:=none) (af.K HK)):w.heap.size≤X):w0.heap.size≤X));replace HK:=ae.mk (an.trans (af.K HK) (an.cW hb g none) (.inl rfl));have ap:=ae.mk ((by rw [hg];exact Nat.ne_of_lt (aj.lt (show aj w0 _ g a2 b5 ba from af.I)):g≠X));have a3:=ae.mk ((by rw [hg];exact Nat.ne_of_gt (aj.lt (show aj w0 _ g a2 b5 ba from af.I)):X≠g));replace a6:=ae.mk (aj.below af.I hb);clear hb hbox hg) | (refine af.gl (some 9) Tryz.func139 #[.pointer (some ⟨g,0,none⟩),.int .i64 a1] ?_;(with_reducible refine (cY.calls k g a2 b5 ba a1 a4 a0 a9 aa w0 _ ?side1 ?side2 A3.out).mono ?_);(case side1=>exact af.I);(case side2=>exact af.J HB);rintro e w4 ⟨e7,rfl,bs,hi,hb,hk⟩;refine ⟨_,rfl,?_⟩;replace j:=ae.mk (an.blk hk (g':=X) (o:=.cells #[.int .i64 0,.slice none 0 0] 30 (0,0)) (af.Bw j.out) a3.out (by simp));have z:=ae.mk (Kd.aV bs (b9 (w:=w) (g:=g) (row:=none) (af.K HK)));replace HK:=ae.mk (an.trans (af.K HK) hk (.inl rfl));replace HB:=ae.mk hb;replace a6:=ae.mk hi;(try clear hb);(try clear d4);(try clear hk);(try clear hi);(try clear bs)) | (refine af.bx 5 #[.int .i64 0,.slice none 0 0] 30 ?_;intro Y hg w5 hbox hb;have ar:=af.rb z hb;have aw:=ae.mk (aj.below af.I hb);have aB:=af.bb j hb;have b0:=ae.mk (an.trans (af.K HK) (an.cW hb g none) (.inl rfl));have b2:=ae.mk (ax (af.J HB) hb);have b3:=ae.mk hbox;have bv:=ae.mk ((by rw [hg];exact (b9 (w:=w) (g:=g) (row:=none) (af.K HK)):w.heap.size≤Y));have c0:=ae.mk ((Nat.le_trans dk.out (by rw [hg];exact (b9 (w:=w) (g:=g) (row:=none) (af.K HK)):w.heap.size≤Y):w0.heap.size≤Y));have ca:=af.nl hg j;have d3:=af.ng hg j;have cb:=ae.mk ((by rw [hg];exact Nat.ne_of_lt (aj.lt (show aj w0 _ g a2 a9 aa from af.I)):g≠Y));have cc:=ae.mk ((by rw [hg];exact Nat.ne_of_gt (aj.lt (show aj w0 _ g a2 a9 aa from af.I)):Y≠g));clear z;clear a6;clear j;clear HK;clear HB;have z:=ar;have a6:=aw;have j:=aB;have HK:=b0;have HB:=b2;have y:=b3;have dq:=bv;have dt:=c0;have a7:=ca;have a8:=d3;have b4:=cb;have a5:=cc;clear ar aw aB b0 b2 b3 bv c0 ca d3 cb cc;clear hb hbox hg;have se:=a8.out;have sf:=a7.out;have sh:=a5.out;have sl:=b4.out;obtain ⟨m2,m5,ma,mf⟩:=af.bw y.out;obtain ⟨du,dv,mi⟩:=Kd.aK z.out;subst mi) | (refine af.gl (some 11) Tryz.func80 #[.pointer (some ⟨g,0,none⟩),.int .i64 10] ?_;(with_reducible refine (aH.calls g a2 a9 aa 10 ab bm bo w0 _ ?side1 ?side2 A4.out).mono ?_);(case side1=>exact af.I);(case side2=>exact af.J HB);rintro e so ⟨rfl,hi,hb,hk⟩;refine ⟨_,rfl,?_⟩;replace j:=ae.mk (an.blk hk (g':=X) (o:=.cells #[.int .i64 0,.slice none 0 0] 30 (0,0)) af.B a3.out (by simp));replace z:=ae.mk (Kd.aC (Kd.dA (aj.apart (show aj w0 _ g a2 a9 aa from af.I) (af.Rw ((Kd.aC (Kd.bD (p:=⟨Y,1,none⟩) (Kd.bD (p:=⟨Y,0,none⟩) (Kd.bS z.out y.out (by decide)) (fun _ hk=>hk.2) (.int .i64 a4)) (fun _ hk=>hk.2) (.slice du a0.length dv)) (fun _ h_=>h_.1)))) (by decide)) hk (fun _ h=>h.2)) (fun _ h=>h.1));replace y:=ae.mk (an.blk hk (g':=Y) (o:=.cells #[.int .i64 a4,.slice du a0.length dv] 30 (0,0)) af.B a5.out (by simp));replace HK:=ae.mk (an.trans (af.K HK) hk (.inl rfl));replace HB:=ae.mk hb;replace a6:=ae.mk hi;(try clear hb);(try clear d4);(try clear hk);(try clear hi)))
   replace z:=ae.mk (Kd.bl z.out)
   replace j:=ae.mk (cO j.out)
   replace y:=ae.mk (cO y.out)
   replace a6:=ae.mk (aj.drew a6.out)
   replace HK:=ae.mk (lu HK.out)
   replace HB:=ae.mk (cn HB.out)
   refine eM (n:=8) (S:=fun w'=>w'.cell? ⟨Y,0,none⟩ = some (.int .i64 a4)∧w'.cell? ⟨Y,1,none⟩ = some (.slice du a0.length dv)) (ds:=[7]) #[false,false,false,false,false,false,false,false] (by kernel_rfl) rfl rfl ⟨(ak y.out 0).trans rfl,(ak y.out 1).trans rfl⟩ (fun hHeld=>?_);refine dc cR.lS cR.jA (fun ci h9=>?_)
   generalize so.drew = w6 at z j y a6 HK HB hHeld ⊢
   refine af.pu 0 20 ci ?_
   refine af.pu 2 22 ci ?_
   refine af.tk 1 21 ci h9 hHeld ?_
   refine fN (i:=3) (N:=some 23) #[true,true,true,true,false,false,false,false] rfl rfl (da ci.out (by kernel_rfl)) (by decide) (fun K hK=>?_)
   refine fC Tryz.func90 (by kernel_rfl) rfl #[.pointer (some ⟨g,0,none⟩)] (by rfl) rfl rfl (by (try simp only [List.map_toArray,List.map_cons,List.map_nil]);first | done | rfl) ?_
   with_reducible refine (eF.calls g a2 bm bo eQ hm hn w0 _ ?side1 ?side2 sd.out).mono ?_
   (case side1=>exact af.I)
   (case side2=>exact af.J HB)
   rintro e wa ⟨rfl,hi,hb,hk⟩
   refine ⟨_,rfl,?_⟩
   replace j:=ae.mk (an.blk hk (g':=X) (o:=.cells #[.int .i64 0,.slice none 0 0] 30 (0,0)) (af.Bw j.out) a3.out (by simp))
   replace z:=ae.mk (Kd.aC (Kd.dA (aj.apart (show aj w0 _ g a2 bm bo from af.I) (af.Rw z.out) (by decide)) hk (fun _ h=>h.2)) (fun _ h=>h.1))
   replace y:=ae.mk (an.blk hk (g':=Y) (o:=.cells #[.int .i64 a4,.slice du a0.length dv] 30 (0,0)) (af.Bw y.out) a5.out (by simp))
   replace HK:=ae.mk (an.trans (af.K HK) hk (.inl rfl))
   replace HB:=ae.mk hb
   replace a6:=ae.mk hi
   (try clear hb)
   (try clear d4)
   (try clear hk)
   (try clear hi)
   refine hK.out _ _ ⟨(ak y.out 0).trans rfl,(ak y.out 1).trans rfl⟩ (fun hHeld=>?_)
   clear hK K
   refine er (a':=?_) ?_ ?_
   rotate_left
   ·show Act.put _ (some 23) _ = _
    simp only [Act.put,List.setIfInBounds_toArray,List.set_cons_zero,List.set_cons_succ,aM,b8]
    rfl
   refine fN (i:=4) (N:=some 24) #[true,true,true,true,true,false,false,false] rfl rfl (da ci.out (by kernel_rfl)) (by decide) (fun K hK=>?_)
   refine nI (w1:=?_) (v:=?_) (by rfl) rfl ?_ ?_
   rotate_left 2
   ·go_simp
    constructor
    ·rfl
    ·rfl
   refine hK.out _ _ ⟨(ak (gx y.out _) 0).trans rfl,(ak (gx y.out _) 1).trans rfl⟩ (fun hHeld=>?_)
   clear hK K
   refine er (a':=?_) ?_ ?_
   rotate_left
   ·show Act.put _ (some 24) _ = _
    simp only [Act.put,List.setIfInBounds_toArray,List.set_cons_zero,List.set_cons_succ,aM,b8]
    rfl
   refine fN (i:=5) (N:=some 25) #[true,true,true,true,true,true,false,false] rfl rfl (da ci.out (by kernel_rfl)) (by decide) (fun K hK=>?_)
   refine Kd.ie (Kd.int .i64) w.heap.size (by rfl) (.tmp 21) (.tmp 24) 28 3 (.int .i64 0) 8 rfl Tryz.underlying28 eI rfl (by decide) (by omega) (.slice du a0.length dv) a0 eQ [.int .i64 eQ] (fun _=>True) (fun _=>False) rfl rfl ?aP (fun _ hk=>hk.elim) ?aF ?aO (Below.refl _ _) ?aS ?aL ?_
   (case aP=>exact rfl)
   (case aF=>exact (fun _ _=>trivial))
   (case aO=>exact (af.Rw z.out))
   (case aS=>exact (b9 (w:=w) (g:=g) (row:=none) (af.K HK)))
   (case aL=>have:=hH.out;omega)
   intro v3 sp ho hb hg hat
   rw [← hL.out] at ho
   have ar:=ae.mk (aj.grown af.I hg (aj.fU a6.out z.out (by decide)))
   have aw:=ae.mk (dJ (g:=X) (o:=.cells #[.int .i64 0,.slice none 0 0] 30 (0,0)) (af.Bw j.out) hg (Kd.fS z.out j.out (by decide)))
   have aB:=ae.mk (dJ (g:=Y) (o:=.cells #[.int .i64 a4,.slice du a0.length dv] 30 (0,0)) (af.Bw y.out) hg (Kd.fS z.out y.out (by decide)))
   have b0:=ae.mk (gy (af.J HB) HL.out hb)
   have b2:=ae.mk (an.trans (af.K HK) (an.iu hg g) (Kd.jV z.out))
   have b3:=ae.mk ho
   clear a6
   clear j
   clear y
   clear HB
   clear HK
   clear z
   have a6:=ar
   have j:=aw
   have y:=aB
   have HB:=b0
   have HK:=b2
   have g1:=b3
   clear ar aw aB b0 b2 b3
   clear ho hb hg hat
   obtain ⟨g2,g3,hq⟩:=Kd.aK g1.out
   (first | subst hq | (injection hq with g4 hM g5;have hP:=g4.symm;have hR:=g5.symm;clear g4 hM g5;subst hP;subst hR))
   refine hK.out _ _ ⟨(ak y.out 0).trans rfl,(ak y.out 1).trans rfl⟩ (fun hHeld=>?_)
   clear hK K
   refine er (a':=?_) ?_ ?_
   rotate_left
   ·show Act.put _ (some 25) _ = _
    simp only [Act.put,List.setIfInBounds_toArray,List.set_cons_zero,List.set_cons_succ,aM,b8]
    rfl
   refine af.pu 6 26 ci ?_
   refine lJ (i:=7) (N:=none) #[true,true,true,true,true,true,true,true] rfl rfl (da ci.out (by kernel_rfl)) (by decide) (fun K hK=>?_)
   have v4:sp.cell? ⟨Y,1,none⟩ = some (.slice du a0.length dv):=(ak y.out 1).trans rfl
   have ss:=au y.out 1
   have ml:=a7.out
   have mn:=a8.out
   refine lK (w1:=?_) (by rfl) rfl ?_ ?_
   rotate_left
   ·go_simp
    rfl
   refine hK.out _ _ ?_
   clear hK K
   refine fO (dU ci.out (by kernel_rfl)) ?_
   obtain ⟨mr,ms,mv,n0⟩:=af.bw y.out
   have st:=a3.out
   have sz:=ap.out
   obtain ⟨n1,n3,n6,na⟩:=af.bw j.out
   try go_wp2
   refine bodyPost_ret (results_cell_row rfl _ _ X 30 #[.int .i64 a4,.slice g2 f0.length g3] (0,0) _ rfl af.B Tryz.underlying30 rfl (by kernel_rfl)) rfl ?_
   exact ⟨_,af.E,by (with_reducible repeat (first | apply Kd.cH | apply Kd.cI | apply Kd.bl));exact Kd.aC (Kd.bD (p:=⟨X,1,none⟩) (Kd.bD (p:=⟨X,0,none⟩) (Kd.bD (p:=⟨Y,1,none⟩) (Kd.bS (Kd.bS g1.out y.out (by decide)) j.out (by decide)) (fun _ hk=>hk.1.2) (.slice g2 f0.length g3)) (fun _ hk=>hk.2) (.int .i64 a4)) (fun _ hk=>hk.2) (.slice g2 f0.length g3)) (fun _ hk=>trivial),af.I,af.J HB,af.K HK⟩
  ·rw [if_neg eh] at H
   have hE:(ab == 1) = false:=beq_eq_false_iff_ne.mpr eh
   have hG:(ab != 1) = true:=bne_iff_ne.mpr eh
   by_cases ej:ab = 2
   ·rw [if_pos ej] at H
    have hT:(ab == 2) = true:=beq_iff_eq.mpr ej
    have hU:(ab != 2) = false:=bne_eq_false_iff_eq.mpr ej
    clear ej
    by_cases f7:(a0.length:Int) > 1
    ·rw [if_pos f7] at H
     have hV:=decide_eq_true f7
     have hW:decide (1 < a0.length) = true:=decide_eq_true (by omega)
     clear f7
     obtain ⟨⟨am,dC,dE⟩,nb,H⟩:=af.be H
     (try dsimp only at H)
     obtain ⟨e1,el⟩:∃ y_:List Int,y_ = (([]:List Int)):=⟨_,rfl⟩
     replace H:(if 0≤am then (if am≤(a0.length:Int) then ((some (a0.take (am:Int).toNat:List Int)).bind fun d2=>(if e1.length+d2.length < 17592186044416 then ((some (e1 ++ d2:List Int)).bind fun d1=>(if 0≤(wrap64 (am+1)) then (if (wrap64 (am+1))≤(a0.length:Int) then ((some (a0.drop ((wrap64 (am+1)):Int).toNat:List Int)).bind fun ao=>(if d1.length+ao.length < 17592186044416 then (some (a4,(d1 ++ ao),dC,dE)) else (none))) else (none)) else (none))) else (none))) else (none)) else (none)) = some (r1,r2,r3,r4):=by (try rw [el]);exact af.Z
     have g6:=ae.mk el
     clear el
     obtain ⟨hX,H⟩:=af.ip H
     have sT:=eq_true hX
     have t0:decide (0≤am) = true:=decide_eq_true hX
     clear hX
     obtain ⟨hZ,H⟩:=af.ip H
     have t1:=eq_true hZ
     have t2:decide (am≤(a0.length:Int)) = true:=decide_eq_true hZ
     clear hZ
     obtain ⟨d2,em⟩:∃ y_:List Int,y_ = (a0.take (am:Int).toNat):=⟨_,rfl⟩
     replace H:(if e1.length+d2.length < 17592186044416 then ((some (e1 ++ d2:List Int)).bind fun d1=>(if 0≤(wrap64 (am+1)) then (if (wrap64 (am+1))≤(a0.length:Int) then ((some (a0.drop ((wrap64 (am+1)):Int).toNat:List Int)).bind fun ao=>(if d1.length+ao.length < 17592186044416 then (some (a4,(d1 ++ ao),dC,dE)) else (none))) else (none)) else (none))) else (none)) = some (r1,r2,r3,r4):=by (try rw [em]);exact af.Z
     have e3:=ae.mk em
     clear em
     obtain ⟨ne,H⟩:=af.ip H
     have i0:=ae.mk ne
     clear ne
     obtain ⟨d1,eo⟩:∃ y_:List Int,y_ = (e1 ++ d2):=⟨_,rfl⟩
     replace H:(if 0≤(wrap64 (am+1)) then (if (wrap64 (am+1))≤(a0.length:Int) then ((some (a0.drop ((wrap64 (am+1)):Int).toNat:List Int)).bind fun ao=>(if d1.length+ao.length < 17592186044416 then (some (a4,(d1 ++ ao),dC,dE)) else (none))) else (none)) else (none)) = some (r1,r2,r3,r4):=by (try rw [eo]);exact af.Z
     have i1:=ae.mk eo
     clear eo
     obtain ⟨bc,d5⟩:∃ j_:Int,(wrap64 (am+1)) = j_:=⟨_,rfl⟩
     replace H:(if 0≤(bc) then (if (bc)≤(a0.length:Int) then ((some (a0.drop ((bc):Int).toNat:List Int)).bind fun ao=>(if d1.length+ao.length < 17592186044416 then (some (a4,(d1 ++ ao),dC,dE)) else (none))) else (none)) else (none)) = some (r1,r2,r3,r4):=by first | (rw [d5] at H;exact H) | (simp only [d5] at H ⊢;exact H)
     (try rw [d5] at A3)
     (try rw [d5] at A4)
     (try rw [d5] at nb)
     have rm:(IntKind.i64.wrap (am+1)) = bc:=(aM _).trans d5
     obtain ⟨i2,H⟩:=af.ip H
     have t3:=eq_true i2
     have t4:decide (0≤(bc)) = true:=decide_eq_true i2
     clear i2
     obtain ⟨i3,H⟩:=af.ip H
     have t5:=eq_true i3
     have t6:decide ((bc)≤(a0.length:Int)) = true:=decide_eq_true i3
     clear i3
     obtain ⟨ao,eq⟩:∃ y_:List Int,y_ = (a0.drop ((bc):Int).toNat):=⟨_,rfl⟩
     replace H:(if d1.length+ao.length < 17592186044416 then (some (a4,(d1 ++ ao),dC,dE)) else (none)) = some (r1,r2,r3,r4):=by (try rw [eq]);exact af.Z
     have e4:=ae.mk eq
     clear eq
     obtain ⟨no,H⟩:=af.ip H
     have i4:=ae.mk no
     clear no
     obtain ⟨f1,es⟩:∃ y_:List Int,y_ = (d1 ++ ao):=⟨_,rfl⟩
     replace H:(some (a4,f1,dC,dE)) = some (r1,r2,r3,r4):=by (try rw [es]);exact af.Z
     have i5:=ae.mk es
     clear es
     simp only [Option.some.injEq,Prod.mk.injEq] at H
     obtain ⟨rfl,rfl,rfl,rfl⟩:=H
     go_enter Tryz.func100,Tryz.ntmps100
     try go_wp2_with (first | (refine af.bx 4 #[.int .i64 0,.slice none 0 0] 30 ?_;intro X hg wb hbox hb;replace HB:=ae.mk (ax (af.J HB) hb);have j:=ae.mk hbox;have dl:=ae.mk ((by rw [hg];exact (b9 (w:=w) (g:=g) (row:=none) (af.K HK)):w.heap.size≤X));have dp:=ae.mk ((Nat.le_trans dk.out (by rw [hg];exact (b9 (w:=w) (g:=g) (row:=none) (af.K HK)):w.heap.size≤X):w0.heap.size≤X));replace HK:=ae.mk (an.trans (af.K HK) (an.cW hb g none) (.inl rfl));have ap:=ae.mk ((by rw [hg];exact Nat.ne_of_lt (aj.lt (show aj w0 _ g a2 b5 ba from af.I)):g≠X));have a3:=ae.mk ((by rw [hg];exact Nat.ne_of_gt (aj.lt (show aj w0 _ g a2 b5 ba from af.I)):X≠g));replace a6:=ae.mk (aj.below af.I hb);clear hb hbox hg) | (refine af.gl (some 9) Tryz.func139 #[.pointer (some ⟨g,0,none⟩),.int .i64 a1] ?_;(with_reducible refine (cY.calls k g a2 b5 ba a1 a4 a0 a9 aa w0 _ ?side1 ?side2 A3.out).mono ?_);(case side1=>exact af.I);(case side2=>exact af.J HB);rintro e wc ⟨e7,rfl,bs,hi,hb,hk⟩;refine ⟨_,rfl,?_⟩;replace j:=ae.mk (an.blk hk (g':=X) (o:=.cells #[.int .i64 0,.slice none 0 0] 30 (0,0)) (af.Bw j.out) a3.out (by simp));have z:=ae.mk (Kd.aV bs (b9 (w:=w) (g:=g) (row:=none) (af.K HK)));replace HK:=ae.mk (an.trans (af.K HK) hk (.inl rfl));replace HB:=ae.mk hb;replace a6:=ae.mk hi;(try clear hb);(try clear d4);(try clear hk);(try clear hi);(try clear bs)) | (refine af.bx 5 #[.int .i64 0,.slice none 0 0] 30 ?_;intro Y hg wd hbox hb;have ar:=af.rb z hb;have aw:=ae.mk (aj.below af.I hb);have aB:=af.bb j hb;have b0:=ae.mk (an.trans (af.K HK) (an.cW hb g none) (.inl rfl));have b2:=ae.mk (ax (af.J HB) hb);have b3:=ae.mk hbox;have bv:=ae.mk ((by rw [hg];exact (b9 (w:=w) (g:=g) (row:=none) (af.K HK)):w.heap.size≤Y));have c0:=ae.mk ((Nat.le_trans dk.out (by rw [hg];exact (b9 (w:=w) (g:=g) (row:=none) (af.K HK)):w.heap.size≤Y):w0.heap.size≤Y));have ca:=af.nl hg j;have d3:=af.ng hg j;have cb:=ae.mk ((by rw [hg];exact Nat.ne_of_lt (aj.lt (show aj w0 _ g a2 a9 aa from af.I)):g≠Y));have cc:=ae.mk ((by rw [hg];exact Nat.ne_of_gt (aj.lt (show aj w0 _ g a2 a9 aa from af.I)):Y≠g));clear z;clear a6;clear j;clear HK;clear HB;have z:=ar;have a6:=aw;have j:=aB;have HK:=b0;have HB:=b2;have y:=b3;have dq:=bv;have dt:=c0;have a7:=ca;have a8:=d3;have b4:=cb;have a5:=cc;clear ar aw aB b0 b2 b3 bv c0 ca d3 cb cc;clear hb hbox hg;have t7:=a8.out;have t8:=a7.out;have t9:=a5.out;have tb:=b4.out;obtain ⟨np,ns,nz,o0⟩:=af.bw y.out;obtain ⟨ce,bi,o1⟩:=Kd.aK z.out;subst o1) | (refine af.gl (some 11) Tryz.func80 #[.pointer (some ⟨g,0,none⟩),.int .i64 10] ?_;(with_reducible refine (aH.calls g a2 a9 aa 10 ab bm bo w0 _ ?side1 ?side2 A4.out).mono ?_);(case side1=>exact af.I);(case side2=>exact af.J HB);rintro e wf ⟨rfl,hi,hb,hk⟩;refine ⟨_,rfl,?_⟩;replace j:=ae.mk (an.blk hk (g':=X) (o:=.cells #[.int .i64 0,.slice none 0 0] 30 (0,0)) af.B a3.out (by simp));replace z:=ae.mk (Kd.aC (Kd.dA (aj.apart (show aj w0 _ g a2 a9 aa from af.I) (af.Rw ((Kd.aC (Kd.bD (p:=⟨Y,1,none⟩) (Kd.bD (p:=⟨Y,0,none⟩) (Kd.bS z.out y.out (by decide)) (fun _ hk=>hk.2) (.int .i64 a4)) (fun _ hk=>hk.2) (.slice ce a0.length bi)) (fun _ h_=>h_.1)))) (by decide)) hk (fun _ h=>h.2)) (fun _ h=>h.1));replace y:=ae.mk (an.blk hk (g':=Y) (o:=.cells #[.int .i64 a4,.slice ce a0.length bi] 30 (0,0)) af.B a5.out (by simp));replace HK:=ae.mk (an.trans (af.K HK) hk (.inl rfl));replace HB:=ae.mk hb;replace a6:=ae.mk hi;(try clear hb);(try clear d4);(try clear hk);(try clear hi);obtain ⟨o2,ob,oj,ol⟩:=af.bw y.out) | (refine af.gl (some 37) Tryz.func80 #[.pointer (some ⟨g,0,none⟩),.int .i64 (a0.length:Int)] ?_;(with_reducible refine (aH.calls g a2 bm bo (a0.length:Int) am dC dE w0 _ ?side1 ?side2 nb.out).mono ?_);(case side1=>exact af.I);(case side2=>exact af.J HB);rintro e te ⟨rfl,hi,hb,hk⟩;refine ⟨_,rfl,?_⟩;replace j:=ae.mk (an.blk hk (g':=X) (o:=.cells #[.int .i64 0,.slice none 0 0] 30 (0,0)) (af.Bw j.out) a3.out (by simp));replace z:=ae.mk (Kd.aC (Kd.dA (aj.apart (show aj w0 _ g a2 bm bo from af.I) (af.Rw z.out) (by decide)) hk (fun _ h=>h.2)) (fun _ h=>h.1));replace y:=ae.mk (an.blk hk (g':=Y) (o:=.cells #[.int .i64 a4,.slice ce a0.length bi] 30 (0,0)) (af.Bw y.out) a5.out (by simp));replace HK:=ae.mk (an.trans (af.K HK) hk (.inl rfl));replace HB:=ae.mk hb;replace a6:=ae.mk hi;(try clear hb);(try clear d4);(try clear hk);(try clear hi)))
     replace z:=ae.mk (Kd.bl z.out)
     replace j:=ae.mk (cO j.out)
     replace y:=ae.mk (cO y.out)
     replace a6:=ae.mk (aj.drew a6.out)
     replace HK:=ae.mk (lu HK.out)
     replace HB:=ae.mk (cn HB.out)
     have i6:(am:Int)≤((a0.length:Int):Int):=af.D
     obtain ⟨v5,g7,_,i7,_⟩:=info_parts eI
     have eb:a0.length≤bi:=(Kd.ah z.out).2.1
     have ht:Kd.C (Kd.int .i64) _ ce a0.length a0:=(Kd.ah z.out).2.2
     have hj:=nE (P:=Tryz.prog) 28 3 .i64 Tryz.underlying28 g7 ce a0.length bi am (af.D) i6 eb
     have g8:=Kd.kD (m:=(am:Int).toNat) ht (by omega)
     have g9:d2.length = (am:Int).toNat:=(by rw [e3.out,List.length_take];omega)
     rw [← e3.out] at g8
     rw [← g9] at hj
     have cp:=ae.mk g8
     have ti:=ae.mk (show d2.length≤bi from by omega)
     clear g8 ht eb g7 i7
     have v6:=ae.mk g9
     clear g9
     have hu:=ae.mk (show (am:Int).toNat≤a0.length from by omega)
     replace i6:=eq_true i6
     have i8:((bc):Int)≤((a0.length:Int):Int):=af.D
     obtain ⟨v7,gb,_,gc,_⟩:=info_parts eI
     have dT:a0.length≤bi:=(Kd.ah z.out).2.1
     have hx:Kd.C (Kd.int .i64) _ ce a0.length a0:=(Kd.ah z.out).2.2
     have on:(0:Int)≤((bc):Int):=af.D
     have hl:=m3 (P:=Tryz.prog) 28 3 .i64 Tryz.underlying28 gb 1 gc ce a0.length bi (bc) on i8
     have ec:=Kd.kE (m:=((bc):Int).toNat) (c:=bi) hx (by omega) dT
     obtain ⟨i9,f2⟩:∃ A1,A1 = (if bi = ((bc):Int).toNat then ce else (ce:Option Addr).map (·.add (((bc):Int).toNat * 1))):=⟨_,rfl⟩
     obtain ⟨tl,gk⟩:∃ c1,c1 = bi - ((bc):Int).toNat:=⟨_,rfl⟩
     have f3:ao.length = a0.length - ((bc):Int).toNat:=(by rw [e4.out,List.length_drop] <;> omega)
     rw [show (a0).drop ((bc):Int).toNat = ao from e4.out.symm] at ec
     replace ec:Kd.C (Kd.int .i64) _ i9 ao.length ao:=(by rw [f2];exact ec)
     rw [← f3,← f2,← gk] at hl
     have d0:=ae.mk ec
     have tm:=ae.mk (show ao.length≤tl from by rw [f3,gk];exact Nat.sub_le_sub_right dT _)
     clear ec hx dT gb gc gk
     have v8:=ae.mk f3
     have hz:=ae.mk f2
     clear f3 f2
     have hA:=ae.mk (show ((bc):Int).toNat≤a0.length from by omega)
     replace i8:=eq_true i8
     refine eM (n:=14) (S:=fun w'=>w'.cell? ⟨Y,0,none⟩ = some (.int .i64 a4)∧w'.cell? ⟨Y,1,none⟩ = some (.slice ce a0.length bi)) (ds:=[13]) #[false,false,false,false,false,false,false,false,false,false,false,false,false,false] (by kernel_rfl) rfl rfl ⟨(ak y.out 0).trans rfl,(ak y.out 1).trans rfl⟩ (fun hHeld=>?_);refine dc cR.n8 cR.lB (fun ci h9=>?_)
     generalize te.drew = wi at z j y a6 HK HB cp d0 hHeld ⊢
     refine af.pu 1 39 ci ?_
     refine af.pu 3 41 ci ?_
     refine af.pu 6 44 ci ?_
     refine af.pu 8 46 ci ?_
     refine af.pu 9 47 ci ?_
     refine af.tk 2 40 ci h9 hHeld ?_
     refine af.pu 4 42 ci ?_
     refine af.tk 7 45 ci h9 hHeld ?_
     refine af.pu 10 48 ci ?_
     refine fN (i:=0) (N:=some 38) #[true,true,true,true,true,false,true,true,true,true,true,false,false,false] rfl rfl (da ci.out (by kernel_rfl)) (by decide) (fun K hK=>?_)
     refine Kd.pe (Kd.int .i64) _ 3 ?hg (N:=38) ?hd (xs:=([]:List Int)) (inner:=[]) (ok:=fun _=>True) (okp:=fun _=>True) ?hr ?hp (fun _ hk=>hk) trivial (Below.refl _ _) (Nat.le_refl _) (by simp) ?_;(case hd=>rfl);(case hg=>rfl);(case hr=>first | (go_simp;done) | (go_simp;rfl));(case hp=>exact (cV.none _ _))
     intro os jo e2 hb hD ef
     clear hD ef
     (first | rw [← g6.out] at e2 | (simp only [Int.reduceToNat] at e2;rw [← g6.out] at e2))
     have ar:=ae.mk (Kd.aQ (af.Rw z.out) (Kd.bn e2) hb)
     have aw:=ae.mk (Kd.aV (Kd.br e2 (Kd.cK (af.Rw z.out))) (b9 (w:=w) (g:=g) (row:=none) (af.K HK)))
     have aB:=ae.mk (aj.below af.I hb)
     have b0:=af.bb j hb
     have b2:=af.bb y hb
     have b3:=ae.mk (Kd.aT (by repeat (first | (with_reducible exact cp.out) | (with_reducible refine Kd.fE ?_ _) | (with_reducible refine Kd.fF ?_ _) | (with_reducible refine Kd.fV ?_) | exact cp.out)) hb)
     have bv:=ae.mk (Kd.aT (by repeat (first | (with_reducible exact d0.out) | (with_reducible refine Kd.fE ?_ _) | (with_reducible refine Kd.fF ?_ _) | (with_reducible refine Kd.fV ?_) | exact d0.out)) hb)
     have c0:=ae.mk (an.trans (af.K HK) (an.cW hb g none) (.inl rfl))
     have ca:=ae.mk (ax (af.J HB) hb)
     clear z
     clear a6
     clear j
     clear y
     clear cp
     clear d0
     clear HK
     clear HB
     have z:=ar
     have db:=aw
     have a6:=aB
     have j:=b0
     have y:=b2
     have cp:=b3
     have d0:=bv
     have HK:=c0
     have HB:=ca
     clear ar aw aB b0 b2 b3 bv c0 ca
     clear hb e2
     refine hK.out _ _ ⟨(ak y.out 0).trans rfl,(ak y.out 1).trans rfl⟩ (fun hHeld=>?_)
     clear hK K
     refine er (a':=?_) ?_ ?_
     rotate_left
     ·show Act.put _ (some 38) _ = _
      simp only [Act.put,List.setIfInBounds_toArray,List.set_cons_zero,List.set_cons_succ,aM,b8]
      rfl
     refine fN (i:=5) (N:=some 43) #[true,true,true,true,true,true,true,true,true,true,true,false,false,false] rfl rfl (da ci.out (by kernel_rfl)) (by decide) (fun K hK=>?_)
     refine Kd.gg (Kd.int .i64) w.heap.size (by rfl) (.tmp 38) (.tmp 42) 28 3 (.int .i64 0) 8 rfl Tryz.underlying28 eI rfl (by decide) (by omega) os e1 d2 _ _ _ (fun k_=>some k_≠(.slice ce a0.length bi:Value).ownBlock) (fun _=>False) rfl rfl ?aO ?aR (fun _ _ h=>h) (fun _ h=>h.elim) ?aF (Below.refl _ _) ?aS ?aL ?_
     (case aR=>repeat (first | exact (by repeat (first | (with_reducible exact cp.out) | (with_reducible refine Kd.fE ?_ _) | (with_reducible refine Kd.fF ?_ _) | (with_reducible refine Kd.fV ?_) | exact cp.out)) | (with_reducible refine Kd.fE ?_ _) | (with_reducible refine Kd.fF ?_ _) | (with_reducible refine Kd.fV ?_)))
     (case aF=>exact (fun k_ hk=>Kd.fresh' (Kd.cK (af.Rw z.out)) k_ hk))
     (case aO=>exact (af.Rw (Kd.aC db.out (fun _ hk=>hk.2))))
     (case aS=>exact (b9 (w:=w) (g:=g) (row:=none) (af.K HK)))
     (case aL=>have:=i0.out;omega)
     intro p0 p1 ho hb hg hat
     rw [← i1.out] at ho
     have ar:=ae.mk (aj.grown af.I hg (aj.fU a6.out db.out (by decide)))
     have aw:=ae.mk (dJ (g:=X) (o:=.cells #[.int .i64 0,.slice none 0 0] 30 (0,0)) (af.Bw j.out) hg (Kd.fS db.out j.out (by decide)))
     have aB:=ae.mk (Kd.dO (ok:=(fun _=>True)) (af.Rw z.out) hg hat)
     have b0:=ae.mk (dJ (g:=Y) (o:=.cells #[.int .i64 a4,.slice ce a0.length bi] 30 (0,0)) (af.Bw y.out) hg (Kd.fS db.out y.out (by decide)))
     have b2:=ae.mk (gy (af.J HB) HL.out hb)
     have b3:=ae.mk (an.trans (af.K HK) (an.iu hg g) (Kd.jV db.out))
     have bv:=ae.mk ((show Kd.C (Kd.int .i64) p1 ce d2.length d2 from by rw [e3.out];exact Kd.kD (m:=(am:Int).toNat) ((Kd.ah (Kd.dO (ok:=(fun _=>True)) (af.Rw z.out) hg hat)).2.2) hu.out))
     have c0:=ae.mk ((show Kd.C (Kd.int .i64) p1 i9 ao.length ao from by rw [e4.out,hz.out];exact Kd.kE (m:=((bc):Int).toNat) (c:=bi) ((Kd.ah (Kd.dO (ok:=(fun _=>True)) (af.Rw z.out) hg hat)).2.2) hA.out ((Kd.ah (Kd.dO (ok:=(fun _=>True)) (af.Rw z.out) hg hat)).2.1)))
     have ca:=ae.mk ho
     clear a6
     clear j
     clear z
     clear y
     clear HB
     clear HK
     clear cp
     clear d0
     clear db
     have a6:=ar
     have j:=aw
     have z:=aB
     have y:=b0
     have HB:=b2
     have HK:=b3
     have cp:=bv
     have d0:=c0
     have dd:=ca
     clear ar aw aB b0 b2 b3 bv c0 ca
     clear ho hb hg hat
     refine hK.out _ _ ⟨(ak y.out 0).trans rfl,(ak y.out 1).trans rfl⟩ (fun hHeld=>?_)
     clear hK K
     refine er (a':=?_) ?_ ?_
     rotate_left
     ·show Act.put _ (some 43) _ = _
      simp only [Act.put,List.setIfInBounds_toArray,List.set_cons_zero,List.set_cons_succ,aM,b8]
      rfl
     refine fN (i:=11) (N:=some 49) #[true,true,true,true,true,true,true,true,true,true,true,true,false,false] rfl rfl (da ci.out (by kernel_rfl)) (by decide) (fun K hK=>?_)
     refine Kd.gg (Kd.int .i64) w.heap.size (by rfl) (.tmp 43) (.tmp 48) 28 3 (.int .i64 0) 8 rfl Tryz.underlying28 eI rfl (by decide) (by omega) p0 d1 ao _ _ _ (fun k_=>some k_≠(.slice ce a0.length bi:Value).ownBlock) (fun _=>False) rfl rfl ?aO ?aR (fun _ _ h=>h) (fun _ h=>h.elim) ?aF (Below.refl _ _) ?aS ?aL ?_
     (case aR=>repeat (first | exact (by repeat (first | (with_reducible exact d0.out) | (with_reducible refine Kd.fE ?_ _) | (with_reducible refine Kd.fF ?_ _) | (with_reducible refine Kd.fV ?_) | exact d0.out)) | (with_reducible refine Kd.fE ?_ _) | (with_reducible refine Kd.fF ?_ _) | (with_reducible refine Kd.fV ?_)))
     (case aF=>exact (fun k_ hk=>Kd.fresh' (Kd.cK (af.Rw z.out)) k_ hk))
     (case aO=>exact (af.Rw dd.out))
     (case aS=>exact (b9 (w:=w) (g:=g) (row:=none) (af.K HK)))
     (case aL=>have:=i4.out;omega)
     intro v9 ib ho hb hg hat
     rw [← i5.out] at ho
     have ar:=ae.mk (aj.grown af.I hg (aj.fU a6.out dd.out (by decide)))
     have aw:=ae.mk (dJ (g:=X) (o:=.cells #[.int .i64 0,.slice none 0 0] 30 (0,0)) (af.Bw j.out) hg (Kd.fS dd.out j.out (by decide)))
     have aB:=ae.mk (Kd.dO (ok:=(fun _=>True)) (af.Rw z.out) hg hat)
     have b0:=ae.mk (dJ (g:=Y) (o:=.cells #[.int .i64 a4,.slice ce a0.length bi] 30 (0,0)) (af.Bw y.out) hg (Kd.fS dd.out y.out (by decide)))
     have b2:=ae.mk (gy (af.J HB) HL.out hb)
     have b3:=ae.mk (an.trans (af.K HK) (an.iu hg g) (Kd.jV dd.out))
     have bv:=ae.mk ((show Kd.C (Kd.int .i64) ib ce d2.length d2 from by rw [e3.out];exact Kd.kD (m:=(am:Int).toNat) ((Kd.ah (Kd.dO (ok:=(fun _=>True)) (af.Rw z.out) hg hat)).2.2) hu.out))
     have c0:=ae.mk ((show Kd.C (Kd.int .i64) ib i9 ao.length ao from by rw [e4.out,hz.out];exact Kd.kE (m:=((bc):Int).toNat) (c:=bi) ((Kd.ah (Kd.dO (ok:=(fun _=>True)) (af.Rw z.out) hg hat)).2.2) hA.out ((Kd.ah (Kd.dO (ok:=(fun _=>True)) (af.Rw z.out) hg hat)).2.1)))
     have ca:=ae.mk ho
     clear a6
     clear j
     clear z
     clear y
     clear HB
     clear HK
     clear cp
     clear d0
     clear dd
     have a6:=ar
     have j:=aw
     have z:=aB
     have y:=b0
     have HB:=b2
     have HK:=b3
     have cp:=bv
     have d0:=c0
     have go:=ca
     clear ar aw aB b0 b2 b3 bv c0 ca
     clear ho hb hg hat
     obtain ⟨gs,gt,hC⟩:=Kd.aK go.out
     (first | subst hC | (injection hC with g4 hM g5;have hP:=g4.symm;have hR:=g5.symm;clear g4 hM g5;subst hP;subst hR))
     refine hK.out _ _ ⟨(ak y.out 0).trans rfl,(ak y.out 1).trans rfl⟩ (fun hHeld=>?_)
     clear hK K
     refine er (a':=?_) ?_ ?_
     rotate_left
     ·show Act.put _ (some 49) _ = _
      simp only [Act.put,List.setIfInBounds_toArray,List.set_cons_zero,List.set_cons_succ,aM,b8]
      rfl
     refine af.pu 12 50 ci ?_
     refine lJ (i:=13) (N:=none) #[true,true,true,true,true,true,true,true,true,true,true,true,true,true] rfl rfl (da ci.out (by kernel_rfl)) (by decide) (fun K hK=>?_)
     have va:ib.cell? ⟨Y,1,none⟩ = some (.slice ce a0.length bi):=(ak y.out 1).trans rfl
     have tt:=au y.out 1
     have p2:=a7.out
     have p3:=a8.out
     refine lK (w1:=?_) (by rfl) rfl ?_ ?_
     rotate_left
     ·go_simp
      rfl
     refine hK.out _ _ ?_
     clear hK K
     refine fO (dU ci.out (by kernel_rfl)) ?_
     obtain ⟨p6,p7,p9,pa⟩:=af.bw y.out
     have ty:=a3.out
     have tz:=ap.out
     obtain ⟨pd,pf,ph,pi⟩:=af.bw j.out
     try go_wp2
     refine bodyPost_ret (results_cell_row rfl _ _ X 30 #[.int .i64 a4,.slice gs f1.length gt] (0,0) _ rfl af.B Tryz.underlying30 rfl (by kernel_rfl)) rfl ?_
     exact ⟨_,by first | rfl | (simp [dK,dL] <;> rfl) | (simp only [← d5];first | rfl | (simp [dK,dL] <;> rfl)) | (simp [*,dK,dL] <;> rfl),by (with_reducible repeat (first | apply Kd.cH | apply Kd.cI | apply Kd.bl));exact Kd.aC (Kd.bD (p:=⟨X,1,none⟩) (Kd.bD (p:=⟨X,0,none⟩) (Kd.bD (p:=⟨Y,1,none⟩) (Kd.bS (Kd.bS go.out y.out (by decide)) j.out (by decide)) (fun _ hk=>hk.1.2) (.slice gs f1.length gt)) (fun _ hk=>hk.2) (.int .i64 a4)) (fun _ hk=>hk.2) (.slice gs f1.length gt)) (fun _ hk=>trivial),af.I,af.J HB,af.K HK⟩
    ·rw [if_neg f7] at H
     have hV:decide (1 < (a0.length:Int)) = false:=decide_eq_false f7
     have hW:decide (1 < a0.length) = false:=decide_eq_false (by omega)
     clear f7
     simp only [Option.some.injEq,Prod.mk.injEq] at H
     obtain ⟨rfl,rfl,rfl,rfl⟩:=H
     go_enter Tryz.func100,Tryz.ntmps100
     go_wp2_with (first | (refine af.bx 4 #[.int .i64 0,.slice none 0 0] 30 ?_;intro X hg wl hbox hb;replace HB:=ae.mk (ax (af.J HB) hb);have j:=ae.mk hbox;have dl:=ae.mk ((by rw [hg];exact (b9 (w:=w) (g:=g) (row:=none) (af.K HK)):w.heap.size≤X));have dp:=ae.mk ((Nat.le_trans dk.out (by rw [hg];exact (b9 (w:=w) (g:=g) (row:=none) (af.K HK)):w.heap.size≤X):w0.heap.size≤X));replace HK:=ae.mk (an.trans (af.K HK) (an.cW hb g none) (.inl rfl));have ap:=ae.mk ((by rw [hg];exact Nat.ne_of_lt (aj.lt (show aj w0 _ g a2 b5 ba from af.I)):g≠X));have a3:=ae.mk ((by rw [hg];exact Nat.ne_of_gt (aj.lt (show aj w0 _ g a2 b5 ba from af.I)):X≠g));replace a6:=ae.mk (aj.below af.I hb);clear hb hbox hg) | (refine af.gl (some 9) Tryz.func139 #[.pointer (some ⟨g,0,none⟩),.int .i64 a1] ?_;(with_reducible refine (cY.calls k g a2 b5 ba a1 a4 a0 a9 aa w0 _ ?side1 ?side2 A3.out).mono ?_);(case side1=>exact af.I);(case side2=>exact af.J HB);rintro e wn ⟨e7,rfl,bs,hi,hb,hk⟩;refine ⟨_,rfl,?_⟩;replace j:=ae.mk (an.blk hk (g':=X) (o:=.cells #[.int .i64 0,.slice none 0 0] 30 (0,0)) (af.Bw j.out) a3.out (by simp));have z:=ae.mk (Kd.aV bs (b9 (w:=w) (g:=g) (row:=none) (af.K HK)));replace HK:=ae.mk (an.trans (af.K HK) hk (.inl rfl));replace HB:=ae.mk hb;replace a6:=ae.mk hi;(try clear hb);(try clear d4);(try clear hk);(try clear hi);(try clear bs)) | (refine af.bx 5 #[.int .i64 0,.slice none 0 0] 30 ?_;intro Y hg wr hbox hb;have ar:=af.rb z hb;have aw:=ae.mk (aj.below af.I hb);have aB:=af.bb j hb;have b0:=ae.mk (an.trans (af.K HK) (an.cW hb g none) (.inl rfl));have b2:=ae.mk (ax (af.J HB) hb);have b3:=ae.mk hbox;have bv:=ae.mk ((by rw [hg];exact (b9 (w:=w) (g:=g) (row:=none) (af.K HK)):w.heap.size≤Y));have c0:=ae.mk ((Nat.le_trans dk.out (by rw [hg];exact (b9 (w:=w) (g:=g) (row:=none) (af.K HK)):w.heap.size≤Y):w0.heap.size≤Y));have ca:=af.nl hg j;have d3:=af.ng hg j;have cb:=ae.mk ((by rw [hg];exact Nat.ne_of_lt (aj.lt (show aj w0 _ g a2 a9 aa from af.I)):g≠Y));have cc:=ae.mk ((by rw [hg];exact Nat.ne_of_gt (aj.lt (show aj w0 _ g a2 a9 aa from af.I)):Y≠g));clear z;clear a6;clear j;clear HK;clear HB;have z:=ar;have a6:=aw;have j:=aB;have HK:=b0;have HB:=b2;have y:=b3;have dq:=bv;have dt:=c0;have a7:=ca;have a8:=d3;have b4:=cb;have a5:=cc;clear ar aw aB b0 b2 b3 bv c0 ca d3 cb cc;clear hb hbox hg;have u1:=a8.out;have u2:=a7.out;have u3:=a5.out;have u5:=b4.out;obtain ⟨pj,pk,pm,pp⟩:=af.bw y.out;obtain ⟨f4,f5,pr⟩:=Kd.aK z.out;subst pr) | (refine af.gl (some 11) Tryz.func80 #[.pointer (some ⟨g,0,none⟩),.int .i64 10] ?_;(with_reducible refine (aH.calls g a2 a9 aa 10 ab bm bo w0 _ ?side1 ?side2 A4.out).mono ?_);(case side1=>exact af.I);(case side2=>exact af.J HB);rintro e ws ⟨rfl,hi,hb,hk⟩;refine ⟨_,rfl,?_⟩;replace j:=ae.mk (an.blk hk (g':=X) (o:=.cells #[.int .i64 0,.slice none 0 0] 30 (0,0)) af.B a3.out (by simp));replace z:=ae.mk (Kd.aC (Kd.dA (aj.apart (show aj w0 _ g a2 a9 aa from af.I) (af.Rw ((Kd.aC (Kd.bD (p:=⟨Y,1,none⟩) (Kd.bD (p:=⟨Y,0,none⟩) (Kd.bS z.out y.out (by decide)) (fun _ hk=>hk.2) (.int .i64 a4)) (fun _ hk=>hk.2) (.slice f4 a0.length f5)) (fun _ h_=>h_.1)))) (by decide)) hk (fun _ h=>h.2)) (fun _ h=>h.1));replace y:=ae.mk (an.blk hk (g':=Y) (o:=.cells #[.int .i64 a4,.slice f4 a0.length f5] 30 (0,0)) af.B a5.out (by simp));replace HK:=ae.mk (an.trans (af.K HK) hk (.inl rfl));replace HB:=ae.mk hb;replace a6:=ae.mk hi;(try clear hb);(try clear d4);(try clear hk);(try clear hi);obtain ⟨ps,pt,pv,px⟩:=af.bw y.out;have u6:=a3.out;have u7:=ap.out;obtain ⟨py,q0,q1,q2⟩:=af.bw j.out))
     refine bodyPost_ret (results_cell_row rfl _ _ X 30 #[.int .i64 a4,.slice f4 a0.length f5] (0,0) _ rfl af.B Tryz.underlying30 rfl (by kernel_rfl)) rfl ?_
     exact ⟨_,af.E,by (with_reducible repeat (first | apply Kd.cH | apply Kd.cI | apply Kd.bl));exact Kd.aC (Kd.bD (p:=⟨X,1,none⟩) (Kd.bD (p:=⟨X,0,none⟩) (Kd.bS z.out j.out (by decide)) (fun _ hk=>hk.2) (.int .i64 a4)) (fun _ hk=>hk.2) (.slice f4 a0.length f5)) (fun _ hk=>trivial),af.I,af.J HB,af.K HK⟩
   ·rw [if_neg ej] at H
    have hT:(ab == 2) = false:=beq_eq_false_iff_ne.mpr ej
    have hU:(ab != 2) = true:=bne_iff_ne.mpr ej
    by_cases et:ab = 3
    ·rw [if_pos et] at H
     have ih:(ab == 3) = true:=beq_iff_eq.mpr et
     have ii:(ab != 3) = false:=bne_eq_false_iff_eq.mpr et
     clear et
     obtain ⟨h0,u8,H⟩:=af.be H
     (try dsimp only at H)
     obtain ⟨h6,ub,H⟩:=af.be H
     (try dsimp only at H)
     obtain ⟨⟨h7,q3,q4⟩,ui,H⟩:=af.be H
     (try dsimp only at H)
     obtain ⟨f6,ul,H⟩:=af.be H
     (try dsimp only at H)
     simp only [Option.some.injEq,Prod.mk.injEq] at H
     obtain ⟨rfl,rfl,rfl,rfl⟩:=H
     go_enter Tryz.func100,Tryz.ntmps100
     go_wp2_with (first | (refine af.bx 4 #[.int .i64 0,.slice none 0 0] 30 ?_;intro X hg wt hbox hb;replace HB:=ae.mk (ax (af.J HB) hb);have j:=ae.mk hbox;have dl:=ae.mk ((by rw [hg];exact (b9 (w:=w) (g:=g) (row:=none) (af.K HK)):w.heap.size≤X));have dp:=ae.mk ((Nat.le_trans dk.out (by rw [hg];exact (b9 (w:=w) (g:=g) (row:=none) (af.K HK)):w.heap.size≤X):w0.heap.size≤X));replace HK:=ae.mk (an.trans (af.K HK) (an.cW hb g none) (.inl rfl));have ap:=ae.mk ((by rw [hg];exact Nat.ne_of_lt (aj.lt (show aj w0 _ g a2 b5 ba from af.I)):g≠X));have a3:=ae.mk ((by rw [hg];exact Nat.ne_of_gt (aj.lt (show aj w0 _ g a2 b5 ba from af.I)):X≠g));replace a6:=ae.mk (aj.below af.I hb);clear hb hbox hg) | (refine af.gl (some 9) Tryz.func139 #[.pointer (some ⟨g,0,none⟩),.int .i64 a1] ?_;(with_reducible refine (cY.calls k g a2 b5 ba a1 a4 a0 a9 aa w0 _ ?side1 ?side2 A3.out).mono ?_);(case side1=>exact af.I);(case side2=>exact af.J HB);rintro e ww ⟨e7,rfl,bs,hi,hb,hk⟩;refine ⟨_,rfl,?_⟩;replace j:=ae.mk (an.blk hk (g':=X) (o:=.cells #[.int .i64 0,.slice none 0 0] 30 (0,0)) (af.Bw j.out) a3.out (by simp));have z:=ae.mk (Kd.aV bs (b9 (w:=w) (g:=g) (row:=none) (af.K HK)));replace HK:=ae.mk (an.trans (af.K HK) hk (.inl rfl));replace HB:=ae.mk hb;replace a6:=ae.mk hi;(try clear hb);(try clear d4);(try clear hk);(try clear hi);(try clear bs)) | (refine af.bx 5 #[.int .i64 0,.slice none 0 0] 30 ?_;intro Y hg wx hbox hb;have ar:=af.rb z hb;have aw:=ae.mk (aj.below af.I hb);have aB:=af.bb j hb;have b0:=ae.mk (an.trans (af.K HK) (an.cW hb g none) (.inl rfl));have b2:=ae.mk (ax (af.J HB) hb);have b3:=ae.mk hbox;have bv:=ae.mk ((by rw [hg];exact (b9 (w:=w) (g:=g) (row:=none) (af.K HK)):w.heap.size≤Y));have c0:=ae.mk ((Nat.le_trans dk.out (by rw [hg];exact (b9 (w:=w) (g:=g) (row:=none) (af.K HK)):w.heap.size≤Y):w0.heap.size≤Y));have ca:=af.nl hg j;have d3:=af.ng hg j;have cb:=ae.mk ((by rw [hg];exact Nat.ne_of_lt (aj.lt (show aj w0 _ g a2 a9 aa from af.I)):g≠Y));have cc:=ae.mk ((by rw [hg];exact Nat.ne_of_gt (aj.lt (show aj w0 _ g a2 a9 aa from af.I)):Y≠g));clear z;clear a6;clear j;clear HK;clear HB;have z:=ar;have a6:=aw;have j:=aB;have HK:=b0;have HB:=b2;have y:=b3;have dq:=bv;have dt:=c0;have a7:=ca;have a8:=d3;have b4:=cb;have a5:=cc;clear ar aw aB b0 b2 b3 bv c0 ca d3 cb cc;clear hb hbox hg;have un:=a8.out;have up:=a7.out;have us:=a5.out;have ut:=b4.out;obtain ⟨q6,q7,q9,qr⟩:=af.bw y.out;obtain ⟨d7,d8,qs⟩:=Kd.aK z.out;subst qs) | (refine af.gl (some 11) Tryz.func80 #[.pointer (some ⟨g,0,none⟩),.int .i64 10] ?_;(with_reducible refine (aH.calls g a2 a9 aa 10 ab bm bo w0 _ ?side1 ?side2 A4.out).mono ?_);(case side1=>exact af.I);(case side2=>exact af.J HB);rintro e cf ⟨rfl,hi,hb,hk⟩;refine ⟨_,rfl,?_⟩;replace j:=ae.mk (an.blk hk (g':=X) (o:=.cells #[.int .i64 0,.slice none 0 0] 30 (0,0)) af.B a3.out (by simp));replace z:=ae.mk (Kd.aC (Kd.dA (aj.apart (show aj w0 _ g a2 a9 aa from af.I) (af.Rw ((Kd.aC (Kd.bD (p:=⟨Y,1,none⟩) (Kd.bD (p:=⟨Y,0,none⟩) (Kd.bS z.out y.out (by decide)) (fun _ hk=>hk.2) (.int .i64 a4)) (fun _ hk=>hk.2) (.slice d7 a0.length d8)) (fun _ h_=>h_.1)))) (by decide)) hk (fun _ h=>h.2)) (fun _ h=>h.1));replace y:=ae.mk (an.blk hk (g':=Y) (o:=.cells #[.int .i64 a4,.slice d7 a0.length d8] 30 (0,0)) af.B a5.out (by simp));replace HK:=ae.mk (an.trans (af.K HK) hk (.inl rfl));replace HB:=ae.mk hb;replace a6:=ae.mk hi;(try clear hb);(try clear d4);(try clear hk);(try clear hi);obtain ⟨r0,ra,rc,re⟩:=af.bw y.out) | (refine af.gl (some 56) Tryz.func81 #[.int .i64 a4,.int .i64 8] ?_;(with_reducible refine (gK.calls a4 8 h0 _ u8.out).mono ?_);rintro e w' ⟨rfl,⟨nd,rfl⟩⟩;refine ⟨_,rfl,?_⟩;(try (rw [fD cf];generalize d6:World.drewN cf _ = cf;have ar:ae (Kd.R (Kd.int .i64) 3 cf w.heap.size (fun _=>True) (.slice d7 a0.length d8) a0):=⟨by rw [← d6];exact (af.Rw z.out)⟩;have aw:ae (cf.heap[X]? = some (.cells #[.int .i64 0,.slice none 0 0] 30 (0,0))):=⟨by rw [← d6];exact (af.Bw j.out)⟩;have aB:ae (cf.heap[Y]? = some (.cells #[.int .i64 a4,.slice d7 a0.length d8] 30 (0,0))):=⟨by rw [← d6];exact (af.Bw y.out)⟩;have b0:ae (aj w0 cf g a2 bm bo):=⟨by rw [← d6];exact af.I⟩;have b2:ae (an w cf g none):=⟨by rw [← d6];exact (af.K HK)⟩;have b3:ae (Below w0.heap.size w0 cf):=⟨by rw [← d6];exact (af.J HB)⟩;clear z j y a6 HK HB d6;have z:=ar;have j:=aw;have y:=aB;have a6:=b0;have HK:=b2;have HB:=b3;clear ar aw aB b0 b2 b3;have f8:cf.cell? ⟨X,0,none⟩ = some (.int .i64 0):=(ak j.out 0).trans rfl;have f9:=au j.out 0;have fd:cf.cell? ⟨X,1,none⟩ = some (.slice none 0 0):=(ak j.out 1).trans rfl;have fi:=au j.out 1;have fj:cf.cell? ⟨Y,0,none⟩ = some (.int .i64 a4):=(ak y.out 0).trans rfl;have fp:=au y.out 0;have fs:cf.cell? ⟨Y,1,none⟩ = some (.slice d7 a0.length d8):=(ak y.out 1).trans rfl;have ft:=au y.out 1))) | (refine af.gl (some 57) Tryz.func121 #[.int .i64 0,.int .i64 h0] ?_;(with_reducible refine (fg.calls 0 h0 h6 _ ub.out).mono ?_);rintro e w' ⟨rfl,⟨nd,rfl⟩⟩;refine ⟨_,rfl,?_⟩;(try (rw [fD cf];generalize d6:World.drewN cf _ = cf;have ar:ae (Kd.R (Kd.int .i64) 3 cf w.heap.size (fun _=>True) (.slice d7 a0.length d8) a0):=⟨by rw [← d6];exact (af.Rw z.out)⟩;have aw:ae (cf.heap[X]? = some (.cells #[.int .i64 0,.slice none 0 0] 30 (0,0))):=⟨by rw [← d6];exact (af.Bw j.out)⟩;have aB:ae (cf.heap[Y]? = some (.cells #[.int .i64 a4,.slice d7 a0.length d8] 30 (0,0))):=⟨by rw [← d6];exact (af.Bw y.out)⟩;have b0:ae (aj w0 cf g a2 bm bo):=⟨by rw [← d6];exact af.I⟩;have b2:ae (an w cf g none):=⟨by rw [← d6];exact (af.K HK)⟩;have b3:ae (Below w0.heap.size w0 cf):=⟨by rw [← d6];exact (af.J HB)⟩;clear z j y a6 HK HB d6;have z:=ar;have j:=aw;have y:=aB;have a6:=b0;have HK:=b2;have HB:=b3;clear ar aw aB b0 b2 b3;have f8:cf.cell? ⟨X,0,none⟩ = some (.int .i64 0):=(ak j.out 0).trans rfl;have f9:=au j.out 0;have fd:cf.cell? ⟨X,1,none⟩ = some (.slice none 0 0):=(ak j.out 1).trans rfl;have fi:=au j.out 1;have fj:cf.cell? ⟨Y,0,none⟩ = some (.int .i64 a4):=(ak y.out 0).trans rfl;have fp:=au y.out 0;have fs:cf.cell? ⟨Y,1,none⟩ = some (.slice d7 a0.length d8):=(ak y.out 1).trans rfl;have ft:=au y.out 1))) | (refine af.gl (some 58) Tryz.func142 #[.pointer (some ⟨g,0,none⟩),.int .i64 h6] ?_;(with_reducible refine (dy.calls k g a2 bm bo h6 h7 q3 q4 w0 _ ?side1 ?side2 ui.out).mono ?_);(case side1=>exact af.I);(case side2=>exact af.J HB);rintro e wy ⟨vb,rfl,bs,hi,hb,hk⟩;refine ⟨_,rfl,?_⟩;replace j:=ae.mk (an.blk hk (g':=X) (o:=.cells #[.int .i64 0,.slice none 0 0] 30 (0,0)) (af.Bw j.out) a3.out (by simp));replace y:=ae.mk (an.blk hk (g':=Y) (o:=.cells #[.int .i64 a4,.slice d7 a0.length d8] 30 (0,0)) (af.Bw y.out) a5.out (by simp));have df:=ae.mk (Kd.aV (Kd.br bs (Kd.cK (af.Rw z.out))) (b9 (w:=w) (g:=g) (row:=none) (af.K HK)));replace z:=ae.mk (Kd.aC (Kd.nM (Kd.rM (aj.apart (show aj w0 _ g a2 bm bo from af.I) (af.Rw z.out) (by decide)) hk) (Kd.bn bs)) (fun _ h_=>h_.1));replace HK:=ae.mk (an.trans (af.K HK) hk (.inl rfl));replace HB:=ae.mk hb;replace a6:=ae.mk hi;(try clear hb);(try clear d4);(try clear hk);(try clear hi);(try clear bs);obtain ⟨rg,rk,rl⟩:=Kd.aK df.out;subst rl) | (refine af.gl (some 59) Tryz.func137 #[.slice rg h7.length rk] ?_;(with_reducible refine (aD.calls k _ _ h7 f6 _ ?side1 ?side2 ul.out).mono ?_);(case side1=>exact af.Cw ((Kd.ah df.out).2.2));(case side2=>exact (Kd.ah df.out).2.1);rintro e vc ⟨vd,rfl,bs,hb⟩;refine ⟨_,rfl,?_⟩;have h8:=ae.mk (Kd.aV (Kd.br (Kd.br bs (Kd.cK (af.Rw z.out))) (Kd.cK (af.Rw df.out))) (b9 (w:=w) (g:=g) (row:=none) (af.K HK)));replace z:=ae.mk (Kd.aQ (af.Rw z.out) (Kd.bn bs) hb);replace df:=ae.mk (Kd.aQ (af.Rw df.out) (Kd.bn bs) hb);replace j:=af.bb j hb;replace y:=af.bb y hb;replace HK:=ae.mk (an.trans (af.K HK) (an.cW hb g none) (.inl rfl));replace HB:=ae.mk (ax (af.J HB) hb);replace a6:=ae.mk (aj.below af.I hb);(try clear hb);(try clear d4);(try clear hk);(try clear hi);(try clear bs);obtain ⟨ev,ew,il⟩:=Kd.aK h8.out;subst il;obtain ⟨io,it,jp,k0⟩:=af.bw y.out;have rn:=a3.out;have ro:=ap.out;obtain ⟨k1,k2,k3,k4⟩:=af.bw j.out))
     refine bodyPost_ret (results_cell_row rfl _ _ X 30 #[.int .i64 a4,.slice ev f6.length ew] (0,0) _ rfl af.B Tryz.underlying30 rfl (by kernel_rfl)) rfl ?_
     exact ⟨_,af.E,by (with_reducible repeat (first | apply Kd.cH | apply Kd.cI | apply Kd.bl));exact Kd.aC (Kd.bD (p:=⟨X,1,none⟩) (Kd.bD (p:=⟨X,0,none⟩) (Kd.bD (p:=⟨Y,1,none⟩) (Kd.bS (Kd.bS h8.out y.out (by decide)) j.out (by decide)) (fun _ hk=>hk.1.2) (.slice ev f6.length ew)) (fun _ hk=>hk.2) (.int .i64 a4)) (fun _ hk=>hk.2) (.slice ev f6.length ew)) (fun _ hk=>trivial),af.I,af.J HB,af.K HK⟩
    ·rw [if_neg et] at H
     have ih:(ab == 3) = false:=beq_eq_false_iff_ne.mpr et
     have ii:(ab != 3) = true:=bne_iff_ne.mpr et
     simp only [Option.some.injEq,Prod.mk.injEq] at H
     obtain ⟨rfl,rfl,rfl,rfl⟩:=H
     go_enter Tryz.func100,Tryz.ntmps100
     go_wp2_with (first | (refine af.bx 4 #[.int .i64 0,.slice none 0 0] 30 ?_;intro X hg ve hbox hb;replace HB:=ae.mk (ax (af.J HB) hb);have j:=ae.mk hbox;have dl:=ae.mk ((by rw [hg];exact (b9 (w:=w) (g:=g) (row:=none) (af.K HK)):w.heap.size≤X));have dp:=ae.mk ((Nat.le_trans dk.out (by rw [hg];exact (b9 (w:=w) (g:=g) (row:=none) (af.K HK)):w.heap.size≤X):w0.heap.size≤X));replace HK:=ae.mk (an.trans (af.K HK) (an.cW hb g none) (.inl rfl));have ap:=ae.mk ((by rw [hg];exact Nat.ne_of_lt (aj.lt (show aj w0 _ g a2 b5 ba from af.I)):g≠X));have a3:=ae.mk ((by rw [hg];exact Nat.ne_of_gt (aj.lt (show aj w0 _ g a2 b5 ba from af.I)):X≠g));replace a6:=ae.mk (aj.below af.I hb);clear hb hbox hg) | (refine af.gl (some 9) Tryz.func139 #[.pointer (some ⟨g,0,none⟩),.int .i64 a1] ?_;(with_reducible refine (cY.calls k g a2 b5 ba a1 a4 a0 a9 aa w0 _ ?side1 ?side2 A3.out).mono ?_);(case side1=>exact af.I);(case side2=>exact af.J HB);rintro e vf ⟨e7,rfl,bs,hi,hb,hk⟩;refine ⟨_,rfl,?_⟩;replace j:=ae.mk (an.blk hk (g':=X) (o:=.cells #[.int .i64 0,.slice none 0 0] 30 (0,0)) (af.Bw j.out) a3.out (by simp));have z:=ae.mk (Kd.aV bs (b9 (w:=w) (g:=g) (row:=none) (af.K HK)));replace HK:=ae.mk (an.trans (af.K HK) hk (.inl rfl));replace HB:=ae.mk hb;replace a6:=ae.mk hi;(try clear hb);(try clear d4);(try clear hk);(try clear hi);(try clear bs)) | (refine af.bx 5 #[.int .i64 0,.slice none 0 0] 30 ?_;intro Y hg vg hbox hb;have ar:=af.rb z hb;have aw:=ae.mk (aj.below af.I hb);have aB:=af.bb j hb;have b0:=ae.mk (an.trans (af.K HK) (an.cW hb g none) (.inl rfl));have b2:=ae.mk (ax (af.J HB) hb);have b3:=ae.mk hbox;have bv:=ae.mk ((by rw [hg];exact (b9 (w:=w) (g:=g) (row:=none) (af.K HK)):w.heap.size≤Y));have c0:=ae.mk ((Nat.le_trans dk.out (by rw [hg];exact (b9 (w:=w) (g:=g) (row:=none) (af.K HK)):w.heap.size≤Y):w0.heap.size≤Y));have ca:=af.nl hg j;have d3:=af.ng hg j;have cb:=ae.mk ((by rw [hg];exact Nat.ne_of_lt (aj.lt (show aj w0 _ g a2 a9 aa from af.I)):g≠Y));have cc:=ae.mk ((by rw [hg];exact Nat.ne_of_gt (aj.lt (show aj w0 _ g a2 a9 aa from af.I)):Y≠g));clear z;clear a6;clear j;clear HK;clear HB;have z:=ar;have a6:=aw;have j:=aB;have HK:=b0;have HB:=b2;have y:=b3;have dq:=bv;have dt:=c0;have a7:=ca;have a8:=d3;have b4:=cb;have a5:=cc;clear ar aw aB b0 b2 b3 bv c0 ca d3 cb cc;clear hb hbox hg;have rp:=a8.out;have rr:=a7.out;have rt:=a5.out;have rv:=b4.out;obtain ⟨k5,ka,kb,kc⟩:=af.bw y.out;obtain ⟨e5,e6,im⟩:=Kd.aK z.out;subst im) | (refine af.gl (some 11) Tryz.func80 #[.pointer (some ⟨g,0,none⟩),.int .i64 10] ?_;(with_reducible refine (aH.calls g a2 a9 aa 10 ab bm bo w0 _ ?side1 ?side2 A4.out).mono ?_);(case side1=>exact af.I);(case side2=>exact af.J HB);rintro e vh ⟨rfl,hi,hb,hk⟩;refine ⟨_,rfl,?_⟩;replace j:=ae.mk (an.blk hk (g':=X) (o:=.cells #[.int .i64 0,.slice none 0 0] 30 (0,0)) af.B a3.out (by simp));replace z:=ae.mk (Kd.aC (Kd.dA (aj.apart (show aj w0 _ g a2 a9 aa from af.I) (af.Rw ((Kd.aC (Kd.bD (p:=⟨Y,1,none⟩) (Kd.bD (p:=⟨Y,0,none⟩) (Kd.bS z.out y.out (by decide)) (fun _ hk=>hk.2) (.int .i64 a4)) (fun _ hk=>hk.2) (.slice e5 a0.length e6)) (fun _ h_=>h_.1)))) (by decide)) hk (fun _ h=>h.2)) (fun _ h=>h.1));replace y:=ae.mk (an.blk hk (g':=Y) (o:=.cells #[.int .i64 a4,.slice e5 a0.length e6] 30 (0,0)) af.B a5.out (by simp));replace HK:=ae.mk (an.trans (af.K HK) hk (.inl rfl));replace HB:=ae.mk hb;replace a6:=ae.mk hi;(try clear hb);(try clear d4);(try clear hk);(try clear hi);obtain ⟨kd,kh,kl,km⟩:=af.bw y.out;have rx:=a3.out;have s0:=ap.out;obtain ⟨kq,ks,kt,kv⟩:=af.bw j.out))
     refine bodyPost_ret (results_cell_row rfl _ _ X 30 #[.int .i64 a4,.slice e5 a0.length e6] (0,0) _ rfl af.B Tryz.underlying30 rfl (by kernel_rfl)) rfl ?_
     exact ⟨_,af.E,by (with_reducible repeat (first | apply Kd.cH | apply Kd.cI | apply Kd.bl));exact Kd.aC (Kd.bD (p:=⟨X,1,none⟩) (Kd.bD (p:=⟨X,0,none⟩) (Kd.bS z.out j.out (by decide)) (fun _ hk=>hk.2) (.int .i64 a4)) (fun _ hk=>hk.2) (.slice e5 a0.length e6)) (fun _ hk=>trivial),af.I,af.J HB,af.K HK⟩
def dn.f (k:Nat) (l0:List Int):Option (Int×List Int):=(dj.f k l0).bind fun j=>((cR.f k j.1 j.2.1 j.2.2 6).bind fun y=>(some (y.1,y.2.1)))
set_option maxHeartbeats 8000000 in
set_option maxRecDepth 100000 in
theorem dn.calls (k:Nat) (A0:Option Addr) (c0:Nat) (l0:List Int) (r1:Int) (r2:List Int) (w:World) (a8:Kd.C (Kd.int .u8) w A0 l0.length l0) (a9:l0.length≤c0) (h:dn.f k l0 = some (r1,r2)) :
  Calls Tryz.prog 29 #[.slice A0 l0.length c0] w fun e w'=>∃ aa:Value,e = .returned (.agg #[.int .i64 r1,aa])∧Kd.R (Kd.int .i64) 3 w' w.heap.size (fun _=>True) aa r2∧Below w.heap.size w w':=by
 have b2:=Tryz.underlying30
 have aO:=ae.mk a8
 have aP:=ae.mk a9
 clear a8 a9
 have HB:=ae.mk (Below.refl w.heap.size w)
 unfold dn.f at h
 have H:=h
 clear h
 obtain ⟨⟨a3,a4,a5⟩,A2,H⟩:=af.be H
 (try dsimp only at H)
 obtain ⟨⟨Y,a0,ab,am⟩,A3,H⟩:=af.be H
 (try dsimp only at H)
 simp only [Option.some.injEq,Prod.mk.injEq] at H
 obtain ⟨rfl,rfl⟩:=H
 go_enter Tryz.func29,Tryz.ntmps29
 go_wp2_with (first | (refine af.bx 2 #[.int .i64 0,.slice none 0 0] 30 ?_;intro z hg w4 hbox hb;have j:=ae.mk hbox;have aR:=af.gw hg HB;have aS:=af.gw hg HB;replace HB:=af.lb HB hb;clear hb hbox hg) | (refine af.gl (some 4) Tryz.func74 #[.slice A0 l0.length c0] ?_;(with_reducible refine (dj.calls k _ _ l0 a3 a4 a5 w _ ?side1 ?side2 ?side3 A2.out).mono ?_);(case side1=>exact af.J HB);(case side2=>exact aO.out);(case side3=>exact aP.out);rintro e w5 ⟨a6,rfl,hi,hb,a1⟩;refine ⟨_,rfl,?_⟩;replace HB:=ae.mk hb;have a7:=ae.mk hi;have X:=ae.mk (aj.ja hi (b7 (af.Bw j.out) a1) (by decide));have y:=ae.mk (Ne.symm (aj.ja hi (b7 (af.Bw j.out) a1) (by decide)));replace j:=ae.mk (b7 (af.Bw j.out) a1);(try clear hb);(try clear a1);(try clear hk);(try clear hi)) | (refine af.gl (some 5) Tryz.func100 #[.pointer (some ⟨a6,0,none⟩),.int .i64 6] ?_;(with_reducible refine (cR.calls k a6 a3 a4 a5 6 Y a0 ab am w _ ?side1 ?side2 A3.out).mono ?_);(case side1=>exact af.I);(case side2=>exact af.J HB);rintro e w6 ⟨b3,rfl,ao,hi,hb,hk⟩;refine ⟨_,rfl,?_⟩;replace j:=ae.mk (an.blk hk (g':=z) (o:=.cells #[.int .i64 0,.slice none 0 0] 30 (0,0)) (af.Bw j.out) y.out (by simp));have a2:=ae.mk (Kd.aV ao (av (af.J HB)));replace HB:=ae.mk hb;replace a7:=ae.mk hi;(try clear hb);(try clear a1);(try clear hk);(try clear hi);(try clear ao);have b4:=y.out;have b5:=X.out;obtain ⟨aw,aB,aF,aL⟩:=af.bw j.out;obtain ⟨ap,ar,b0⟩:=Kd.aK a2.out;subst b0))
 refine bodyPost_ret (results_cell_row rfl _ _ z 30 #[.int .i64 Y,.slice ap a0.length ar] (0,0) _ rfl af.B Tryz.underlying30 rfl (by kernel_rfl)) rfl ?_
 exact ⟨_,af.E,by (with_reducible repeat (first | apply Kd.cH | apply Kd.cI | apply Kd.bl));exact Kd.aC (Kd.bD (p:=⟨z,1,none⟩) (Kd.bD (p:=⟨z,0,none⟩) (Kd.bS a2.out j.out (by decide)) (fun _ hk=>hk.2) (.int .i64 Y)) (fun _ hk=>hk.2) (.slice ap a0.length ar)) (fun _ hk=>trivial),af.J HB⟩
def dm.f (k:Nat) (y:Int) (j:List Int):Option (Int):=(dF.f k y j).bind fun z=>(if z = true then (if 0 < (j.length:Int) then ((eU.f (rd j 0)).bind fun X=>(some X)) else (none)) else (some (-1)))
set_option maxHeartbeats 8000000 in
set_option maxRecDepth 100000 in
theorem dm.calls (k:Nat) (X:Int) (Y:Option Addr) (a0:Nat) (j:List Int) (r:Int) (w:World) (a2:Kd.C (Kd.int .i64) w Y j.length j) (a3:j.length≤a0) (h:dm.f k X j = some r) :
  Calls Tryz.prog 93 #[.agg #[.int .i64 X,.slice Y j.length a0]] w fun e w'=>e = .returned (.int .i64 r)∧Below w.heap.size w w':=by
 have b5:=Tryz.underlying30
 have a1:=ae.mk a2
 have a4:=ae.mk a3
 clear a2 a3
 have HB:=ae.mk (Below.refl w.heap.size w)
 unfold dm.f at h
 have H:=h
 clear h
 obtain ⟨ab,A2,H⟩:=af.be H
 (try dsimp only at H)
 by_cases c3:ab = true
 ·subst c3
  replace H:(if 0 < (j.length:Int) then ((eU.f (rd j 0)).bind fun a5=>(some a5)) else (none)) = some r:=by rw [if_pos rfl] at H;exact H
  obtain ⟨c4,H⟩:=af.ip H
  have ba:=decide_eq_true c4
  have bc:decide (0 < j.length) = true:=decide_eq_true (by omega)
  clear c4
  obtain ⟨a5,A5,H⟩:=af.be H
  (try dsimp only at H)
  obtain rfl:=Option.some.inj H
  go_enter Tryz.func93,Tryz.ntmps93
  go_wp2_with (first | (refine af.bx 1 #[.int .i64 X,.slice Y j.length a0] 30 ?_;intro a8 hg w6 hbox hb;have y:=ae.mk hbox;have a9:=af.gw hg HB;have aa:=af.gw hg HB;replace HB:=af.lb HB hb;clear hb hbox hg;obtain ⟨aB,aF,aL,aO⟩:=af.bw y.out) | (refine af.gl (some 4) Tryz.func120 #[.agg #[.int .i64 X,.slice Y j.length a0]] ?_;(with_reducible refine (dF.calls k X _ _ j true _ ?side1 ?side2 A2.out).mono ?_);(case side1=>exact af.Cw (Kd.aT a1.out HB.out));(case side2=>exact a4.out);rintro e w8 ⟨rfl,hb⟩;refine ⟨_,rfl,?_⟩;replace y:=af.bb y hb;replace HB:=af.lb HB hb;(try clear hb);(try clear b2);(try clear hk);(try clear hi);obtain ⟨aP,aR,aS,b0⟩:=af.bw y.out;have a6:0≤(0:Int):=(by omega);have a7:0 < (j.length:Int):=af.D;obtain ⟨b3,am,z⟩:=Kd.ey a1.out 0 a6 a7;cases am;have b4:(0 < j.length) = True:=eq_true (by omega);(try rw [show ((0:Int)).toNat = 0 from rfl] at z);(try rw [Addr.add_zero'] at z);replace z:=(HB.out.cell (World.block_lt_of_cell? w _ z)).trans z;replace a6:=eq_true a6;replace a7:=eq_true a7) | (refine af.gl (some 10) Tryz.func117 #[.int .i64 (rd j 0)] ?_;(with_reducible refine (eU.calls (rd j 0) a5 _ A5.out).mono ?_);rintro e w' ⟨rfl,⟨nd,rfl⟩⟩;refine ⟨_,rfl,?_⟩))
  go_ret
  exact ⟨af.E,af.L⟩
 ·replace c3:=Bool.eq_false_iff.mpr c3
  subst c3
  replace H:(some (-1)) = some r:=by rw [if_neg (show ¬ (false = true) by decide)] at H;exact H
  obtain rfl:=Option.some.inj H
  go_enter Tryz.func93,Tryz.ntmps93
  go_wp2_with (first | (refine af.bx 1 #[.int .i64 X,.slice Y j.length a0] 30 ?_;intro a8 hg bi hbox hb;have y:=ae.mk hbox;have a9:=af.gw hg HB;have aa:=af.gw hg HB;replace HB:=af.lb HB hb;clear hb hbox hg;obtain ⟨ao,ap,ar,aw⟩:=af.bw y.out) | (refine af.gl (some 4) Tryz.func120 #[.agg #[.int .i64 X,.slice Y j.length a0]] ?_;(with_reducible refine (dF.calls k X _ _ j false _ ?side1 ?side2 A2.out).mono ?_);(case side1=>exact af.Cw (Kd.aT a1.out HB.out));(case side2=>exact a4.out);rintro e bm ⟨rfl,hb⟩;refine ⟨_,rfl,?_⟩;replace y:=af.bb y hb;replace HB:=af.lb HB hb;(try clear hb);(try clear b2);(try clear hk);(try clear hi)))
  go_ret
  exact ⟨af.E,af.L⟩
def de.l0:Nat→Int→List Int→Int→Int→Option (Int)
 | 0,_,_,_,_=>none
 | k+1,X,y,z,j=>if j < z then (if 0≤j then (if j < (y.length:Int) then (de.l0 k (Go.bits .andNot .i64 X (rd y j)) y z (wrap64 (j+1))) else (none)) else (none)) else (some X)
def de.f (k:Nat) (y:Int) (j:List Int):Option (Int):=(dF.f k y j).bind fun z=>(if z = true then ((eA.f y).bind fun X=>(de.l0 k X j (j.length:Int) 0)) else (some 0))
set_option maxHeartbeats 8000000 in
set_option maxRecDepth 100000 in
theorem de.calls (k:Nat) (z:Int) (Y:Option Addr) (a0:Nat) (j:List Int) (r:Int) (w:World) (a5:Kd.C (Kd.int .i64) w Y j.length j) (a6:j.length≤a0) (h:de.f k z j = some r) :
  Calls Tryz.prog 101 #[.agg #[.int .i64 z,.slice Y j.length a0]] w fun e w'=>e = .returned (.int .i64 r)∧Below w.heap.size w w':=by
 have bo:=Tryz.underlying30
 have a2:=ae.mk a5
 have a7:=ae.mk a6
 clear a5 a6
 have HB:=ae.mk (Below.refl w.heap.size w)
 unfold de.f at h
 have H:=h
 clear h
 obtain ⟨ab,A2,H⟩:=af.be H
 (try dsimp only at H)
 by_cases c3:ab = true
 ·subst c3
  replace H:((eA.f z).bind fun a3=>(de.l0 k a3 j (j.length:Int) 0)) = some r:=by rw [if_pos rfl] at H;exact H
  obtain ⟨a3,A4,H⟩:=af.be H
  (try dsimp only at H)
  have H':=ae.mk H
  clear H
  go_enter Tryz.func101,Tryz.ntmps101
  go_wp2_with (first | (refine af.bx 1 #[.int .i64 z,.slice Y j.length a0] 30 ?_;intro a8 hg w5 hbox hb;have y:=ae.mk hbox;have a9:=af.gw hg HB;have aa:=af.gw hg HB;replace HB:=af.lb HB hb;clear hb hbox hg;obtain ⟨aO,aP,aR,aS⟩:=af.bw y.out) | (refine af.gl (some 7) Tryz.func120 #[.agg #[.int .i64 z,.slice Y j.length a0]] ?_;(with_reducible refine (dF.calls k z _ _ j true _ ?side1 ?side2 A2.out).mono ?_);(case side1=>exact af.Cw (Kd.aT a2.out HB.out));(case side2=>exact a7.out);rintro e w7 ⟨rfl,hb⟩;refine ⟨_,rfl,?_⟩;replace y:=af.bb y hb;replace HB:=af.lb HB hb;(try clear hb);(try clear b5);(try clear hk);(try clear hi);obtain ⟨b0,b2,b3,b4⟩:=af.bw y.out) | (refine af.gl (some 11) Tryz.func115 #[.int .i64 z] ?_;(with_reducible refine (eA.calls z a3 _ A4.out).mono ?_);rintro e w' ⟨rfl,⟨nd,rfl⟩⟩;refine ⟨_,rfl,?_⟩))
  go_loopg [3,15] k (fun kq v3 ba w'=>∃ (a4:Int) (X:Int),v3 = .int .i64 a4∧ba = .int .i64 X∧ae (de.l0 kq a4 j (j.length:Int) X = some r)∧ae (kq≤k)∧ae (w'.heap[a8]? = some (.cells #[.int .i64 z,(.slice Y j.length a0)] 30 (0,0)))∧ae (Below w.heap.size w w'))
  case atStart=>exact ⟨(a3),(0),af.F,af.F,H',⟨Nat.le_refl _⟩,⟨af.Bw y.out⟩,⟨af.Lw HB.out⟩⟩
  case round =>
   clear H'
   obtain ⟨a4,X,rfl,rfl,HA,am,y,HB⟩:=hrel
   cases gk with
   | zero=>exact absurd HA.out (by simp [de.l0])
   | succ k1 =>
    have H:=HA.out
    clear HA
    simp only [de.l0] at H
    by_cases c9:X < (j.length:Int)
    ·rw [if_pos c9] at H
     have ao:=decide_eq_true c9
     clear c9
     obtain ⟨gX,H⟩:=af.ip H
     have bc:=decide_eq_true gX
     clear gX
     obtain ⟨ap,H⟩:=af.ip H
     have bi:=decide_eq_true ap
     clear ap
     have H':=ae.mk H
     clear H
     obtain ⟨bm,ar,a1,bs,bv⟩:=af.ai a2.out X
     cases ar
     try replace a1:=(HB.out.cell (World.block_lt_of_cell? w _ a1)).trans a1
     go_wp2
     go_roundg k1
     case measure=>have:=am.out;omega
     case rel=>exact ⟨(Go.bits .andNot .i64 a4 (rd j X)),(wrap64 (X+1)),af.F,af.F,H',⟨by have:=am.out;omega⟩,⟨af.Bw y.out⟩,⟨af.Lw HB.out⟩⟩
    ·rw [if_neg c9] at H
     have ao:decide (X < (j.length:Int)) = false:=decide_eq_false c9
     clear c9
     obtain rfl:=Option.some.inj H
     go_wp2
     go_ret
     exact ⟨af.E,af.L⟩
 ·replace c3:=Bool.eq_false_iff.mpr c3
  subst c3
  replace H:(some 0) = some r:=by rw [if_neg (show ¬ (false = true) by decide)] at H;exact H
  obtain rfl:=Option.some.inj H
  go_enter Tryz.func101,Tryz.ntmps101
  go_wp2_with (first | (refine af.bx 1 #[.int .i64 z,.slice Y j.length a0] 30 ?_;intro a8 hg c0 hbox hb;have y:=ae.mk hbox;have a9:=af.gw hg HB;have aa:=af.gw hg HB;replace HB:=af.lb HB hb;clear hb hbox hg;obtain ⟨aw,aB,aF,aL⟩:=af.bw y.out) | (refine af.gl (some 7) Tryz.func120 #[.agg #[.int .i64 z,.slice Y j.length a0]] ?_;(with_reducible refine (dF.calls k z _ _ j false _ ?side1 ?side2 A2.out).mono ?_);(case side1=>exact af.Cw (Kd.aT a2.out HB.out));(case side2=>exact a7.out);rintro e c1 ⟨rfl,hb⟩;refine ⟨_,rfl,?_⟩;replace y:=af.bb y hb;replace HB:=af.lb HB hb;(try clear hb);(try clear b5);(try clear hk);(try clear hi)))
  go_ret
  exact ⟨af.E,af.L⟩
def aU.l0:Nat→Int→List Int→List Int→List Int→Int→Int→Int→List Int→Option (List Int)
 | 0,_,_,_,_,_,_,_,_=>none
 | k+1,x3,x4,x6,Y,a0,z,j,y=>if z < a0 then (if 0≤z then (if z < (Y.length:Int) then ((bR.f k j y (rd Y z)).bind fun X=>(if 0≤(wrap64 (x3 - X)) then (if (wrap64 (x3 - X)) < (x4.length:Int) then (if z < (x6.length:Int) then (aU.l0 k x3 (x4.set ((wrap64 (x3 - X)):Int).toNat (wrap64 ((rd x4 (wrap64 (x3 - X)))+(rd x6 z)))) x6 Y a0 (wrap64 (z+1)) j y) else (none)) else (none)) else (none))) else (none)) else (none)) else (some x4)
def aU.f (k:Nat) (z:Int) (X:List Int):Option (List Int):=(dm.f k z X).bind fun j=>(if j < 0 then (some ([]:List Int)) else (if 0≤(wrap64 (j+1)) then (if (wrap64 (j+1):Int).toNat≤35184372088832 then ((some (List.replicate (wrap64 (j+1):Int).toNat 0:List Int)).bind fun Y=>((de.f k z X).bind fun a0=>(if a0 = 0 then ((bG.f k z X).bind fun y=>(aU.l0 k j Y y.2 y.1 (y.1.length:Int) 0 z X)) else (some Y)))) else (none)) else (none)))
def aU.vR:Bool×List (List Nat×List Nat):=(true,[([],[]),([],[]),([],[]),([],[]),([2,3],[2,3]),([1,4],[1,4]),([0,5],[0,5]),([6],[6]),([],[]),([],[]),([8,9],[8,9]),([10],[10]),([7,11],[7,11]),([0,5,0,1,2,3,4,5,6,7,8,9,10,11,12],[0,5]),([13,12,4,0,1,2,3,4,5,6,7,8,9,10,11,12],[12,13])])
def aU.wA:List Nat:=[0,0,0,0,12,30,63,127,0,0,768,1792,4095,8191,16383]
theorem aU.rT:gm .any (opsOf Tryz.f30 11) = aU.vR:=by kernel_rfl
theorem aU.pq:eT aU.vR.2 aU.wA = true:=by kernel_rfl
set_option maxHeartbeats 8000000 in
set_option maxRecDepth 100000 in
theorem aU.calls (k:Nat) (X:Int) (a2:Option Addr) (a3:Nat) (y:List Int) (r:List Int) (w:World) (bs:Kd.C (Kd.int .i64) w a2 y.length y) (bv:y.length≤a3) (h:aU.f k X y = some r) :
  Calls Tryz.prog 30 #[.agg #[.int .i64 X,.slice a2 y.length a3]] w fun e w'=>∃ ea:Value,e = .returned (ea)∧Kd.R (Kd.int .i64) 3 w' w.heap.size (fun _=>True) ea r∧Below w.heap.size w w':=by
 have hu:=Tryz.underlying30
 have ab:=ae.mk bs
 have am:=ae.mk bv
 clear bs bv
 have HB:=ae.mk (Below.refl w.heap.size w)
 unfold aU.f at h
 have H:=h
 clear h
 obtain ⟨a4,A2,H⟩:=af.be H
 (try dsimp only at H)
 by_cases c3:a4 < 0
 ·rw [if_pos c3] at H
  have eb:=decide_eq_true c3
  clear c3
  obtain rfl:=Option.some.inj H
  go_enter Tryz.func30,Tryz.ntmps30
  go_wp2_with (first | (refine af.bx 1 #[.int .i64 X,.slice a2 y.length a3] 30 ?_;intro ar hg w4 hbox hb;have j:=ae.mk hbox;have c0:=af.gw hg HB;have b2:=af.gw hg HB;replace HB:=af.lb HB hb;clear hb hbox hg;obtain ⟨g4,g5,g6,g7⟩:=af.bw j.out) | (refine af.gl (some 10) Tryz.func93 #[.agg #[.int .i64 X,.slice a2 y.length a3]] ?_;(with_reducible refine (dm.calls k X _ _ y a4 _ ?side1 ?side2 A2.out).mono ?_);(case side1=>exact af.Cw (Kd.aT ab.out HB.out));(case side2=>exact am.out);rintro e w6 ⟨rfl,hb⟩;refine ⟨_,rfl,?_⟩;replace j:=af.bb j hb;replace HB:=af.lb HB hb;(try clear hb);(try clear bm);(try clear hk);(try clear hi)))
  go_ret
  exact ⟨_,af.E,af.N,af.L⟩
 ·rw [if_neg c3] at H
  have eb:decide (a4 < 0) = false:=decide_eq_false c3
  clear c3
  obtain ⟨aw,aF⟩:∃ j_:Int,(wrap64 (a4+1)) = j_:=⟨_,rfl⟩
  replace H:(if 0≤(aw) then (if (aw:Int).toNat≤35184372088832 then ((some (List.replicate (aw:Int).toNat 0:List Int)).bind fun aL=>((de.f k X y).bind fun a8=>(if a8 = 0 then ((bG.f k X y).bind fun ao=>(aU.l0 k a4 aL ao.2 ao.1 (ao.1.length:Int) 0 X y)) else (some aL)))) else (none)) else (none)) = some r:=by first | (rw [aF] at H;exact H) | (simp only [aF] at H ⊢;exact H)
  (try rw [aF] at A2)
  have gc:(IntKind.i64.wrap (a4+1)) = aw:=(aM _).trans aF
  obtain ⟨c8,H⟩:=af.ip H
  have hx:=eq_true c8
  have hz:decide (0≤(aw)) = true:=decide_eq_true c8
  clear c8
  obtain ⟨c9,H⟩:=af.ip H
  have hA:=eq_true c9
  have hC:decide ((aw:Int).toNat≤35184372088832) = true:=decide_eq_true c9
  clear c9
  obtain ⟨aL,b3⟩:∃ y_:List Int,y_ = (List.replicate (aw:Int).toNat 0):=⟨_,rfl⟩
  replace H:((de.f k X y).bind fun a8=>(if a8 = 0 then ((bG.f k X y).bind fun ao=>(aU.l0 k a4 aL ao.2 ao.1 (ao.1.length:Int) 0 X y)) else (some aL))) = some r:=by (try rw [b3]);exact af.Z
  have aO:=ae.mk b3
  clear b3
  obtain ⟨a8,ec,H⟩:=af.be H
  (try dsimp only at H)
  by_cases b4:a8 = 0
  ·rw [if_pos b4] at H
   have dk:(a8 == 0) = true:=beq_iff_eq.mpr b4
   have dl:(a8 != 0) = false:=bne_eq_false_iff_eq.mpr b4
   clear b4
   obtain ⟨⟨a0,a6⟩,go,H⟩:=af.be H
   (try dsimp only at H)
   have H':=ae.mk H
   clear H
   go_enter Tryz.func30,Tryz.ntmps30
   go_wp2_with (first | (refine af.bx 1 #[.int .i64 X,.slice a2 y.length a3] 30 ?_;intro ar hg hR hbox hb;have j:=ae.mk hbox;have c0:=af.gw hg HB;have b2:=af.gw hg HB;replace HB:=af.lb HB hb;clear hb hbox hg;obtain ⟨ed,ee,ef,eh⟩:=af.bw j.out) | (refine af.gl (some 10) Tryz.func93 #[.agg #[.int .i64 X,.slice a2 y.length a3]] ?_;(with_reducible refine (dm.calls k X _ _ y a4 _ ?side1 ?side2 A2.out).mono ?_);(case side1=>exact af.Cw (Kd.aT ab.out HB.out));(case side2=>exact am.out);rintro e hT ⟨rfl,hb⟩;refine ⟨_,rfl,?_⟩;replace j:=af.bb j hb;replace HB:=af.lb HB hb;(try clear hb);(try clear bm);(try clear hk);(try clear hi)) | ((with_reducible refine bh (N:=15) rfl ?_);refine Kd.lq (Kd.int .i64) _ 3 rfl (N:=15) rfl 28 _ _ rfl aw rfl rfl Tryz.underlying28 (.int .i64 0) 8 eI rfl (by decide) (by omega) 0 (ok:=fun _=>True) (okp:=fun _=>True) rfl (fun _ hk=>hk) trivial (af.D) (Nat.le_trans (Nat.mul_le_mul_right _ (af.D:aw.toNat≤35184372088832)) (by omega)) (Below.refl _ _) (Nat.le_refl _) ?_;intro bc hU aR hb dp b5;clear dp b5;(first | rw [← aO.out] at aR | (simp only [Int.reduceToNat] at aR;rw [← aO.out] at aR));have a1:=ae.mk (Kd.aV aR (av (af.Lw HB.out)));replace j:=af.bb j hb;replace HB:=af.lb HB hb;clear hb aR;obtain ⟨ei,ej,el,em⟩:=af.bw j.out) | (refine af.gl (some 17) Tryz.func101 #[.agg #[.int .i64 X,.slice a2 y.length a3]] ?_;(with_reducible refine (de.calls k X _ _ y a8 _ ?side1 ?side2 ec.out).mono ?_);(case side1=>exact af.Cw (Kd.aT ab.out HB.out));(case side2=>exact am.out);rintro e hV ⟨rfl,hb⟩;refine ⟨_,rfl,?_⟩;replace a1:=af.rb a1 hb;replace j:=af.bb j hb;replace HB:=af.lb HB hb;(try clear hb);(try clear bm);(try clear hk);(try clear hi);obtain ⟨eo,eq,es,et⟩:=af.bw j.out) | (refine af.gl (some 22) Tryz.func99 #[.agg #[.int .i64 X,.slice a2 y.length a3]] ?_;(with_reducible refine (bG.calls k X _ _ y a0 a6 _ ?side1 ?side2 go.out).mono ?_);(case side1=>exact af.Cw (Kd.aT ab.out HB.out));(case side2=>exact am.out);rintro e hW ⟨hD,c1,rfl,dq,dt,hb⟩;refine ⟨_,rfl,?_⟩;have ca:=ae.mk (Kd.aV (Kd.br dq (Kd.cK (af.Rw a1.out))) (av (af.Lw HB.out)));have du:=ae.mk (Kd.aV (Kd.br dt (Kd.cK (af.Rw a1.out))) (av (af.Lw HB.out)));replace a1:=ae.mk (Kd.aC (Kd.nM (Kd.nM (Kd.vJ (af.Rw a1.out) hb) (Kd.bn dq)) (Kd.bn dt)) (fun _ h_=>h_.1));replace j:=af.bb j hb;replace HB:=af.lb HB hb;(try clear hb);(try clear bm);(try clear hk);(try clear hi);(try clear dq);(try clear dt);obtain ⟨cb,cc,ev⟩:=Kd.aK ca.out;subst ev))
   go_loopg [27] k (fun kq gs w'=>∃ (a5:List Int) (z:Int),gs = .int .i64 z∧ae (aU.l0 kq a4 a5 a6 a0 (a0.length:Int) z X y = some r)∧ae (kq≤k)∧ae (Kd.R (Kd.int .i64) 3 w' w.heap.size (fun k_=>some k_≠(c1:Value).ownBlock∧some k_≠((.slice cb a0.length cc):Value).ownBlock) bc a5)∧ae (Kd.R (Kd.int .i64) 3 w' w.heap.size (fun k_=>some k_≠(bc:Value).ownBlock∧some k_≠((.slice cb a0.length cc):Value).ownBlock) c1 a6)∧ae (Kd.R (Kd.int .i64) 3 w' w.heap.size (fun k_=>some k_≠(bc:Value).ownBlock∧some k_≠(c1:Value).ownBlock) (.slice cb a0.length cc) a0)∧ae (w'.heap[ar]? = some (.cells #[.int .i64 X,(.slice a2 y.length a3)] 30 (0,0)))∧ae (Below w.heap.size w w'))
   case atStart=>exact ⟨(aL),(0),af.F,H',⟨Nat.le_refl _⟩,⟨af.Rw (Kd.aC a1.out (fun _ hk=>(by first | exact ⟨hk.2,hk.1.2⟩ | (simp_all;done))))⟩,⟨af.Rw (Kd.aC du.out (fun _ hk=>(by first | exact ⟨hk.2,hk.1⟩ | (simp_all;done))))⟩,⟨af.Rw (Kd.aC ca.out (fun _ hk=>(by first | exact ⟨hk.2,hk.1⟩ | (simp_all;done))))⟩,⟨af.Bw j.out⟩,⟨af.Lw HB.out⟩⟩
   case round =>
    clear H'
    obtain ⟨a5,z,rfl,HA,ew,a7,ap,a9,j,HB⟩:=hrel
    cases gk with
    | zero=>exact absurd HA.out (by simp [aU.l0])
    | succ k1 =>
     have H:=HA.out
     clear HA
     simp only [aU.l0] at H
     by_cases bo:z < (a0.length:Int)
     ·rw [if_pos bo] at H
      have dv:=decide_eq_true bo
      clear bo
      obtain ⟨ex,H⟩:=af.ip H
      have gt:=decide_eq_true ex
      clear ex
      obtain ⟨eQ,H⟩:=af.ip H
      have h0:=decide_eq_true eQ
      clear eQ
      obtain ⟨ce,f0,H⟩:=af.be H
      (try dsimp only at H)
      obtain ⟨Y,aP⟩:∃ j_:Int,(wrap64 (a4 - ce)) = j_:=⟨_,rfl⟩
      replace H:(if 0≤(Y) then (if (Y) < (a5.length:Int) then (if z < (a6.length:Int) then (aU.l0 k1 a4 (a5.set ((Y):Int).toNat (wrap64 ((rd a5 (Y))+(rd a6 z)))) a6 a0 (a0.length:Int) (wrap64 (z+1)) X y) else (none)) else (none)) else (none)) = some r:=by first | (rw [aP] at H;exact H) | (simp only [aP] at H ⊢;exact H)
      (try rw [aP] at f0)
      have g8:(IntKind.i64.wrap (a4 - ce)) = Y:=(aM _).trans aP
      obtain ⟨f1,H⟩:=af.ip H
      have h6:=decide_eq_true f1
      clear f1
      obtain ⟨f2,H⟩:=af.ip H
      have h7:=decide_eq_true f2
      clear f2
      obtain ⟨f3,H⟩:=af.ip H
      have h8:=decide_eq_true f3
      clear f3
      obtain ⟨d7,ba⟩:∃ y_:List Int,y_ = (a5.set ((Y):Int).toNat (wrap64 ((rd a5 (Y))+(rd a6 z)))):=⟨_,rfl⟩
      replace H:(aU.l0 k1 a4 d7 a6 a0 (a0.length:Int) (wrap64 (z+1)) X y) = some r:=by (try rw [ba]);exact af.Z
      have dC:=ae.mk ba
      clear ba
      have H':=ae.mk H
      clear H
      have cf:0≤(z:Int):=af.D
      have ci:z < (a0.length:Int):=af.D
      (try (obtain ⟨h9,hj,dE⟩:=Kd.aK a9.out;subst dE))
      obtain ⟨hl,f4,f5⟩:=Kd.ey (Kd.ah a9.out).2.2 z cf ci
      cases f4
      replace cf:=eq_true cf
      replace ci:=eq_true ci
      try go_wp2
      replace a7:=ae.mk (Kd.bl a7.out)
      replace ap:=ae.mk (Kd.bl ap.out)
      replace a9:=ae.mk (Kd.bl a9.out)
      replace j:=ae.mk (cO j.out)
      replace HB:=ae.mk (cn HB.out)
      obtain ⟨hE,hG,d8⟩:=Kd.aK ap.out
      (first | subst d8 | (injection d8 with cp dT d0;have e0:=cp.symm;have e1:=d0.symm;clear cp dT d0;subst e0;subst e1))
      have d1:0≤(z:Int):=af.D
      have d2:z < (a6.length:Int):=af.D
      (try (obtain ⟨hm,hn,e2⟩:=Kd.aK ap.out;subst e2))
      obtain ⟨e3,f6,aS⟩:=Kd.ey (Kd.ah ap.out).2.2 z d1 d2
      cases f6
      replace d1:=eq_true d1
      replace d2:=eq_true d2
      have d3:0≤((Y):Int):=af.D
      have d4:(Y) < (a5.length:Int):=af.D
      (try (obtain ⟨ho,hq,e4⟩:=Kd.aK a7.out;subst e4))
      obtain ⟨e5,f7,aB⟩:=Kd.ey (Kd.ah a7.out).2.2 (Y) d3 d4
      cases f7
      replace d3:=eq_true d3
      replace d4:=eq_true d4
      refine eM (n:=15) (S:=fun w'=>w'.cell? ⟨ar,0,none⟩ = some (.int .i64 X)∧w'.cell? ⟨ar,1,none⟩ = some (.slice a2 y.length a3)∧w'.cell? (e3.add (z).toNat) = some (.int .i64 (rd a6 z))∧w'.cell? (e5.add ((Y)).toNat) = some (.int .i64 (rd a5 (Y)))) (ds:=[14]) #[false,false,false,false,false,false,false,false,false,false,false,false,false,false,false] (by kernel_rfl) rfl rfl ⟨(ak j.out 0).trans rfl,(ak j.out 1).trans rfl,aS,aB⟩ (fun hHeld=>?_);refine dc aU.rT aU.pq (fun aa e6=>?_)
      generalize wr.drew = hX at a7 ap a9 j HB aB aS hHeld ⊢
      refine af.pu 0 32 aa ?_
      refine af.pu 1 33 aa ?_
      refine af.pu 3 35 aa ?_
      refine af.pu 8 40 aa ?_
      refine af.pu 9 41 aa ?_
      refine af.pu 10 42 aa ?_
      refine lG (i:=2) (N:=some 34) (v:=?_) (a':=?_) #[true,true,true,true,false,false,false,false,true,true,true,false,false,false,false] rfl rfl (ji aa.out e6.out (by kernel_rfl)) (fun _ _ _ h=>h) (Or.inl ⟨by rfl,?_⟩) hHeld ?_ ?_
      rotate_left
      ·rintro w' ⟨s0,s1,s2,s3⟩
       (try simp only [add_plain] at s0 s1 s2 s3)
       go_simp
       with_reducible rfl
      rotate_left
      ·simp only [Act.put,List.setIfInBounds_toArray,List.set_cons_zero,List.set_cons_succ,aM,b8]
       rfl
      refine lG (i:=11) (N:=some 43) (v:=?_) (a':=?_) #[true,true,true,true,false,false,false,false,true,true,true,true,false,false,false] rfl rfl (ji aa.out e6.out (by kernel_rfl)) (fun _ _ _ h=>h) (Or.inl ⟨by rfl,?_⟩) hHeld ?_ ?_
      rotate_left
      ·rintro w' ⟨s0,s1,s2,s3⟩
       (try simp only [add_plain] at s0 s1 s2 s3)
       go_simp
       with_reducible rfl
      rotate_left
      ·simp only [Act.put,List.setIfInBounds_toArray,List.set_cons_zero,List.set_cons_succ,aM,b8]
       rfl
      refine fN (i:=4) (N:=some 36) #[true,true,true,true,true,false,false,false,true,true,true,true,false,false,false] rfl rfl (da aa.out (by kernel_rfl)) (by decide) (fun K hK=>?_)
      refine fC Tryz.func102 (by kernel_rfl) rfl #[.agg #[.int .i64 X,.slice a2 y.length a3],.int .i64 (rd a0 z)] (by rfl) rfl rfl (by (try simp only [List.map_toArray,List.map_cons,List.map_nil]);first | done | rfl) ?_
      with_reducible refine (bR.calls k1 X _ _ y (rd a0 z) ce _ ?side1 ?side2 f0.out).mono ?_
      (case side1=>exact af.Cw (Kd.aT ab.out HB.out))
      (case side2=>exact am.out)
      rintro e hZ ⟨rfl,hb⟩
      have f8:=(hb.cell (World.block_lt_of_cell? _ _ (hHeld.2.2.1))).trans (hHeld.2.2.1)
      have f9:=(hb.cell (World.block_lt_of_cell? _ _ (hHeld.2.2.2))).trans (hHeld.2.2.2)
      refine ⟨_,rfl,?_⟩
      replace a7:=af.rb a7 hb
      replace ap:=af.rb ap hb
      replace a9:=af.rb a9 hb
      replace j:=af.bb j hb
      replace HB:=af.lb HB hb
      (try clear hb)
      (try clear bm)
      (try clear hk)
      (try clear hi)
      obtain ⟨hH,hI,d9⟩:=Kd.aK a7.out
      (first | subst d9 | (injection d9 with cp dT d0;have e0:=cp.symm;have e1:=d0.symm;clear cp dT d0;subst e0;subst e1))
      have e7:0≤((Y):Int):=af.D
      have e8:((Y):Int) < ((a5.length:Int):Int):=af.D
      obtain ⟨bi,hL,db,dd,fd,hM,df⟩:=Kd.jr a7.out (by omega)
      (first | cases db | (injection db with d6 hr ht;(first | subst d6 | (injection d6 with d6;subst d6));subst ht;clear hr))
      have fi:=ae.mk dd
      have hP:=ae.mk df
      clear dd fd df
      (first | simp only [add_plain] at aB | skip)
      obtain ⟨g9,gb⟩:=Kd.gA 0 a7.out ((Y):Int) e7 e8
      replace e7:=eq_true e7
      replace e8:=eq_true e8
      have d5:=Kd.pb a7.out ((Y):Int) (wrap64 ((rd a5 (Y))+(rd a6 z)))
      rw [← dC.out] at d5
      have fj:=ae.mk d5
      clear d5
      refine hK.out _ _ ⟨(ak j.out 0).trans rfl,(ak j.out 1).trans rfl,f8,f9⟩ (fun hHeld=>?_)
      clear hK K
      refine er (a':=?_) ?_ ?_
      rotate_left
      ·show Act.put _ (some 36) _ = _
       simp only [Act.put,List.setIfInBounds_toArray,List.set_cons_zero,List.set_cons_succ,aM,b8]
       rfl
      refine af.pu 5 37 aa ?_
      refine af.pu 6 38 aa ?_
      refine lG (i:=7) (N:=some 39) (v:=?_) (a':=?_) #[true,true,true,true,true,true,true,true,true,true,true,true,false,false,false] rfl rfl (ji aa.out e6.out (by kernel_rfl)) (fun _ _ _ h=>h) (Or.inl ⟨by rfl,?_⟩) hHeld ?_ ?_
      rotate_left
      ·rintro w' ⟨s0,s1,s2,s3⟩
       (try simp only [add_plain] at s0 s1 s2 s3)
       go_simp
       with_reducible rfl
      rotate_left
      ·simp only [Act.put,List.setIfInBounds_toArray,List.set_cons_zero,List.set_cons_succ,aM,b8]
       rfl
      refine af.pu 12 44 aa ?_
      refine af.pu 13 45 aa ?_
      refine lJ (i:=14) (N:=none) #[true,true,true,true,true,true,true,true,true,true,true,true,true,true,true] rfl rfl (da aa.out (by kernel_rfl)) (by decide) (fun K hK=>?_)
      refine lK (w1:=?_) (by rfl) rfl ?_ ?_
      rotate_left
      ·go_simp
       rfl
      refine hK.out _ _ ?_
      clear hK K
      refine fO (dU aa.out (by kernel_rfl)) ?_
      try go_wp2
      go_roundg k1
      case measure=>have:=ew.out;omega
      case rel=>exact ⟨(d7),(wrap64 (z+1)),af.F,H',⟨by have:=ew.out;omega⟩,⟨af.Rw fj.out⟩,⟨af.Rw (Kd.aC (Kd.bD (p:=⟨bi,((Y):Int).toNat,none⟩) (Kd.aC ap.out (fun k_ hk=>(⟨hk,fun e_=>hk.1 (by rw [e_];rfl)⟩:_∧k_≠bi))) (fun _ hk=>hk.2) (.int .i64 (wrap64 ((rd a5 (Y))+(rd a6 z))))) (fun _ hk=>(by first | exact ⟨hk.1.1,hk.1.2⟩ | (simp_all;done))))⟩,⟨af.Rw (Kd.aC (Kd.bD (p:=⟨bi,((Y):Int).toNat,none⟩) (Kd.aC a9.out (fun k_ hk=>(⟨hk,fun e_=>hk.1 (by rw [e_];rfl)⟩:_∧k_≠bi))) (fun _ hk=>hk.2) (.int .i64 (wrap64 ((rd a5 (Y))+(rd a6 z))))) (fun _ hk=>(by first | exact ⟨hk.1.1,hk.1.2⟩ | (simp_all;done))))⟩,⟨by (with_reducible repeat (first | refine hJ ?_ _ | refine cO ?_ | refine gx ?_ _));refine lU ?_ (by have h_:=Kd.fS a7.out j.out (by decide);intro e_;exact h_ (by rw [e_];rfl)) _;(with_reducible repeat (first | refine hJ ?_ _ | refine cO ?_ | refine gx ?_ _));exact j.out⟩,⟨by repeat (first | (with_reducible first | exact HB.out | apply dX | apply dY | apply cn | refine dP ?_ fi.out | refine dP ?_ b2.out) | exact HB.out)⟩⟩
     ·rw [if_neg bo] at H
      have dv:decide (z < (a0.length:Int)) = false:=decide_eq_false bo
      clear bo
      obtain rfl:=Option.some.inj H
      go_wp2
      go_ret
      exact ⟨_,by first | rfl | (simp [dK,dL] <;> rfl) | (simp only [← aF];first | rfl | (simp [dK,dL] <;> rfl)) | (simp [*,dK,dL] <;> rfl),by (with_reducible repeat (first | apply Kd.cH | apply Kd.cI | apply Kd.bl));exact Kd.aC a7.out (fun _ hk=>trivial),af.L⟩
  ·rw [if_neg b4] at H
   have dk:(a8 == 0) = false:=beq_eq_false_iff_ne.mpr b4
   have dl:(a8 != 0) = true:=bne_iff_ne.mpr b4
   obtain rfl:=Option.some.inj H
   go_enter Tryz.func30,Tryz.ntmps30
   go_wp2_with (first | (refine af.bx 1 #[.int .i64 X,.slice a2 y.length a3] 30 ?_;intro ar hg i0 hbox hb;have j:=ae.mk hbox;have c0:=af.gw hg HB;have b2:=af.gw hg HB;replace HB:=af.lb HB hb;clear hb hbox hg;obtain ⟨fp,fs,ft,fw⟩:=af.bw j.out) | (refine af.gl (some 10) Tryz.func93 #[.agg #[.int .i64 X,.slice a2 y.length a3]] ?_;(with_reducible refine (dm.calls k X _ _ y a4 _ ?side1 ?side2 A2.out).mono ?_);(case side1=>exact af.Cw (Kd.aT ab.out HB.out));(case side2=>exact am.out);rintro e i1 ⟨rfl,hb⟩;refine ⟨_,rfl,?_⟩;replace j:=af.bb j hb;replace HB:=af.lb HB hb;(try clear hb);(try clear bm);(try clear hk);(try clear hi)) | ((with_reducible refine bh (N:=15) rfl ?_);refine Kd.lq (Kd.int .i64) _ 3 rfl (N:=15) rfl 28 _ _ rfl aw rfl rfl Tryz.underlying28 (.int .i64 0) 8 eI rfl (by decide) (by omega) 0 (ok:=fun _=>True) (okp:=fun _=>True) rfl (fun _ hk=>hk) trivial (af.D) (Nat.le_trans (Nat.mul_le_mul_right _ (af.D:aw.toNat≤35184372088832)) (by omega)) (Below.refl _ _) (Nat.le_refl _) ?_;intro bc i2 b0 hb dp b5;clear dp b5;(first | rw [← aO.out] at b0 | (simp only [Int.reduceToNat] at b0;rw [← aO.out] at b0));have a1:=ae.mk (Kd.aV b0 (av (af.Lw HB.out)));replace j:=af.bb j hb;replace HB:=af.lb HB hb;clear hb b0;obtain ⟨g0,g1,g2,g3⟩:=af.bw j.out) | (refine af.gl (some 17) Tryz.func101 #[.agg #[.int .i64 X,.slice a2 y.length a3]] ?_;(with_reducible refine (de.calls k X _ _ y a8 _ ?side1 ?side2 ec.out).mono ?_);(case side1=>exact af.Cw (Kd.aT ab.out HB.out));(case side2=>exact am.out);rintro e i3 ⟨rfl,hb⟩;refine ⟨_,rfl,?_⟩;replace a1:=af.rb a1 hb;replace j:=af.bb j hb;replace HB:=af.lb HB hb;(try clear hb);(try clear bm);(try clear hk);(try clear hi)))
   go_ret
   exact ⟨_,by first | rfl | (simp [dK,dL] <;> rfl) | (simp only [← aF];first | rfl | (simp [dK,dL] <;> rfl)) | (simp [*,dK,dL] <;> rfl),by (with_reducible repeat (first | apply Kd.cH | apply Kd.cI | apply Kd.bl));exact a1.out,af.L⟩
def cJ.l0:Nat→Int→List Int→Int→List Int→Int→Int→Option (List Int×Int×Int)
 | 0,_,_,_,_,_,_=>none
 | k+1,x1,Y,x6,y,z,X=>if x6 < x1 then ((aH.f y z X 9).bind fun j=>(if Y.length < 17592186044416 then (cJ.l0 k x1 (Y ++ [wrap64 (j.1 - 3)]) (wrap64 (x6+1)) y j.2.1 j.2.2) else (none))) else (some (Y,z,X))
def cJ.f (k:Nat) (j:List Int) (y:Int) (z:Int) (X:Int):Option (List Int×Int×Int):=cJ.l0 k X (([]:List Int)) 0 j y z
set_option maxHeartbeats 8000000 in
set_option maxRecDepth 100000 in
theorem cJ.calls (k:Nat) (g:Nat) (z:List Int) (a4:Int) (a5:Int) (a1:Int) (r1:List Int) (r2:Int) (r3:Int) (w0 w:World) (hI:aj w0 w g z a4 a5) (hB:Below w0.heap.size w0 w) (h:cJ.f k z a4 a5 a1 = some (r1,r2,r3)) :
  Calls Tryz.prog 103 #[.pointer (some ⟨g,0,none⟩),.int .i64 a1] w fun e w'=>∃ aF:Value,e = .returned (aF)∧Kd.R (Kd.int .i64) 3 w' w.heap.size (fun _=>True) aF r1∧aj w0 w' g z r2 r3∧Below w0.heap.size w0 w'∧an w w' g none:=by
 have a7:=ae.mk hI
 have HK:=ae.mk (an.refl w g none)
 have HL:=ae.mk hB.size
 clear hI
 have ba:=ae.mk hB.size
 have HB:=ae.mk hB
 clear hB
 unfold cJ.f at h
 have H:=h
 clear h
 obtain ⟨am,a2⟩:∃ y_:List Int,y_ = (([]:List Int)):=⟨_,rfl⟩
 replace H:(cJ.l0 k a1 am 0 z a4 a5) = some (r1,r2,r3):=by (try rw [a2]);exact af.Z
 have a8:=ae.mk a2
 clear a2
 have H':=ae.mk H
 clear H
 go_enter Tryz.func103,Tryz.ntmps103
 go_wp2_with (first | (refine af.lt (Kd.int .i64) 3 7 ?_;intro b4 w3 a9 hb b3 ap;clear b3 ap;(first | rw [← a8.out] at a9 | (simp only [Int.reduceToNat] at a9;rw [← a8.out] at a9));have ar:=ae.mk (Kd.aV a9 (b9 (w:=w) (g:=g) (row:=none) (af.K HK)));replace HK:=ae.mk (an.trans (af.K HK) (an.cW hb g none) (.inl rfl));replace HB:=ae.mk (ax (af.J HB) hb);replace a7:=ae.mk (aj.below af.I hb);clear hb a9))
 go_loopg [5,6] k (fun kq v5 v6 w'=>∃ (a0:List Int) (X:Int) (j:Int) (y:Int),v6 = .int .i64 X∧ae (cJ.l0 kq a1 a0 X z j y = some (r1,r2,r3))∧ae (kq≤k)∧ae (Kd.R (Kd.int .i64) 3 w' w.heap.size (fun _=>True) v5 a0)∧ae (aj w0 w' g z j y)∧ae (an w w' g none)∧ae (Below w0.heap.size w0 w'))
 case atStart=>exact ⟨(am),(0),(a4),(a5),af.F,H',⟨Nat.le_refl _⟩,⟨af.Rw ar.out⟩,⟨af.I⟩,⟨af.K HK⟩,⟨af.J HB⟩⟩
 case round =>
  clear H'
  obtain ⟨a0,X,j,y,rfl,HA,aL,Y,a7,HK,HB⟩:=hrel
  cases gk with
  | zero=>exact absurd HA.out (by simp [cJ.l0])
  | succ k1 =>
   have H:=HA.out
   clear HA
   simp only [cJ.l0] at H
   by_cases c5:X < a1
   ·rw [if_pos c5] at H
    have aO:=decide_eq_true c5
    clear c5
    obtain ⟨⟨a6,aa,ab⟩,A6,H⟩:=af.be H
    (try dsimp only at H)
    obtain ⟨c7,H⟩:=af.ip H
    have aP:=ae.mk c7
    clear c7
    obtain ⟨ao,a3⟩:∃ y_:List Int,y_ = (a0 ++ [wrap64 (a6 - 3)]):=⟨_,rfl⟩
    replace H:(cJ.l0 k1 a1 ao (wrap64 (X+1)) z aa ab) = some (r1,r2,r3):=by (try rw [a3]);exact af.Z
    have aw:=ae.mk a3
    clear a3
    have H':=ae.mk H
    clear H
    go_wp2_with (first | (refine af.gl (some 15) Tryz.func80 #[.pointer (some ⟨g,0,none⟩),.int .i64 9] ?_;(with_reducible refine (aH.calls g z j y 9 a6 aa ab w0 _ ?side1 ?side2 A6.out).mono ?_);(case side1=>exact af.I);(case side2=>exact af.J HB);rintro e w8 ⟨rfl,hi,hb,hk⟩;refine ⟨_,rfl,?_⟩;replace Y:=ae.mk (Kd.aC (Kd.dA (aj.apart (show aj w0 _ g z j y from af.I) (af.Rw Y.out) (by decide)) hk (fun _ h=>h.2)) (fun _ h=>h.1));replace HK:=ae.mk (an.trans (af.K HK) hk (.inl rfl));replace HB:=ae.mk hb;replace a7:=ae.mk hi;(try clear hb);(try clear bc);(try clear hk);(try clear hi)) | ((with_reducible refine cP (b:=.append) (xs:=#[.tmp 13,.tmp 17]) rfl ?_);at_builtin;refine Kd.eE (Kd.int .i64) w.heap.size rfl (.tmp 13) (.tmp 17) 28 3 (.int .i64 0) 8 rfl Tryz.underlying28 eI rfl (by decide) (by omega) u5 a0 (wrap64 (a6 - 3)) [.int .i64 (wrap64 (a6 - 3))] (fun _=>True) (fun _=>False) rfl rfl (by exact rfl) (fun _ hk=>hk.elim) (by exact fun _ _=>trivial) (by exact af.Rw Y.out) (Below.refl _ _) (by exact b9 (w:=w) (g:=g) (row:=none) (af.K HK)) (by have:=aP.out;omega) ?_;intro b5 w9 ho hb hg hat;rw [← aw.out] at ho;have aR:=ae.mk (aj.grown af.I hg (aj.fU a7.out Y.out (by decide)));have aS:=ae.mk (gy (af.J HB) HL.out hb);have b0:=ae.mk (an.trans (af.K HK) (an.iu hg g) (Kd.jV Y.out));have b2:=ae.mk ho;clear a7;clear HB;clear HK;clear Y;have a7:=aR;have HB:=aS;have HK:=b0;have aB:=b2;clear aR aS b0 b2;clear ho hb hg hat))
    go_roundg k1
    case measure=>have:=aL.out;omega
    case rel=>exact ⟨(ao),(wrap64 (X+1)),(aa),(ab),af.F,H',⟨by have:=aL.out;omega⟩,⟨af.Rw aB.out⟩,⟨af.I⟩,⟨af.K HK⟩,⟨af.J HB⟩⟩
   ·rw [if_neg c5] at H
    have aO:decide (X < a1) = false:=decide_eq_false c5
    clear c5
    simp only [Option.some.injEq,Prod.mk.injEq] at H
    obtain ⟨rfl,rfl,rfl⟩:=H
    go_wp2
    go_ret
    exact ⟨_,af.E,by (with_reducible repeat (first | apply Kd.cH | apply Kd.cI | apply Kd.bl));exact Y.out,af.I,af.J HB,af.K HK⟩
def dR.f (k:Nat) (l0:List Int):Option (List Int×Int):=(dj.f k l0).bind fun j=>((aH.f j.1 j.2.1 j.2.2 6).bind fun y=>((cJ.f k j.1 y.2.1 y.2.2 y.1).bind fun z=>((aH.f j.1 z.2.1 z.2.2 11).bind fun X=>(some (z.1,wrap64 (X.1 - 5))))))
set_option maxHeartbeats 8000000 in
set_option maxRecDepth 100000 in
theorem dR.calls (k:Nat) (A0:Option Addr) (c0:Nat) (l0:List Int) (r1:List Int) (r2:Int) (w:World) (a7:Kd.C (Kd.int .u8) w A0 l0.length l0) (a8:l0.length≤c0) (h:dR.f k l0 = some (r1,r2)) :
  Calls Tryz.prog 31 #[.slice A0 l0.length c0] w fun e w'=>∃ a9:Value,e = .returned (.tuple #[a9,.int .i64 r2])∧Kd.R (Kd.int .i64) 3 w' w.heap.size (fun _=>True) a9 r1∧Below w.heap.size w w':=by
 have ar:=ae.mk a7
 have aw:=ae.mk a8
 clear a7 a8
 have HB:=ae.mk (Below.refl w.heap.size w)
 unfold dR.f at h
 have H:=h
 clear h
 obtain ⟨⟨y,a3,a4⟩,A2,H⟩:=af.be H
 (try dsimp only at H)
 obtain ⟨⟨Y,a5,a6⟩,A3,H⟩:=af.be H
 (try dsimp only at H)
 obtain ⟨⟨aa,a0,a1⟩,A4,H⟩:=af.be H
 (try dsimp only at H)
 obtain ⟨⟨ab,am,ao⟩,A5,H⟩:=af.be H
 (try dsimp only at H)
 simp only [Option.some.injEq,Prod.mk.injEq] at H
 obtain ⟨rfl,rfl⟩:=H
 go_enter Tryz.func31,Tryz.ntmps31
 go_wp2_with (first | (refine af.gl (some 7) Tryz.func74 #[.slice A0 l0.length c0] ?_;(with_reducible refine (dj.calls k _ _ l0 y a3 a4 w _ ?side1 ?side2 ?side3 A2.out).mono ?_);(case side1=>exact af.J HB);(case side2=>exact ar.out);(case side3=>exact aw.out);rintro e w6 ⟨j,rfl,hi,hb,a2⟩;refine ⟨_,rfl,?_⟩;replace HB:=ae.mk hb;have z:=ae.mk hi;(try clear hb);(try clear a2);(try clear hk);(try clear hi)) | (refine af.gl (some 10) Tryz.func80 #[.pointer (some ⟨j,0,none⟩),.int .i64 6] ?_;(with_reducible refine (aH.calls j y a3 a4 6 Y a5 a6 w _ ?side1 ?side2 A3.out).mono ?_);(case side1=>exact af.I);(case side2=>exact af.J HB);rintro e w7 ⟨rfl,hi,hb,hk⟩;refine ⟨_,rfl,?_⟩;replace HB:=ae.mk hb;replace z:=ae.mk hi;(try clear hb);(try clear a2);(try clear hk);(try clear hi)) | (refine af.gl (some 11) Tryz.func103 #[.pointer (some ⟨j,0,none⟩),.int .i64 Y] ?_;(with_reducible refine (cJ.calls k j y a5 a6 Y aa a0 a1 w _ ?side1 ?side2 A4.out).mono ?_);(case side1=>exact af.I);(case side2=>exact af.J HB);rintro e w8 ⟨aB,rfl,ap,hi,hb,hk⟩;refine ⟨_,rfl,?_⟩;have X:=ae.mk (Kd.aV ap (av (af.J HB)));replace HB:=ae.mk hb;replace z:=ae.mk hi;(try clear hb);(try clear a2);(try clear hk);(try clear hi);(try clear ap)) | (refine af.gl (some 14) Tryz.func80 #[.pointer (some ⟨j,0,none⟩),.int .i64 11] ?_;(with_reducible refine (aH.calls j y a0 a1 11 ab am ao w _ ?side1 ?side2 A5.out).mono ?_);(case side1=>exact af.I);(case side2=>exact af.J HB);rintro e w9 ⟨rfl,hi,hb,hk⟩;refine ⟨_,rfl,?_⟩;replace X:=ae.mk (Kd.aC (Kd.dA (aj.apart (show aj w _ j y a0 a1 from af.I) (af.Rw X.out) (by decide)) hk (fun _ h=>h.2)) (fun _ h=>h.1));replace HB:=ae.mk hb;replace z:=ae.mk hi;(try clear hb);(try clear a2);(try clear hk);(try clear hi)))
 go_ret2
 exact ⟨_,af.E,by (with_reducible repeat (first | apply Kd.cH | apply Kd.cI | apply Kd.bl));exact X.out,af.J HB⟩
def bP.l0:Nat→List Int→List Int→Int→Int→Int→List Int→Option (List Int)
 | 0,_,_,_,_,_,_=>none
 | k+1,x4,Y,a0,X,j,y=>if X < a0 then (if 0≤X then (if X < (Y.length:Int) then ((bR.f k j y (rd Y X)).bind fun z=>(if 0≤z then (if z < (x4.length:Int) then (bP.l0 k (x4.set (z:Int).toNat (wrap64 ((rd x4 z)+1))) Y a0 (wrap64 (X+1)) j y) else (none)) else (none))) else (none)) else (none)) else (some x4)
def bP.f (k:Nat) (y:Int) (z:List Int):Option (List Int):=(dm.f k y z).bind fun j=>(if j < 0 then (some ([]:List Int)) else (if 0≤(wrap64 (j+1)) then (if (wrap64 (j+1):Int).toNat≤35184372088832 then ((eV.f k y z).bind fun X=>(bP.l0 k (List.replicate (wrap64 (j+1):Int).toNat 0) X (X.length:Int) 0 y z)) else (none)) else (none)))
set_option maxHeartbeats 8000000 in
set_option maxRecDepth 100000 in
theorem bP.calls (k:Nat) (z:Int) (a3:Option Addr) (a4:Nat) (y:List Int) (r:List Int) (w:World) (aF:Kd.C (Kd.int .i64) w a3 y.length y) (aL:y.length≤a4) (h:bP.f k z y = some r) :
  Calls Tryz.prog 32 #[.agg #[.int .i64 z,.slice a3 y.length a4]] w fun e w'=>∃ d2:Value,e = .returned (d2)∧Kd.R (Kd.int .i64) 3 w' w.heap.size (fun _=>True) d2 r∧Below w.heap.size w w':=by
 have eQ:=Tryz.underlying30
 have a7:=ae.mk aF
 have a8:=ae.mk aL
 clear aF aL
 have HB:=ae.mk (Below.refl w.heap.size w)
 unfold bP.f at h
 have H:=h
 clear h
 obtain ⟨a6,A2,H⟩:=af.be H
 (try dsimp only at H)
 by_cases c3:a6 < 0
 ·rw [if_pos c3] at H
  have d3:=decide_eq_true c3
  clear c3
  obtain rfl:=Option.some.inj H
  go_enter Tryz.func32,Tryz.ntmps32
  go_wp2_with (first | (refine af.bx 1 #[.int .i64 z,.slice a3 y.length a4] 30 ?_;intro ap hg w4 hbox hb;have j:=ae.mk hbox;have c0:=af.gw hg HB;have c1:=af.gw hg HB;replace HB:=af.lb HB hb;clear hb hbox hg;obtain ⟨e7,e8,ea,eb⟩:=af.bw j.out) | (refine af.gl (some 8) Tryz.func93 #[.agg #[.int .i64 z,.slice a3 y.length a4]] ?_;(with_reducible refine (dm.calls k z _ _ y a6 _ ?side1 ?side2 A2.out).mono ?_);(case side1=>exact af.Cw (Kd.aT a7.out HB.out));(case side2=>exact a8.out);rintro e w6 ⟨rfl,hb⟩;refine ⟨_,rfl,?_⟩;replace j:=af.bb j hb;replace HB:=af.lb HB hb;(try clear hb);(try clear ca);(try clear hk);(try clear hi)))
  go_ret
  exact ⟨_,af.E,af.N,af.L⟩
 ·rw [if_neg c3] at H
  have d3:decide (a6 < 0) = false:=decide_eq_false c3
  clear c3
  obtain ⟨a9,ab⟩:∃ j_:Int,(wrap64 (a6+1)) = j_:=⟨_,rfl⟩
  replace H:(if 0≤(a9) then (if (a9:Int).toNat≤35184372088832 then ((eV.f k z y).bind fun X=>(bP.l0 k (List.replicate (a9:Int).toNat 0) X (X.length:Int) 0 z y)) else (none)) else (none)) = some r:=by first | (rw [ab] at H;exact H) | (simp only [ab] at H ⊢;exact H)
  (try rw [ab] at A2)
  have ee:(IntKind.i64.wrap (a6+1)) = a9:=(aM _).trans ab
  obtain ⟨c8,H⟩:=af.ip H
  have f0:=eq_true c8
  have f1:decide (0≤(a9)) = true:=decide_eq_true c8
  clear c8
  obtain ⟨c9,H⟩:=af.ip H
  have f2:=eq_true c9
  have f3:decide ((a9:Int).toNat≤35184372088832) = true:=decide_eq_true c9
  clear c9
  obtain ⟨bc,ar⟩:∃ y_:List Int,y_ = (List.replicate (a9:Int).toNat 0):=⟨_,rfl⟩
  replace H:((eV.f k z y).bind fun X=>(bP.l0 k bc X (X.length:Int) 0 z y)) = some r:=by (try rw [ar]);exact af.Z
  have aO:=ae.mk ar
  clear ar
  obtain ⟨X,ef,H⟩:=af.be H
  (try dsimp only at H)
  have H':=ae.mk H
  clear H
  go_enter Tryz.func32,Tryz.ntmps32
  go_wp2_with (first | (refine af.bx 1 #[.int .i64 z,.slice a3 y.length a4] 30 ?_;intro ap hg fi hbox hb;have j:=ae.mk hbox;have c0:=af.gw hg HB;have c1:=af.gw hg HB;replace HB:=af.lb HB hb;clear hb hbox hg;obtain ⟨d4,d5,d6,d7⟩:=af.bw j.out) | (refine af.gl (some 8) Tryz.func93 #[.agg #[.int .i64 z,.slice a3 y.length a4]] ?_;(with_reducible refine (dm.calls k z _ _ y a6 _ ?side1 ?side2 A2.out).mono ?_);(case side1=>exact af.Cw (Kd.aT a7.out HB.out));(case side2=>exact a8.out);rintro e fj ⟨rfl,hb⟩;refine ⟨_,rfl,?_⟩;replace j:=af.bb j hb;replace HB:=af.lb HB hb;(try clear hb);(try clear ca);(try clear hk);(try clear hi)) | ((with_reducible refine bh (N:=13) rfl ?_);refine Kd.lq (Kd.int .i64) _ 3 rfl (N:=13) rfl 28 _ _ rfl a9 rfl rfl Tryz.underlying28 (.int .i64 0) 8 eI rfl (by decide) (by omega) 0 (ok:=fun _=>True) (okp:=fun _=>True) rfl (fun _ hk=>hk) trivial (af.D) (Nat.le_trans (Nat.mul_le_mul_right _ (af.D:a9.toNat≤35184372088832)) (by omega)) (Below.refl _ _) (Nat.le_refl _) ?_;intro bi fp am hb eh cb;clear eh cb;(first | rw [← aO.out] at am | (simp only [Int.reduceToNat] at am;rw [← aO.out] at am));have aa:=ae.mk (Kd.aV am (av (af.Lw HB.out)));replace j:=af.bb j hb;replace HB:=af.lb HB hb;clear hb am;obtain ⟨d8,d9,db,dd⟩:=af.bw j.out) | (refine af.gl (some 15) Tryz.func104 #[.agg #[.int .i64 z,.slice a3 y.length a4]] ?_;(with_reducible refine (eV.calls k z _ _ y X _ ?side1 ?side2 ef.out).mono ?_);(case side1=>exact af.Cw (Kd.aT a7.out HB.out));(case side2=>exact a8.out);rintro e fs ⟨f4,rfl,cc,hb⟩;refine ⟨_,rfl,?_⟩;have aP:=ae.mk (Kd.aV (Kd.br cc (Kd.cK (af.Rw aa.out))) (av (af.Lw HB.out)));replace aa:=ae.mk (Kd.aQ (af.Rw aa.out) (Kd.bn cc) hb);replace j:=af.bb j hb;replace HB:=af.lb HB hb;(try clear hb);(try clear ca);(try clear hk);(try clear hi);(try clear cc);obtain ⟨bm,aR,df⟩:=Kd.aK aP.out;subst df))
  go_loopg [17] k (fun kq ei w'=>∃ (a1:List Int) (a0:Int),ei = .int .i64 a0∧ae (bP.l0 kq a1 X (X.length:Int) a0 z y = some r)∧ae (kq≤k)∧ae (Kd.R (Kd.int .i64) 3 w' w.heap.size (fun k_=>some k_≠((.slice bm X.length aR):Value).ownBlock) bi a1)∧ae (Kd.R (Kd.int .i64) 3 w' w.heap.size (fun k_=>some k_≠(bi:Value).ownBlock) (.slice bm X.length aR) X)∧ae (w'.heap[ap]? = some (.cells #[.int .i64 z,(.slice a3 y.length a4)] 30 (0,0)))∧ae (Below w.heap.size w w'))
  case atStart=>exact ⟨(bc),(0),af.F,H',⟨Nat.le_refl _⟩,⟨af.Rw (Kd.aC aa.out (fun _ hk=>hk.2))⟩,⟨af.Rw (Kd.aC aP.out (fun _ hk=>hk.2))⟩,⟨af.Bw j.out⟩,⟨af.Lw HB.out⟩⟩
  case round =>
   clear H'
   obtain ⟨a1,a0,rfl,HA,dk,a2,a5,j,HB⟩:=hrel
   cases gk with
   | zero=>exact absurd HA.out (by simp [bP.l0])
   | succ k1 =>
    have H:=HA.out
    clear HA
    simp only [bP.l0] at H
    by_cases aB:a0 < (X.length:Int)
    ·rw [if_pos aB] at H
     have ce:=decide_eq_true aB
     clear aB
     obtain ⟨dl,H⟩:=af.ip H
     have ej:=decide_eq_true dl
     clear dl
     obtain ⟨dp,H⟩:=af.ip H
     have el:=decide_eq_true dp
     clear dp
     obtain ⟨Y,em,H⟩:=af.be H
     (try dsimp only at H)
     obtain ⟨dq,H⟩:=af.ip H
     have eo:=decide_eq_true dq
     clear dq
     obtain ⟨dt,H⟩:=af.ip H
     have eq:=decide_eq_true dt
     clear dt
     obtain ⟨aS,aw⟩:∃ y_:List Int,y_ = (a1.set (Y:Int).toNat (wrap64 ((rd a1 Y)+1))):=⟨_,rfl⟩
     replace H:(bP.l0 k1 aS X (X.length:Int) (wrap64 (a0+1)) z y) = some r:=by (try rw [aw]);exact af.Z
     have cf:=ae.mk aw
     clear aw
     have H':=ae.mk H
     clear H
     obtain ⟨ci,du,dv,f5,f6⟩:=af.ai (Kd.ah a5.out).2.2 a0
     cases du
     obtain ⟨dC,dE,dT,e0⟩:=af.bw j.out
     go_wp2_with (first | (refine af.gl (some 24) Tryz.func102 #[.agg #[.int .i64 z,.slice a3 y.length a4],.int .i64 (rd X a0)] ?_;(with_reducible refine (bR.calls k1 z _ _ y (rd X a0) Y _ ?side1 ?side2 em.out).mono ?_);(case side1=>exact af.Cw (Kd.aT a7.out HB.out));(case side2=>exact a8.out);rintro e e1 ⟨rfl,hb⟩;refine ⟨_,rfl,?_⟩;replace a2:=af.rb a2 hb;replace a5:=af.rb a5 hb;replace j:=af.bb j hb;replace HB:=af.lb HB hb;(try clear hb);(try clear ca);(try clear hk);(try clear hi);obtain ⟨f7,b0,e2⟩:=Kd.aK a2.out;subst e2;have b2:0≤(Y:Int):=af.D;have b3:Y < (a1.length:Int):=af.D;obtain ⟨es,e3,b4⟩:=Kd.ey (Kd.ah a2.out).2.2 Y b2 b3;cases e3;replace b2:=eq_true b2;replace b3:=eq_true b3;have cp:0≤(Y:Int):=af.D;have d0:(Y:Int) < ((a1.length:Int):Int):=af.D;obtain ⟨ao,f8,bo,bs,e4,f9,bv⟩:=Kd.jr a2.out (by omega);(first | cases bo | (injection bo with ba et ev;(first | subst ba | (injection ba with ba;subst ba));subst ev;clear et));have e5:=ae.mk bs;have fd:=ae.mk bv;clear bs e4 bv;(first | simp only [add_plain] at b4 | skip);obtain ⟨ec,ed⟩:=Kd.gA 0 a2.out (Y:Int) cp d0;replace cp:=eq_true cp;replace d0:=eq_true d0;obtain ⟨ew,ex⟩:=Kd.gA 0 a2.out (Y:Int) (af.D) (af.D);have b5:=Kd.kF a2.out (Y:Int) (wrap64 ((rd a1 Y)+1))) | ((with_reducible refine gf (t:=3) (p:=28) rfl ?_);refine fM (t:=3) (p:=28) (v:=?vo_w30) (w1:=(e1.setCell ⟨ao,(Y:Int).toNat,none⟩ (.int .i64 (wrap64 ((rd a1 Y)+1))))) ?hg ?ho ?hn ?hr ?_;(case ho=>rfl);(case hg=>rfl);(case hn=>rfl);(case hr=>first | (go_simp;done) | (go_simp;rfl));intro d1 hw;have hg:e1.grownBy d1 (some ao):=(by rw [hw];exact b5.2);have e6:Kd.R (Kd.int .i64) 3 d1 w.heap.size (fun k_=>some k_≠(.slice (some ci) X.length aR:Value).ownBlock) (.slice (some ⟨ao,0,none⟩) a1.length b0) aS:=(by rw [hw,cf.out];exact b5.1);clear b5;replace a5:=ae.mk (Kd.dO (v:=(.slice (some ⟨ao,0,none⟩) a1.length b0)) (v1:=(.slice (some ⟨ao,0,none⟩) a1.length b0)) (ok:=(fun _=>True)) (af.Rw (Kd.aC a5.out (fun _ hk=>⟨trivial,hk⟩))) hg (.inl rfl));replace j:=ae.mk (dJ (g:=ap) (o:=.cells #[.int .i64 z,.slice a3 y.length a4] 30 (0,0)) (af.Bw j.out) hg (Kd.fS a2.out j.out (by decide)));replace a2:=ae.mk e6;replace HB:=ae.mk ((by rw [hw];exact dP (HB.out) e5.out:Below w.heap.size w d1));clear hg hw e6))
     go_roundg k1
     case measure=>have:=dk.out;omega
     case rel=>exact ⟨(aS),(wrap64 (a0+1)),af.F,H',⟨by have:=dk.out;omega⟩,⟨af.Rw a2.out⟩,⟨af.Rw (Kd.aC a5.out (fun _ hk=>hk.2))⟩,⟨af.Bw j.out⟩,⟨af.Lw HB.out⟩⟩
    ·rw [if_neg aB] at H
     have ce:decide (a0 < (X.length:Int)) = false:=decide_eq_false aB
     clear aB
     obtain rfl:=Option.some.inj H
     go_wp2
     go_ret
     exact ⟨_,by first | rfl | (simp [dK,dL] <;> rfl) | (simp only [← ab];first | rfl | (simp [dK,dL] <;> rfl)) | (simp [*,dK,dL] <;> rfl),by (with_reducible repeat (first | apply Kd.cH | apply Kd.cI | apply Kd.bl));exact Kd.aC a2.out (fun _ hk=>trivial),af.L⟩
end Go.Proofs.YtmpodackojmojaaGreat.Pr
end
