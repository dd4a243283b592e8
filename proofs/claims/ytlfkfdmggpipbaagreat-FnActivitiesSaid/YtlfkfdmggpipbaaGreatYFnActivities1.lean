/- The claim FnActivities: every text that its row comes to, laid together by slim.py (the words of the kit's print, the printed walks, the pure law, the row). -/
import Derived.Test.YtlfkfdmggpipbaaGreatYFnActivities0
namespace Go.Proofs.YtlfkfdmggpipbaaGreat
section
namespace Pr
open Go.RowKit ag.aZ ag.bR ag.bT
attribute [local go_sem] js jt kr ku iU iV ju jv
set_option linter.unusedVariables false
set_option linter.unusedSimpArgs false
def aJ.f (j:List Int) (a2:Int) (a3:Int) (a1:Int):Option (Int×Int×Int):=if a1≤0 then (some (0,a2,a3)) else (if a1≤256 then ((eA.f j a2 a3).bind fun y=>(if a1 = 0 then (none) else (some (Int.tmod y.1 a1,y.2.1,y.2.2)))) else ((eA.f j a2 a3).bind fun z=>((eA.f j z.2.1 z.2.2).bind fun X=>((eA.f j X.2.1 X.2.2).bind fun Y=>((eA.f j Y.2.1 Y.2.2).bind fun a0=>(if a1 = 0 then (none) else (some (Int.tmod (wrap64 ((wrap64 ((wrap64 ((wrap64 (z.1 * 16777216))+(wrap64 (X.1 * 65536))))+(wrap64 (Y.1 * 256))))+a0.1)) a1,a0.2.1,a0.2.2))))))))
set_option maxHeartbeats 8000000 in
set_option maxRecDepth 100000 in
theorem aJ.calls (g:Nat) (j:List Int) (y:Int) (z:Int) (X:Int) (r1:Int) (r2:Int) (r3:Int) (w0 w:World) (hI:aG w0 w g j y z) (hB:Below w0.heap.size w0 w) (h:aJ.f j y z X = some (r1,r2,r3)) :
  Calls Tryz.prog 122 #[.pointer (some ⟨g,0,none⟩),.int .i64 X] w fun e w'=>e = .returned (.int .i64 r1)∧aG w0 w' g j r2 r3∧Below w0.heap.size w0 w'∧an w w' g none:=by
 have Y:=ae.mk hI;have HK:=ae.mk (an.refl w g none);have HL:=ae.mk hB.size;clear hI;have ab:=ae.mk hB.size;have HB:=ae.mk hB;clear hB;unfold aJ.f at h;have H:=h;clear h;by_cases c3:X≤0
 ·rw [if_pos c3] at H
  have a3:=decide_eq_true c3;clear c3;simp only [Option.some.injEq,Prod.mk.injEq] at H;obtain ⟨rfl,rfl,rfl⟩:=H;go_enter Tryz.func122,Tryz.ntmps122;go_wp2;go_ret;exact ⟨zd,xr,yr HB,y6 HK⟩
 ·rw [if_neg c3] at H
  have a3:decide (X≤0) = false:=decide_eq_false c3;clear c3;by_cases c4:X≤256
  ·rw [if_pos c4] at H
   have a4:=decide_eq_true c4;clear c4;obtain ⟨⟨t162,t163,t164⟩,A5,H⟩:=xa H;(try dsimp only at H);by_cases c6:X = 0
   ·rw [if_pos c6] at H
    exact absurd H (by simp)
   ·rw [if_neg c6] at H
    have a9:(X == 0) = false:=beq_eq_false_iff_ne.mpr c6;have aa:(X != 0) = true:=bne_iff_ne.mpr c6;simp only [Option.some.injEq,Prod.mk.injEq] at H;obtain ⟨rfl,rfl,rfl⟩:=H;go_enter Tryz.func122,Tryz.ntmps122;go_wp2_with (first | (refine ws (some 14) Tryz.func178 #[.pointer (some ⟨g,0,none⟩)] ?_;(with_reducible refine (eA.calls g j y z t162 t163 t164 w0 _ ?side1 ?side2 A5.out).mono ?_);(case side1=>exact xr);(case side2=>exact yr HB);rintro e w7 ⟨rfl,hi,hb,hk⟩;refine ⟨_,rfl,?_⟩;replace HK:=ae.mk (an.trans (y6 HK) hk (.inl rfl));replace HB:=ae.mk hb;replace Y:=ae.mk hi;(try clear hb);(try clear a0);(try clear hk);(try clear hi)));go_ret;exact ⟨zd,xr,yr HB,y6 HK⟩
  ·rw [if_neg c4] at H
   have a4:decide (X≤256) = false:=decide_eq_false c4;clear c4;obtain ⟨⟨t165,t166,t167⟩,A8,H⟩:=xa H;(try dsimp only at H);obtain ⟨⟨t168,t169,t170⟩,A9,H⟩:=xa H;(try dsimp only at H);obtain ⟨⟨t171,t172,t173⟩,a5,H⟩:=xa H;(try dsimp only at H);obtain ⟨⟨t174,t175,t176⟩,a6,H⟩:=xa H;(try dsimp only at H);by_cases a2:X = 0
   ·rw [if_pos a2] at H
    exact absurd H (by simp)
   ·rw [if_neg a2] at H
    have a7:(X == 0) = false:=beq_eq_false_iff_ne.mpr a2;have a8:(X != 0) = true:=bne_iff_ne.mpr a2;simp only [Option.some.injEq,Prod.mk.injEq] at H;obtain ⟨rfl,rfl,rfl⟩:=H;go_enter Tryz.func122,Tryz.ntmps122;go_wp2_with (first | (refine ws (some 18) Tryz.func178 #[.pointer (some ⟨g,0,none⟩)] ?_;(with_reducible refine (eA.calls g j y z t165 t166 t167 w0 _ ?side1 ?side2 A8.out).mono ?_);(case side1=>exact xr);(case side2=>exact yr HB);rintro e am ⟨rfl,hi,hb,hk⟩;refine ⟨_,rfl,?_⟩;replace HK:=ae.mk (an.trans (y6 HK) hk (.inl rfl));replace HB:=ae.mk hb;replace Y:=ae.mk hi;(try clear hb);(try clear a0);(try clear hk);(try clear hi)) | (refine ws (some 20) Tryz.func178 #[.pointer (some ⟨g,0,none⟩)] ?_;(with_reducible refine (eA.calls g j t166 t167 t168 t169 t170 w0 _ ?side1 ?side2 A9.out).mono ?_);(case side1=>exact xr);(case side2=>exact yr HB);rintro e ao ⟨rfl,hi,hb,hk⟩;refine ⟨_,rfl,?_⟩;replace HK:=ae.mk (an.trans (y6 HK) hk (.inl rfl));replace HB:=ae.mk hb;replace Y:=ae.mk hi;(try clear hb);(try clear a0);(try clear hk);(try clear hi)) | (refine ws (some 22) Tryz.func178 #[.pointer (some ⟨g,0,none⟩)] ?_;(with_reducible refine (eA.calls g j t169 t170 t171 t172 t173 w0 _ ?side1 ?side2 a5.out).mono ?_);(case side1=>exact xr);(case side2=>exact yr HB);rintro e ap ⟨rfl,hi,hb,hk⟩;refine ⟨_,rfl,?_⟩;replace HK:=ae.mk (an.trans (y6 HK) hk (.inl rfl));replace HB:=ae.mk hb;replace Y:=ae.mk hi;(try clear hb);(try clear a0);(try clear hk);(try clear hi)) | (refine ws (some 24) Tryz.func178 #[.pointer (some ⟨g,0,none⟩)] ?_;(with_reducible refine (eA.calls g j t172 t173 t174 t175 t176 w0 _ ?side1 ?side2 a6.out).mono ?_);(case side1=>exact xr);(case side2=>exact yr HB);rintro e ar ⟨rfl,hi,hb,hk⟩;refine ⟨_,rfl,?_⟩;replace HK:=ae.mk (an.trans (y6 HK) hk (.inl rfl));replace HB:=ae.mk hb;replace Y:=ae.mk hi;(try clear hb);(try clear a0);(try clear hk);(try clear hi)));go_ret;exact ⟨zd,xr,yr HB,y6 HK⟩
def b9.l0:Nat→Int→Int→Option (Int)
 | 0,_,_=>none
 | k+1,j,y=>if j > 0 then (b9.l0 k (j / 2) (wrap64 (y+(Go.bits .and .i64 j 1)))) else (some y)
def b9.f (k:Nat) (a0:Int):Option (Int):=(bL.f 8 a0).bind fun t150=>(if t150 = true then (b9.l0 k a0 0) else (some 0))
theorem b9.dj:∀ k,af.S2 b9.l0 k
 | 0=>by and_intros <;> (repeat intro _) <;> exact AN rfl
 | k+1=>by
  have j:=b9.dj k;and_intros <;> (repeat intro _) <;> unfold b9.l0 <;> exact ⟨AI⟩
theorem b9.mono:∀ a0 k,gW (b9.f k a0) (b9.f (k+1) a0):=by
 intro a0 k;have j:=b9.dj k;unfold b9.f;exact AI
set_option maxHeartbeats 8000000 in
set_option maxRecDepth 100000 in
theorem b9.calls (k:Nat) (a0:Int) (r:Int) (w:World) (h:b9.f k a0 = some r) :
  Calls Tryz.prog 59 #[.int .i64 a0] w fun e w'=>e = .returned (.int .i64 r)∧cT w w':=by
 unfold b9.f at h;have H:=h;clear h;obtain ⟨t150,Y,H⟩:=xa H;(try dsimp only at H);by_cases c3:t150 = true
 ·subst c3
  replace H:(b9.l0 k a0 0) = some r:=by rw [if_pos rfl] at H;exact H
  have H':=ae.mk H;clear H;go_enter Tryz.func59,Tryz.ntmps59;go_wp2_with (first | (refine ws (some 5) Tryz.func96 #[.int .i64 8,.int .i64 a0] ?_;(with_reducible refine (bL.calls 8 a0 true _ Y.out).mono ?_);rintro e w' ⟨rfl,⟨nd,rfl⟩⟩;refine ⟨_,rfl,?_⟩));go_loopg [0,3] k (fun kq v0 v3 w'=>∃ (j:Int) (y:Int),v0 = .int .i64 j∧v3 = .int .i64 y∧ae (b9.l0 kq j y = some r)∧ae (kq≤k)∧cT w w')
  case atStart=>exact ⟨(a0),(0),ww,ww,H',⟨Nat.le_refl _⟩,zt⟩
  case round =>
   clear H';obtain ⟨j,y,rfl,rfl,HA,z,⟨m1,rfl⟩⟩:=hrel;cases gk with
   | zero=>exact absurd HA.out (by simp [b9.l0])
   | succ k1 =>
    have H:=HA.out;clear HA;simp only [b9.l0] at H;by_cases c4:j > 0
    ·rw [if_pos c4] at H
     have X:=decide_eq_true c4;clear c4;have H':=ae.mk H;clear H;go_wp2;go_roundg k1;case measure=>have:=z.out;omega
     case rel=>exact ⟨(j / 2),(wrap64 (y+(Go.bits .and .i64 j 1))),ww,ww,H',⟨by have:=z.out;omega⟩,zt⟩
    ·rw [if_neg c4] at H
     have X:decide (0 < j) = false:=decide_eq_false c4;clear c4;obtain rfl:=Option.some.inj H;go_wp2;go_ret;exact ⟨ww,zt⟩
 ·replace c3:=Bool.eq_false_iff.mpr c3
  subst c3;replace H:(some 0) = some r:=by rw [if_neg (show ¬ (false = true) by decide)] at H;exact H
  obtain rfl:=Option.some.inj H;go_enter Tryz.func59,Tryz.ntmps59;go_wp2_with (first | (refine ws (some 5) Tryz.func96 #[.int .i64 8,.int .i64 a0] ?_;(with_reducible refine (bL.calls 8 a0 false _ Y.out).mono ?_);rintro e w' ⟨rfl,⟨nd,rfl⟩⟩;refine ⟨_,rfl,?_⟩));go_ret;exact ⟨ww,zt⟩
def cn.f (a0:Int):Option (Int):=(bD.f a0 0 8).bind fun t151=>(if t151 = true then (if 0≤(IntKind.u64.wrap (a0)) then (some (wrap64 ((shl .i64 1 (IntKind.u64.wrap (a0))) - 1))) else (none)) else (some 0))
set_option maxHeartbeats 8000000 in
set_option maxRecDepth 100000 in
theorem cn.calls (a0:Int) (r:Int) (w:World) (h:cn.f a0 = some r) :
  Calls Tryz.prog 83 #[.int .i64 a0] w fun e w'=>e = .returned (.int .i64 r)∧cT w w':=by
 unfold cn.f at h;have H:=h;clear h;obtain ⟨t151,A2,H⟩:=xa H;(try dsimp only at H);by_cases c3:t151 = true
 ·subst c3
  replace H:(if 0≤(IntKind.u64.wrap (a0)) then (some (wrap64 ((shl .i64 1 (IntKind.u64.wrap (a0))) - 1))) else (none)) = some r:=by rw [if_pos rfl] at H;exact H
  obtain ⟨j,X⟩:∃ j_:Int,(IntKind.u64.wrap (a0)) = j_:=⟨_,rfl⟩
  replace H:(if 0≤(j) then (some (wrap64 ((shl .i64 1 (j)) - 1))) else (none)) = some r:=by first | (rw [X] at H;exact H) | (simp only [X] at H ⊢;exact H)
  (try rw [X] at A2);obtain ⟨c5,H⟩:=xt H;have a7:=eq_true c5;have a8:decide (0≤(j)) = true:=decide_eq_true c5;clear c5;obtain ⟨z,y⟩:∃ j_:Int,(shl .i64 1 (j)) = j_:=⟨_,rfl⟩
  replace H:(some (wrap64 ((z) - 1))) = some r:=by first | (rw [y] at H;exact H) | (simp only [y] at H ⊢;exact H)
  (try rw [y] at A2);have Y:(IntKind.i64.wrap (1 * 2 ^ min (j).toNat 64)) = z:=y;have a1:(j)≤64→(IntKind.i64.wrap (1 * 2 ^ (j).toNat)) = z:=eX y;have a3:(IntKind.i64.wrap (2 ^ min (j).toNat 64)) = z:=by have h_:=Y;rw [Int.one_mul] at h_;exact h_
  have a4:(j)≤64→(IntKind.i64.wrap (2 ^ (j).toNat)) = z:=fun a2=>by have h_:=a1 a2;rw [Int.one_mul] at h_;exact h_
  have a5:(wrap64 (1 * 2 ^ min (j).toNat 64)) = z:=(b7 _).symm.trans Y;have a6:(j)≤64→(wrap64 (1 * 2 ^ (j).toNat)) = z:=fun h_=>(b7 _).symm.trans (a1 h_)
  obtain rfl:=Option.some.inj H;go_enter Tryz.func83,Tryz.ntmps83;go_wp2_with (first | (refine ws (some 4) Tryz.func46 #[.int .i64 a0,.int .i64 0,.int .i64 8] ?_;(with_reducible refine (bD.calls a0 0 8 true _ A2.out).mono ?_);rintro e w' ⟨rfl,⟨nd,rfl⟩⟩;refine ⟨_,rfl,?_⟩));go_ret;exact ⟨by first | rfl | (simp;done) | (simp only [← X,← y] <;> (first | rfl | simp)) | (simp [*];done),zt⟩
 ·replace c3:=Bool.eq_false_iff.mpr c3
  subst c3;replace H:(some 0) = some r:=by rw [if_neg (show ¬ (false = true) by decide)] at H;exact H
  obtain rfl:=Option.some.inj H;go_enter Tryz.func83,Tryz.ntmps83;go_wp2_with (first | (refine ws (some 4) Tryz.func46 #[.int .i64 a0,.int .i64 0,.int .i64 8] ?_;(with_reducible refine (bD.calls a0 0 8 false _ A2.out).mono ?_);rintro e w' ⟨rfl,⟨nd,rfl⟩⟩;refine ⟨_,rfl,?_⟩));go_ret;exact ⟨ww,zt⟩
mutual
def bV.j0:Nat→Int→Int→Bool→Option (Int×List Int)
 | 0,_,_,_=>none
 | k+1,X,z,a0=>if a0 = true then (some (0,([]:List Int))) else (bV.l0 k X z 0 z ([]:List Int))
def bV.l0:Nat→Int→Int→Int→Int→List Int→Option (Int×List Int)
 | 0,_,_,_,_,_=>none
 | k+1,X,z,Y,y,j=>(cn.f z).bind fun t156=>(if Y≤t156 then ((b9.f k Y).bind fun t157=>(if t157 = X then (if j.length < 17592186044416 then (bV.l0 k X z (wrap64 (Y+1)) y (j ++ [Y])) else (none)) else (bV.l0 k X z (wrap64 (Y+1)) y j))) else (some (y,j)))
end
def bV.f (k:Nat) (a0:Int) (j:Int):Option (Int×List Int):=(bD.f j 0 8).bind fun t153=>(if t153 = true then ((bD.f a0 0 j).bind fun t154=>(bV.j0 k a0 j (!t154))) else (bV.j0 k a0 j true))
set_option maxHeartbeats 8000000 in
set_option maxRecDepth 100000 in
theorem bV.calls (k:Nat) (a0:Int) (a1:Int) (r1:Int) (r2:List Int) (w:World) (h:bV.f k a0 a1 = some (r1,r2)) :
  Calls Tryz.prog 105 #[.int .i64 a0,.int .i64 a1] w fun e w'=>∃ ce:Value,e = .returned (.agg #[.int .i64 r1,ce])∧Kd.R (Kd.int .i64) 3 w' w.heap.size (fun _=>True) ce r2∧Below w.heap.size w w':=by
 have ed:=Tryz.underlying37;have HB:=ae.mk (Below.refl w.heap.size w);unfold bV.f at h;have H:=h;clear h;have bo:=ae.mk H;clear H;go_enter Tryz.func105,Tryz.ntmps105;go_upto_region 1 with (first | ((with_reducible refine bu (N:=4) rfl ?_);refine zp 4 #[.int .i64 0,.slice none 0 0] 37 ?_;intro a2 hg w4 hbox hb;have j:=ae.mk hbox;have dT:=yv hg HB;have e0:=yv hg HB;replace HB:=xi HB hb;clear hb hbox hg))
 (try simp only [Act.put,List.setIfInBounds_toArray,List.set_cons_zero,List.set_cons_succ]);go_cut [15] (fun e1 wc=>∃ (kq:Nat) (aO:Bool),e1 = .bool aO∧ae (bV.j0 kq a0 a1 aO = some (r1,r2))∧ae (kq≤k)∧ae (wc.heap[a2]? = some (.cells #[.int .i64 0,(.slice none 0 0)] 37 (0,0)))∧ae (Below w.heap.size w wc))
 case first =>
  have H:=bo.out;clear bo;obtain ⟨t153,A5,H⟩:=xa H;(try dsimp only at H);by_cases c6:t153 = true
  ·subst c6
   replace H:((bD.f a0 0 a1).bind fun t154=>(bV.j0 k a0 a1 (!t154))) = some (r1,r2):=by rw [if_pos rfl] at H;exact H
   obtain ⟨t154,A7,H⟩:=xa H;(try dsimp only at H);have H':=ae.mk H;clear H;go_wp2_with (first | ((with_reducible refine aD (f:=46) rfl ?_);refine ws (some 8) Tryz.func46 #[.int .i64 a1,.int .i64 0,.int .i64 8] ?_;(with_reducible refine (bD.calls a1 0 8 true _ A5.out).mono ?_);rintro e w' ⟨rfl,⟨nd,rfl⟩⟩;refine ⟨_,rfl,?_⟩) | (go_at_call 46;(with_reducible refine (bD.calls a0 0 a1 t154 _ A7.out).mono ?_);rintro e w' ⟨rfl,⟨nd,rfl⟩⟩));go_meet
   case rel=>exact ⟨_,(!t154),ww,H',⟨by first | omega | exact Nat.le_refl _⟩,⟨xf j.out⟩,⟨wy⟩⟩
  ·replace c6:=Bool.eq_false_iff.mpr c6
   subst c6;replace H:(bV.j0 k a0 a1 true) = some (r1,r2):=by rw [if_neg (show ¬ (false = true) by decide)] at H;exact H
   have H':=ae.mk H;clear H;go_wp2_with (first | ((with_reducible refine aD (f:=46) rfl ?_);refine ws (some 8) Tryz.func46 #[.int .i64 a1,.int .i64 0,.int .i64 8] ?_;(with_reducible refine (bD.calls a1 0 8 false _ A5.out).mono ?_);rintro e w' ⟨rfl,⟨nd,rfl⟩⟩;refine ⟨_,rfl,?_⟩));go_meet
   case rel=>exact ⟨_,(true),ww,H',⟨by first | omega | exact Nat.le_refl _⟩,⟨xf j.out⟩,⟨wy⟩⟩
 case rest =>
  clear bo;obtain ⟨kq,aO,rfl,HA,b3,j,HB⟩:=hcut;cases kq with
  | zero=>exact absurd HA.out (by simp [bV.j0])
  | succ bs =>
   have H:=HA.out;clear HA;simp only [bV.j0] at H;by_cases c8:aO = true
   ·subst c8
    replace H:(some (0,([]:List Int))) = some (r1,r2):=by rw [if_pos rfl] at H;exact H
    simp only [Option.some.injEq,Prod.mk.injEq] at H;obtain ⟨rfl,rfl⟩:=H;obtain ⟨du,dv,dC,dE⟩:=xv j.out;go_wp2;refine bodyPost_ret (results_cell_row rfl _ _ a2 37 #[.int .i64 0,.slice none 0 0] (0,0) _ rfl AE Tryz.underlying37 rfl (by kernel_rfl)) rfl ?_;exact ⟨_,zd,af.N,wy⟩
   ·replace c8:=Bool.eq_false_iff.mpr c8
    subst c8;replace H:(bV.l0 bs a0 a1 0 a1 ([]:List Int)) = some (r1,r2):=by rw [if_neg (show ¬ (false = true) by decide)] at H;exact H
    have H':=ae.mk H;clear H;go_wp2_with (first | ((with_reducible refine bu (N:=5) rfl ?_);refine zp 5 #[.int .i64 0,.slice none 0 0] 37 ?_;intro a3 hg ee hbox hb;have z:=ae.mk hbox;have e2:=AM (w:=w) hg wy;have e3:=AM (w:=w) hg wy;replace HB:=ae.mk (aq wy hb);have a6:=AJ hg j;have a7:=AK hg j;replace j:=xc j hb;clear hb hbox hg;have e4:=a7.out;have e5:=a6.out;obtain ⟨cf,ci,cp,cq⟩:=xv z.out));go_loopg [6] bs (fun kq v6 w'=>∃ (a4:Int) (X:List Int) (Y:Value),v6 = .int .i64 a4∧ae (bV.l0 kq a0 a1 a4 a1 X = some (r1,r2))∧ae (kq≤bs)∧ae (Kd.R (Kd.int .i64) 3 w' w.heap.size (fun _=>True) Y X)∧ae (w'.heap[a2]? = some (.cells #[.int .i64 0,(.slice none 0 0)] 37 (0,0)))∧ae (w'.heap[a3]? = some (.cells #[.int .i64 a1,Y] 37 (0,0)))∧ae (Below w.heap.size w w'))
    case atStart=>exact ⟨(0),(([]:List Int)),(.slice none 0 0),ww,H',⟨Nat.le_refl _⟩,⟨af.N⟩,⟨AE⟩,⟨AE⟩,⟨wy⟩⟩
    case round =>
     clear H';obtain ⟨a4,X,Y,rfl,HA,b4,y,j,z,HB⟩:=hrel;cases gk with
     | zero=>exact absurd HA.out (by simp [bV.l0])
     | succ k2 =>
      have H:=HA.out;clear HA;simp only [bV.l0] at H;obtain ⟨t156,bv,H⟩:=xa H;(try dsimp only at H);by_cases b0:a4≤t156
      ·rw [if_pos b0] at H
       have c0:=decide_eq_true b0;clear b0;obtain ⟨t157,cx,H⟩:=xa H;(try dsimp only at H);by_cases aP:t157 = a0
       ·rw [if_pos aP] at H
        have c1:(t157 == a0) = true:=beq_iff_eq.mpr aP;have ca:(t157 != a0) = false:=bne_eq_false_iff_eq.mpr aP;clear aP;obtain ⟨cy,H⟩:=xt H;have cb:=ae.mk cy;clear cy;obtain ⟨aS,aR⟩:∃ y_:List Int,y_ = (X ++ [a4]):=⟨_,rfl⟩
        replace H:(bV.l0 k2 a0 a1 (wrap64 (a4+1)) a1 aS) = some (r1,r2):=by (try rw [aR]);exact AC
        have cc:=ae.mk aR;clear aR;have H':=ae.mk H;clear H;go_wp2_with (first | ((with_reducible refine aD (f:=83) rfl ?_);refine ws (some 21) Tryz.func83 #[.int .i64 a1] ?_;(with_reducible refine (cn.calls a1 t156 _ bv.out).mono ?_);rintro e w' ⟨rfl,⟨nd,rfl⟩⟩;refine ⟨_,rfl,?_⟩;(try (rw [fu wr];generalize a5:World.drewN wr _ = wr;have a8:ae (Kd.R (Kd.int .i64) 3 wr w.heap.size (fun _=>True) Y X):=⟨by rw [← a5];exact (ac y.out)⟩;have a9:ae (wr.heap[a2]? = some (.cells #[.int .i64 0,.slice none 0 0] 37 (0,0))):=⟨by rw [← a5];exact (xf j.out)⟩;have aa:ae (wr.heap[a3]? = some (.cells #[.int .i64 a1,Y] 37 (0,0))):=⟨by rw [← a5];exact (xf z.out)⟩;have ab:ae (Below w.heap.size w wr):=⟨by rw [← a5];exact wy⟩;clear y j z HB a5;have y:=a8;have j:=a9;have z:=aa;have HB:=ab;clear a8 a9 aa ab;have am:wr.cell? ⟨a2,0,none⟩ = some (.int .i64 0):=(ah j.out 0).trans rfl;have ao:=aj j.out 0;have ap:wr.cell? ⟨a2,1,none⟩ = some (.slice none 0 0):=(ah j.out 1).trans rfl;have ar:=aj j.out 1;have aw:wr.cell? ⟨a3,0,none⟩ = some (.int .i64 a1):=(ah z.out 0).trans rfl;have aB:=aj z.out 0;have aF:wr.cell? ⟨a3,1,none⟩ = some (Y):=(ah z.out 1).trans rfl;have aL:=aj z.out 1))) | ((with_reducible refine aD (f:=59) rfl ?_);refine ws (some 26) Tryz.func59 #[.int .i64 a4] ?_;(with_reducible refine (b9.calls k2 a4 t157 _ cx.out).mono ?_);rintro e w' ⟨rfl,⟨nd,rfl⟩⟩;refine ⟨_,rfl,?_⟩;(try (rw [fu wr];generalize a5:World.drewN wr _ = wr;have a8:ae (Kd.R (Kd.int .i64) 3 wr w.heap.size (fun _=>True) Y X):=⟨by rw [← a5];exact (ac y.out)⟩;have a9:ae (wr.heap[a2]? = some (.cells #[.int .i64 0,.slice none 0 0] 37 (0,0))):=⟨by rw [← a5];exact (xf j.out)⟩;have aa:ae (wr.heap[a3]? = some (.cells #[.int .i64 a1,Y] 37 (0,0))):=⟨by rw [← a5];exact (xf z.out)⟩;have ab:ae (Below w.heap.size w wr):=⟨by rw [← a5];exact wy⟩;clear y j z HB a5;have y:=a8;have j:=a9;have z:=aa;have HB:=ab;clear a8 a9 aa ab;have am:wr.cell? ⟨a2,0,none⟩ = some (.int .i64 0):=(ah j.out 0).trans rfl;have ao:=aj j.out 0;have ap:wr.cell? ⟨a2,1,none⟩ = some (.slice none 0 0):=(ah j.out 1).trans rfl;have ar:=aj j.out 1;have aw:wr.cell? ⟨a3,0,none⟩ = some (.int .i64 a1):=(ah z.out 0).trans rfl;have aB:=aj z.out 0;have aF:wr.cell? ⟨a3,1,none⟩ = some (Y):=(ah z.out 1).trans rfl;have aL:=aj z.out 1));have e8:=a7.out;have ea:=a6.out;obtain ⟨d0,d1,d2,d3⟩:=xv z.out) | ((with_reducible refine cF (b:=.append) (xs:=#[.tmp 30,.tmp 32]) rfl ?_);at_builtin;refine Kd.eS (Kd.int .i64) (w0:=w) w.heap.size rfl (.tmp 30) (.tmp 32) 22 3 (.int .i64 0) 8 rfl Tryz.underlying22 fb rfl (by decide) (by omega) Y X a4 [.int .i64 a4] (fun _=>True) (fun _=>False) rfl rfl (by exact rfl) (fun _ hk=>hk.elim) (by exact fun _ _=>trivial) (by exact ac y.out) (by exact wy) (by exact ak wy) (by have:=cb.out;omega) ?_;intro v159 ef ho hb hg hat;rw [← cc.out] at ho;have a8:=ae.mk (eR (g:=a2) (o:=.cells #[.int .i64 0,.slice none 0 0] 37 (0,0)) (xf j.out) hg (Kd.jU y.out j.out (by decide)));have a9:=ae.mk (eR (g:=a3) (o:=.cells #[.int .i64 a1,Y] 37 (0,0)) (xf z.out) hg (Kd.jU y.out z.out (by decide)));have aa:=ae.mk hb;have ab:=ae.mk ho;clear j;clear z;clear HB;clear y;have j:=a8;have z:=a9;have HB:=aa;have b2:=ab;clear a8 a9 aa ab;clear ho hb hg hat;obtain ⟨ba,bc,d4⟩:=Kd.bk b2.out;subst d4;obtain ⟨d5,d6,d7,d8⟩:=xv z.out));go_roundg k2;case measure=>have:=b3.out;have:=b4.out;omega
        case rel=>exact ⟨(wrap64 (a4+1)),(aS),(.slice ba aS.length bc),ww,H',⟨by have:=b3.out;have:=b4.out;omega⟩,⟨ac (Kd.aQ (Kd.bU (p:=⟨a3,1,none⟩) (Kd.cr b2.out z.out (by decide)) (fun _ hk=>hk.2) (.slice ba aS.length bc)) (fun _ hk=>trivial))⟩,⟨AE⟩,⟨AE⟩,⟨wy⟩⟩
       ·rw [if_neg aP] at H
        have c1:(t157 == a0) = false:=beq_eq_false_iff_ne.mpr aP;have ca:(t157 != a0) = true:=bne_iff_ne.mpr aP;have H':=ae.mk H;clear H;go_wp2_with (first | ((with_reducible refine aD (f:=83) rfl ?_);refine ws (some 21) Tryz.func83 #[.int .i64 a1] ?_;(with_reducible refine (cn.calls a1 t156 _ bv.out).mono ?_);rintro e w' ⟨rfl,⟨nd,rfl⟩⟩;refine ⟨_,rfl,?_⟩) | ((with_reducible refine aD (f:=59) rfl ?_);refine ws (some 26) Tryz.func59 #[.int .i64 a4] ?_;(with_reducible refine (b9.calls k2 a4 t157 _ cx.out).mono ?_);rintro e w' ⟨rfl,⟨nd,rfl⟩⟩;refine ⟨_,rfl,?_⟩));go_roundg k2;case measure=>have:=b3.out;have:=b4.out;omega
        case rel=>exact ⟨(wrap64 (a4+1)),(X),(Y),ww,H',⟨by have:=b3.out;have:=b4.out;omega⟩,⟨ac y.out⟩,⟨xf j.out⟩,⟨xf z.out⟩,⟨wy⟩⟩
      ·rw [if_neg b0] at H
       have c0:decide (a4≤t156) = false:=decide_eq_false b0;clear b0;simp only [Option.some.injEq,Prod.mk.injEq] at H;obtain ⟨rfl,rfl⟩:=H;go_wp2_with (first | ((with_reducible refine aD (f:=83) rfl ?_);refine ws (some 21) Tryz.func83 #[.int .i64 a1] ?_;(with_reducible refine (cn.calls a1 t156 _ bv.out).mono ?_);rintro e w' ⟨rfl,⟨nd,rfl⟩⟩;refine ⟨_,rfl,?_⟩;(try (rw [fu wr];generalize a5:World.drewN wr _ = wr;have a8:ae (Kd.R (Kd.int .i64) 3 wr w.heap.size (fun _=>True) Y X):=⟨by rw [← a5];exact (ac y.out)⟩;have a9:ae (wr.heap[a2]? = some (.cells #[.int .i64 0,.slice none 0 0] 37 (0,0))):=⟨by rw [← a5];exact (xf j.out)⟩;have aa:ae (wr.heap[a3]? = some (.cells #[.int .i64 a1,Y] 37 (0,0))):=⟨by rw [← a5];exact (xf z.out)⟩;have ab:ae (Below w.heap.size w wr):=⟨by rw [← a5];exact wy⟩;clear y j z HB a5;have y:=a8;have j:=a9;have z:=aa;have HB:=ab;clear a8 a9 aa ab;have am:wr.cell? ⟨a2,0,none⟩ = some (.int .i64 0):=(ah j.out 0).trans rfl;have ao:=aj j.out 0;have ap:wr.cell? ⟨a2,1,none⟩ = some (.slice none 0 0):=(ah j.out 1).trans rfl;have ar:=aj j.out 1;have aw:wr.cell? ⟨a3,0,none⟩ = some (.int .i64 a1):=(ah z.out 0).trans rfl;have aB:=aj z.out 0;have aF:wr.cell? ⟨a3,1,none⟩ = some (Y):=(ah z.out 1).trans rfl;have aL:=aj z.out 1));have eb:=a7.out;have ec:=a6.out;obtain ⟨d9,db,dd,df⟩:=xv z.out;obtain ⟨dk,dl,dp,dq⟩:=xv j.out;obtain ⟨bi,bm,dt⟩:=Kd.bk y.out;subst dt));refine bodyPost_ret (results_cell_row rfl _ _ a2 37 #[.int .i64 a1,.slice bi X.length bm] (0,0) _ rfl AE Tryz.underlying37 rfl (by kernel_rfl)) rfl ?_;exact ⟨_,zd,by (with_reducible repeat (first | apply Kd.cP | apply Kd.cQ | apply Kd.bY));exact Kd.aQ (Kd.bU (p:=⟨a2,1,none⟩) (Kd.bU (p:=⟨a2,0,none⟩) (Kd.cr y.out j.out (by decide)) (fun _ hk=>hk.2) (.int .i64 a1)) (fun _ hk=>hk.2) (.slice bi X.length bm)) (fun _ hk=>trivial),wy⟩
def bF.l0:Nat→ByteArray→Int→List ByteArray→Int→Int→Option (List ByteArray)
 | 0,_,_,_,_,_=>none
 | k+1,y,Y,X,z,j=>if j≤(y.size:Int) then (if j = (y.size:Int) then (if 0≤z then (if z≤j then (if X.length < 8796093022208 then (bF.l0 k y Y (X ++ [y.extract (z:Int).toNat (j:Int).toNat]) (wrap64 (j+1)) (wrap64 (j+1))) else (none)) else (none)) else (none)) else (if 0≤j then (if j < (y.size:Int) then (if (bt y j) = Y then (if 0≤z then (if z≤j then (if X.length < 8796093022208 then (bF.l0 k y Y (X ++ [y.extract (z:Int).toNat (j:Int).toNat]) (wrap64 (j+1)) (wrap64 (j+1))) else (none)) else (none)) else (none)) else (bF.l0 k y Y X z (wrap64 (j+1)))) else (none)) else (none))) else (some X)
def bF.f (k:Nat) (a0:ByteArray) (j:Int):Option (List ByteArray):=bF.l0 k a0 j (([]:List ByteArray)) 0 0
theorem bF.dj:∀ k,af.S5 bF.l0 k
 | 0=>by and_intros <;> (repeat intro _) <;> exact AN rfl
 | k+1=>by
  have j:=bF.dj k;and_intros <;> (repeat intro _) <;> unfold bF.l0 <;> exact ⟨AI⟩
theorem bF.mono:∀ a0 j k,gW (bF.f k a0 j) (bF.f (k+1) a0 j):=by
 intro a0 j k;have y:=bF.dj k;unfold bF.f;exact AI
instance bF.m:af.V2 bF.f:=fun _ _ _=>⟨bF.mono _ _ _⟩
set_option maxHeartbeats 8000000 in
set_option maxRecDepth 100000 in
theorem bF.calls (k:Nat) (a0:ByteArray) (a1:Int) (r:List ByteArray) (w:World) (h:bF.f k a0 a1 = some r) :
  Calls Tryz.prog 222 #[.string a0,.int .u8 a1] w fun e w'=>∃ b4:Value,e = .returned (b4)∧Kd.R Kd.string 9 w' w.heap.size (fun _=>True) b4 r∧Below w.heap.size w w':=by
 have HB:=ae.mk (Below.refl w.heap.size w);unfold bF.f at h;have H:=h;clear h;obtain ⟨am,Y⟩:∃ y_:List ByteArray,y_ = (([]:List ByteArray)):=⟨_,rfl⟩
 replace H:(bF.l0 k a0 a1 am 0 0) = some r:=by (try rw [Y]);exact AC
 have a6:=ae.mk Y;clear Y;have H':=ae.mk H;clear H;go_enter Tryz.func222,Tryz.ntmps222;go_wp2_with (first | (refine AL Kd.string 9 8 ?_;intro cp w3 a7 hb c0 ar;clear c0 ar;(first | rw [← a6.out] at a7 | (simp only [Int.reduceToNat] at a7;rw [← a6.out] at a7));have aw:=ae.mk (Kd.b5 a7 (ak (wx HB.out)));replace HB:=xi HB hb;clear hb a7));go_loopg [5,6,7] k (fun kq v5 v6 v7 w'=>∃ (z:List ByteArray) (y:Int) (j:Int),v6 = .int .i64 y∧v7 = .int .i64 j∧ae (bF.l0 kq a0 a1 z y j = some r)∧ae (kq≤k)∧ae (Kd.R Kd.string 9 w' w.heap.size (fun _=>True) v5 z)∧ae (Below w.heap.size w w'))
 case atStart=>exact ⟨(am),(0),(0),ww,ww,H',⟨Nat.le_refl _⟩,⟨ac aw.out⟩,⟨wx HB.out⟩⟩
 case round =>
  clear H';obtain ⟨z,y,j,rfl,rfl,HA,a5,X,HB⟩:=hrel;cases gk with
  | zero=>exact absurd HA.out (by simp [bF.l0])
  | succ k1 =>
   have H:=HA.out;clear HA;simp only [bF.l0] at H;by_cases c5:j≤(a0.size:Int)
   ·rw [if_pos c5] at H
    have ba:=decide_eq_true c5;clear c5;by_cases c6:j = (a0.size:Int)
    ·rw [if_pos c6] at H
     have bc:(j == (a0.size:Int)) = true:=beq_iff_eq.mpr c6;have bi:(j != (a0.size:Int)) = false:=bne_eq_false_iff_eq.mpr c6;clear c6;obtain ⟨c7,H⟩:=xt H;have cq:=eq_true c7;have cx:decide (0≤y) = true:=decide_eq_true c7;clear c7;obtain ⟨c8,H⟩:=xt H;have cy:=eq_true c8;have d0:decide (y≤j) = true:=decide_eq_true c8;clear c8;have d1:=eq_true (yk:j≤(a0.size:Int));obtain ⟨iN,H⟩:=xt H;have aB:=ae.mk iN;clear iN;obtain ⟨ao,a2⟩:∃ y_:List ByteArray,y_ = (z ++ [a0.extract (y:Int).toNat (j:Int).toNat]):=⟨_,rfl⟩
     replace H:(bF.l0 k1 a0 a1 ao (wrap64 (j+1)) (wrap64 (j+1))) = some r:=by (try rw [a2]);exact AC
     have aF:=ae.mk a2;clear a2;have H':=ae.mk H;clear H;go_wp2_with (first | ((with_reducible refine cF (b:=.append) (xs:=#[.tmp 26,.tmp 31]) rfl ?_);at_builtin;refine Kd.eS Kd.string (w0:=w) w.heap.size rfl (.tmp 26) (.tmp 31) 134 9 (.string ⟨#[]⟩) 16 rfl Tryz.underlying134 uU rfl (by decide) (by omega) u5 z (a0.extract (y:Int).toNat (j:Int).toNat) [.string (a0.extract (y:Int).toNat (j:Int).toNat)] (fun _=>True) (fun _=>False) rfl rfl (by exact rfl) (fun _ hk=>hk.elim) (by exact fun _ _=>trivial) (by exact ac X.out) (by exact wx HB.out) (by exact ak (wx HB.out)) (by have:=aB.out;omega) ?_;intro d2 d4 ho hb hg hat;rw [← aF.out] at ho;have a8:=ae.mk hb;have a9:=ae.mk ho;clear HB;clear X;have HB:=a8;have aL:=a9;clear a8 a9;clear ho hb hg hat));go_roundg k1;case measure=>have:=a5.out;omega
     case rel=>exact ⟨(ao),(wrap64 (j+1)),(wrap64 (j+1)),ww,ww,H',⟨by have:=a5.out;omega⟩,⟨ac aL.out⟩,⟨wx HB.out⟩⟩
    ·rw [if_neg c6] at H
     have bc:(j == (a0.size:Int)) = false:=beq_eq_false_iff_ne.mpr c6;have bi:(j != (a0.size:Int)) = true:=bne_iff_ne.mpr c6;obtain ⟨bm,H⟩:=xt H;have c1:=decide_eq_true bm;clear bm;obtain ⟨bo,H⟩:=xt H;have ca:=decide_eq_true bo;clear bo;by_cases a3:(bt a0 j) = a1
     ·rw [if_pos a3] at H
      have aO:((bt a0 j) == a1) = true:=beq_iff_eq.mpr a3;have aP:((bt a0 j) != a1) = false:=bne_eq_false_iff_eq.mpr a3;clear a3;obtain ⟨aR,H⟩:=xt H;have cb:=eq_true aR;have cc:decide (0≤y) = true:=decide_eq_true aR;clear aR;obtain ⟨aS,H⟩:=xt H;have ce:=eq_true aS;have cf:decide (y≤j) = true:=decide_eq_true aS;clear aS;have ci:=eq_true (yk:j≤(a0.size:Int));obtain ⟨bs,H⟩:=xt H;have b0:=ae.mk bs;clear bs;obtain ⟨ap,a4⟩:∃ y_:List ByteArray,y_ = (z ++ [a0.extract (y:Int).toNat (j:Int).toNat]):=⟨_,rfl⟩
      replace H:(bF.l0 k1 a0 a1 ap (wrap64 (j+1)) (wrap64 (j+1))) = some r:=by (try rw [a4]);exact AC
      have b2:=ae.mk a4;clear a4;have H':=ae.mk H;clear H;have aa:0≤(j:Int):=yk;have ab:j < (a0.size:Int):=yk;have bv:=jo a0 j;replace aa:=eq_true aa;replace ab:=eq_true ab;go_wp2_with (first | ((with_reducible refine cF (b:=.append) (xs:=#[.tmp 26,.tmp 31]) rfl ?_);at_builtin;refine Kd.eS Kd.string (w0:=w) w.heap.size rfl (.tmp 26) (.tmp 31) 134 9 (.string ⟨#[]⟩) 16 rfl Tryz.underlying134 uU rfl (by decide) (by omega) u5 z (a0.extract (y:Int).toNat (j:Int).toNat) [.string (a0.extract (y:Int).toNat (j:Int).toNat)] (fun _=>True) (fun _=>False) rfl rfl (by exact rfl) (fun _ hk=>hk.elim) (by exact fun _ _=>trivial) (by exact ac X.out) (by exact wx HB.out) (by exact ak (wx HB.out)) (by have:=b0.out;omega) ?_;intro d3 d5 ho hb hg hat;rw [← b2.out] at ho;have a8:=ae.mk hb;have a9:=ae.mk ho;clear HB;clear X;have HB:=a8;have b3:=a9;clear a8 a9;clear ho hb hg hat));go_roundg k1;case measure=>have:=a5.out;omega
      case rel=>exact ⟨(ap),(wrap64 (j+1)),(wrap64 (j+1)),ww,ww,H',⟨by have:=a5.out;omega⟩,⟨ac b3.out⟩,⟨wx HB.out⟩⟩
     ·rw [if_neg a3] at H
      have aO:((bt a0 j) == a1) = false:=beq_eq_false_iff_ne.mpr a3;have aP:((bt a0 j) != a1) = true:=bne_iff_ne.mpr a3;have H':=ae.mk H;clear H;have aa:0≤(j:Int):=yk;have ab:j < (a0.size:Int):=yk;have bv:=jo a0 j;replace aa:=eq_true aa;replace ab:=eq_true ab;go_wp2;go_roundg k1;case measure=>have:=a5.out;omega
      case rel=>exact ⟨(z),(y),(wrap64 (j+1)),ww,ww,H',⟨by have:=a5.out;omega⟩,⟨ac X.out⟩,⟨wx HB.out⟩⟩
   ·rw [if_neg c5] at H
    have ba:decide (j≤(a0.size:Int)) = false:=decide_eq_false c5;clear c5;obtain rfl:=Option.some.inj H;go_wp2;go_ret;exact ⟨_,zd,by (with_reducible repeat (first | apply Kd.cP | apply Kd.cQ | apply Kd.bY));exact X.out,wy⟩
def bG.l0:Nat→Int→Bool→ByteArray→Option (ByteArray)
 | 0,_,_,_=>none
 | k+1,X,Y,z=>if X = 0 then (if Y = true then (if 1+z.size≤9223372036854775807 then (some ((⟨#[45]⟩:ByteArray) ++ z)) else (none)) else (some z)) else (if (Int.tmod X 10) < 0 then ((some (([(wrap64 (48+(wrap64 (-(Int.tmod X 10))))) % 256]:List Int):List Int)).bind fun j=>(if (strOfNums j).size+z.size≤9223372036854775807 then (bG.l0 k (wrap64 (Int.tdiv X 10)) Y ((strOfNums j) ++ z)) else (none))) else ((some (([(wrap64 (48+(Int.tmod X 10))) % 256]:List Int):List Int)).bind fun y=>(if (strOfNums y).size+z.size≤9223372036854775807 then (bG.l0 k (wrap64 (Int.tdiv X 10)) Y ((strOfNums y) ++ z)) else (none))))
def bG.f (k:Nat) (a0:Int):Option (ByteArray):=if a0 = 0 then (some (⟨#[48]⟩:ByteArray)) else (bG.l0 k a0 (decide (a0 < 0)) (⟨#[]⟩:ByteArray))
theorem bG.dj:∀ k,af.S3 bG.l0 k
 | 0=>by and_intros <;> (repeat intro _) <;> exact AN rfl
 | k+1=>by
  have j:=bG.dj k;and_intros <;> (repeat intro _) <;> unfold bG.l0 <;> exact ⟨AI⟩
theorem bG.mono:∀ a0 k,gW (bG.f k a0) (bG.f (k+1) a0):=by
 intro a0 k;have j:=bG.dj k;unfold bG.f;exact AI
instance bG.m:af.V1 bG.f:=fun _ _=>⟨bG.mono _ _⟩
set_option maxHeartbeats 8000000 in
set_option maxRecDepth 100000 in
theorem bG.calls (k:Nat) (a0:Int) (r:ByteArray) (w:World) (h:bG.f k a0 = some r) :
  Calls Tryz.prog 236 #[.int .i64 a0] w fun e w'=>e = .returned (.string r)∧Below w.heap.size w w':=by
 have HB:=ae.mk (Below.refl w.heap.size w);unfold bG.f at h;have H:=h;clear h;by_cases c2:a0 = 0
 ·rw [if_pos c2] at H
  have ao:(a0 == 0) = true:=beq_iff_eq.mpr c2;have ap:(a0 != 0) = false:=bne_eq_false_iff_eq.mpr c2;clear c2;obtain rfl:=Option.some.inj H;go_enter Tryz.func236,Tryz.ntmps236;go_wp2;go_ret;exact ⟨zd,wy⟩
 ·rw [if_neg c2] at H
  have ao:(a0 == 0) = false:=beq_eq_false_iff_ne.mpr c2;have ap:(a0 != 0) = true:=bne_iff_ne.mpr c2;have H':=ae.mk H;clear H;go_enter Tryz.func236,Tryz.ntmps236;go_wp2;go_loopg [0,4] k (fun kq v0 v4 w'=>∃ (j:Int) (y:ByteArray),v0 = .int .i64 j∧v4 = .string y∧ae (bG.l0 kq j (decide (a0 < 0)) y = some r)∧ae (kq≤k)∧ae (Below w.heap.size w w'))
  case atStart=>exact ⟨(a0),((⟨#[]⟩:ByteArray)),ww,ww,H',⟨Nat.le_refl _⟩,⟨wx HB.out⟩⟩
  case round =>
   clear H';obtain ⟨j,y,rfl,rfl,HA,a8,HB⟩:=hrel;cases gk with
   | zero=>exact absurd HA.out (by simp [bG.l0])
   | succ k1 =>
    have H:=HA.out;clear HA;simp only [bG.l0] at H;by_cases c3:j = 0
    ·rw [if_pos c3] at H
     have ar:(j == 0) = true:=beq_iff_eq.mpr c3;have aw:(j != 0) = false:=bne_eq_false_iff_eq.mpr c3;clear c3;by_cases c4:(decide (a0 < 0)) = true
     ·rw [if_pos c4] at H
      have a4:(decide (a0 < 0)) = true:=c4;clear c4;obtain ⟨c5,H⟩:=xt H;have aS:=eq_true c5;have b0:decide (1+y.size≤9223372036854775807) = true:=decide_eq_true c5;(try have b2:(9223372036854775807 < 1+y.size) = False:=eq_false (Nat.not_lt.2 c5));obtain rfl:=Option.some.inj H;rw [a4];go_wp2;go_ret;exact ⟨zd,wy⟩
     ·rw [if_neg c4] at H
      have a4:(decide (a0 < 0)) = false:=by simpa using c4
      clear c4;obtain rfl:=Option.some.inj H;rw [a4];go_wp2;go_ret;exact ⟨zd,wy⟩
    ·rw [if_neg c3] at H
     have ar:(j == 0) = false:=beq_eq_false_iff_ne.mpr c3;have aw:(j != 0) = true:=bne_iff_ne.mpr c3;by_cases c6:(Int.tmod j 10) < 0
     ·rw [if_pos c6] at H
      have aB:=decide_eq_true c6;clear c6;obtain ⟨z,a1⟩:∃ y_:List Int,y_ = (([(wrap64 (48+(wrap64 (-(Int.tmod j 10))))) % 256]:List Int)):=⟨_,rfl⟩
      replace H:(if (strOfNums z).size+y.size≤9223372036854775807 then (bG.l0 k1 (wrap64 (Int.tdiv j 10)) (decide (a0 < 0)) ((strOfNums z) ++ y)) else (none)) = some r:=by (try rw [a1]);exact AC
      have a5:=ae.mk a1;clear a1;obtain ⟨c7,H⟩:=xt H;have b3:=eq_true c7;have b4:decide ((strOfNums z).size+y.size≤9223372036854775807) = true:=decide_eq_true c7;(try have ba:(9223372036854775807 < (strOfNums z).size+y.size) = False:=eq_false (Nat.not_lt.2 c7));have H':=ae.mk H;clear H;go_wp2_with (first | ((with_reducible refine bu (N:=21) rfl ?_);refine Kd.jW (Kd.int .u8) _ 5 ?hg (N:=21) ?hd (xs:=([(wrap64 (48+(wrap64 (-(Int.tmod j 10))))) % 256]:List Int)) (inner:=[.int .u8 ((wrap64 (48+(wrap64 (-(Int.tmod j 10))))) % 256)]) (ok:=fun _=>True) (okp:=fun _=>True) ?hr ?hp (fun _ hk=>hk) trivial (Below.refl _ _) (Nat.le_refl _) (by simp) ?_;(case hd=>rfl);(case hg=>rfl);(case hr=>first | (go_simp;done) | (go_simp;rfl));(case hp=>exact (cY.one (show Kd.M (Kd.int .u8) _ _ _ ((wrap64 (48+(wrap64 (-(Int.tmod j 10))))) % 256) [.int .u8 ((wrap64 (48+(wrap64 (-(Int.tmod j 10))))) % 256)] from rfl) (cY.none _ _)));intro bc w8 a6 hb a9 a2;clear a9 a2;(first | rw [← a5.out] at a6 | (simp only [Int.reduceToNat] at a6;rw [← a5.out] at a6));have aa:=ae.mk (Kd.b5 a6 (ak (wx HB.out)));replace HB:=xi HB hb;clear hb a6;have aF:=lR (P:=Tryz.prog) Tryz.underlying41 Tryz.underlying5 Tryz.underlying9 (Kd.iw aa.out)));go_roundg k1;case measure=>have:=a8.out;omega
      case rel=>exact ⟨(wrap64 (Int.tdiv j 10)),((strOfNums z) ++ y),ww,ww,H',⟨by have:=a8.out;omega⟩,⟨wx HB.out⟩⟩
     ·rw [if_neg c6] at H
      have aB:decide ((Int.tmod j 10) < 0) = false:=decide_eq_false c6;clear c6;obtain ⟨X,a3⟩:∃ y_:List Int,y_ = (([(wrap64 (48+(Int.tmod j 10))) % 256]:List Int)):=⟨_,rfl⟩
      replace H:(if (strOfNums X).size+y.size≤9223372036854775807 then (bG.l0 k1 (wrap64 (Int.tdiv j 10)) (decide (a0 < 0)) ((strOfNums X) ++ y)) else (none)) = some r:=by (try rw [a3]);exact AC
      have a7:=ae.mk a3;clear a3;obtain ⟨ab,H⟩:=xt H;have aL:=eq_true ab;have aO:decide ((strOfNums X).size+y.size≤9223372036854775807) = true:=decide_eq_true ab;(try have aP:(9223372036854775807 < (strOfNums X).size+y.size) = False:=eq_false (Nat.not_lt.2 ab));have H':=ae.mk H;clear H;go_wp2_with (first | ((with_reducible refine bu (N:=21) rfl ?_);refine Kd.jW (Kd.int .u8) _ 5 ?hg (N:=21) ?hd (xs:=([(wrap64 (48+(Int.tmod j 10))) % 256]:List Int)) (inner:=[.int .u8 ((wrap64 (48+(Int.tmod j 10))) % 256)]) (ok:=fun _=>True) (okp:=fun _=>True) ?hr ?hp (fun _ hk=>hk) trivial (Below.refl _ _) (Nat.le_refl _) (by simp) ?_;(case hd=>rfl);(case hg=>rfl);(case hr=>first | (go_simp;done) | (go_simp;rfl));(case hp=>exact (cY.one (show Kd.M (Kd.int .u8) _ _ _ ((wrap64 (48+(Int.tmod j 10))) % 256) [.int .u8 ((wrap64 (48+(Int.tmod j 10))) % 256)] from rfl) (cY.none _ _)));intro bi bm Y hb a9 a2;clear a9 a2;(first | rw [← a7.out] at Y | (simp only [Int.reduceToNat] at Y;rw [← a7.out] at Y));have am:=ae.mk (Kd.b5 Y (ak (wx HB.out)));replace HB:=xi HB hb;clear hb Y;have aR:=lR (P:=Tryz.prog) Tryz.underlying41 Tryz.underlying5 Tryz.underlying9 (Kd.iw am.out)));go_roundg k1;case measure=>have:=a8.out;omega
      case rel=>exact ⟨(wrap64 (Int.tdiv j 10)),((strOfNums X) ++ y),ww,ww,H',⟨by have:=a8.out;omega⟩,⟨wx HB.out⟩⟩
mutual
def br.j0:Nat→ByteArray→Int→Bool→Option (Int×Bool)
 | 0,_,_,_=>none
 | k+1,j,x1,z=>if z = true then (if 1≤(j.size:Int) then (br.j1 k j x1 z (j.extract 1 j.size)) else (none)) else (br.j1 k j x1 z j)
def br.j1:Nat→ByteArray→Int→Bool→ByteArray→Option (Int×Bool)
 | 0,_,_,_,_=>none
 | k+1,j,x1,z,y=>if (y.size:Int) < 1 then (br.j2 k j z y true) else (br.j2 k j z y (decide ((y.size:Int) > x1)))
def br.j2:Nat→ByteArray→Bool→ByteArray→Bool→Option (Int×Bool)
 | 0,_,_,_,_=>none
 | k+1,j,z,y,a0=>if a0 = true then (some (0,false)) else (br.l0 k j z y 0 0)
def br.l0:Nat→ByteArray→Bool→ByteArray→Int→Int→Option (Int×Bool)
 | 0,_,_,_,_,_=>none
 | k+1,j,z,y,Y,X=>if X < (y.size:Int) then (if 0≤X then (if (bt y X) < 48 then (some (0,false)) else (if (bt y X) > 57 then (some (0,false)) else (br.l0 k j z y (wrap64 ((wrap64 (10 * Y))+(((bt y X) - 48) % 256))) (wrap64 (X+1))))) else (none)) else (if z = true then ((bG.f k (wrap64 (-Y))).bind fun t192=>(if t192.toList = j.toList then (some (wrap64 (-Y),true)) else (some (0,false)))) else ((bG.f k Y).bind fun t193=>(if t193.toList = j.toList then (some (Y,true)) else (some (0,false)))))
end
def br.f (k:Nat) (a0:ByteArray) (j:Int):Option (Int×Bool):=if (a0.size:Int) > 0 then (if 0 < (a0.size:Int) then (br.j0 k a0 j ((bt a0 0) == 45)) else (none)) else (br.j0 k a0 j false)
theorem br.dj:∀ k,af.S3 br.j0 k∧af.S4 br.j1 k∧af.S4 br.j2 k∧af.S5 br.l0 k
 | 0=>by and_intros <;> (repeat intro _) <;> exact AN rfl
 | k+1=>by
  obtain ⟨j,y,z,X⟩:=br.dj k;and_intros <;> (repeat intro _) <;> (first | unfold br.j0 | unfold br.j1 | unfold br.j2 | unfold br.l0) <;> exact ⟨AI⟩
theorem br.mono:∀ a0 j k,gW (br.f k a0 j) (br.f (k+1) a0 j):=by
 intro a0 j k;obtain ⟨y,z,X,Y⟩:=br.dj k;unfold br.f;exact AI
instance br.m:af.V2 br.f:=fun _ _ _=>⟨br.mono _ _ _⟩
set_option maxHeartbeats 8000000 in
set_option maxRecDepth 100000 in
theorem br.calls (k:Nat) (a0:ByteArray) (a1:Int) (r1:Int) (r2:Bool) (w:World) (h:br.f k a0 a1 = some (r1,r2)) :
  Calls Tryz.prog 233 #[.string a0,.int .i64 a1] w fun e w'=>e = .returned (.tuple #[.int .i64 r1,.bool r2])∧Below w.heap.size w w':=by
 have HB:=ae.mk (Below.refl w.heap.size w);unfold br.f at h;have H:=h;clear h;have aR:=ae.mk H;clear H;go_enter Tryz.func233,Tryz.ntmps233;go_upto_region 1 with (fail)
 go_cut [6] (fun v6 wc=>∃ (kq:Nat) (X:Bool),v6 = .bool X∧ae (br.j0 kq a0 a1 X = some (r1,r2))∧ae (kq≤k)∧ae (Below w.heap.size w wc))
 case first =>
  have H:=aR.out;clear aR;by_cases c4:(a0.size:Int) > 0
  ·rw [if_pos c4] at H
   have a3:=decide_eq_true c4;have c0:decide (0 < a0.size) = true:=decide_eq_true (by omega);clear c4;(first | rw [a3] | (simp only [b7,bC];rw [a3]) | skip);obtain ⟨c5,H⟩:=xt H;have cy:=decide_eq_true c5;have d0:decide (0 < a0.size) = true:=decide_eq_true (by omega);clear c5;have H':=ae.mk H;clear H;have p6:0≤(0:Int):=(by omega)
   have q6:0 < a0.size:=(by have:(0:Int) < (a0.size:Int):=yk;omega)
   have aw:∀ h:0 < a0.size,((a0[0]'h).toNat:Int) = bt a0 0:=jo a0 0;clear p6;have aB:(0 < (a0.size:Int)) = True:=eq_true (yk);replace q6:=eq_true q6;go_wp2;go_meet
   case rel=>exact ⟨_,(((bt a0 0) == 45)),ww,H',⟨by first | omega | exact Nat.le_refl _⟩,⟨wx HB.out⟩⟩
  ·rw [if_neg c4] at H
   have a3:decide (0 < (a0.size:Int)) = false:=decide_eq_false c4;have c0:decide (0 < a0.size) = false:=decide_eq_false (by omega);clear c4;(first | rw [a3] | (simp only [b7,bC];rw [a3]) | skip);have H':=ae.mk H;clear H;go_wp2;go_meet
   case rel=>exact ⟨_,(false),ww,H',⟨by first | omega | exact Nat.le_refl _⟩,⟨wx HB.out⟩⟩
 case rest =>
  clear aR;(try clear q6);(try clear aw);(try clear aB);(try clear q6);obtain ⟨kq,X,rfl,HA,a8,HB⟩:=hcut;cases kq with
  | zero=>exact absurd HA.out (by simp [br.j0])
  | succ aS =>
   have H:=HA.out;clear HA;simp only [br.j0] at H;have b0:=ae.mk H;clear H;go_upto_if 19 with (fail)
   go_cut [7] (fun v7 wc=>∃ (kq:Nat) (j:ByteArray),v7 = .string j∧ae (br.j1 kq a0 a1 X j = some (r1,r2))∧ae (kq≤aS)∧ae (Below w.heap.size w wc))
   case first =>
    have H:=b0.out;clear b0;by_cases c8:X = true
    ·subst c8
     replace H:(if 1≤(a0.size:Int) then (br.j1 aS a0 a1 true (a0.extract 1 a0.size)) else (none)) = some (r1,r2):=by rw [if_pos rfl] at H;exact H
     obtain ⟨c9,H⟩:=xt H;have d1:=eq_true c9;have d2:decide (1≤(a0.size:Int)) = true:=decide_eq_true c9;clear c9;have H':=ae.mk H;clear H;go_wp2;go_meet
     case rel=>exact ⟨_,(a0.extract 1 a0.size),ww,H',⟨by have:=a8.out;first | omega | exact Nat.le_refl _⟩,⟨wx HB.out⟩⟩
    ·replace c8:=Bool.eq_false_iff.mpr c8
     subst c8;replace H:(br.j1 aS a0 a1 false a0) = some (r1,r2):=by rw [if_neg (show ¬ (false = true) by decide)] at H;exact H
     have H':=ae.mk H;clear H;go_wp2;go_meet
     case rel=>exact ⟨_,(a0),ww,H',⟨by have:=a8.out;first | omega | exact Nat.le_refl _⟩,⟨wx HB.out⟩⟩
   case rest =>
    clear b0;(try clear q6);(try clear aw);(try clear aB);(try clear q6);obtain ⟨kq,j,rfl,HA,aF,HB⟩:=hcut;cases kq with
    | zero=>exact absurd HA.out (by simp [br.j1])
    | succ cq =>
     have H:=HA.out;clear HA;simp only [br.j1] at H;have ao:=ae.mk H;clear H;go_upto_region 5 with (fail)
     go_cut [30] (fun v30 wc=>∃ (kq:Nat) (a2:Bool),v30 = .bool a2∧ae (br.j2 kq a0 X j a2 = some (r1,r2))∧ae (kq≤cq)∧ae (Below w.heap.size w wc))
     case first =>
      have H:=ao.out;clear ao;by_cases a9:(j.size:Int) < 1
      ·rw [if_pos a9] at H
       have Y:=decide_eq_true a9;have b2:decide (j.size < 1) = true:=decide_eq_true (by omega);clear a9;(first | rw [Y] | (simp only [b7,bC];rw [Y]) | skip);have H':=ae.mk H;clear H;go_wp2;go_meet
       case rel=>exact ⟨_,(true),ww,H',⟨by have:=a8.out;have:=aF.out;first | omega | exact Nat.le_refl _⟩,⟨wx HB.out⟩⟩
      ·rw [if_neg a9] at H
       have Y:decide ((j.size:Int) < 1) = false:=decide_eq_false a9;have b2:decide (j.size < 1) = false:=decide_eq_false (by omega);clear a9;(first | rw [Y] | (simp only [b7,bC];rw [Y]) | skip);have H':=ae.mk H;clear H;go_wp2;go_meet
       case rel=>exact ⟨_,(decide ((j.size:Int) > a1)),ww,H',⟨by have:=a8.out;have:=aF.out;first | omega | exact Nat.le_refl _⟩,⟨wx HB.out⟩⟩
     case rest =>
      clear ao;(try clear q6);(try clear aw);(try clear aB);(try clear q6);obtain ⟨kq,a2,rfl,HA,c1,HB⟩:=hcut;cases kq with
      | zero=>exact absurd HA.out (by simp [br.j2])
      | succ b3 =>
       have H:=HA.out;clear HA;simp only [br.j2] at H;by_cases aL:a2 = true
       ·subst aL
        replace H:(some (0,false)) = some (r1,r2):=by rw [if_pos rfl] at H;exact H
        simp only [Option.some.injEq,Prod.mk.injEq] at H;obtain ⟨rfl,rfl⟩:=H;go_wp2;go_ret2
        exact ⟨zd,wy⟩
       ·replace aL:=Bool.eq_false_iff.mpr aL
        subst aL;replace H:(br.l0 b3 a0 X j 0 0) = some (r1,r2):=by rw [if_neg (show ¬ (false = true) by decide)] at H;exact H
        have H':=ae.mk H;clear H;go_wp2;go_loopg [8,9] b3 (fun kq v8 v9 w'=>∃ (z:Int) (y:Int),v8 = .int .i64 z∧v9 = .int .i64 y∧ae (br.l0 kq a0 X j z y = some (r1,r2))∧ae (kq≤b3)∧ae (Below w.heap.size w w'))
        case atStart=>exact ⟨(0),(0),ww,ww,H',⟨Nat.le_refl _⟩,⟨wx HB.out⟩⟩
        case round =>
         clear H';(try clear q6);(try clear aw);(try clear aB);(try clear q6);obtain ⟨z,y,rfl,rfl,HA,ca,HB⟩:=hrel;cases gk with
         | zero=>exact absurd HA.out (by simp [br.l0])
         | succ k4 =>
          have H:=HA.out;clear HA;simp only [br.l0] at H;by_cases aa:y < (j.size:Int)
          ·rw [if_pos aa] at H
           have b4:=decide_eq_true aa;clear aa;obtain ⟨cb,H⟩:=xt H;have cx:=decide_eq_true cb;clear cb;by_cases ab:(bt j y) < 48
           ·rw [if_pos ab] at H
            have ba:=decide_eq_true ab;clear ab;simp only [Option.some.injEq,Prod.mk.injEq] at H;obtain ⟨rfl,rfl⟩:=H;have a4:0≤(y:Int):=yk;have a5:y < (j.size:Int):=yk;have aP:=jo j y;replace a4:=eq_true a4;replace a5:=eq_true a5;go_wp2;go_ret2
            exact ⟨zd,wy⟩
           ·rw [if_neg ab] at H
            have ba:decide ((bt j y) < 48) = false:=decide_eq_false ab;clear ab;by_cases am:(bt j y) > 57
            ·rw [if_pos am] at H
             have bc:=decide_eq_true am;clear am;simp only [Option.some.injEq,Prod.mk.injEq] at H;obtain ⟨rfl,rfl⟩:=H;have a4:0≤(y:Int):=yk;have a5:y < (j.size:Int):=yk;have aP:=jo j y;replace a4:=eq_true a4;replace a5:=eq_true a5;have ap:0≤(y:Int):=yk;have ar:y < (j.size:Int):=yk;have cc:=jo j y;replace ap:=eq_true ap;replace ar:=eq_true ar;go_wp2;go_ret2
             exact ⟨zd,wy⟩
            ·rw [if_neg am] at H
             have bc:decide (57 < (bt j y)) = false:=decide_eq_false am;clear am;have H':=ae.mk H;clear H;have a4:0≤(y:Int):=yk;have a5:y < (j.size:Int):=yk;have aP:=jo j y;replace a4:=eq_true a4;replace a5:=eq_true a5;have ap:0≤(y:Int):=yk;have ar:y < (j.size:Int):=yk;have cc:=jo j y;replace ap:=eq_true ap;replace ar:=eq_true ar;have ce:0≤(y:Int):=yk;have cf:y < (j.size:Int):=yk;have d3:=jo j y;replace ce:=eq_true ce;replace cf:=eq_true cf;go_wp2;go_roundg k4;case measure=>have:=a8.out;have:=aF.out;have:=c1.out;have:=ca.out;omega
             case rel=>exact ⟨(wrap64 ((wrap64 (10 * z))+(((bt j y) - 48) % 256))),(wrap64 (y+1)),ww,ww,H',⟨by have:=a8.out;have:=aF.out;have:=c1.out;have:=ca.out;omega⟩,⟨wx HB.out⟩⟩
          ·rw [if_neg aa] at H
           have b4:decide (y < (j.size:Int)) = false:=decide_eq_false aa;clear aa;by_cases aO:X = true
           ·subst aO
            replace H:((bG.f k4 (wrap64 (-z))).bind fun t192=>(if t192.toList = a0.toList then (some (wrap64 (-z),true)) else (some (0,false)))) = some (r1,r2):=by rw [if_pos rfl] at H;exact H
            obtain ⟨t192,ci,H⟩:=xa H;(try dsimp only at H);by_cases a6:t192.toList = a0.toList
            ·rw [if_pos a6] at H
             have bi:(t192.toList == a0.toList) = true:=beq_iff_eq.mpr a6;have bm:(t192.toList != a0.toList) = false:=bne_eq_false_iff_eq.mpr a6;clear a6;simp only [Option.some.injEq,Prod.mk.injEq] at H;obtain ⟨rfl,rfl⟩:=H;go_wp2_with (first | (refine ws (some 59) Tryz.func236 #[.int .i64 (wrap64 (-z))] ?_;(with_reducible refine (bG.calls k4 (wrap64 (-z)) t192 _ ci.out).mono ?_);rintro e d4 ⟨rfl,hb⟩;refine ⟨_,rfl,?_⟩;replace HB:=xi HB hb;(try clear hb);(try clear bo);(try clear hk);(try clear hi)));go_ret2
             exact ⟨zd,wy⟩
            ·rw [if_neg a6] at H
             have bi:(t192.toList == a0.toList) = false:=beq_eq_false_iff_ne.mpr a6;have bm:(t192.toList != a0.toList) = true:=bne_iff_ne.mpr a6;simp only [Option.some.injEq,Prod.mk.injEq] at H;obtain ⟨rfl,rfl⟩:=H;go_wp2_with (first | (refine ws (some 59) Tryz.func236 #[.int .i64 (wrap64 (-z))] ?_;(with_reducible refine (bG.calls k4 (wrap64 (-z)) t192 _ ci.out).mono ?_);rintro e d5 ⟨rfl,hb⟩;refine ⟨_,rfl,?_⟩;replace HB:=xi HB hb;(try clear hb);(try clear bo);(try clear hk);(try clear hi)));go_ret2
             exact ⟨zd,wy⟩
           ·replace aO:=Bool.eq_false_iff.mpr aO
            subst aO;replace H:((bG.f k4 z).bind fun t193=>(if t193.toList = a0.toList then (some (z,true)) else (some (0,false)))) = some (r1,r2):=by rw [if_neg (show ¬ (false = true) by decide)] at H;exact H
            obtain ⟨t193,cp,H⟩:=xa H;(try dsimp only at H);by_cases a7:t193.toList = a0.toList
            ·rw [if_pos a7] at H
             have bs:(t193.toList == a0.toList) = true:=beq_iff_eq.mpr a7;have bv:(t193.toList != a0.toList) = false:=bne_eq_false_iff_eq.mpr a7;clear a7;simp only [Option.some.injEq,Prod.mk.injEq] at H;obtain ⟨rfl,rfl⟩:=H;go_wp2_with (first | (refine ws (some 59) Tryz.func236 #[.int .i64 z] ?_;(with_reducible refine (bG.calls k4 z t193 _ cp.out).mono ?_);rintro e d6 ⟨rfl,hb⟩;refine ⟨_,rfl,?_⟩;replace HB:=xi HB hb;(try clear hb);(try clear bo);(try clear hk);(try clear hi)));go_ret2
             exact ⟨zd,wy⟩
            ·rw [if_neg a7] at H
             have bs:(t193.toList == a0.toList) = false:=beq_eq_false_iff_ne.mpr a7;have bv:(t193.toList != a0.toList) = true:=bne_iff_ne.mpr a7;simp only [Option.some.injEq,Prod.mk.injEq] at H;obtain ⟨rfl,rfl⟩:=H;go_wp2_with (first | (refine ws (some 59) Tryz.func236 #[.int .i64 z] ?_;(with_reducible refine (bG.calls k4 z t193 _ cp.out).mono ?_);rintro e d7 ⟨rfl,hb⟩;refine ⟨_,rfl,?_⟩;replace HB:=xi HB hb;(try clear hb);(try clear bo);(try clear hk);(try clear hi)));go_ret2
             exact ⟨zd,wy⟩
def dQ.f (k:Nat) (a0:ByteArray):Option (Int×Bool):=(br.f k a0 12).bind fun j=>(some (j.1,j.2))
theorem dQ.mono:∀ a0 k,gW (dQ.f k a0) (dQ.f (k+1) a0):=by
 intro a0 k;unfold dQ.f;exact AI
instance dQ.m:af.V1 dQ.f:=fun _ _=>⟨dQ.mono _ _⟩
set_option maxHeartbeats 8000000 in
set_option maxRecDepth 100000 in
theorem dQ.calls (k:Nat) (a0:ByteArray) (j:Int) (y:Bool) (w:World) (h:dQ.f k a0 = some (j,y)) :
  Calls Tryz.prog 223 #[.string a0] w fun e w'=>e = .returned (.tuple #[.int .i64 j,.bool y])∧Below w.heap.size w w':=by
 have HB:=ae.mk (Below.refl w.heap.size w);unfold dQ.f at h;have H:=h;clear h;obtain ⟨⟨t194,t195⟩,z,H⟩:=xa H;(try dsimp only at H);simp only [Option.some.injEq,Prod.mk.injEq] at H;obtain ⟨rfl,rfl⟩:=H;go_enter Tryz.func223,Tryz.ntmps223;go_wp2_with (first | (refine ws (some 5) Tryz.func233 #[.string a0,.int .i64 12] ?_;(with_reducible refine (br.calls k a0 12 t194 t195 _ z.out).mono ?_);rintro e Y ⟨rfl,hb⟩;refine ⟨_,rfl,?_⟩;replace HB:=xi HB hb;(try clear hb);(try clear X);(try clear hk);(try clear hi)));go_ret2
 exact ⟨zd,wy⟩
def fU.f (a0:Int) (j:Int):Option (Int):=(bL.f 8 a0).bind fun t201=>(if t201 = true then ((bD.f j 0 7).bind fun t202=>(if t202 = true then (if 0≤(IntKind.u64.wrap (j)) then (some (Go.bits .or .i64 a0 (shl .i64 1 (IntKind.u64.wrap (j))))) else (none)) else (some a0))) else (some a0))
set_option maxHeartbeats 8000000 in
set_option maxRecDepth 100000 in
theorem fU.calls (a0:Int) (a1:Int) (r:Int) (w:World) (h:fU.f a0 a1 = some r) :
  Calls Tryz.prog 239 #[.int .i64 a0,.int .i64 a1] w fun e w'=>e = .returned (.int .i64 r)∧cT w w':=by
 unfold fU.f at h;have H:=h;clear h;obtain ⟨t201,A3,H⟩:=xa H;(try dsimp only at H);by_cases c4:t201 = true
 ·subst c4
  replace H:((bD.f a1 0 7).bind fun t202=>(if t202 = true then (if 0≤(IntKind.u64.wrap (a1)) then (some (Go.bits .or .i64 a0 (shl .i64 1 (IntKind.u64.wrap (a1))))) else (none)) else (some a0))) = some r:=by rw [if_pos rfl] at H;exact H
  obtain ⟨t202,A5,H⟩:=xa H;(try dsimp only at H);by_cases c6:t202 = true
  ·subst c6
   replace H:(if 0≤(IntKind.u64.wrap (a1)) then (some (Go.bits .or .i64 a0 (shl .i64 1 (IntKind.u64.wrap (a1))))) else (none)) = some r:=by rw [if_pos rfl] at H;exact H
   obtain ⟨j,z⟩:∃ j_:Int,(IntKind.u64.wrap (a1)) = j_:=⟨_,rfl⟩
   replace H:(if 0≤(j) then (some (Go.bits .or .i64 a0 (shl .i64 1 (j)))) else (none)) = some r:=by first | (rw [z] at H;exact H) | (simp only [z] at H ⊢;exact H)
   (try rw [z] at A3);(try rw [z] at A5);obtain ⟨c8,H⟩:=xt H;have a8:=eq_true c8;have a9:decide (0≤(j)) = true:=decide_eq_true c8;clear c8;obtain ⟨X,y⟩:∃ j_:Int,(shl .i64 1 (j)) = j_:=⟨_,rfl⟩
   replace H:(some (Go.bits .or .i64 a0 (X))) = some r:=by first | (rw [y] at H;exact H) | (simp only [y] at H ⊢;exact H)
   (try rw [y] at A3);(try rw [y] at A5);have Y:(IntKind.i64.wrap (1 * 2 ^ min (j).toNat 64)) = X:=y;have a2:(j)≤64→(IntKind.i64.wrap (1 * 2 ^ (j).toNat)) = X:=eX y;have a4:(IntKind.i64.wrap (2 ^ min (j).toNat 64)) = X:=by have h_:=Y;rw [Int.one_mul] at h_;exact h_
   have a5:(j)≤64→(IntKind.i64.wrap (2 ^ (j).toNat)) = X:=fun a3=>by have h_:=a2 a3;rw [Int.one_mul] at h_;exact h_
   have a6:(wrap64 (1 * 2 ^ min (j).toNat 64)) = X:=(b7 _).symm.trans Y;have a7:(j)≤64→(wrap64 (1 * 2 ^ (j).toNat)) = X:=fun h_=>(b7 _).symm.trans (a2 h_)
   obtain rfl:=Option.some.inj H;go_enter Tryz.func239,Tryz.ntmps239;go_wp2_with (first | ((with_reducible refine aD (f:=96) rfl ?_);refine ws (some 6) Tryz.func96 #[.int .i64 8,.int .i64 a0] ?_;(with_reducible refine (bL.calls 8 a0 true _ A3.out).mono ?_);rintro e w' ⟨rfl,⟨nd,rfl⟩⟩;refine ⟨_,rfl,?_⟩) | (go_at_call 46;(with_reducible refine (bD.calls a1 0 7 true _ A5.out).mono ?_);rintro e w' ⟨rfl,⟨nd,rfl⟩⟩));go_ret;exact ⟨by first | rfl | (simp;done) | (simp only [← z,← y] <;> (first | rfl | simp)) | (simp [*];done),zt⟩
  ·replace c6:=Bool.eq_false_iff.mpr c6
   subst c6;replace H:(some a0) = some r:=by rw [if_neg (show ¬ (false = true) by decide)] at H;exact H
   obtain rfl:=Option.some.inj H;go_enter Tryz.func239,Tryz.ntmps239;go_wp2_with (first | ((with_reducible refine aD (f:=96) rfl ?_);refine ws (some 6) Tryz.func96 #[.int .i64 8,.int .i64 a0] ?_;(with_reducible refine (bL.calls 8 a0 true _ A3.out).mono ?_);rintro e w' ⟨rfl,⟨nd,rfl⟩⟩;refine ⟨_,rfl,?_⟩) | (go_at_call 46;(with_reducible refine (bD.calls a1 0 7 false _ A5.out).mono ?_);rintro e w' ⟨rfl,⟨nd,rfl⟩⟩));go_ret;exact ⟨ww,zt⟩
 ·replace c4:=Bool.eq_false_iff.mpr c4
  subst c4;replace H:(some a0) = some r:=by rw [if_neg (show ¬ (false = true) by decide)] at H;exact H
  obtain rfl:=Option.some.inj H;go_enter Tryz.func239,Tryz.ntmps239;go_wp2_with (first | ((with_reducible refine aD (f:=96) rfl ?_);refine ws (some 6) Tryz.func96 #[.int .i64 8,.int .i64 a0] ?_;(with_reducible refine (bL.calls 8 a0 false _ A3.out).mono ?_);rintro e w' ⟨rfl,⟨nd,rfl⟩⟩;refine ⟨_,rfl,?_⟩));go_ret;exact ⟨ww,zt⟩
def ga.f (a0:Int) (j:Int):Option (Bool):=(bL.f 8 a0).bind fun t203=>(if t203 = true then ((bD.f j 0 7).bind fun t204=>(if t204 = true then ((bZ.f a0 j).bind fun t205=>(some t205)) else (some false))) else (some false))
set_option maxHeartbeats 8000000 in
set_option maxRecDepth 100000 in
theorem ga.calls (a0:Int) (j:Int) (r:Bool) (w:World) (h:ga.f a0 j = some r) :
  Calls Tryz.prog 243 #[.int .i64 a0,.int .i64 j] w fun e w'=>e = .returned (.bool r)∧cT w w':=by
 unfold ga.f at h;have H:=h;clear h;obtain ⟨t203,y,H⟩:=xa H;(try dsimp only at H);by_cases c4:t203 = true
 ·subst c4
  replace H:((bD.f j 0 7).bind fun t204=>(if t204 = true then ((bZ.f a0 j).bind fun t205=>(some t205)) else (some false))) = some r:=by rw [if_pos rfl] at H;exact H
  obtain ⟨t204,z,H⟩:=xa H;(try dsimp only at H);by_cases c6:t204 = true
  ·subst c6
   replace H:((bZ.f a0 j).bind fun t205=>(some t205)) = some r:=by rw [if_pos rfl] at H;exact H
   obtain ⟨t205,X,H⟩:=xa H;(try dsimp only at H);obtain rfl:=Option.some.inj H;go_enter Tryz.func243,Tryz.ntmps243;go_wp2_with (first | ((with_reducible refine aD (f:=96) rfl ?_);refine ws (some 6) Tryz.func96 #[.int .i64 8,.int .i64 a0] ?_;(with_reducible refine (bL.calls 8 a0 true _ y.out).mono ?_);rintro e w' ⟨rfl,⟨nd,rfl⟩⟩;refine ⟨_,rfl,?_⟩) | (go_at_call 46;(with_reducible refine (bD.calls j 0 7 true _ z.out).mono ?_);rintro e w' ⟨rfl,⟨nd,rfl⟩⟩) | (go_at_call 134;(with_reducible refine (bZ.calls a0 j t205 _ X.out).mono ?_);rintro e w' ⟨rfl,⟨nd,rfl⟩⟩));go_ret;exact ⟨ww,zt⟩
  ·replace c6:=Bool.eq_false_iff.mpr c6
   subst c6;replace H:(some false) = some r:=by rw [if_neg (show ¬ (false = true) by decide)] at H;exact H
   obtain rfl:=Option.some.inj H;go_enter Tryz.func243,Tryz.ntmps243;go_wp2_with (first | ((with_reducible refine aD (f:=96) rfl ?_);refine ws (some 6) Tryz.func96 #[.int .i64 8,.int .i64 a0] ?_;(with_reducible refine (bL.calls 8 a0 true _ y.out).mono ?_);rintro e w' ⟨rfl,⟨nd,rfl⟩⟩;refine ⟨_,rfl,?_⟩) | (go_at_call 46;(with_reducible refine (bD.calls j 0 7 false _ z.out).mono ?_);rintro e w' ⟨rfl,⟨nd,rfl⟩⟩));go_ret;exact ⟨ww,zt⟩
 ·replace c4:=Bool.eq_false_iff.mpr c4
  subst c4;replace H:(some false) = some r:=by rw [if_neg (show ¬ (false = true) by decide)] at H;exact H
  obtain rfl:=Option.some.inj H;go_enter Tryz.func243,Tryz.ntmps243;go_wp2_with (first | ((with_reducible refine aD (f:=96) rfl ?_);refine ws (some 6) Tryz.func96 #[.int .i64 8,.int .i64 a0] ?_;(with_reducible refine (bL.calls 8 a0 false _ y.out).mono ?_);rintro e w' ⟨rfl,⟨nd,rfl⟩⟩;refine ⟨_,rfl,?_⟩));go_ret;exact ⟨ww,zt⟩
def bI.l0:Nat→Int→List Int→Int→Option (List Int)
 | 0,_,_,_=>none
 | k+1,z,y,j=>if j < 8 then ((ga.f z j).bind fun t209=>(if t209 = true then (if y.length < 17592186044416 then (bI.l0 k z (y ++ [j]) (wrap64 (j+1))) else (none)) else (bI.l0 k z y (wrap64 (j+1))))) else (some y)
def bI.f (k:Nat) (a0:Int):Option (List Int):=bI.l0 k a0 (([]:List Int)) 0
theorem bI.dj:∀ k,af.S3 bI.l0 k
 | 0=>by and_intros <;> (repeat intro _) <;> exact AN rfl
 | k+1=>by
  have j:=bI.dj k;and_intros <;> (repeat intro _) <;> unfold bI.l0 <;> exact ⟨AI⟩
theorem bI.mono:∀ a0 k,gW (bI.f k a0) (bI.f (k+1) a0):=by
 intro a0 k;have j:=bI.dj k;unfold bI.f;exact AI
instance bI.m:af.V1 bI.f:=fun _ _=>⟨bI.mono _ _⟩
set_option maxHeartbeats 8000000 in
set_option maxRecDepth 100000 in
theorem bI.calls (k:Nat) (a0:Int) (r:List Int) (w:World) (h:bI.f k a0 = some r) :
  Calls Tryz.prog 242 #[.int .i64 a0] w fun e w'=>∃ aa:Value,e = .returned (aa)∧Kd.R (Kd.int .i64) 3 w' w.heap.size (fun _=>True) aa r∧Below w.heap.size w w':=by
 have HB:=ae.mk (Below.refl w.heap.size w);unfold bI.f at h;have H:=h;clear h;obtain ⟨a4,z⟩:∃ y_:List Int,y_ = (([]:List Int)):=⟨_,rfl⟩
 replace H:(bI.l0 k a0 a4 0) = some r:=by (try rw [z]);exact AC
 have a1:=ae.mk z;clear z;have H':=ae.mk H;clear H;go_enter Tryz.func242,Tryz.ntmps242;go_wp2_with (first | (refine AL (Kd.int .i64) 3 5 ?_;intro aw w2 a2 hb ar a6;clear ar a6;(first | rw [← a1.out] at a2 | (simp only [Int.reduceToNat] at a2;rw [← a1.out] at a2));have a7:=ae.mk (Kd.b5 a2 (ak (wx HB.out)));replace HB:=xi HB hb;clear hb a2));go_loopg [3,4] k (fun kq v3 v4 w'=>∃ (y:List Int) (j:Int),v4 = .int .i64 j∧ae (bI.l0 kq a0 y j = some r)∧ae (kq≤k)∧ae (Kd.R (Kd.int .i64) 3 w' w.heap.size (fun _=>True) v3 y)∧ae (Below w.heap.size w w'))
 case atStart=>exact ⟨(a4),(0),ww,H',⟨Nat.le_refl _⟩,⟨ac a7.out⟩,⟨wx HB.out⟩⟩
 case round =>
  clear H';obtain ⟨y,j,rfl,HA,a3,Y,HB⟩:=hrel;cases gk with
  | zero=>exact absurd HA.out (by simp [bI.l0])
  | succ k1 =>
   have H:=HA.out;clear HA;simp only [bI.l0] at H;by_cases c4:j < 8
   ·rw [if_pos c4] at H
    have ab:=decide_eq_true c4;clear c4;obtain ⟨t209,A5,H⟩:=xa H;(try dsimp only at H);by_cases c6:t209 = true
    ·subst c6
     replace H:(if y.length < 17592186044416 then (bI.l0 k1 a0 (y ++ [j]) (wrap64 (j+1))) else (none)) = some r:=by rw [if_pos rfl] at H;exact H
     obtain ⟨c7,H⟩:=xt H;have am:=ae.mk c7;clear c7;obtain ⟨a5,X⟩:∃ y_:List Int,y_ = (y ++ [j]):=⟨_,rfl⟩
     replace H:(bI.l0 k1 a0 a5 (wrap64 (j+1))) = some r:=by (try rw [X]);exact AC
     have a8:=ae.mk X;clear X;have H':=ae.mk H;clear H;go_wp2_with (first | (refine ws (some 12) Tryz.func243 #[.int .i64 a0,.int .i64 j] ?_;(with_reducible refine (ga.calls a0 j true _ A5.out).mono ?_);rintro e w' ⟨rfl,⟨nd,rfl⟩⟩;refine ⟨_,rfl,?_⟩) | ((with_reducible refine cF (b:=.append) (xs:=#[.tmp 13,.tmp 15]) rfl ?_);at_builtin;refine Kd.eS (Kd.int .i64) (w0:=w) w.heap.size rfl (.tmp 13) (.tmp 15) 22 3 (.int .i64 0) 8 rfl Tryz.underlying22 fb rfl (by decide) (by omega) u3 y j [.int .i64 j] (fun _=>True) (fun _=>False) rfl rfl (by exact rfl) (fun _ hk=>hk.elim) (by exact fun _ _=>trivial) (by exact ac Y.out) (by exact wx HB.out) (by exact ak (wx HB.out)) (by have:=am.out;omega) ?_;intro aB w8 ho hb hg hat;rw [← a8.out] at ho;have ao:=ae.mk hb;have ap:=ae.mk ho;clear HB;clear Y;have HB:=ao;have a9:=ap;clear ao ap;clear ho hb hg hat));go_roundg k1;case measure=>have:=a3.out;omega
     case rel=>exact ⟨(a5),(wrap64 (j+1)),ww,H',⟨by have:=a3.out;omega⟩,⟨ac a9.out⟩,⟨wx HB.out⟩⟩
    ·replace c6:=Bool.eq_false_iff.mpr c6
     subst c6;replace H:(bI.l0 k1 a0 y (wrap64 (j+1))) = some r:=by rw [if_neg (show ¬ (false = true) by decide)] at H;exact H
     have H':=ae.mk H;clear H;go_wp2_with (first | (refine ws (some 12) Tryz.func243 #[.int .i64 a0,.int .i64 j] ?_;(with_reducible refine (ga.calls a0 j false _ A5.out).mono ?_);rintro e w' ⟨rfl,⟨nd,rfl⟩⟩;refine ⟨_,rfl,?_⟩));go_roundg k1;case measure=>have:=a3.out;omega
     case rel=>exact ⟨(y),(wrap64 (j+1)),ww,H',⟨by have:=a3.out;omega⟩,⟨ac Y.out⟩,⟨wx HB.out⟩⟩
   ·rw [if_neg c4] at H
    have ab:decide (j < 8) = false:=decide_eq_false c4;clear c4;obtain rfl:=Option.some.inj H;go_wp2;go_ret;exact ⟨_,zd,by (with_reducible repeat (first | apply Kd.cP | apply Kd.cQ | apply Kd.bY));exact Y.out,wy⟩
def cA.l0:Nat→ByteArray→List Int→Int→Option (ByteArray)
 | 0,_,_,_=>none
 | k+1,z,y,j=>if j < (y.length:Int) then (if 0≤j then (if 0≤(rd y j) then (if (rd y j)≤(wrap64 ((rd y j)+1)) then (if (wrap64 ((rd y j)+1))≤8 then (if z.size+((⟨#[97,98,99,100,101,102,103,104]⟩:ByteArray).extract ((rd y j):Int).toNat ((wrap64 ((rd y j)+1)):Int).toNat).size≤9223372036854775807 then (cA.l0 k (z ++ ((⟨#[97,98,99,100,101,102,103,104]⟩:ByteArray).extract ((rd y j):Int).toNat ((wrap64 ((rd y j)+1)):Int).toNat)) y (wrap64 (j+1))) else (none)) else (none)) else (none)) else (none)) else (none)) else (some z)
def cA.f (k:Nat) (a0:Int):Option (ByteArray):=(bL.f 8 a0).bind fun t213=>(if t213 = true then (if a0 = 0 then (some (⟨#[45]⟩:ByteArray)) else ((bI.f k a0).bind fun t214=>(cA.l0 k (⟨#[]⟩:ByteArray) t214 0))) else (some (⟨#[]⟩:ByteArray)))
theorem cA.dj:∀ k,af.S3 cA.l0 k
 | 0=>by and_intros <;> (repeat intro _) <;> exact AN rfl
 | k+1=>by
  have j:=cA.dj k;and_intros <;> (repeat intro _) <;> unfold cA.l0 <;> exact ⟨AI⟩
theorem cA.mono:∀ a0 k,gW (cA.f k a0) (cA.f (k+1) a0):=by
 intro a0 k;have j:=cA.dj k;unfold cA.f;exact AI
instance cA.m:af.V1 cA.f:=fun _ _=>⟨cA.mono _ _⟩
set_option maxHeartbeats 8000000 in
set_option maxRecDepth 100000 in
theorem cA.calls (k:Nat) (a0:Int) (r:ByteArray) (w:World) (h:cA.f k a0 = some r) :
  Calls Tryz.prog 240 #[.int .i64 a0] w fun e w'=>e = .returned (.string r)∧Below w.heap.size w w':=by
 have HB:=ae.mk (Below.refl w.heap.size w);unfold cA.f at h;have H:=h;clear h;obtain ⟨t213,A2,H⟩:=xa H;(try dsimp only at H);by_cases c3:t213 = true
 ·subst c3
  replace H:(if a0 = 0 then (some (⟨#[45]⟩:ByteArray)) else ((bI.f k a0).bind fun t214=>(cA.l0 k (⟨#[]⟩:ByteArray) t214 0))) = some r:=by rw [if_pos rfl] at H;exact H
  by_cases c4:a0 = 0
  ·rw [if_pos c4] at H
   have a5:(a0 == 0) = true:=beq_iff_eq.mpr c4;have a6:(a0 != 0) = false:=bne_eq_false_iff_eq.mpr c4;clear c4;obtain rfl:=Option.some.inj H;go_enter Tryz.func240,Tryz.ntmps240;go_wp2_with (first | (go_at_call 96;(with_reducible refine (bL.calls 8 a0 true _ A2.out).mono ?_);rintro e w' ⟨rfl,⟨nd,rfl⟩⟩;(try exact AH)));repeat (go_quiet (first | (go_at_call 96;(with_reducible refine (bL.calls 8 a0 true _ A2.out).mono ?_);rintro e w' ⟨rfl,⟨nd,rfl⟩⟩;(try exact AH)));try go_wp2_with (first | (go_at_call 96;(with_reducible refine (bL.calls 8 a0 true _ A2.out).mono ?_);rintro e w' ⟨rfl,⟨nd,rfl⟩⟩;(try exact AH))))
   go_ret;exact ⟨zd,wy⟩
  ·rw [if_neg c4] at H
   have a5:(a0 == 0) = false:=beq_eq_false_iff_ne.mpr c4;have a6:(a0 != 0) = true:=bne_iff_ne.mpr c4;obtain ⟨t214,A5,H⟩:=xa H;(try dsimp only at H);have H':=ae.mk H;clear H;go_enter Tryz.func240,Tryz.ntmps240;go_wp2_with (first | (go_at_call 96;(with_reducible refine (bL.calls 8 a0 true _ A2.out).mono ?_);rintro e w' ⟨rfl,⟨nd,rfl⟩⟩;(try exact AH)) | (go_at_call 242;(with_reducible refine (bI.calls k a0 t214 _ A5.out).mono ?_);rintro e w6 ⟨a1,rfl,z,hb⟩;have Y:=ae.mk (Kd.b5 z (ak (wx HB.out)));replace HB:=xi HB hb;(try clear hb);(try clear a7);(try clear hk);(try clear hi);(try clear z)));repeat (go_quiet (first | (go_at_call 96;(with_reducible refine (bL.calls 8 a0 true _ A2.out).mono ?_);rintro e w' ⟨rfl,⟨nd,rfl⟩⟩;(try exact AH)) | (go_at_call 242;(with_reducible refine (bI.calls k a0 t214 _ A5.out).mono ?_);rintro e w6 ⟨a1,rfl,z,hb⟩;have Y:=ae.mk (Kd.b5 z (ak (wx HB.out)));replace HB:=xi HB hb;(try clear hb);(try clear a7);(try clear hk);(try clear hi);(try clear z)));try go_wp2_with (first | (go_at_call 96;(with_reducible refine (bL.calls 8 a0 true _ A2.out).mono ?_);rintro e w' ⟨rfl,⟨nd,rfl⟩⟩;(try exact AH)) | (go_at_call 242;(with_reducible refine (bI.calls k a0 t214 _ A5.out).mono ?_);rintro e w6 ⟨a1,rfl,z,hb⟩;have Y:=ae.mk (Kd.b5 z (ak (wx HB.out)));replace HB:=xi HB hb;(try clear hb);(try clear a7);(try clear hk);(try clear hi);(try clear z))))
   go_loopg [3,5] k (fun kq v3 v5 w'=>∃ (y:ByteArray) (j:Int),v3 = .string y∧v5 = .int .i64 j∧ae (cA.l0 kq y t214 j = some r)∧ae (kq≤k)∧ae (Kd.R (Kd.int .i64) 3 w' w.heap.size (fun _=>True) a1 t214)∧ae (Below w.heap.size w w'))
   case atStart=>exact ⟨((⟨#[]⟩:ByteArray)),(0),ww,ww,H',⟨Nat.le_refl _⟩,⟨ac Y.out⟩,⟨wx HB.out⟩⟩
   case round =>
    clear H';obtain ⟨y,j,rfl,rfl,HA,a8,X,HB⟩:=hrel;cases gk with
    | zero=>exact absurd HA.out (by simp [cA.l0])
    | succ k1 =>
     have H:=HA.out;clear HA;simp only [cA.l0] at H;by_cases c7:j < (t214.length:Int)
     ·rw [if_pos c7] at H
      have a9:=decide_eq_true c7;clear c7;obtain ⟨c8,H⟩:=xt H;have b0:=decide_eq_true c8;clear c8;obtain ⟨c9,H⟩:=xt H;have b2:=eq_true c9;have b3:decide (0≤(rd t214 j)) = true:=decide_eq_true c9;clear c9;obtain ⟨iN,H⟩:=xt H;have aB:=eq_true iN;have aF:decide ((rd t214 j)≤(wrap64 ((rd t214 j)+1))) = true:=decide_eq_true iN;obtain ⟨aa,H⟩:=xt H;have aL:=eq_true aa;have aO:decide ((wrap64 ((rd t214 j)+1))≤8) = true:=decide_eq_true aa;obtain ⟨a2,H⟩:=xt H;have aP:=eq_true a2;have aR:decide (y.size+((⟨#[97,98,99,100,101,102,103,104]⟩:ByteArray).extract ((rd t214 j):Int).toNat ((wrap64 ((rd t214 j)+1)):Int).toNat).size≤9223372036854775807) = true:=decide_eq_true a2;(try have aS:(9223372036854775807 < y.size+((⟨#[97,98,99,100,101,102,103,104]⟩:ByteArray).extract ((rd t214 j):Int).toNat ((wrap64 ((rd t214 j)+1)):Int).toNat).size) = False:=eq_false (Nat.not_lt.2 a2));have H':=ae.mk H;clear H;obtain ⟨b4,ba,ab⟩:=Kd.bk X.out;subst ab;obtain ⟨a3,am,ao,bc,bi⟩:=At (Kd.az X.out).2.2 j;cases am
      obtain ⟨a4,ap,ar,bm,bo⟩:=At (Kd.az X.out).2.2 j;obtain rfl:a3 = a4:=(by injection ap)
      go_wp2;repeat (go_quiet (fail);try go_wp2)
      go_roundg k1;case measure=>have:=a8.out;omega
      case rel=>exact ⟨(y ++ ((⟨#[97,98,99,100,101,102,103,104]⟩:ByteArray).extract ((rd t214 j):Int).toNat ((wrap64 ((rd t214 j)+1)):Int).toNat)),(wrap64 (j+1)),ww,ww,H',⟨by have:=a8.out;omega⟩,⟨ac X.out⟩,⟨wx HB.out⟩⟩
     ·rw [if_neg c7] at H
      have a9:decide (j < (t214.length:Int)) = false:=decide_eq_false c7;clear c7;obtain rfl:=Option.some.inj H;obtain ⟨bs,bv,aw⟩:=Kd.bk X.out;subst aw;go_wp2;repeat (go_quiet (fail);try go_wp2)
      go_ret;exact ⟨zd,wy⟩
 ·replace c3:=Bool.eq_false_iff.mpr c3
  subst c3;replace H:(some (⟨#[]⟩:ByteArray)) = some r:=by rw [if_neg (show ¬ (false = true) by decide)] at H;exact H
  obtain rfl:=Option.some.inj H;go_enter Tryz.func240,Tryz.ntmps240;go_wp2_with (first | (go_at_call 96;(with_reducible refine (bL.calls 8 a0 false _ A2.out).mono ?_);rintro e w' ⟨rfl,⟨nd,rfl⟩⟩;(try exact AH)));repeat (go_quiet (first | (go_at_call 96;(with_reducible refine (bL.calls 8 a0 false _ A2.out).mono ?_);rintro e w' ⟨rfl,⟨nd,rfl⟩⟩;(try exact AH)));try go_wp2_with (first | (go_at_call 96;(with_reducible refine (bL.calls 8 a0 false _ A2.out).mono ?_);rintro e w' ⟨rfl,⟨nd,rfl⟩⟩;(try exact AH))))
  go_ret;exact ⟨zd,wy⟩
mutual
def bO.l0:Nat→ByteArray→Int→Int→Option (Int×Bool)
 | 0,_,_,_=>none
 | k+1,j,z,y=>if y < (j.size:Int) then (bO.j1 k j z y (j.toList != ([45]:List UInt8))) else (bO.j1 k j z y false)
def bO.j1:Nat→ByteArray→Int→Int→Bool→Option (Int×Bool)
 | 0,_,_,_,_=>none
 | k+1,j,z,y,X=>if X = true then (if 0≤y then (if y < (j.size:Int) then (if (bt j y) < 97 then (some (0,false)) else (if (bt j y) > 104 then (some (0,false)) else ((fU.f z (((bt j y) - 97) % 256)).bind fun t219=>(bO.l0 k j t219 (wrap64 (y+1)))))) else (none)) else (none)) else ((cA.f k z).bind fun t220=>(if t220.toList = j.toList then (some (z,true)) else (some (0,false))))
end
def bO.f (k:Nat) (a0:ByteArray):Option (Int×Bool):=bO.l0 k a0 0 0
theorem bO.dj:∀ k,af.S3 bO.l0 k∧af.S4 bO.j1 k
 | 0=>by and_intros <;> (repeat intro _) <;> exact AN rfl
 | k+1=>by
  obtain ⟨j,y⟩:=bO.dj k;and_intros <;> (repeat intro _) <;> (first | unfold bO.l0 | unfold bO.j1) <;> exact ⟨AI⟩
theorem bO.mono:∀ a0 k,gW (bO.f k a0) (bO.f (k+1) a0):=by
 intro a0 k;obtain ⟨j,y⟩:=bO.dj k;unfold bO.f;exact AI
instance bO.m:af.V1 bO.f:=fun _ _=>⟨bO.mono _ _⟩
set_option maxHeartbeats 8000000 in
set_option maxRecDepth 100000 in
theorem bO.calls (k:Nat) (a0:ByteArray) (r1:Int) (r2:Bool) (w:World) (h:bO.f k a0 = some (r1,r2)) :
  Calls Tryz.prog 234 #[.string a0] w fun e w'=>e = .returned (.tuple #[.int .i64 r1,.bool r2])∧Below w.heap.size w w':=by
 have HB:=ae.mk (Below.refl w.heap.size w);unfold bO.f at h;have H:=h;clear h;have H':=ae.mk H;clear H;go_enter Tryz.func234,Tryz.ntmps234;go_wp2;go_loopg [4,5] k (fun kq v4 v5 w'=>∃ (y:Int) (j:Int),v4 = .int .i64 y∧v5 = .int .i64 j∧ae (bO.l0 kq a0 y j = some (r1,r2))∧ae (kq≤k)∧ae (Below w.heap.size w w'))
 case atStart=>exact ⟨(0),(0),ww,ww,H',⟨Nat.le_refl _⟩,⟨wx HB.out⟩⟩
 case round =>
  clear H';obtain ⟨y,j,rfl,rfl,HA,a2,HB⟩:=hrel;cases gk with
  | zero=>exact absurd HA.out (by simp [bO.l0])
  | succ k1 =>
   have H:=HA.out;clear HA;simp only [bO.l0] at H;have a3:=ae.mk H;clear H;go_upto_region 3 with (fail)
   go_cut [13] (fun ao wc=>∃ (kq:Nat) (z:Bool),ao = .bool z∧ae (bO.j1 kq a0 y j z = some (r1,r2))∧ae (kq≤k1)∧ae (Below w.heap.size w wc))
   case first =>
    have H:=a3.out;clear a3;by_cases c3:j < (a0.size:Int)
    ·rw [if_pos c3] at H
     have X:=decide_eq_true c3;clear c3;(first | rw [X] | (simp only [b7,bC];rw [X]) | skip);have H':=ae.mk H;clear H;go_wp2;go_meet
     case rel=>exact ⟨_,((a0.toList != ([45]:List UInt8))),ww,H',⟨by have:=a2.out;first | omega | exact Nat.le_refl _⟩,⟨wx HB.out⟩⟩
    ·rw [if_neg c3] at H
     have X:decide (j < (a0.size:Int)) = false:=decide_eq_false c3;clear c3;(first | rw [X] | (simp only [b7,bC];rw [X]) | skip);have H':=ae.mk H;clear H;go_wp2;go_meet
     case rel=>exact ⟨_,(false),ww,H',⟨by have:=a2.out;first | omega | exact Nat.le_refl _⟩,⟨wx HB.out⟩⟩
   case rest =>
    clear a3;obtain ⟨kq,z,rfl,HA,a7,HB⟩:=hcut;cases kq with
    | zero=>exact absurd HA.out (by simp [bO.j1])
    | succ a1 =>
     have H:=HA.out;clear HA;simp only [bO.j1] at H;by_cases c4:z = true
     ·subst c4
      replace H:(if 0≤j then (if j < (a0.size:Int) then (if (bt a0 j) < 97 then (some (0,false)) else (if (bt a0 j) > 104 then (some (0,false)) else ((fU.f y (((bt a0 j) - 97) % 256)).bind fun t219=>(bO.l0 a1 a0 t219 (wrap64 (j+1)))))) else (none)) else (none)) = some (r1,r2):=by rw [if_pos rfl] at H;exact H
      obtain ⟨c5,H⟩:=xt H;have aB:=decide_eq_true c5;clear c5;obtain ⟨c6,H⟩:=xt H;have aF:=decide_eq_true c6;clear c6;by_cases c8:(bt a0 j) < 97
      ·rw [if_pos c8] at H
       have a8:=decide_eq_true c8;clear c8;simp only [Option.some.injEq,Prod.mk.injEq] at H;obtain ⟨rfl,rfl⟩:=H;have p7:0≤(j:Int):=yk;have q7:j < (a0.size:Int):=yk;have a9:=jo a0 j;replace p7:=eq_true p7;replace q7:=eq_true q7;go_wp2;go_ret2
       exact ⟨zd,wy⟩
      ·rw [if_neg c8] at H
       have a8:decide ((bt a0 j) < 97) = false:=decide_eq_false c8;clear c8;by_cases iN:(bt a0 j) > 104
       ·rw [if_pos iN] at H
        have a4:=decide_eq_true iN;clear iN;simp only [Option.some.injEq,Prod.mk.injEq] at H;obtain ⟨rfl,rfl⟩:=H;have p7:0≤(j:Int):=yk;have q7:j < (a0.size:Int):=yk;have a9:=jo a0 j;replace p7:=eq_true p7;replace q7:=eq_true q7;have p9:0≤(j:Int):=yk;have q9:j < (a0.size:Int):=yk;have ap:=jo a0 j;replace p9:=eq_true p9;replace q9:=eq_true q9;go_wp2;go_ret2
        exact ⟨zd,wy⟩
       ·rw [if_neg iN] at H
        have a4:decide (104 < (bt a0 j)) = false:=decide_eq_false iN;clear iN;obtain ⟨t219,ar,H⟩:=xa H;(try dsimp only at H);have H':=ae.mk H;clear H;have p7:0≤(j:Int):=yk;have q7:j < (a0.size:Int):=yk;have a9:=jo a0 j;replace p7:=eq_true p7;replace q7:=eq_true q7;have p9:0≤(j:Int):=yk;have q9:j < (a0.size:Int):=yk;have ap:=jo a0 j;replace p9:=eq_true p9;replace q9:=eq_true q9;have aa:0≤(j:Int):=yk;have ab:j < (a0.size:Int):=yk;have aL:=jo a0 j;replace aa:=eq_true aa;replace ab:=eq_true ab;go_wp2_with (first | (refine ws (some 32) Tryz.func239 #[.int .i64 y,.int .i64 (((bt a0 j) - 97) % 256)] ?_;(with_reducible refine (fU.calls y (((bt a0 j) - 97) % 256) t219 _ ar.out).mono ?_);rintro e w' ⟨rfl,⟨nd,rfl⟩⟩;refine ⟨_,rfl,?_⟩));go_roundg a1;case measure=>have:=a2.out;have:=a7.out;omega
        case rel=>exact ⟨(t219),(wrap64 (j+1)),ww,ww,H',⟨by have:=a2.out;have:=a7.out;omega⟩,⟨wx HB.out⟩⟩
     ·replace c4:=Bool.eq_false_iff.mpr c4
      subst c4;replace H:((cA.f a1 y).bind fun t220=>(if t220.toList = a0.toList then (some (y,true)) else (some (0,false)))) = some (r1,r2):=by rw [if_neg (show ¬ (false = true) by decide)] at H;exact H
      obtain ⟨t220,am,H⟩:=xa H;(try dsimp only at H);by_cases Y:t220.toList = a0.toList
      ·rw [if_pos Y] at H
       have a5:(t220.toList == a0.toList) = true:=beq_iff_eq.mpr Y;have a6:(t220.toList != a0.toList) = false:=bne_eq_false_iff_eq.mpr Y;clear Y;simp only [Option.some.injEq,Prod.mk.injEq] at H;obtain ⟨rfl,rfl⟩:=H;go_wp2_with (first | (refine ws (some 34) Tryz.func240 #[.int .i64 y] ?_;(with_reducible refine (cA.calls a1 y t220 _ am.out).mono ?_);rintro e aO ⟨rfl,hb⟩;refine ⟨_,rfl,?_⟩;replace HB:=xi HB hb;(try clear hb);(try clear aw);(try clear hk);(try clear hi)));go_ret2
       exact ⟨zd,wy⟩
      ·rw [if_neg Y] at H
       have a5:(t220.toList == a0.toList) = false:=beq_eq_false_iff_ne.mpr Y;have a6:(t220.toList != a0.toList) = true:=bne_iff_ne.mpr Y;simp only [Option.some.injEq,Prod.mk.injEq] at H;obtain ⟨rfl,rfl⟩:=H;go_wp2_with (first | (refine ws (some 34) Tryz.func240 #[.int .i64 y] ?_;(with_reducible refine (cA.calls a1 y t220 _ am.out).mono ?_);rintro e aP ⟨rfl,hb⟩;refine ⟨_,rfl,?_⟩;replace HB:=xi HB hb;(try clear hb);(try clear aw);(try clear hk);(try clear hi)));go_ret2
       exact ⟨zd,wy⟩
def bB.l0:Nat→Int→List Int→Int→Option (Bool)
 | 0,_,_,_=>none
 | k+1,z,y,j=>if j < (y.length:Int) then (if 0≤j then ((bL.f z (rd y j)).bind fun t222=>(if t222 = true then (bB.l0 k z y (wrap64 (j+1))) else (some false))) else (none)) else (some true)
def bB.f (k:Nat) (a0:Int) (l1:List Int):Option (Bool):=bB.l0 k a0 l1 0
theorem bB.dj:∀ k,af.S3 bB.l0 k
 | 0=>by and_intros <;> (repeat intro _) <;> exact AN rfl
 | k+1=>by
  have j:=bB.dj k;and_intros <;> (repeat intro _) <;> unfold bB.l0 <;> exact ⟨AI⟩
theorem bB.mono:∀ a0 j k,gW (bB.f k a0 j) (bB.f (k+1) a0 j):=by
 intro a0 j k;have y:=bB.dj k;unfold bB.f;exact AI
instance bB.m:af.V2 bB.f:=fun _ _ _=>⟨bB.mono _ _ _⟩
set_option maxHeartbeats 8000000 in
set_option maxRecDepth 100000 in
theorem bB.calls (k:Nat) (a0:Int) (A1:Option Addr) (c1:Nat) (l1:List Int) (r:Bool) (w:World) (Y:Kd.C (Kd.int .i64) w A1 l1.length l1) (a1:l1.length≤c1) (h:bB.f k a0 l1 = some r) :
  Calls Tryz.prog 185 #[.int .i64 a0,.slice A1 l1.length c1] w fun e w'=>e = .returned (.bool r)∧cT w w':=by
 have a2:=ae.mk Y;have a8:=ae.mk a1;clear Y a1;unfold bB.f at h;have H:=h;clear h;have H':=ae.mk H;clear H;go_enter Tryz.func185,Tryz.ntmps185;go_wp2;go_loopg [5] k (fun kq v5 w'=>∃ (j:Int),v5 = .int .i64 j∧ae (bB.l0 kq a0 l1 j = some r)∧ae (kq≤k)∧cT w w')
 case atStart=>exact ⟨(0),ww,H',⟨Nat.le_refl _⟩,zt⟩
 case round =>
  clear H';obtain ⟨j,rfl,HA,a3,⟨m1,rfl⟩⟩:=hrel;cases gk with
  | zero=>exact absurd HA.out (by simp [bB.l0])
  | succ k1 =>
   have H:=HA.out;clear HA;simp only [bB.l0] at H;by_cases c3:j < (l1.length:Int)
   ·rw [if_pos c3] at H
    have a4:=decide_eq_true c3;clear c3;obtain ⟨c4,H⟩:=xt H;have a7:=decide_eq_true c4;clear c4;obtain ⟨t222,A5,H⟩:=xa H;(try dsimp only at H);by_cases c6:t222 = true
    ·subst c6
     replace H:(bB.l0 k1 a0 l1 (wrap64 (j+1))) = some r:=by rw [if_pos rfl] at H;exact H
     have H':=ae.mk H;clear H;obtain ⟨X,y,z,a5,a6⟩:=At a2.out j;cases y
     go_wp2_with (first | (refine ws (some 17) Tryz.func96 #[.int .i64 a0,.int .i64 (rd l1 j)] ?_;(with_reducible refine (bL.calls a0 (rd l1 j) true _ A5.out).mono ?_);rintro e w' ⟨rfl,⟨nd,rfl⟩⟩;refine ⟨_,rfl,?_⟩));go_roundg k1;case measure=>have:=a3.out;omega
     case rel=>exact ⟨(wrap64 (j+1)),ww,H',⟨by have:=a3.out;omega⟩,zt⟩
    ·replace c6:=Bool.eq_false_iff.mpr c6
     subst c6;replace H:(some false) = some r:=by rw [if_neg (show ¬ (false = true) by decide)] at H;exact H
     obtain rfl:=Option.some.inj H;obtain ⟨X,y,z,a5,a6⟩:=At a2.out j;cases y
     go_wp2_with (first | (refine ws (some 17) Tryz.func96 #[.int .i64 a0,.int .i64 (rd l1 j)] ?_;(with_reducible refine (bL.calls a0 (rd l1 j) false _ A5.out).mono ?_);rintro e w' ⟨rfl,⟨nd,rfl⟩⟩;refine ⟨_,rfl,?_⟩));go_ret;exact ⟨ww,zt⟩
   ·rw [if_neg c3] at H
    have a4:decide (j < (l1.length:Int)) = false:=decide_eq_false c3;clear c3;obtain rfl:=Option.some.inj H;go_wp2;go_ret;exact ⟨ww,zt⟩
def dB.l0:Nat→List ByteArray→ByteArray→List Int→Int→Option (ByteArray)
 | 0,_,_,_,_=>none
 | k+1,z,Y,X,j=>if j < (z.length:Int) then (if j > 0 then (if X.length+Y.size < 140737488355328 then ((some (X ++ bytesOf Y:List Int)).bind fun y=>(if 0≤j then (if y.length+(fL ByteArray.empty z j).size < 140737488355328 then (dB.l0 k z Y (y ++ bytesOf (fL ByteArray.empty z j)) (wrap64 (j+1))) else (none)) else (none))) else (none)) else (if 0≤j then (if X.length+(fL ByteArray.empty z j).size < 140737488355328 then (dB.l0 k z Y (X ++ bytesOf (fL ByteArray.empty z j)) (wrap64 (j+1))) else (none)) else (none))) else (some (strOfNums X))
def dB.f (k:Nat) (l0:List ByteArray) (j:ByteArray):Option (ByteArray):=dB.l0 k l0 j (([]:List Int)) 0
theorem dB.dj:∀ k,af.S4 dB.l0 k
 | 0=>by and_intros <;> (repeat intro _) <;> exact AN rfl
 | k+1=>by
  have j:=dB.dj k;and_intros <;> (repeat intro _) <;> unfold dB.l0 <;> exact ⟨AI⟩
theorem dB.mono:∀ a0 j k,gW (dB.f k a0 j) (dB.f (k+1) a0 j):=by
 intro a0 j k;have y:=dB.dj k;unfold dB.f;exact AI
instance dB.m:af.V2 dB.f:=fun _ _ _=>⟨dB.mono _ _ _⟩
set_option maxHeartbeats 8000000 in
set_option maxRecDepth 100000 in
theorem dB.calls (k:Nat) (A0:Option Addr) (c0:Nat) (l0:List ByteArray) (a1:ByteArray) (r:ByteArray) (w:World) (bo:Kd.C Kd.string w A0 l0.length l0) (bs:l0.length≤c0) (h:dB.f k l0 a1 = some r) :
  Calls Tryz.prog 241 #[.slice A0 l0.length c0,.string a1] w fun e w'=>e = .returned (.string r)∧Below w.heap.size w w':=by
 have bv:=ae.mk bo;have d9:=ae.mk bs;clear bo bs;have HB:=ae.mk (Below.refl w.heap.size w);unfold dB.f at h;have H:=h;clear h;obtain ⟨aR,a5⟩:∃ y_:List Int,y_ = (([]:List Int)):=⟨_,rfl⟩
 replace H:(dB.l0 k l0 a1 aR 0) = some r:=by (try rw [a5]);exact AC
 have a9:=ae.mk a5;clear a5;have H':=ae.mk H;clear H;go_enter Tryz.func241,Tryz.ntmps241;go_wp2_with (first | (refine AL (Kd.int .u8) 5 7 ?_;intro d7 w3 aa hb cy b0;clear cy b0;(first | rw [← a9.out] at aa | (simp only [Int.reduceToNat] at aa;rw [← a9.out] at aa));have b2:=ae.mk (Kd.b5 aa (ak (wx HB.out)));replace HB:=xi HB hb;clear hb aa));go_loopg [5,6] k (fun kq v5 v6 w'=>∃ (y:List Int) (j:Int),v6 = .int .i64 j∧ae (dB.l0 kq l0 a1 y j = some r)∧ae (kq≤k)∧ae (Kd.R (Kd.int .u8) 5 w' w.heap.size (fun _=>True) v5 y)∧ae (Below w.heap.size w w'))
 case atStart=>exact ⟨(aR),(0),ww,H',⟨Nat.le_refl _⟩,⟨ac b2.out⟩,⟨wx HB.out⟩⟩
 case round =>
  clear H';obtain ⟨y,j,rfl,HA,aP,Y,HB⟩:=hrel;cases gk with
  | zero=>exact absurd HA.out (by simp [dB.l0])
  | succ k1 =>
   have H:=HA.out;clear HA;simp only [dB.l0] at H;by_cases c5:j < (l0.length:Int)
   ·rw [if_pos c5] at H
    have c1:=decide_eq_true c5;clear c5;by_cases c6:j > 0
    ·rw [if_pos c6] at H
     have ca:=decide_eq_true c6;clear c6;obtain ⟨c7,H⟩:=xt H;have cb:=ae.mk c7;clear c7;obtain ⟨a0,a6⟩:∃ y_:List Int,y_ = (y ++ bytesOf a1):=⟨_,rfl⟩
     replace H:(if 0≤j then (if a0.length+(fL ByteArray.empty l0 j).size < 140737488355328 then (dB.l0 k1 l0 a1 (a0 ++ bytesOf (fL ByteArray.empty l0 j)) (wrap64 (j+1))) else (none)) else (none)) = some r:=by (try rw [a6]);exact AC
     have b3:=ae.mk a6;clear a6;obtain ⟨c8,H⟩:=xt H;have d8:=decide_eq_true c8;clear c8;obtain ⟨c9,H⟩:=xt H;have cc:=ae.mk c9;clear c9;obtain ⟨ab,a7⟩:∃ y_:List Int,y_ = (a0 ++ bytesOf (fL ByteArray.empty l0 j)):=⟨_,rfl⟩
     replace H:(dB.l0 k1 l0 a1 ab (wrap64 (j+1))) = some r:=by (try rw [a7]);exact AC
     have b4:=ae.mk a7;clear a7;have H':=ae.mk H;clear H;go_wp2_with (first | (at_builtin;refine iS (w0:=w) w.heap.size rfl (.tmp 16) _ 41 9 5 rfl Tryz.underlying41 Tryz.underlying9 uT u5 y a1 rfl rfl ?aO ?aB ?aS ?aL ?_;(case aB=>exact (wx HB.out));(case aO=>exact (Kd.iw (ac Y.out)));(case aS=>exact (ak (wx HB.out)));(case aL=>have:=cb.out;omega);intro v227 d0 a2 hb hg;have ho:=Kd.jV (h1:=fun _=>rfl) (ok:=fun _=>True) a2 (fun _ _=>trivial);clear a2;have hat:=True.intro;rw [← b3.out] at ho;change Kd.R (Kd.int .u8) 5 d0 w.heap.size (fun _=>True) v227 a0 at ho;have a3:=ae.mk hb;have a4:=ae.mk ho;clear HB;clear Y;have HB:=a3;have am:=a4;clear a3 a4;clear ho hb hg hat;have ao:0≤(j:Int):=yk;have ap:j < (l0.length:Int):=yk;obtain ⟨d1,ce,z⟩:=Kd.fR bv.out j ao ap;cases ce;replace z:=(HB.out.cell (World.block_lt_of_cell? w _ z)).trans z;replace ao:=eq_true ao;replace ap:=eq_true ap) | (at_builtin;refine iS (w0:=w) w.heap.size rfl (.tmp 19) _ 41 9 5 rfl Tryz.underlying41 Tryz.underlying9 uT v227 a0 (fL ByteArray.empty l0 j) rfl rfl ?aO ?aB ?aS ?aL ?_;(case aB=>exact (wx HB.out));(case aO=>exact (Kd.iw (ac am.out)));(case aS=>exact (ak (wx HB.out)));(case aL=>have:=cc.out;omega);intro cf d2 a2 hb hg;have ho:=Kd.jV (h1:=fun _=>rfl) (ok:=fun _=>True) a2 (fun _ _=>trivial);clear a2;have hat:=True.intro;rw [← b4.out] at ho;change Kd.R (Kd.int .u8) 5 d2 w.heap.size (fun _=>True) cf ab at ho;have a3:=ae.mk hb;have a4:=ae.mk ho;clear HB;clear am;have HB:=a3;have ba:=a4;clear a3 a4;clear ho hb hg hat));go_roundg k1;case measure=>have:=aP.out;omega
     case rel=>exact ⟨(ab),(wrap64 (j+1)),ww,H',⟨by have:=aP.out;omega⟩,⟨ac ba.out⟩,⟨wx HB.out⟩⟩
    ·rw [if_neg c6] at H
     have ca:decide (0 < j) = false:=decide_eq_false c6;clear c6;obtain ⟨ci,H⟩:=xt H;have d3:=decide_eq_true ci;clear ci;obtain ⟨cp,H⟩:=xt H;have bc:=ae.mk cp;clear cp;obtain ⟨ar,a8⟩:∃ y_:List Int,y_ = (y ++ bytesOf (fL ByteArray.empty l0 j)):=⟨_,rfl⟩
     replace H:(dB.l0 k1 l0 a1 ar (wrap64 (j+1))) = some r:=by (try rw [a8]);exact AC
     have bi:=ae.mk a8;clear a8;have H':=ae.mk H;clear H;have aw:0≤(j:Int):=yk;have aF:j < (l0.length:Int):=yk;obtain ⟨d4,cq,X⟩:=Kd.fR bv.out j aw aF;cases cq
     (try replace X:=(HB.out.cell (World.block_lt_of_cell? w _ X)).trans X);replace aw:=eq_true aw;replace aF:=eq_true aF;go_wp2_with (first | (at_builtin;refine iS (w0:=w) w.heap.size rfl (.tmp 19) _ 41 9 5 rfl Tryz.underlying41 Tryz.underlying9 uT u5 y (fL ByteArray.empty l0 j) rfl rfl ?aO ?aB ?aS ?aL ?_;(case aB=>exact (wx HB.out));(case aO=>exact (Kd.iw (ac Y.out)));(case aS=>exact (ak (wx HB.out)));(case aL=>have:=bc.out;omega);intro cx d5 a2 hb hg;have ho:=Kd.jV (h1:=fun _=>rfl) (ok:=fun _=>True) a2 (fun _ _=>trivial);clear a2;have hat:=True.intro;rw [← bi.out] at ho;change Kd.R (Kd.int .u8) 5 d5 w.heap.size (fun _=>True) cx ar at ho;have a3:=ae.mk hb;have a4:=ae.mk ho;clear HB;clear Y;have HB:=a3;have bm:=a4;clear a3 a4;clear ho hb hg hat));go_roundg k1;case measure=>have:=aP.out;omega
     case rel=>exact ⟨(ar),(wrap64 (j+1)),ww,H',⟨by have:=aP.out;omega⟩,⟨ac bm.out⟩,⟨wx HB.out⟩⟩
   ·rw [if_neg c5] at H
    have c1:decide (j < (l0.length:Int)) = false:=decide_eq_false c5;clear c5;obtain rfl:=Option.some.inj H;have d6:=lR (P:=Tryz.prog) Tryz.underlying41 Tryz.underlying5 Tryz.underlying9 (Kd.iw Y.out);go_wp2;go_ret;exact ⟨zd,wy⟩
def bH.l0:Nat→List Int→List ByteArray→Int→Option (ByteArray)
 | 0,_,_,_=>none
 | k+1,y,z,j=>if j < (y.length:Int) then (if 0≤j then ((cA.f k (rd y j)).bind fun t242=>(if z.length < 8796093022208 then (bH.l0 k y (z ++ [t242]) (wrap64 (j+1))) else (none))) else (none)) else ((dB.f k z (⟨#[44]⟩:ByteArray)).bind fun t246=>(some t246))
def bH.f (k:Nat) (l0:List Int):Option (ByteArray):=(bB.f k 8 l0).bind fun t237=>(if t237 = true then (if (l0.length:Int) = 0 then (some (⟨#[110,111,110,101]⟩:ByteArray)) else (bH.l0 k l0 (([]:List ByteArray)) 0)) else (some (⟨#[]⟩:ByteArray)))
theorem bH.dj:∀ k,af.S3 bH.l0 k
 | 0=>by and_intros <;> (repeat intro _) <;> exact AN rfl
 | k+1=>by
  have j:=bH.dj k;and_intros <;> (repeat intro _) <;> unfold bH.l0 <;> exact ⟨AI⟩
theorem bH.mono:∀ a0 k,gW (bH.f k a0) (bH.f (k+1) a0):=by
 intro a0 k;have j:=bH.dj k;unfold bH.f;exact AI
instance bH.m:af.V1 bH.f:=fun _ _=>⟨bH.mono _ _⟩
set_option maxHeartbeats 8000000 in
set_option maxRecDepth 100000 in
theorem bH.calls (k:Nat) (A0:Option Addr) (c0:Nat) (l0:List Int) (r:ByteArray) (w:World) (am:Kd.C (Kd.int .i64) w A0 l0.length l0) (ao:l0.length≤c0) (h:bH.f k l0 = some r) :
  Calls Tryz.prog 235 #[.slice A0 l0.length c0] w fun e w'=>e = .returned (.string r)∧Below w.heap.size w w':=by
 have a3:=ae.mk am;have a6:=ae.mk ao;clear am ao;have HB:=ae.mk (Below.refl w.heap.size w);unfold bH.f at h;have H:=h;clear h;obtain ⟨t237,A2,H⟩:=xa H;(try dsimp only at H);by_cases c3:t237 = true
 ·subst c3
  replace H:(if (l0.length:Int) = 0 then (some (⟨#[110,111,110,101]⟩:ByteArray)) else (bH.l0 k l0 (([]:List ByteArray)) 0)) = some r:=by rw [if_pos rfl] at H;exact H
  by_cases c4:(l0.length:Int) = 0
  ·rw [if_pos c4] at H
   have ap:((l0.length:Int) == 0) = true:=beq_iff_eq.mpr c4;have ar:((l0.length:Int) != 0) = false:=bne_eq_false_iff_eq.mpr c4;clear c4;obtain rfl:=Option.some.inj H;go_enter Tryz.func235,Tryz.ntmps235;go_wp2_with (first | (refine ws (some 6) Tryz.func185 #[.int .i64 8,.slice A0 l0.length c0] ?_;(with_reducible refine (bB.calls k 8 _ _ l0 true _ ?side1 ?side2 A2.out).mono ?_);(case side1=>exact yi a3.out);(case side2=>exact a6.out);rintro e w' ⟨rfl,⟨nd,rfl⟩⟩;refine ⟨_,rfl,?_⟩));go_ret;exact ⟨zd,wy⟩
  ·rw [if_neg c4] at H
   have ap:((l0.length:Int) == 0) = false:=beq_eq_false_iff_ne.mpr c4;have ar:((l0.length:Int) != 0) = true:=bne_iff_ne.mpr c4;have ba:¬ (l0 = []):=fun h_=>c4 (by rw [h_];rfl)
   obtain ⟨a4,Y⟩:∃ y_:List ByteArray,y_ = (([]:List ByteArray)):=⟨_,rfl⟩
   replace H:(bH.l0 k l0 a4 0) = some r:=by (try rw [Y]);exact AC
   have a1:=ae.mk Y;clear Y;have H':=ae.mk H;clear H;go_enter Tryz.func235,Tryz.ntmps235;go_wp2_with (first | (refine ws (some 6) Tryz.func185 #[.int .i64 8,.slice A0 l0.length c0] ?_;(with_reducible refine (bB.calls k 8 _ _ l0 true _ ?side1 ?side2 A2.out).mono ?_);(case side1=>exact yi a3.out);(case side2=>exact a6.out);rintro e w' ⟨rfl,⟨nd,rfl⟩⟩;refine ⟨_,rfl,?_⟩) | (refine AL Kd.string 9 11 ?_;intro bc w5 a2 hb b0 a7;clear b0 a7;(first | rw [← a1.out] at a2 | (simp only [Int.reduceToNat] at a2;rw [← a1.out] at a2));have a8:=ae.mk (Kd.b5 a2 (ak (wx HB.out)));replace HB:=xi HB hb;clear hb a2));go_loopg [3,4] k (fun kq v3 v4 w'=>∃ (z:List ByteArray) (j:Int),v4 = .int .i64 j∧ae (bH.l0 kq l0 z j = some r)∧ae (kq≤k)∧ae (Kd.R Kd.string 9 w' w.heap.size (fun _=>True) v3 z)∧ae (Below w.heap.size w w'))
   case atStart=>exact ⟨(a4),(0),ww,H',⟨Nat.le_refl _⟩,⟨ac a8.out⟩,⟨wx HB.out⟩⟩
   case round =>
    clear H';obtain ⟨z,j,rfl,HA,aw,y,HB⟩:=hrel;cases gk with
    | zero=>exact absurd HA.out (by simp [bH.l0])
    | succ k1 =>
     have H:=HA.out;clear HA;simp only [bH.l0] at H;by_cases c7:j < (l0.length:Int)
     ·rw [if_pos c7] at H
      have aB:=decide_eq_true c7;clear c7;obtain ⟨c8,H⟩:=xt H;have bi:=decide_eq_true c8;clear c8;obtain ⟨t242,A9,H⟩:=xa H;(try dsimp only at H);obtain ⟨iN,H⟩:=xt H;have a9:=ae.mk iN;clear iN;obtain ⟨a5,a0⟩:∃ y_:List ByteArray,y_ = (z ++ [t242]):=⟨_,rfl⟩
      replace H:(bH.l0 k1 l0 a5 (wrap64 (j+1))) = some r:=by (try rw [a0]);exact AC
      have aa:=ae.mk a0;clear a0;have H':=ae.mk H;clear H;obtain ⟨b2,aF,X,bm,bo⟩:=At a3.out j;cases aF
      (try replace X:=(HB.out.cell (World.block_lt_of_cell? w _ X)).trans X);go_wp2_with (first | (refine ws (some 23) Tryz.func240 #[.int .i64 (rd l0 j)] ?_;(with_reducible refine (cA.calls k1 (rd l0 j) t242 _ A9.out).mono ?_);rintro e bv ⟨rfl,hb⟩;refine ⟨_,rfl,?_⟩;replace y:=z2 y hb;replace HB:=xi HB hb;(try clear hb);(try clear b3);(try clear hk);(try clear hi)) | ((with_reducible refine cF (b:=.append) (xs:=#[.tmp 18,.tmp 24]) rfl ?_);at_builtin;refine Kd.eS Kd.string (w0:=w) w.heap.size rfl (.tmp 18) (.tmp 24) 134 9 (.string ⟨#[]⟩) 16 rfl Tryz.underlying134 uU rfl (by decide) (by omega) u3 z t242 [.string t242] (fun _=>True) (fun _=>False) rfl rfl (by exact rfl) (fun _ hk=>hk.elim) (by exact fun _ _=>trivial) (by exact ac y.out) (by exact wx HB.out) (by exact ak (wx HB.out)) (by have:=a9.out;omega) ?_;intro bs c1 ho hb hg hat;rw [← aa.out] at ho;have aL:=ae.mk hb;have aO:=ae.mk ho;clear HB;clear y;have HB:=aL;have ab:=aO;clear aL aO;clear ho hb hg hat));go_roundg k1;case measure=>have:=aw.out;omega
      case rel=>exact ⟨(a5),(wrap64 (j+1)),ww,H',⟨by have:=aw.out;omega⟩,⟨ac ab.out⟩,⟨wx HB.out⟩⟩
     ·rw [if_neg c7] at H
      have aB:decide (j < (l0.length:Int)) = false:=decide_eq_false c7;clear c7;obtain ⟨t246,b4,H⟩:=xa H;(try dsimp only at H);obtain rfl:=Option.some.inj H;obtain ⟨aP,aR,aS⟩:=Kd.bk y.out;subst aS;go_wp2_with (first | (refine ws (some 27) Tryz.func241 #[.slice aP z.length aR,.string (⟨#[44]⟩:ByteArray)] ?_;(with_reducible refine (dB.calls k1 _ _ z (⟨#[44]⟩:ByteArray) t246 _ ?side1 ?side2 b4.out).mono ?_);(case side1=>exact yi ((Kd.az y.out).2.2));(case side2=>exact (Kd.az y.out).2.1);rintro e ca ⟨rfl,hb⟩;refine ⟨_,rfl,?_⟩;replace y:=z2 y hb;replace HB:=xi HB hb;(try clear hb);(try clear b3);(try clear hk);(try clear hi)));go_ret;exact ⟨zd,wy⟩
 ·replace c3:=Bool.eq_false_iff.mpr c3
  subst c3;replace H:(some (⟨#[]⟩:ByteArray)) = some r:=by rw [if_neg (show ¬ (false = true) by decide)] at H;exact H
  obtain rfl:=Option.some.inj H;go_enter Tryz.func235,Tryz.ntmps235;go_wp2_with (first | (refine ws (some 6) Tryz.func185 #[.int .i64 8,.slice A0 l0.length c0] ?_;(with_reducible refine (bB.calls k 8 _ _ l0 false _ ?side1 ?side2 A2.out).mono ?_);(case side1=>exact yi a3.out);(case side2=>exact a6.out);rintro e w' ⟨rfl,⟨nd,rfl⟩⟩;refine ⟨_,rfl,?_⟩));go_ret;exact ⟨zd,wy⟩
mutual
def bg.l0:Nat→Int→ByteArray→List Int→List ByteArray→Int→Option (List Int×Bool)
 | 0,_,_,_,_,_=>none
 | k+1,x0,Y,y,X,z=>if z < (X.length:Int) then (bg.j1 k x0 Y y X z (Y.toList != ([110,111,110,101]:List UInt8))) else (bg.j1 k x0 Y y X z false)
def bg.j1:Nat→Int→ByteArray→List Int→List ByteArray→Int→Bool→Option (List Int×Bool)
 | 0,_,_,_,_,_,_=>none
 | k+1,x0,Y,y,X,z,a2=>if a2 = true then (if 0≤z then (if z < (X.length:Int) then ((bO.f k (fL ByteArray.empty X z)).bind fun j=>(if j.2 = true then (if y.length < 17592186044416 then (bg.l0 k x0 Y (y ++ [j.1]) X (wrap64 (z+1))) else (none)) else (some ((([]:List Int)),false)))) else (none)) else (none)) else ((bp.f k x0 y).bind fun a0=>(if a0 = true then ((bH.f k y).bind fun a1=>(if a1.toList = Y.toList then (some (y,true)) else (some ((([]:List Int)),false)))) else (some ((([]:List Int)),false))))
end
def bg.f (k:Nat) (a0:Int) (y:ByteArray):Option (List Int×Bool):=(bF.f k y 44).bind fun j=>(bg.l0 k a0 y (([]:List Int)) j 0)
theorem bg.dj:∀ k,af.S5 bg.l0 k∧af.S6 bg.j1 k
 | 0=>by and_intros <;> (repeat intro _) <;> exact AN rfl
 | k+1=>by
  obtain ⟨j,y⟩:=bg.dj k;and_intros <;> (repeat intro _) <;> (first | unfold bg.l0 | unfold bg.j1) <;> exact ⟨AI⟩
theorem bg.mono:∀ a0 j k,gW (bg.f k a0 j) (bg.f (k+1) a0 j):=by
 intro a0 j k;obtain ⟨y,z⟩:=bg.dj k;unfold bg.f;exact AI
instance bg.m:af.V2 bg.f:=fun _ _ _=>⟨bg.mono _ _ _⟩
set_option maxHeartbeats 8000000 in
set_option maxRecDepth 100000 in
theorem bg.calls (k:Nat) (a0:Int) (a1:ByteArray) (r1:List Int) (r2:Bool) (w:World) (h:bg.f k a0 a1 = some (r1,r2)) :
  Calls Tryz.prog 224 #[.int .i64 a0,.string a1] w fun e w'=>∃ d3:Value,e = .returned (.tuple #[d3,.bool r2])∧Kd.R (Kd.int .i64) 3 w' w.heap.size (fun _=>True) d3 r1∧Below w.heap.size w w':=by
 have HB:=ae.mk (Below.refl w.heap.size w);unfold bg.f at h;have H:=h;clear h;obtain ⟨c0,ao⟩:∃ y_:List Int,y_ = (([]:List Int)):=⟨_,rfl⟩
 replace H:((bF.f k a1 44).bind fun Y=>(bg.l0 k a0 a1 c0 Y 0)) = some (r1,r2):=by (try rw [ao]);exact AC
 have aP:=ae.mk ao;clear ao;obtain ⟨Y,A3,H⟩:=xa H;(try dsimp only at H);have H':=ae.mk H;clear H;go_enter Tryz.func224,Tryz.ntmps224;go_wp2_with (first | (refine AL (Kd.int .i64) 3 11 ?_;intro ed w4 aR hb ap a3;clear ap a3;(first | rw [← aP.out] at aR | (simp only [Int.reduceToNat] at aR;rw [← aP.out] at aR));have ar:=ae.mk (Kd.b5 aR (ak (wx HB.out)));replace HB:=xi HB hb;clear hb aR) | ((with_reducible refine aD (f:=222) rfl ?_);refine ws (some 13) Tryz.func222 #[.string a1,.int .u8 44] ?_;(with_reducible refine (bF.calls k a1 44 Y _ A3.out).mono ?_);rintro e w6 ⟨c1,rfl,d4,hb⟩;refine ⟨_,rfl,?_⟩;replace ar:=z2 ar hb;have cb:=ae.mk (Kd.b5 d4 (ak (wx HB.out)));replace HB:=xi HB hb;(try clear hb);(try clear bi);(try clear hk);(try clear hi);(try clear d4)));go_loopg [6,8] k (fun kq v6 v8 w'=>∃ (z:List Int) (X:Int),v8 = .int .i64 X∧ae (bg.l0 kq a0 a1 z Y X = some (r1,r2))∧ae (kq≤k)∧ae (Kd.R (Kd.int .i64) 3 w' w.heap.size (fun _=>True) v6 z)∧ae (Kd.R Kd.string 9 w' w.heap.size (fun _=>True) c1 Y)∧ae (Below w.heap.size w w'))
 case atStart=>exact ⟨(c0),(0),ww,H',⟨Nat.le_refl _⟩,⟨ac ar.out⟩,⟨ac cb.out⟩,⟨wx HB.out⟩⟩
 case round =>
  clear H';obtain ⟨z,X,rfl,HA,bm,j,y,HB⟩:=hrel;cases gk with
  | zero=>exact absurd HA.out (by simp [bg.l0])
  | succ k1 =>
   have H:=HA.out;clear HA;simp only [bg.l0] at H;have cc:=ae.mk H;clear H;go_upto_region 4 with (fail)
   go_cut [21] (fun v21 wc=>∃ (kq:Nat) (ab:Bool),v21 = .bool ab∧ae (bg.j1 kq a0 a1 z Y X ab = some (r1,r2))∧ae (kq≤k1)∧ae (Kd.R (Kd.int .i64) 3 wc w.heap.size (fun _=>True) u6 z)∧ae (Kd.R Kd.string 9 wc w.heap.size (fun _=>True) c1 Y)∧ae (Below w.heap.size w wc))
   case first =>
    have H:=cc.out;clear cc;by_cases c8:X < (Y.length:Int)
    ·rw [if_pos c8] at H
     have am:=decide_eq_true c8;clear c8;(first | rw [am] | (simp only [b7,bC];rw [am]) | skip);have H':=ae.mk H;clear H;obtain ⟨et,ev,ea⟩:=Kd.bk y.out;subst ea;go_wp2;go_meet
     case rel=>exact ⟨_,((a1.toList != ([110,111,110,101]:List UInt8))),ww,H',⟨by have:=bm.out;first | omega | exact Nat.le_refl _⟩,⟨ac j.out⟩,⟨ac y.out⟩,⟨wx HB.out⟩⟩
    ·rw [if_neg c8] at H
     have am:decide (X < (Y.length:Int)) = false:=decide_eq_false c8;clear c8;(first | rw [am] | (simp only [b7,bC];rw [am]) | skip);have H':=ae.mk H;clear H;obtain ⟨ee,ef,d5⟩:=Kd.bk y.out;subst d5;go_wp2;go_meet
     case rel=>exact ⟨_,(false),ww,H',⟨by have:=bm.out;first | omega | exact Nat.le_refl _⟩,⟨ac j.out⟩,⟨ac y.out⟩,⟨wx HB.out⟩⟩
   case rest =>
    clear cc;obtain ⟨kq,ab,rfl,HA,d6,j,y,HB⟩:=hcut;cases kq with
    | zero=>exact absurd HA.out (by simp [bg.j1])
    | succ a4 =>
     have H:=HA.out;clear HA;simp only [bg.j1] at H;by_cases bo:ab = true
     ·subst bo
      replace H:(if 0≤X then (if X < (Y.length:Int) then ((bO.f a4 (fL ByteArray.empty Y X)).bind fun aS=>(if aS.2 = true then (if z.length < 17592186044416 then (bg.l0 a4 a0 a1 (z ++ [aS.1]) Y (wrap64 (X+1))) else (none)) else (some ((([]:List Int)),false)))) else (none)) else (none)) = some (r1,r2):=by rw [if_pos rfl] at H;exact H
      obtain ⟨d7,H⟩:=xt H;have eb:=decide_eq_true d7;clear d7;obtain ⟨d8,H⟩:=xt H;have ec:=decide_eq_true d8;clear d8;obtain ⟨⟨a7,d9⟩,db,H⟩:=xa H;(try dsimp only at H);by_cases bs:d9 = true
      ·subst bs
       replace H:(if z.length < 17592186044416 then (bg.l0 a4 a0 a1 (z ++ [a7]) Y (wrap64 (X+1))) else (none)) = some (r1,r2):=by rw [if_pos rfl] at H;exact H
       obtain ⟨dd,H⟩:=xt H;have ce:=ae.mk dd;clear dd;obtain ⟨ca,aw⟩:∃ y_:List Int,y_ = (z ++ [a7]):=⟨_,rfl⟩
       replace H:(bg.l0 a4 a0 a1 ca Y (wrap64 (X+1))) = some (r1,r2):=by (try rw [aw]);exact AC
       have cf:=ae.mk aw;clear aw;have H':=ae.mk H;clear H;obtain ⟨eh,ei,df⟩:=Kd.bk y.out;subst df;have a5:0≤(X:Int):=yk;have a6:X < (Y.length:Int):=yk;obtain ⟨ci,b0,b2⟩:=Kd.fR (Kd.az y.out).2.2 X a5 a6;cases b0
       replace a5:=eq_true a5;replace a6:=eq_true a6;go_wp2_with (first | ((with_reducible refine aD (f:=234) rfl ?_);refine ws (some 29) Tryz.func234 #[.string (fL ByteArray.empty Y X)] ?_;(with_reducible refine (bO.calls a4 (fL ByteArray.empty Y X) a7 true _ db.out).mono ?_);rintro e ew ⟨rfl,hb⟩;refine ⟨_,rfl,?_⟩;replace j:=z2 j hb;replace y:=z2 y hb;replace HB:=xi HB hb;(try clear hb);(try clear bi);(try clear hk);(try clear hi)) | ((with_reducible refine cF (b:=.append) (xs:=#[.tmp 35,.tmp 37]) rfl ?_);at_builtin;refine Kd.eS (Kd.int .i64) (w0:=w) w.heap.size rfl (.tmp 35) (.tmp 37) 22 3 (.int .i64 0) 8 rfl Tryz.underlying22 fb rfl (by decide) (by omega) u6 z a7 [.int .i64 a7] (fun _=>True) (fun _=>False) rfl rfl (by exact rfl) (fun _ hk=>hk.elim) (by exact fun _ _=>trivial) (by exact ac j.out) (by exact wx HB.out) (by exact ak (wx HB.out)) (by have:=ce.out;omega) ?_;intro ej ex ho hb hg hat;rw [← cf.out] at ho;have dk:=ae.mk (Kd.wR (ac y.out) (Kd.sO (ac j.out)) (by decide) hg);have dl:=ae.mk hb;have dp:=ae.mk ho;clear y;clear HB;clear j;have y:=dk;have HB:=dl;have cp:=dp;clear dk dl dp;clear ho hb hg hat));go_roundg a4;case measure=>have:=bm.out;have:=d6.out;omega
       case rel=>exact ⟨(ca),(wrap64 (X+1)),ww,H',⟨by have:=bm.out;have:=d6.out;omega⟩,⟨ac cp.out⟩,⟨ac y.out⟩,⟨wx HB.out⟩⟩
      ·replace bs:=Bool.eq_false_iff.mpr bs
       subst bs;replace H:(some ((([]:List Int)),false)) = some (r1,r2):=by rw [if_neg (show ¬ (false = true) by decide)] at H;exact H
       obtain ⟨dq,aB⟩:∃ y_:List Int,y_ = (([]:List Int)):=⟨_,rfl⟩
       replace H:(some (dq,false)) = some (r1,r2):=by (try rw [aB]);exact AC
       have b3:=ae.mk aB;clear aB;simp only [Option.some.injEq,Prod.mk.injEq] at H;obtain ⟨rfl,rfl⟩:=H;obtain ⟨el,em,dt⟩:=Kd.bk y.out;subst dt;have a5:0≤(X:Int):=yk;have a6:X < (Y.length:Int):=yk;obtain ⟨ci,b0,b2⟩:=Kd.fR (Kd.az y.out).2.2 X a5 a6;cases b0
       replace a5:=eq_true a5;replace a6:=eq_true a6;go_wp2_with (first | ((with_reducible refine aD (f:=234) rfl ?_);refine ws (some 29) Tryz.func234 #[.string (fL ByteArray.empty Y X)] ?_;(with_reducible refine (bO.calls a4 (fL ByteArray.empty Y X) a7 false _ db.out).mono ?_);rintro e ey ⟨rfl,hb⟩;refine ⟨_,rfl,?_⟩;replace j:=z2 j hb;replace y:=z2 y hb;replace HB:=xi HB hb;(try clear hb);(try clear bi);(try clear hk);(try clear hi)) | (refine AL (Kd.int .i64) 3 34 ?_;intro eo eQ a8 hb ap a3;clear ap a3;(first | rw [← b3.out] at a8 | (simp only [Int.reduceToNat] at a8;rw [← b3.out] at a8));replace y:=z2 y hb;have cq:=ae.mk (Kd.b5 (Kd.dy a8 (Kd.ek (ac j.out))) (ak (wx HB.out)));replace j:=ae.mk (Kd.cz (ac j.out) (Kd.cL a8) hb);replace HB:=xi HB hb;clear hb a8));go_ret2
       exact ⟨_,zd,by (with_reducible repeat (first | apply Kd.cP | apply Kd.cQ | apply Kd.bY));exact Kd.aQ cq.out (fun _ hk=>trivial),wy⟩
     ·replace bo:=Bool.eq_false_iff.mpr bo
      subst bo;replace H:((bp.f a4 a0 z).bind fun b4=>(if b4 = true then ((bH.f a4 z).bind fun a2=>(if a2.toList = a1.toList then (some (z,true)) else (some ((([]:List Int)),false)))) else (some ((([]:List Int)),false)))) = some (r1,r2):=by rw [if_neg (show ¬ (false = true) by decide)] at H;exact H
      obtain ⟨b4,cx,H⟩:=xa H;(try dsimp only at H);by_cases bv:b4 = true
      ·subst bv
       replace H:((bH.f a4 z).bind fun a2=>(if a2.toList = a1.toList then (some (z,true)) else (some ((([]:List Int)),false)))) = some (r1,r2):=by rw [if_pos rfl] at H;exact H
       obtain ⟨a2,du,H⟩:=xa H;(try dsimp only at H);by_cases aF:a2.toList = a1.toList
       ·rw [if_pos aF] at H
        have cy:(a2.toList == a1.toList) = true:=beq_iff_eq.mpr aF;have d0:(a2.toList != a1.toList) = false:=bne_eq_false_iff_eq.mpr aF;clear aF;simp only [Option.some.injEq,Prod.mk.injEq] at H;obtain ⟨rfl,rfl⟩:=H;obtain ⟨dv,dC,dE⟩:=Kd.bk j.out;subst dE;go_wp2_with (first | ((with_reducible refine aD (f:=92) rfl ?_);refine ws (some 41) Tryz.func92 #[.int .i64 a0,.slice dv z.length dC] ?_;(with_reducible refine (bp.calls a4 a0 _ _ z true _ ?side1 ?side2 cx.out).mono ?_);(case side1=>exact yi ((Kd.az j.out).2.2));(case side2=>exact (Kd.az j.out).2.1);rintro e w' ⟨rfl,⟨nd,rfl⟩⟩;refine ⟨_,rfl,?_⟩) | (go_at_call 235;(with_reducible refine (bH.calls a4 _ _ z a2 _ ?side1 ?side2 du.out).mono ?_);(case side1=>exact yi ((Kd.az j.out).2.2));(case side2=>exact (Kd.az j.out).2.1);rintro e f0 ⟨rfl,hb⟩;replace j:=z2 j hb;replace y:=z2 y hb;replace HB:=xi HB hb;(try clear hb);(try clear bi);(try clear hk);(try clear hi)));go_ret2
        exact ⟨_,zd,by (with_reducible repeat (first | apply Kd.cP | apply Kd.cQ | apply Kd.bY));exact j.out,wy⟩
       ·rw [if_neg aF] at H
        have cy:(a2.toList == a1.toList) = false:=beq_eq_false_iff_ne.mpr aF;have d0:(a2.toList != a1.toList) = true:=bne_iff_ne.mpr aF;obtain ⟨dT,aL⟩:∃ y_:List Int,y_ = (([]:List Int)):=⟨_,rfl⟩
        replace H:(some (dT,false)) = some (r1,r2):=by (try rw [aL]);exact AC
        have ba:=ae.mk aL;clear aL;simp only [Option.some.injEq,Prod.mk.injEq] at H;obtain ⟨rfl,rfl⟩:=H;obtain ⟨e0,e1,e2⟩:=Kd.bk j.out;subst e2;go_wp2_with (first | ((with_reducible refine aD (f:=92) rfl ?_);refine ws (some 41) Tryz.func92 #[.int .i64 a0,.slice e0 z.length e1] ?_;(with_reducible refine (bp.calls a4 a0 _ _ z true _ ?side1 ?side2 cx.out).mono ?_);(case side1=>exact yi ((Kd.az j.out).2.2));(case side2=>exact (Kd.az j.out).2.1);rintro e w' ⟨rfl,⟨nd,rfl⟩⟩;refine ⟨_,rfl,?_⟩) | (go_at_call 235;(with_reducible refine (bH.calls a4 _ _ z a2 _ ?side1 ?side2 du.out).mono ?_);(case side1=>exact yi ((Kd.az j.out).2.2));(case side2=>exact (Kd.az j.out).2.1);rintro e f1 ⟨rfl,hb⟩;replace j:=z2 j hb;replace y:=z2 y hb;replace HB:=xi HB hb;(try clear hb);(try clear bi);(try clear hk);(try clear hi)) | (refine AL (Kd.int .i64) 3 49 ?_;intro eq f2 a9 hb ap a3;clear ap a3;(first | rw [← ba.out] at a9 | (simp only [Int.reduceToNat] at a9;rw [← ba.out] at a9));replace y:=z2 y hb;have d1:=ae.mk (Kd.b5 (Kd.dy a9 (Kd.ek (ac j.out))) (ak (wx HB.out)));replace j:=ae.mk (Kd.cz (ac j.out) (Kd.cL a9) hb);replace HB:=xi HB hb;clear hb a9));go_ret2
        exact ⟨_,zd,by (with_reducible repeat (first | apply Kd.cP | apply Kd.cQ | apply Kd.bY));exact Kd.aQ d1.out (fun _ hk=>trivial),wy⟩
      ·replace bv:=Bool.eq_false_iff.mpr bv
       subst bv;replace H:(some ((([]:List Int)),false)) = some (r1,r2):=by rw [if_neg (show ¬ (false = true) by decide)] at H;exact H
       obtain ⟨e3,aO⟩:∃ y_:List Int,y_ = (([]:List Int)):=⟨_,rfl⟩
       replace H:(some (e3,false)) = some (r1,r2):=by (try rw [aO]);exact AC
       have bc:=ae.mk aO;clear aO;simp only [Option.some.injEq,Prod.mk.injEq] at H;obtain ⟨rfl,rfl⟩:=H;obtain ⟨e4,e5,e8⟩:=Kd.bk j.out;subst e8;go_wp2_with (first | ((with_reducible refine aD (f:=92) rfl ?_);refine ws (some 41) Tryz.func92 #[.int .i64 a0,.slice e4 z.length e5] ?_;(with_reducible refine (bp.calls a4 a0 _ _ z false _ ?side1 ?side2 cx.out).mono ?_);(case side1=>exact yi ((Kd.az j.out).2.2));(case side2=>exact (Kd.az j.out).2.1);rintro e w' ⟨rfl,⟨nd,rfl⟩⟩;refine ⟨_,rfl,?_⟩) | (refine AL (Kd.int .i64) 3 49 ?_;intro es f3 aa hb ap a3;clear ap a3;(first | rw [← bc.out] at aa | (simp only [Int.reduceToNat] at aa;rw [← bc.out] at aa));replace y:=z2 y hb;have d2:=ae.mk (Kd.b5 (Kd.dy aa (Kd.ek (ac j.out))) (ak (wx HB.out)));replace j:=ae.mk (Kd.cz (ac j.out) (Kd.cL aa) hb);replace HB:=xi HB hb;clear hb aa));go_ret2
       exact ⟨_,zd,by (with_reducible repeat (first | apply Kd.cP | apply Kd.cQ | apply Kd.bY));exact Kd.aQ d2.out (fun _ hk=>trivial),wy⟩
def cl.f (k:Nat) (y:Int) (z:List Int):Option (ByteArray):=(aY.f k y z).bind fun Y=>(if Y = true then ((bG.f k y).bind fun j=>(if j.size+1≤9223372036854775807 then ((bH.f k z).bind fun X=>(if (j ++ (⟨#[32]⟩:ByteArray)).size+X.size≤9223372036854775807 then (some ((j ++ (⟨#[32]⟩:ByteArray)) ++ X)) else (none))) else (none))) else (some (⟨#[]⟩:ByteArray)))
theorem cl.mono:∀ a0 j k,gW (cl.f k a0 j) (cl.f (k+1) a0 j):=by
 intro a0 j k;unfold cl.f;exact AI
instance cl.m:af.V2 cl.f:=fun _ _ _=>⟨cl.mono _ _ _⟩
def cl.T3:Bool×List (List Nat×List Nat):=(true,[([],[]),([0],[0]),([1],[1]),([2],[2]),([],[]),([4],[4]),([5,2],[5]),([3,6],[3,6]),([7,6,0,1,2,3,4,5,6,7],[7])])
def cl.B3:List Nat:=[0,1,3,7,0,16,55,127,255]
theorem cl.mQ:gv .any (opsOf Tryz.f225 3) = cl.T3:=by kernel_rfl
theorem cl.jY:eN cl.T3.2 cl.B3 = true:=by kernel_rfl
set_option maxHeartbeats 8000000 in
set_option maxRecDepth 100000 in
theorem cl.calls (k:Nat) (z:Int) (Y:Option Addr) (a0:Nat) (y:List Int) (r:ByteArray) (w:World) (a6:Kd.C (Kd.int .i64) w Y y.length y) (a7:y.length≤a0) (h:cl.f k z y = some r) :
  Calls Tryz.prog 225 #[.agg #[.int .i64 z,.slice Y y.length a0]] w fun e w'=>e = .returned (.string r)∧Below w.heap.size w w':=by
 have aS:=Tryz.underlying37;have a3:=ae.mk a6;have a4:=ae.mk a7;clear a6 a7;have HB:=ae.mk (Below.refl w.heap.size w);unfold cl.f at h;have H:=h;clear h;obtain ⟨ab,A2,H⟩:=xa H;(try dsimp only at H);by_cases c3:ab = true
 ·subst c3
  replace H:((bG.f k z).bind fun X=>(if X.size+1≤9223372036854775807 then ((bH.f k y).bind fun a1=>(if (X ++ (⟨#[32]⟩:ByteArray)).size+a1.size≤9223372036854775807 then (some ((X ++ (⟨#[32]⟩:ByteArray)) ++ a1)) else (none))) else (none))) = some r:=by rw [if_pos rfl] at H;exact H
  obtain ⟨X,A4,H⟩:=xa H;(try dsimp only at H);obtain ⟨c5,H⟩:=xt H;have b0:=eq_true c5;have b2:decide (X.size+1≤9223372036854775807) = true:=decide_eq_true c5;(try have b3:(9223372036854775807 < X.size+1) = False:=eq_false (Nat.not_lt.2 c5));obtain ⟨a1,A6,H⟩:=xa H;(try dsimp only at H);obtain ⟨c7,H⟩:=xt H;have b4:=eq_true c7;have ba:decide ((X ++ (⟨#[32]⟩:ByteArray)).size+a1.size≤9223372036854775807) = true:=decide_eq_true c7;(try have am:(9223372036854775807 < (X ++ (⟨#[32]⟩:ByteArray)).size+a1.size) = False:=eq_false (Nat.not_lt.2 c7));have bc:(9223372036854775807 < X.size+1+a1.size) = False:=by have h_:=am;rw [ByteArray.size_append] at h_;exact h_
  obtain rfl:=Option.some.inj H;go_enter Tryz.func225,Tryz.ntmps225;(try go_wp2_with (first | (refine zp 1 #[.int .i64 z,.slice Y y.length a0] 37 ?_;intro a5 hg w8 hbox hb;have j:=ae.mk hbox;have a8:=yv hg HB;have a9:=yv hg HB;replace HB:=xi HB hb;clear hb hbox hg;obtain ⟨aF,aL,aO,aP⟩:=xv j.out) | (refine ws (some 4) Tryz.func39 #[.agg #[.int .i64 z,.slice Y y.length a0]] ?_;(with_reducible refine (aY.calls k z _ _ y true _ ?side1 ?side2 A2.out).mono ?_);(case side1=>exact yi (Kd.aN a3.out HB.out));(case side2=>exact a4.out);rintro e aR ⟨rfl,hb⟩;refine ⟨_,rfl,?_⟩;replace j:=xc j hb;replace HB:=xi HB hb;(try clear hb);(try clear aa);(try clear hk);(try clear hi))));replace j:=ae.mk (cM j.out);replace HB:=ae.mk (bP HB.out);refine eT (n:=9) (S:=fun w'=>w'.cell? ⟨a5,0,none⟩ = some (.int .i64 z)∧w'.cell? ⟨a5,1,none⟩ = some (.slice Y y.length a0)) (ds:=[]) #[false,false,false,false,false,false,false,false,false] (by kernel_rfl) rfl rfl ⟨(ah j.out 0).trans rfl,(ah j.out 1).trans rfl⟩ (fun hHeld=>?_);refine da cl.mQ cl.jY (fun a2 ao=>?_);generalize aR.drew = bi at j HB hHeld ⊢;refine wt 0 6 a2 ?_;refine wt 4 10 a2 ?_;refine AF 1 7 a2 ao hHeld ?_;refine AF 5 11 a2 ao hHeld ?_;refine fe (i:=2) (N:=some 8) #[true,true,true,false,true,true,false,false,false] rfl rfl (cH a2.out (by kernel_rfl)) (by decide) (fun K hK=>?_);refine eK Tryz.func236 (by kernel_rfl) rfl #[.int .i64 z] (by rfl) rfl rfl (by (try simp only [List.map_toArray,List.map_cons,List.map_nil]);first | done | rfl) ?_;with_reducible refine (bG.calls k z X _ A4.out).mono ?_
  rintro e bm ⟨rfl,hb⟩
  refine ⟨_,rfl,?_⟩;replace j:=xc j hb;replace HB:=xi HB hb;(try clear hb);(try clear aa);(try clear hk);(try clear hi);refine hK.out _ _ ⟨(ah j.out 0).trans rfl,(ah j.out 1).trans rfl⟩ (fun hHeld=>?_);clear hK K;refine dN (a':=?_) ?_ ?_;rotate_left
  ·show Act.put _ (some 8) _ = _
   simp only [Act.put,List.setIfInBounds_toArray,List.set_cons_zero,List.set_cons_succ,b7,bC];rfl
  refine wt 3 9 a2 ?_;refine fe (i:=6) (N:=some 12) #[true,true,true,true,true,true,true,false,false] rfl rfl (cH a2.out (by kernel_rfl)) (by decide) (fun K hK=>?_);refine eK Tryz.func235 (by kernel_rfl) rfl #[.slice Y y.length a0] (by rfl) rfl rfl (by (try simp only [List.map_toArray,List.map_cons,List.map_nil]);first | done | rfl) ?_;with_reducible refine (bH.calls k _ _ y a1 _ ?side1 ?side2 A6.out).mono ?_
  (case side1=>exact yi (Kd.aN a3.out HB.out));(case side2=>exact a4.out);rintro e bo ⟨rfl,hb⟩
  refine ⟨_,rfl,?_⟩;replace j:=xc j hb;replace HB:=xi HB hb;(try clear hb);(try clear aa);(try clear hk);(try clear hi);refine hK.out _ _ ⟨(ah j.out 0).trans rfl,(ah j.out 1).trans rfl⟩ (fun hHeld=>?_);clear hK K;refine dN (a':=?_) ?_ ?_;rotate_left
  ·show Act.put _ (some 12) _ = _
   simp only [Act.put,List.setIfInBounds_toArray,List.set_cons_zero,List.set_cons_succ,b7,bC];rfl
  refine wt 7 13 a2 ?_;refine wt 8 2 a2 ?_;refine fP (e9 a2.out (by kernel_rfl)) ?_;(try go_wp2);go_ret;exact ⟨zd,wy⟩
 ·replace c3:=Bool.eq_false_iff.mpr c3
  subst c3;replace H:(some (⟨#[]⟩:ByteArray)) = some r:=by rw [if_neg (show ¬ (false = true) by decide)] at H;exact H
  obtain rfl:=Option.some.inj H;go_enter Tryz.func225,Tryz.ntmps225;go_wp2_with (first | (refine zp 1 #[.int .i64 z,.slice Y y.length a0] 37 ?_;intro a5 hg bs hbox hb;have j:=ae.mk hbox;have a8:=yv hg HB;have a9:=yv hg HB;replace HB:=xi HB hb;clear hb hbox hg;obtain ⟨ap,ar,aw,aB⟩:=xv j.out) | (refine ws (some 4) Tryz.func39 #[.agg #[.int .i64 z,.slice Y y.length a0]] ?_;(with_reducible refine (aY.calls k z _ _ y false _ ?side1 ?side2 A2.out).mono ?_);(case side1=>exact yi (Kd.aN a3.out HB.out));(case side2=>exact a4.out);rintro e bv ⟨rfl,hb⟩;refine ⟨_,rfl,?_⟩;replace j:=xc j hb;replace HB:=xi HB hb;(try clear hb);(try clear aa);(try clear hk);(try clear hi)));go_ret;exact ⟨zd,wy⟩
def cm.f (k:Nat) (a0:ByteArray):Option (Int×List Int×Bool):=(bF.f k a0 32).bind fun y=>(if (y.length:Int) = 2 then (if 0 < (y.length:Int) then ((dQ.f k (fL ByteArray.empty y 0)).bind fun j=>(if 1 < (y.length:Int) then ((bg.f k j.1 (fL ByteArray.empty y 1)).bind fun z=>(if j.2 = true then (if z.2 = true then ((cl.f k j.1 z.1).bind fun X=>(if X.toList = a0.toList then (some (j.1,z.1,true)) else (some (0,([]:List Int),false)))) else (some (0,([]:List Int),false))) else (some (0,([]:List Int),false)))) else (none))) else (none)) else (some (0,([]:List Int),false)))
theorem cm.mono:∀ a0 k,gW (cm.f k a0) (cm.f (k+1) a0):=by
 intro a0 k;unfold cm.f;exact AI
set_option maxHeartbeats 8000000 in
set_option maxRecDepth 100000 in
theorem cm.calls (k:Nat) (a0:ByteArray) (r1:Int) (r2:List Int) (r3:Bool) (w:World) (h:cm.f k a0 = some (r1,r2,r3)) :
  Calls Tryz.prog 201 #[.string a0] w fun e w'=>∃ c1:Value,e = .returned (.tuple #[.agg #[.int .i64 r1,c1],.bool r3])∧Kd.R (Kd.int .i64) 3 w' w.heap.size (fun _=>True) c1 r2∧Below w.heap.size w w':=by
 have f1:=Tryz.underlying37;have HB:=ae.mk (Below.refl w.heap.size w);unfold cm.f at h;have H:=h;clear h;obtain ⟨z,A2,H⟩:=xa H;(try dsimp only at H);by_cases c3:(z.length:Int) = 2
 ·rw [if_pos c3] at H
  have ca:((z.length:Int) == 2) = true:=beq_iff_eq.mpr c3;have cb:((z.length:Int) != 2) = false:=bne_eq_false_iff_eq.mpr c3;clear c3;obtain ⟨c4,H⟩:=xt H;have f2:=decide_eq_true c4;have f3:decide (0 < z.length) = true:=decide_eq_true (by omega);clear c4;obtain ⟨⟨Y,cc⟩,A5,H⟩:=xa H;(try dsimp only at H);obtain ⟨c6,H⟩:=xt H;have f4:=decide_eq_true c6;have f5:decide (1 < z.length) = true:=decide_eq_true (by omega);clear c6;obtain ⟨⟨a4,bo⟩,A7,H⟩:=xa H;(try dsimp only at H);by_cases c8:cc = true
  ·subst c8
   replace H:(if bo = true then ((cl.f k Y a4).bind fun ap=>(if ap.toList = a0.toList then (some (Y,a4,true)) else (some (0,([]:List Int),false)))) else (some (0,([]:List Int),false))) = some (r1,r2,r3):=by rw [if_pos rfl] at H;exact H
   by_cases c9:bo = true
   ·subst c9
    replace H:((cl.f k Y a4).bind fun ap=>(if ap.toList = a0.toList then (some (Y,a4,true)) else (some (0,([]:List Int),false)))) = some (r1,r2,r3):=by rw [if_pos rfl] at H;exact H
    obtain ⟨ap,ce,H⟩:=xa H;(try dsimp only at H);by_cases b2:ap.toList = a0.toList
    ·rw [if_pos b2] at H
     have bv:(ap.toList == a0.toList) = true:=beq_iff_eq.mpr b2;have c0:(ap.toList != a0.toList) = false:=bne_eq_false_iff_eq.mpr b2;clear b2;simp only [Option.some.injEq,Prod.mk.injEq] at H;obtain ⟨rfl,rfl,rfl⟩:=H;go_enter Tryz.func201,Tryz.ntmps201;go_wp2_with (first | ((with_reducible refine bu (N:=2) rfl ?_);refine zp 2 #[.int .i64 0,.slice none 0 0] 37 ?_;intro a8 hg g3 hbox hb;have j:=ae.mk hbox;have aR:=yv hg HB;have aS:=yv hg HB;replace HB:=xi HB hb;clear hb hbox hg) | ((with_reducible refine aD (f:=222) rfl ?_);refine ws (some 11) Tryz.func222 #[.string a0,.int .u8 32] ?_;(with_reducible refine (bF.calls k a0 32 z _ A2.out).mono ?_);rintro e g4 ⟨bi,rfl,a9,hb⟩;refine ⟨_,rfl,?_⟩;have y:=ae.mk (Kd.b5 a9 (ak wy));replace j:=xc j hb;replace HB:=ae.mk (aq wy hb);(try clear hb);(try clear aB);(try clear hk);(try clear hi);(try clear a9);obtain ⟨f6,f7,cf⟩:=Kd.bk y.out;subst cf;have aa:0≤(0:Int):=(by omega);have ab:0 < (z.length:Int):=yk;obtain ⟨ar,aF,a1⟩:=Kd.fR (Kd.az y.out).2.2 0 aa ab;cases aF;have b3:(0 < z.length) = True:=eq_true (by omega);(try rw [show ((0:Int)).toNat = 0 from rfl] at a1);(try rw [Addr.add_zero'] at a1);replace aa:=eq_true aa;replace ab:=eq_true ab) | ((with_reducible refine aD (f:=223) rfl ?_);refine ws (some 20) Tryz.func223 #[.string (fL ByteArray.empty z 0)] ?_;(with_reducible refine (dQ.calls k (fL ByteArray.empty z 0) Y true _ A5.out).mono ?_);rintro e g5 ⟨rfl,hb⟩;refine ⟨_,rfl,?_⟩;replace y:=z2 y hb;replace j:=xc j hb;replace HB:=ae.mk (aq wy hb);(try clear hb);(try clear aB);(try clear hk);(try clear hi);have am:0≤(1:Int):=(by omega);have ao:1 < (z.length:Int):=yk;obtain ⟨aw,aL,a2⟩:=Kd.fR (Kd.az y.out).2.2 1 am ao;obtain rfl:ar = aw:=(by injection aL);(try simp only [show (1:Int).toNat = 1 from rfl,Nat.reduceMul,Nat.reduceEqDiff,Go.Addr.add,↓reduceIte] at a2);have b4:(1 < z.length) = True:=eq_true (by omega);(try rw [show ((1:Int)).toNat = 1 from rfl] at a2);replace am:=eq_true am;replace ao:=eq_true ao) | ((with_reducible refine aD (f:=224) rfl ?_);refine ws (some 28) Tryz.func224 #[.int .i64 Y,.string (fL ByteArray.empty z 1)] ?_;(with_reducible refine (bg.calls k Y (fL ByteArray.empty z 1) a4 true _ A7.out).mono ?_);rintro e g6 ⟨bs,rfl,a9,hb⟩;refine ⟨_,rfl,?_⟩;replace y:=z2 y hb;have X:=ae.mk (Kd.b5 a9 (ak wy));replace j:=xc j hb;replace HB:=ae.mk (aq wy hb);(try clear hb);(try clear aB);(try clear hk);(try clear hi);(try clear a9);obtain ⟨aP,aO,ci⟩:=Kd.bk X.out;subst ci) | ((with_reducible refine bu (N:=9) rfl ?_);refine zp 9 #[.int .i64 0,.slice none 0 0] 37 ?_;intro a3 hg g7 hbox hb;replace y:=z2 y hb;replace X:=z2 X hb;have a5:=ae.mk hbox;have ba:=AM (w:=w) hg wy;have bc:=AM (w:=w) hg wy;replace HB:=ae.mk (aq wy hb);have a6:=AJ hg j;have a7:=AK hg j;replace j:=xc j hb;clear hb hbox hg;have es:=a7.out;have et:=a6.out;obtain ⟨cp,cq,cx,cy⟩:=xv a5.out) | (go_at_call 225;(with_reducible refine (cl.calls k Y _ _ a4 ap _ ?side1 ?side2 ce.out).mono ?_);(case side1=>refine (Kd.az (e:=3) (base:=w.heap.size) (ok:=fun k_=>True) (n:=a4.length) (c:=aO) ?_).2.2;exact (ac ((Kd.aQ (Kd.bU (p:=⟨a3,1,none⟩) (Kd.bU (p:=⟨a3,0,none⟩) (Kd.cr X.out a5.out (by decide)) (fun _ hk=>hk.2) (.int .i64 Y)) (fun _ hk=>hk.2) (.slice aP a4.length aO)) (fun _ h_=>h_.1)))));(case side2=>exact (Kd.az X.out).2.1);rintro e g8 ⟨rfl,hb⟩;replace y:=ae.mk (Kd.dG (ac ((Kd.aQ (Kd.bU (p:=⟨a3,1,none⟩) (Kd.bU (p:=⟨a3,0,none⟩) (Kd.cr y.out a5.out (by decide)) (fun _ hk=>hk.2) (.int .i64 Y)) (fun _ hk=>hk.2) (.slice aP a4.length aO)) (fun _ h_=>h_.1)))) hb);replace X:=ae.mk (Kd.dG (ac ((Kd.aQ (Kd.bU (p:=⟨a3,1,none⟩) (Kd.bU (p:=⟨a3,0,none⟩) (Kd.cr X.out a5.out (by decide)) (fun _ hk=>hk.2) (.int .i64 Y)) (fun _ hk=>hk.2) (.slice aP a4.length aO)) (fun _ h_=>h_.1)))) hb);replace j:=ae.mk (b6 (g:=a8) (o:=.cells #[.int .i64 0,.slice none 0 0] 37 (0,0)) AE hb);replace a5:=ae.mk (b6 (g:=a3) (o:=.cells #[.int .i64 Y,.slice aP a4.length aO] 37 (0,0)) AE hb);replace HB:=ae.mk (aq wy hb);(try clear hb);(try clear aB);(try clear hk);(try clear hi);obtain ⟨d0,d1,d2,d3⟩:=xv a5.out;obtain ⟨d4,d5,d6,d7⟩:=xv j.out));refine bodyPost_ret (eV rfl _ _ a8 37 #[.int .i64 Y,.slice aP a4.length aO] (0,0) _ rfl AE Tryz.underlying37 rfl (by kernel_rfl)) rfl ?_;exact ⟨_,zd,by (with_reducible repeat (first | apply Kd.cP | apply Kd.cQ | apply Kd.bY));exact Kd.aQ (Kd.bU (p:=⟨a8,1,none⟩) (Kd.bU (p:=⟨a8,0,none⟩) (Kd.cr X.out j.out (by decide)) (fun _ hk=>hk.2) (.int .i64 Y)) (fun _ hk=>hk.2) (.slice aP a4.length aO)) (fun _ hk=>trivial),wy⟩
    ·rw [if_neg b2] at H
     have bv:(ap.toList == a0.toList) = false:=beq_eq_false_iff_ne.mpr b2;have c0:(ap.toList != a0.toList) = true:=bne_iff_ne.mpr b2;simp only [Option.some.injEq,Prod.mk.injEq] at H;obtain ⟨rfl,rfl,rfl⟩:=H;go_enter Tryz.func201,Tryz.ntmps201;go_wp2_with (first | ((with_reducible refine bu (N:=2) rfl ?_);refine zp 2 #[.int .i64 0,.slice none 0 0] 37 ?_;intro a8 hg g9 hbox hb;have j:=ae.mk hbox;have aR:=yv hg HB;have aS:=yv hg HB;replace HB:=xi HB hb;clear hb hbox hg) | ((with_reducible refine aD (f:=222) rfl ?_);refine ws (some 11) Tryz.func222 #[.string a0,.int .u8 32] ?_;(with_reducible refine (bF.calls k a0 32 z _ A2.out).mono ?_);rintro e gb ⟨bi,rfl,a9,hb⟩;refine ⟨_,rfl,?_⟩;have y:=ae.mk (Kd.b5 a9 (ak wy));replace j:=xc j hb;replace HB:=ae.mk (aq wy hb);(try clear hb);(try clear aB);(try clear hk);(try clear hi);(try clear a9);obtain ⟨f8,f9,d8⟩:=Kd.bk y.out;subst d8;have aa:0≤(0:Int):=(by omega);have ab:0 < (z.length:Int):=yk;obtain ⟨ar,aF,a1⟩:=Kd.fR (Kd.az y.out).2.2 0 aa ab;cases aF;have b3:(0 < z.length) = True:=eq_true (by omega);(try rw [show ((0:Int)).toNat = 0 from rfl] at a1);(try rw [Addr.add_zero'] at a1);replace aa:=eq_true aa;replace ab:=eq_true ab) | ((with_reducible refine aD (f:=223) rfl ?_);refine ws (some 20) Tryz.func223 #[.string (fL ByteArray.empty z 0)] ?_;(with_reducible refine (dQ.calls k (fL ByteArray.empty z 0) Y true _ A5.out).mono ?_);rintro e gc ⟨rfl,hb⟩;refine ⟨_,rfl,?_⟩;replace y:=z2 y hb;replace j:=xc j hb;replace HB:=ae.mk (aq wy hb);(try clear hb);(try clear aB);(try clear hk);(try clear hi);have am:0≤(1:Int):=(by omega);have ao:1 < (z.length:Int):=yk;obtain ⟨aw,aL,a2⟩:=Kd.fR (Kd.az y.out).2.2 1 am ao;obtain rfl:ar = aw:=(by injection aL);(try simp only [show (1:Int).toNat = 1 from rfl,Nat.reduceMul,Nat.reduceEqDiff,Go.Addr.add,↓reduceIte] at a2);have b4:(1 < z.length) = True:=eq_true (by omega);(try rw [show ((1:Int)).toNat = 1 from rfl] at a2);replace am:=eq_true am;replace ao:=eq_true ao) | ((with_reducible refine aD (f:=224) rfl ?_);refine ws (some 28) Tryz.func224 #[.int .i64 Y,.string (fL ByteArray.empty z 1)] ?_;(with_reducible refine (bg.calls k Y (fL ByteArray.empty z 1) a4 true _ A7.out).mono ?_);rintro e gk ⟨bs,rfl,a9,hb⟩;refine ⟨_,rfl,?_⟩;replace y:=z2 y hb;have X:=ae.mk (Kd.b5 a9 (ak wy));replace j:=xc j hb;replace HB:=ae.mk (aq wy hb);(try clear hb);(try clear aB);(try clear hk);(try clear hi);(try clear a9);obtain ⟨bm,b0,d9⟩:=Kd.bk X.out;subst d9) | ((with_reducible refine bu (N:=9) rfl ?_);refine zp 9 #[.int .i64 0,.slice none 0 0] 37 ?_;intro a3 hg go hbox hb;replace y:=z2 y hb;replace X:=z2 X hb;have a5:=ae.mk hbox;have ba:=AM (w:=w) hg wy;have bc:=AM (w:=w) hg wy;replace HB:=ae.mk (aq wy hb);have a6:=AJ hg j;have a7:=AK hg j;replace j:=xc j hb;clear hb hbox hg;have ev:=a7.out;have ew:=a6.out;obtain ⟨db,dd,df,dk⟩:=xv a5.out) | (go_at_call 225;(with_reducible refine (cl.calls k Y _ _ a4 ap _ ?side1 ?side2 ce.out).mono ?_);(case side1=>refine (Kd.az (e:=3) (base:=w.heap.size) (ok:=fun k_=>True) (n:=a4.length) (c:=b0) ?_).2.2;exact (ac ((Kd.aQ (Kd.bU (p:=⟨a3,1,none⟩) (Kd.bU (p:=⟨a3,0,none⟩) (Kd.cr X.out a5.out (by decide)) (fun _ hk=>hk.2) (.int .i64 Y)) (fun _ hk=>hk.2) (.slice bm a4.length b0)) (fun _ h_=>h_.1)))));(case side2=>exact (Kd.az X.out).2.1);rintro e gs ⟨rfl,hb⟩;replace y:=ae.mk (Kd.dG (ac ((Kd.aQ (Kd.bU (p:=⟨a3,1,none⟩) (Kd.bU (p:=⟨a3,0,none⟩) (Kd.cr y.out a5.out (by decide)) (fun _ hk=>hk.2) (.int .i64 Y)) (fun _ hk=>hk.2) (.slice bm a4.length b0)) (fun _ h_=>h_.1)))) hb);replace X:=ae.mk (Kd.dG (ac ((Kd.aQ (Kd.bU (p:=⟨a3,1,none⟩) (Kd.bU (p:=⟨a3,0,none⟩) (Kd.cr X.out a5.out (by decide)) (fun _ hk=>hk.2) (.int .i64 Y)) (fun _ hk=>hk.2) (.slice bm a4.length b0)) (fun _ h_=>h_.1)))) hb);replace j:=ae.mk (b6 (g:=a8) (o:=.cells #[.int .i64 0,.slice none 0 0] 37 (0,0)) AE hb);replace a5:=ae.mk (b6 (g:=a3) (o:=.cells #[.int .i64 Y,.slice bm a4.length b0] 37 (0,0)) AE hb);replace HB:=ae.mk (aq wy hb);(try clear hb);(try clear aB);(try clear hk);(try clear hi);obtain ⟨dl,dp,dq,dt⟩:=xv j.out));refine bodyPost_ret (eV rfl _ _ a8 37 #[.int .i64 0,.slice none 0 0] (0,0) _ rfl AE Tryz.underlying37 rfl (by kernel_rfl)) rfl ?_;exact ⟨_,zd,af.N,wy⟩
   ·replace c9:=Bool.eq_false_iff.mpr c9
    subst c9;replace H:(some (0,([]:List Int),false)) = some (r1,r2,r3):=by rw [if_neg (show ¬ (false = true) by decide)] at H;exact H
    simp only [Option.some.injEq,Prod.mk.injEq] at H;obtain ⟨rfl,rfl,rfl⟩:=H;go_enter Tryz.func201,Tryz.ntmps201;go_wp2_with (first | ((with_reducible refine bu (N:=2) rfl ?_);refine zp 2 #[.int .i64 0,.slice none 0 0] 37 ?_;intro a8 hg gt hbox hb;have j:=ae.mk hbox;have aR:=yv hg HB;have aS:=yv hg HB;replace HB:=xi HB hb;clear hb hbox hg) | ((with_reducible refine aD (f:=222) rfl ?_);refine ws (some 11) Tryz.func222 #[.string a0,.int .u8 32] ?_;(with_reducible refine (bF.calls k a0 32 z _ A2.out).mono ?_);rintro e h0 ⟨bi,rfl,a9,hb⟩;refine ⟨_,rfl,?_⟩;have y:=ae.mk (Kd.b5 a9 (ak wy));replace j:=xc j hb;replace HB:=ae.mk (aq wy hb);(try clear hb);(try clear aB);(try clear hk);(try clear hi);(try clear a9);obtain ⟨fd,fi,du⟩:=Kd.bk y.out;subst du;have aa:0≤(0:Int):=(by omega);have ab:0 < (z.length:Int):=yk;obtain ⟨ar,aF,a1⟩:=Kd.fR (Kd.az y.out).2.2 0 aa ab;cases aF;have b3:(0 < z.length) = True:=eq_true (by omega);(try rw [show ((0:Int)).toNat = 0 from rfl] at a1);(try rw [Addr.add_zero'] at a1);replace aa:=eq_true aa;replace ab:=eq_true ab) | ((with_reducible refine aD (f:=223) rfl ?_);refine ws (some 20) Tryz.func223 #[.string (fL ByteArray.empty z 0)] ?_;(with_reducible refine (dQ.calls k (fL ByteArray.empty z 0) Y true _ A5.out).mono ?_);rintro e h6 ⟨rfl,hb⟩;refine ⟨_,rfl,?_⟩;replace y:=z2 y hb;replace j:=xc j hb;replace HB:=ae.mk (aq wy hb);(try clear hb);(try clear aB);(try clear hk);(try clear hi);have am:0≤(1:Int):=(by omega);have ao:1 < (z.length:Int):=yk;obtain ⟨aw,aL,a2⟩:=Kd.fR (Kd.az y.out).2.2 1 am ao;obtain rfl:ar = aw:=(by injection aL);(try simp only [show (1:Int).toNat = 1 from rfl,Nat.reduceMul,Nat.reduceEqDiff,Go.Addr.add,↓reduceIte] at a2);have b4:(1 < z.length) = True:=eq_true (by omega);(try rw [show ((1:Int)).toNat = 1 from rfl] at a2);replace am:=eq_true am;replace ao:=eq_true ao) | ((with_reducible refine aD (f:=224) rfl ?_);refine ws (some 28) Tryz.func224 #[.int .i64 Y,.string (fL ByteArray.empty z 1)] ?_;(with_reducible refine (bg.calls k Y (fL ByteArray.empty z 1) a4 false _ A7.out).mono ?_);rintro e h7 ⟨bs,rfl,a9,hb⟩;refine ⟨_,rfl,?_⟩;replace y:=z2 y hb;have X:=ae.mk (Kd.b5 a9 (ak wy));replace j:=xc j hb;replace HB:=ae.mk (aq wy hb);(try clear hb);(try clear aB);(try clear hk);(try clear hi);(try clear a9);obtain ⟨fj,fp,dv⟩:=Kd.bk X.out;subst dv) | ((with_reducible refine bu (N:=9) rfl ?_);refine zp 9 #[.int .i64 0,.slice none 0 0] 37 ?_;intro a3 hg h8 hbox hb;replace y:=z2 y hb;replace X:=z2 X hb;have a5:=ae.mk hbox;have ba:=AM (w:=w) hg wy;have bc:=AM (w:=w) hg wy;replace HB:=ae.mk (aq wy hb);have a6:=AJ hg j;have a7:=AK hg j;replace j:=xc j hb;clear hb hbox hg;have ex:=a7.out;have ey:=a6.out;obtain ⟨dC,dE,dT,e0⟩:=xv a5.out;obtain ⟨e1,e2,e3,e4⟩:=xv j.out));refine bodyPost_ret (eV rfl _ _ a8 37 #[.int .i64 0,.slice none 0 0] (0,0) _ rfl AE Tryz.underlying37 rfl (by kernel_rfl)) rfl ?_;exact ⟨_,zd,af.N,wy⟩
  ·replace c8:=Bool.eq_false_iff.mpr c8
   subst c8;replace H:(some (0,([]:List Int),false)) = some (r1,r2,r3):=by rw [if_neg (show ¬ (false = true) by decide)] at H;exact H
   simp only [Option.some.injEq,Prod.mk.injEq] at H;obtain ⟨rfl,rfl,rfl⟩:=H;go_enter Tryz.func201,Tryz.ntmps201;go_wp2_with (first | ((with_reducible refine bu (N:=2) rfl ?_);refine zp 2 #[.int .i64 0,.slice none 0 0] 37 ?_;intro a8 hg h9 hbox hb;have j:=ae.mk hbox;have aR:=yv hg HB;have aS:=yv hg HB;replace HB:=xi HB hb;clear hb hbox hg) | ((with_reducible refine aD (f:=222) rfl ?_);refine ws (some 11) Tryz.func222 #[.string a0,.int .u8 32] ?_;(with_reducible refine (bF.calls k a0 32 z _ A2.out).mono ?_);rintro e hj ⟨bi,rfl,a9,hb⟩;refine ⟨_,rfl,?_⟩;have y:=ae.mk (Kd.b5 a9 (ak wy));replace j:=xc j hb;replace HB:=ae.mk (aq wy hb);(try clear hb);(try clear aB);(try clear hk);(try clear hi);(try clear a9);obtain ⟨fs,ft,e5⟩:=Kd.bk y.out;subst e5;have aa:0≤(0:Int):=(by omega);have ab:0 < (z.length:Int):=yk;obtain ⟨ar,aF,a1⟩:=Kd.fR (Kd.az y.out).2.2 0 aa ab;cases aF;have b3:(0 < z.length) = True:=eq_true (by omega);(try rw [show ((0:Int)).toNat = 0 from rfl] at a1);(try rw [Addr.add_zero'] at a1);replace aa:=eq_true aa;replace ab:=eq_true ab) | ((with_reducible refine aD (f:=223) rfl ?_);refine ws (some 20) Tryz.func223 #[.string (fL ByteArray.empty z 0)] ?_;(with_reducible refine (dQ.calls k (fL ByteArray.empty z 0) Y false _ A5.out).mono ?_);rintro e hl ⟨rfl,hb⟩;refine ⟨_,rfl,?_⟩;replace y:=z2 y hb;replace j:=xc j hb;replace HB:=ae.mk (aq wy hb);(try clear hb);(try clear aB);(try clear hk);(try clear hi);have am:0≤(1:Int):=(by omega);have ao:1 < (z.length:Int):=yk;obtain ⟨aw,aL,a2⟩:=Kd.fR (Kd.az y.out).2.2 1 am ao;obtain rfl:ar = aw:=(by injection aL);(try simp only [show (1:Int).toNat = 1 from rfl,Nat.reduceMul,Nat.reduceEqDiff,Go.Addr.add,↓reduceIte] at a2);have b4:(1 < z.length) = True:=eq_true (by omega);(try rw [show ((1:Int)).toNat = 1 from rfl] at a2);replace am:=eq_true am;replace ao:=eq_true ao) | ((with_reducible refine aD (f:=224) rfl ?_);refine ws (some 28) Tryz.func224 #[.int .i64 Y,.string (fL ByteArray.empty z 1)] ?_;(with_reducible refine (bg.calls k Y (fL ByteArray.empty z 1) a4 bo _ A7.out).mono ?_);rintro e hm ⟨bs,rfl,a9,hb⟩;refine ⟨_,rfl,?_⟩;replace y:=z2 y hb;have X:=ae.mk (Kd.b5 a9 (ak wy));replace j:=xc j hb;replace HB:=ae.mk (aq wy hb);(try clear hb);(try clear aB);(try clear hk);(try clear hi);(try clear a9);obtain ⟨fw,g0,e8⟩:=Kd.bk X.out;subst e8) | ((with_reducible refine bu (N:=9) rfl ?_);refine zp 9 #[.int .i64 0,.slice none 0 0] 37 ?_;intro a3 hg hn hbox hb;replace y:=z2 y hb;replace X:=z2 X hb;have a5:=ae.mk hbox;have ba:=AM (w:=w) hg wy;have bc:=AM (w:=w) hg wy;replace HB:=ae.mk (aq wy hb);have a6:=AJ hg j;have a7:=AK hg j;replace j:=xc j hb;clear hb hbox hg;have eQ:=a7.out;have f0:=a6.out;obtain ⟨ea,eb,ec,ed⟩:=xv a5.out;obtain ⟨ee,ef,eh,ei⟩:=xv j.out));refine bodyPost_ret (eV rfl _ _ a8 37 #[.int .i64 0,.slice none 0 0] (0,0) _ rfl AE Tryz.underlying37 rfl (by kernel_rfl)) rfl ?_;exact ⟨_,zd,af.N,wy⟩
 ·rw [if_neg c3] at H
  have ca:((z.length:Int) == 2) = false:=beq_eq_false_iff_ne.mpr c3;have cb:((z.length:Int) != 2) = true:=bne_iff_ne.mpr c3;simp only [Option.some.injEq,Prod.mk.injEq] at H;obtain ⟨rfl,rfl,rfl⟩:=H;go_enter Tryz.func201,Tryz.ntmps201;go_wp2_with (first | ((with_reducible refine bu (N:=2) rfl ?_);refine zp 2 #[.int .i64 0,.slice none 0 0] 37 ?_;intro a8 hg ho hbox hb;have j:=ae.mk hbox;have aR:=yv hg HB;have aS:=yv hg HB;replace HB:=xi HB hb;clear hb hbox hg) | ((with_reducible refine aD (f:=222) rfl ?_);refine ws (some 11) Tryz.func222 #[.string a0,.int .u8 32] ?_;(with_reducible refine (bF.calls k a0 32 z _ A2.out).mono ?_);rintro e hq ⟨bi,rfl,a9,hb⟩;refine ⟨_,rfl,?_⟩;have y:=ae.mk (Kd.b5 a9 (ak wy));replace j:=xc j hb;replace HB:=ae.mk (aq wy hb);(try clear hb);(try clear aB);(try clear hk);(try clear hi);(try clear a9);obtain ⟨g1,g2,ej⟩:=Kd.bk y.out;subst ej;obtain ⟨el,em,eo,eq⟩:=xv j.out));refine bodyPost_ret (eV rfl _ _ a8 37 #[.int .i64 0,.slice none 0 0] (0,0) _ rfl AE Tryz.underlying37 rfl (by kernel_rfl)) rfl ?_;exact ⟨_,zd,af.N,wy⟩
def fk.f (y:List Int) (z:Int) (X:Int) (l1:List ByteArray):Option (ByteArray×Int×Int):=(aJ.f y z X (l1.length:Int)).bind fun j=>(if 0≤j.1 then (if j.1 < (l1.length:Int) then (some (fL ByteArray.empty l1 j.1,j.2.1,j.2.2)) else (none)) else (none))
set_option maxHeartbeats 8000000 in
set_option maxRecDepth 100000 in
theorem fk.calls (g:Nat) (y:List Int) (X:Int) (Y:Int) (A1:Option Addr) (c1:Nat) (l1:List ByteArray) (r1:ByteArray) (r2:Int) (r3:Int) (w0 w:World) (hI:aG w0 w g y X Y) (hB:Below w0.heap.size w0 w) (a4:Kd.C Kd.string w A1 l1.length l1) (a5:l1.length≤c1) (a2:∀ ad,A1 = some ad→0 < l1.length→ad.block≠g) (h:fk.f y X Y l1 = some (r1,r2,r3)) :
  Calls Tryz.prog 202 #[.pointer (some ⟨g,0,none⟩),.slice A1 l1.length c1] w fun e w'=>e = .returned (.string r1)∧aG w0 w' g y r2 r3∧Below w0.heap.size w0 w'∧an w w' g none:=by
 have a9:=ae.mk a4;have ao:=ae.mk a5;clear a4 a5;have aa:=ae.mk hI;have HK:=ae.mk (an.refl w g none);have HL:=ae.mk hB.size;clear hI;have ap:=ae.mk hB.size;have HB:=ae.mk hB;clear hB;unfold fk.f at h;have H:=h;clear h;obtain ⟨⟨z,a6,a7⟩,A3,H⟩:=xa H;(try dsimp only at H);obtain ⟨c4,H⟩:=xt H;have ab:=decide_eq_true c4;clear c4;obtain ⟨c5,H⟩:=xt H;have am:=decide_eq_true c5;clear c5;simp only [Option.some.injEq,Prod.mk.injEq] at H;obtain ⟨rfl,rfl,rfl⟩:=H;go_enter Tryz.func202,Tryz.ntmps202;go_wp2_with (first | (refine ws (some 9) Tryz.func122 #[.pointer (some ⟨g,0,none⟩),.int .i64 (l1.length:Int)] ?_;(with_reducible refine (aJ.calls g y X Y (l1.length:Int) z a6 a7 w0 _ ?side1 ?side2 A3.out).mono ?_);(case side1=>exact xr);(case side2=>exact yr HB);rintro e w6 ⟨rfl,hi,hb,hk⟩;refine ⟨_,rfl,?_⟩;replace HK:=ae.mk (an.trans (y6 HK) hk (.inl rfl));replace HB:=ae.mk hb;replace aa:=ae.mk hi;(try clear hb);(try clear ar);(try clear hk);(try clear hi);have a0:0≤(z:Int):=yk;have a1:z < (l1.length:Int):=yk;obtain ⟨a3,a8,j⟩:=Kd.fR a9.out z a0 a1;cases a8;replace j:=iT HK.out j (by first | (rw [fS];exact a2 _ rfl (by omega)) | exact a2 _ rfl (by omega) | exact a2 a3 rfl (by omega));replace a0:=eq_true a0;replace a1:=eq_true a1));go_ret;exact ⟨zd,xr,yr HB,y6 HK⟩
def dW.f (k:Nat) (z:List Int) (X:Int) (Y:Int):Option (Int×List Int×Int×Int):=(fk.f z X Y (([(⟨#[48,32,45]⟩:ByteArray),(⟨#[49,32,45]⟩:ByteArray),(⟨#[49,32,97]⟩:ByteArray),(⟨#[52,32,97,98,44,97,99,44,98,99,44,97,100,44,98,100,44,99,100]⟩:ByteArray),(⟨#[52,32,97,98,44,97,99,44,97,100,44,98,100,44,99,100]⟩:ByteArray),(⟨#[51,32,97,44,98]⟩:ByteArray),(⟨#[53,32,97,98,44,97,99,44,98,99,44,97,100,44,98,100]⟩:ByteArray),(⟨#[50,32,45]⟩:ByteArray),(⟨#[51,32,97,98,99]⟩:ByteArray)]:List ByteArray))).bind fun j=>((cm.f k j.1).bind fun y=>(some (y.1,y.2.1,j.2.1,j.2.2)))
set_option maxHeartbeats 8000000 in
set_option maxRecDepth 100000 in
theorem dW.calls (k:Nat) (g:Nat) (X:List Int) (a0:Int) (a1:Int) (r1:Int) (r2:List Int) (r3:Int) (r4:Int) (w0 w:World) (hI:aG w0 w g X a0 a1) (hB:Below w0.heap.size w0 w) (h:dW.f k X a0 a1 = some (r1,r2,r3,r4)) :
  Calls Tryz.prog 176 #[.pointer (some ⟨g,0,none⟩)] w fun e w'=>∃ ba:Value,e = .returned (.agg #[.int .i64 r1,ba])∧Kd.R (Kd.int .i64) 3 w' w.heap.size (fun _=>True) ba r2∧aG w0 w' g X r3 r4∧Below w0.heap.size w0 w'∧an w w' g none:=by
 have dv:=Tryz.underlying37;have a4:=ae.mk hI;have HK:=ae.mk (an.refl w g none);have HL:=ae.mk hB.size;clear hI;have bc:=ae.mk hB.size;have HB:=ae.mk hB;clear hB;unfold dW.f at h;have H:=h;clear h;obtain ⟨ab,a5⟩:∃ y_:List ByteArray,y_ = (([(⟨#[48,32,45]⟩:ByteArray),(⟨#[49,32,45]⟩:ByteArray),(⟨#[49,32,97]⟩:ByteArray),(⟨#[52,32,97,98,44,97,99,44,98,99,44,97,100,44,98,100,44,99,100]⟩:ByteArray),(⟨#[52,32,97,98,44,97,99,44,97,100,44,98,100,44,99,100]⟩:ByteArray),(⟨#[51,32,97,44,98]⟩:ByteArray),(⟨#[53,32,97,98,44,97,99,44,98,99,44,97,100,44,98,100]⟩:ByteArray),(⟨#[50,32,45]⟩:ByteArray),(⟨#[51,32,97,98,99]⟩:ByteArray)]:List ByteArray)):=⟨_,rfl⟩
 replace H:((fk.f X a0 a1 ab).bind fun a6=>((cm.f k a6.1).bind fun am=>(some (am.1,am.2.1,a6.2.1,a6.2.2)))) = some (r1,r2,r3,r4):=by (try rw [a5]);exact AC
 have ao:=ae.mk a5;clear a5;obtain ⟨⟨ap,ar,aw⟩,A2,H⟩:=xa H;(try dsimp only at H);obtain ⟨⟨a9,aa,bi⟩,A3,H⟩:=xa H;(try dsimp only at H);simp only [Option.some.injEq,Prod.mk.injEq] at H;obtain ⟨rfl,rfl,rfl,rfl⟩:=H;go_enter Tryz.func176,Tryz.ntmps176;go_wp2_with (first | (refine zp 2 #[.int .i64 0,.slice none 0 0] 37 ?_;intro z hg w4 hbox hb;replace HB:=ae.mk (aq (yr HB) hb);have j:=ae.mk hbox;have d4:=ae.mk ((by rw [hg];exact (bn (w:=w) (g:=g) (row:=none) (y6 HK)):w.heap.size≤z));have d5:=ae.mk ((Nat.le_trans bc.out (by rw [hg];exact (bn (w:=w) (g:=g) (row:=none) (y6 HK)):w.heap.size≤z):w0.heap.size≤z));replace HK:=ae.mk (an.trans (y6 HK) (an.dn hb g none) (.inl rfl));have aB:=ae.mk ((by rw [hg];exact Nat.ne_of_lt (aG.lt (show aG w0 _ g X a0 a1 from xr)):g≠z));have a3:=ae.mk ((by rw [hg];exact Nat.ne_of_gt (aG.lt (show aG w0 _ g X a0 a1 from xr)):z≠g));replace a4:=ae.mk (aG.below xr hb);clear hb hbox hg) | ((with_reducible refine bu (N:=7) rfl ?_);refine Kd.jW Kd.string _ 9 ?hg (N:=7) ?hd (xs:=([(⟨#[48,32,45]⟩:ByteArray),(⟨#[49,32,45]⟩:ByteArray),(⟨#[49,32,97]⟩:ByteArray),(⟨#[52,32,97,98,44,97,99,44,98,99,44,97,100,44,98,100,44,99,100]⟩:ByteArray),(⟨#[52,32,97,98,44,97,99,44,97,100,44,98,100,44,99,100]⟩:ByteArray),(⟨#[51,32,97,44,98]⟩:ByteArray),(⟨#[53,32,97,98,44,97,99,44,98,99,44,97,100,44,98,100]⟩:ByteArray),(⟨#[50,32,45]⟩:ByteArray),(⟨#[51,32,97,98,99]⟩:ByteArray)]:List ByteArray)) (inner:=[.string (⟨#[48,32,45]⟩:ByteArray),.string (⟨#[49,32,45]⟩:ByteArray),.string (⟨#[49,32,97]⟩:ByteArray),.string (⟨#[52,32,97,98,44,97,99,44,98,99,44,97,100,44,98,100,44,99,100]⟩:ByteArray),.string (⟨#[52,32,97,98,44,97,99,44,97,100,44,98,100,44,99,100]⟩:ByteArray),.string (⟨#[51,32,97,44,98]⟩:ByteArray),.string (⟨#[53,32,97,98,44,97,99,44,98,99,44,97,100,44,98,100]⟩:ByteArray),.string (⟨#[50,32,45]⟩:ByteArray),.string (⟨#[51,32,97,98,99]⟩:ByteArray)]) (ok:=fun _=>True) (okp:=fun _=>True) ?hr ?hp (fun _ hk=>hk) trivial (Below.refl _ _) (Nat.le_refl _) (by simp) ?_;(case hd=>rfl);(case hg=>rfl);(case hr=>first | (go_simp;done) | (go_simp;rfl));(case hp=>exact (cY.one (show Kd.M Kd.string _ _ _ (⟨#[48,32,45]⟩:ByteArray) [.string (⟨#[48,32,45]⟩:ByteArray)] from rfl) (cY.one (show Kd.M Kd.string _ _ _ (⟨#[49,32,45]⟩:ByteArray) [.string (⟨#[49,32,45]⟩:ByteArray)] from rfl) (cY.one (show Kd.M Kd.string _ _ _ (⟨#[49,32,97]⟩:ByteArray) [.string (⟨#[49,32,97]⟩:ByteArray)] from rfl) (cY.one (show Kd.M Kd.string _ _ _ (⟨#[52,32,97,98,44,97,99,44,98,99,44,97,100,44,98,100,44,99,100]⟩:ByteArray) [.string (⟨#[52,32,97,98,44,97,99,44,98,99,44,97,100,44,98,100,44,99,100]⟩:ByteArray)] from rfl) (cY.one (show Kd.M Kd.string _ _ _ (⟨#[52,32,97,98,44,97,99,44,97,100,44,98,100,44,99,100]⟩:ByteArray) [.string (⟨#[52,32,97,98,44,97,99,44,97,100,44,98,100,44,99,100]⟩:ByteArray)] from rfl) (cY.one (show Kd.M Kd.string _ _ _ (⟨#[51,32,97,44,98]⟩:ByteArray) [.string (⟨#[51,32,97,44,98]⟩:ByteArray)] from rfl) (cY.one (show Kd.M Kd.string _ _ _ (⟨#[53,32,97,98,44,97,99,44,98,99,44,97,100,44,98,100]⟩:ByteArray) [.string (⟨#[53,32,97,98,44,97,99,44,98,99,44,97,100,44,98,100]⟩:ByteArray)] from rfl) (cY.one (show Kd.M Kd.string _ _ _ (⟨#[50,32,45]⟩:ByteArray) [.string (⟨#[50,32,45]⟩:ByteArray)] from rfl) (cY.one (show Kd.M Kd.string _ _ _ (⟨#[51,32,97,98,99]⟩:ByteArray) [.string (⟨#[51,32,97,98,99]⟩:ByteArray)] from rfl) (cY.none _ _)))))))))));intro dC w5 aF hb d6 b4;clear d6 b4;(first | rw [← ao.out] at aF | (simp only [Int.reduceToNat] at aF;rw [← ao.out] at aF));have y:=ae.mk (Kd.b5 aF (bn (w:=w) (g:=g) (row:=none) (y6 HK)));replace j:=xc j hb;replace HK:=ae.mk (an.trans (y6 HK) (an.dn hb g none) (.inl rfl));replace HB:=ae.mk (aq (yr HB) hb);replace a4:=ae.mk (aG.below xr hb);clear hb aF;obtain ⟨d7,d8,d9⟩:=Kd.bk y.out;subst d9) | (refine ws (some 8) Tryz.func202 #[.pointer (some ⟨g,0,none⟩),.slice d7 ab.length d8] ?_;(with_reducible refine (fk.calls g X a0 a1 _ _ ab ap ar aw w0 _ ?side1 ?side2 ?side3 ?side4 ?side5 A2.out).mono ?_);(case side1=>exact xr);(case side2=>exact yr HB);(case side3=>exact yi ((Kd.az y.out).2.2));(case side4=>exact (Kd.az y.out).2.1);(case side5=>exact l7 (aG.fY a4.out y.out (by decide)));rintro e w8 ⟨rfl,hi,hb,hk⟩;refine ⟨_,rfl,?_⟩;replace j:=ae.mk (an.blk hk (g':=z) (o:=.cells #[.int .i64 0,.slice none 0 0] 37 (0,0)) (xf j.out) a3.out (by simp));replace y:=ae.mk (Kd.aQ (Kd.fB (aG.apart (show aG w0 _ g X a0 a1 from xr) (ac y.out) (by decide)) hk (fun _ h=>h.2)) (fun _ h=>h.1));replace HK:=ae.mk (an.trans (y6 HK) hk (.inl rfl));replace HB:=ae.mk hb;replace a4:=ae.mk hi;(try clear hb);(try clear db);(try clear hk);(try clear hi)) | (refine ws (some 9) Tryz.func201 #[.string ap] ?_;(with_reducible refine (cm.calls k ap a9 aa bi _ A3.out).mono ?_);rintro e w9 ⟨dE,rfl,bm,hb⟩;refine ⟨_,rfl,?_⟩;replace y:=z2 y hb;have a2:=ae.mk (Kd.b5 bm (bn (w:=w) (g:=g) (row:=none) (y6 HK)));replace j:=xc j hb;replace HK:=ae.mk (an.trans (y6 HK) (an.dn hb g none) (.inl rfl));replace HB:=ae.mk (aq (yr HB) hb);replace a4:=ae.mk (aG.below xr hb);(try clear hb);(try clear db);(try clear hk);(try clear hi);(try clear bm)) | (refine zp 3 #[.int .i64 0,.slice none 0 0] 37 ?_;intro Y hg dT hbox hb;have bo:=z2 y hb;have bs:=z2 a2 hb;have bv:=ae.mk (aG.below xr hb);have c0:=xc j hb;have c1:=ae.mk (an.trans (y6 HK) (an.dn hb g none) (.inl rfl));have ca:=ae.mk (aq (yr HB) hb);have cb:=ae.mk hbox;have cc:=ae.mk ((by rw [hg];exact (bn (w:=w) (g:=g) (row:=none) (y6 HK)):w.heap.size≤Y));have ce:=ae.mk ((Nat.le_trans bc.out (by rw [hg];exact (bn (w:=w) (g:=g) (row:=none) (y6 HK)):w.heap.size≤Y):w0.heap.size≤Y));have cf:=AJ hg j;have b0:=AK hg j;have b2:=ae.mk ((by rw [hg];exact Nat.ne_of_lt (aG.lt (show aG w0 _ g X ar aw from xr)):g≠Y));have b3:=ae.mk ((by rw [hg];exact Nat.ne_of_gt (aG.lt (show aG w0 _ g X ar aw from xr)):Y≠g));clear y;clear a2;clear a4;clear j;clear HK;clear HB;have y:=bo;have a2:=bs;have a4:=bv;have j:=c0;have HK:=c1;have HB:=ca;have aL:=cb;have dd:=cc;have df:=ce;have a7:=cf;have a8:=b0;have aO:=b2;have aP:=b3;clear bo bs bv c0 c1 ca cb cc ce cf b0 b2 b3;clear hb hbox hg;have dk:=a8.out;have dl:=a7.out;have dp:=aP.out;have dq:=aO.out;obtain ⟨ci,cp,cq,cx⟩:=xv aL.out;obtain ⟨aR,aS,cy⟩:=Kd.bk a2.out;subst cy;have dt:=a3.out;have du:=aB.out;obtain ⟨d0,d1,d2,d3⟩:=xv j.out));refine bodyPost_ret (results_cell_row rfl _ _ z 37 #[.int .i64 a9,.slice aR aa.length aS] (0,0) _ rfl AE Tryz.underlying37 rfl (by kernel_rfl)) rfl ?_;exact ⟨_,zd,by (with_reducible repeat (first | apply Kd.cP | apply Kd.cQ | apply Kd.bY));exact Kd.aQ (Kd.bU (p:=⟨z,1,none⟩) (Kd.bU (p:=⟨z,0,none⟩) (Kd.bU (p:=⟨Y,1,none⟩) (Kd.bU (p:=⟨Y,0,none⟩) (Kd.cr (Kd.cr a2.out aL.out (by decide)) j.out (by decide)) (fun _ hk=>hk.1.2) (.int .i64 a9)) (fun _ hk=>hk.1.2) (.slice aR aa.length aS)) (fun _ hk=>hk.2) (.int .i64 a9)) (fun _ hk=>hk.2) (.slice aR aa.length aS)) (fun _ hk=>trivial),xr,yr HB,y6 HK⟩
def cU.f (y:List Int) (z:Int) (X:Int) (l1:List Int):Option (Int×Int×Int):=(aJ.f y z X (l1.length:Int)).bind fun j=>(if 0≤j.1 then (if j.1 < (l1.length:Int) then (some (rd l1 j.1,j.2.1,j.2.2)) else (none)) else (none))
set_option maxHeartbeats 8000000 in
set_option maxRecDepth 100000 in
theorem cU.calls (g:Nat) (y:List Int) (X:Int) (Y:Int) (A1:Option Addr) (c1:Nat) (l1:List Int) (r1:Int) (r2:Int) (r3:Int) (w0 w:World) (hI:aG w0 w g y X Y) (hB:Below w0.heap.size w0 w) (a4:Kd.C (Kd.int .i64) w A1 l1.length l1) (a5:l1.length≤c1) (a2:∀ ad,A1 = some ad→0 < l1.length→ad.block≠g) (h:cU.f y X Y l1 = some (r1,r2,r3)) :
  Calls Tryz.prog 124 #[.pointer (some ⟨g,0,none⟩),.slice A1 l1.length c1] w fun e w'=>e = .returned (.int .i64 r1)∧aG w0 w' g y r2 r3∧Below w0.heap.size w0 w'∧an w w' g none:=by
 have a9:=ae.mk a4;have ao:=ae.mk a5;clear a4 a5;have aa:=ae.mk hI;have HK:=ae.mk (an.refl w g none);have HL:=ae.mk hB.size;clear hI;have ap:=ae.mk hB.size;have HB:=ae.mk hB;clear hB;unfold cU.f at h;have H:=h;clear h;obtain ⟨⟨z,a6,a7⟩,A3,H⟩:=xa H;(try dsimp only at H);obtain ⟨c4,H⟩:=xt H;have ab:=decide_eq_true c4;clear c4;obtain ⟨c5,H⟩:=xt H;have am:=decide_eq_true c5;clear c5;simp only [Option.some.injEq,Prod.mk.injEq] at H;obtain ⟨rfl,rfl,rfl⟩:=H;go_enter Tryz.func124,Tryz.ntmps124;go_wp2_with (first | (refine ws (some 9) Tryz.func122 #[.pointer (some ⟨g,0,none⟩),.int .i64 (l1.length:Int)] ?_;(with_reducible refine (aJ.calls g y X Y (l1.length:Int) z a6 a7 w0 _ ?side1 ?side2 A3.out).mono ?_);(case side1=>exact xr);(case side2=>exact yr HB);rintro e w6 ⟨rfl,hi,hb,hk⟩;refine ⟨_,rfl,?_⟩;replace HK:=ae.mk (an.trans (y6 HK) hk (.inl rfl));replace HB:=ae.mk hb;replace aa:=ae.mk hi;(try clear hb);(try clear ar);(try clear hk);(try clear hi);have a0:0≤(z:Int):=yk;have a1:z < (l1.length:Int):=yk;obtain ⟨a3,a8,j⟩:=Kd.fC a9.out z a0 a1;cases a8;replace j:=iT HK.out j (by first | (rw [fS];exact a2 _ rfl (by omega)) | exact a2 _ rfl (by omega) | exact a2 a3 rfl (by omega));replace a0:=eq_true a0;replace a1:=eq_true a1));go_ret;exact ⟨zd,xr,yr HB,y6 HK⟩
mutual
def ax.l0:Nat→Int→Int→Int→Int→List Int→Int→Int→Option (Int)
 | 0,_,_,_,_,_,_,_=>none
 | k+1,x0,x1,X,x4,j,y,z=>if z < X then ((bZ.f x4 z).bind fun a3=>(if a3 = true then (ax.l1 k x0 x1 X x4 j y z y) else (ax.l0 k x0 x1 X x4 j y (wrap64 (z+1))))) else (some y)
def ax.j2:Nat→Int→Int→Int→Int→List Int→Int→Int→Int→Option (Int)
 | 0,_,_,_,_,_,_,_,_=>none
 | k+1,x0,x1,X,x4,j,y,z,Y=>if Y≥x1 then (ax.l0 k x0 x1 X x4 j y (wrap64 (z+1))) else (ax.l2 k x0 x1 X x4 j y z Y 0)
def ax.l2:Nat→Int→Int→Int→Int→List Int→Int→Int→Int→Int→Option (Int)
 | 0,_,_,_,_,_,_,_,_,_=>none
 | k+1,x0,x1,X,x4,j,y,z,Y,a1=>if a1 < X then (if 0≤(wrap64 ((wrap64 (Y * X))+a1)) then (if (wrap64 ((wrap64 (Y * X))+a1)) < (j.length:Int) then (if 0≤(wrap64 ((wrap64 (y * X))+a1)) then (if (wrap64 ((wrap64 (y * X))+a1)) < (j.length:Int) then (ax.l2 k x0 x1 X x4 ((j.set ((wrap64 ((wrap64 (Y * X))+a1)):Int).toNat (rd j (wrap64 ((wrap64 (y * X))+a1)))).set ((wrap64 ((wrap64 (y * X))+a1)):Int).toNat (rd j (wrap64 ((wrap64 (Y * X))+a1)))) y z Y (wrap64 (a1+1))) else (none)) else (none)) else (none)) else (none)) else (ax.l3 k x0 x1 X x4 j y z (wrap64 (y+1)))
def ax.l3:Nat→Int→Int→Int→Int→List Int→Int→Int→Int→Option (Int)
 | 0,_,_,_,_,_,_,_,_=>none
 | k+1,x0,x1,X,x4,j,y,z,a0=>if a0 < x1 then (if 0≤(wrap64 ((wrap64 (a0 * X))+z)) then (if (wrap64 ((wrap64 (a0 * X))+z)) < (j.length:Int) then (if 0≤(wrap64 ((wrap64 (y * X))+z)) then (if (wrap64 ((wrap64 (y * X))+z)) < (j.length:Int) then (ax.l4 k x0 x1 X x4 j y z a0 (rd j (wrap64 ((wrap64 (a0 * X))+z))) (rd j (wrap64 ((wrap64 (y * X))+z))) 0) else (none)) else (none)) else (none)) else (none)) else (ax.l0 k x0 x1 X x4 j (wrap64 (y+1)) (wrap64 (z+1)))
def ax.l4:Nat→Int→Int→Int→Int→List Int→Int→Int→Int→Int→Int→Int→Option (Int)
 | 0,_,_,_,_,_,_,_,_,_,_,_=>none
 | k+1,x0,x1,X,x4,j,y,z,a0,a4,a5,a2=>if a2 < X then (if 0≤(wrap64 ((wrap64 (a0 * X))+a2)) then (if (wrap64 ((wrap64 (a0 * X))+a2)) < (j.length:Int) then (if 0≤(wrap64 ((wrap64 (y * X))+a2)) then (if (wrap64 ((wrap64 (y * X))+a2)) < (j.length:Int) then (if x0 = 0 then (none) else (ax.l4 k x0 x1 X x4 (j.set ((wrap64 ((wrap64 (a0 * X))+a2)):Int).toNat (Int.tmod (wrap64 ((Int.tmod (wrap64 ((wrap64 ((rd j (wrap64 ((wrap64 (a0 * X))+a2))) * a5)) - (wrap64 ((rd j (wrap64 ((wrap64 (y * X))+a2))) * a4)))) x0)+x0)) x0)) y z a0 a4 a5 (wrap64 (a2+1)))) else (none)) else (none)) else (none)) else (none)) else (ax.l3 k x0 x1 X x4 j y z (wrap64 (a0+1)))
def ax.l1:Nat→Int→Int→Int→Int→List Int→Int→Int→Int→Option (Int)
 | 0,_,_,_,_,_,_,_,_=>none
 | k+1,x0,x1,X,x4,j,y,z,Y=>if Y < x1 then (if 0≤(wrap64 ((wrap64 (Y * X))+z)) then (if (wrap64 ((wrap64 (Y * X))+z)) < (j.length:Int) then (if (rd j (wrap64 ((wrap64 (Y * X))+z))) = 0 then (ax.l1 k x0 x1 X x4 j y z (wrap64 (Y+1))) else (ax.j2 k x0 x1 X x4 j y z Y)) else (none)) else (none)) else (ax.j2 k x0 x1 X x4 j y z Y)
end
def ax.f (k:Nat) (a0:Int) (y:Int) (a2:Int) (l3:List Int) (a4:Int):Option (Int):=(some (([]:List Int):List Int)).bind fun j=>(if j.length+l3.length < 17592186044416 then (ax.l0 k a0 y a2 a4 (j ++ l3) 0 0) else (none))
def ax.Ag:Bool×List (List Nat×List Nat):=(true,[([],[]),([],[]),([],[]),([1,2],[1,2]),([],[]),([3,4],[3,4]),([],[]),([],[]),([],[]),([7,8],[7,8]),([],[]),([9,10],[9,10]),([6,11],[6,11]),([12],[12]),([],[]),([13,14],[13,14]),([],[]),([],[]),([],[]),([17,18],[17,18]),([],[]),([19,20],[19,20]),([16,21],[16,21]),([22],[22]),([],[]),([23,24],[23,24]),([15,25],[15,25]),([],[]),([26,27],[26,27]),([],[]),([28,29],[28,29]),([],[]),([30,31],[30,31]),([0,5,0,1,2,3,4,5,6,7,8,9,10,11,12,13,14,15,16,17,18,19,20,21,22,23,24,25,26,27,28,29,30,31,32],[0,5]),([33,32,0,1,2,3,4,5,6,7,8,9,10,11,12,13,14,15,16,17,18,19,20,21,22,23,24,25,26,27,28,29,30,31,32],[32,33])])
def ax.As:List Nat:=[0,0,0,6,0,30,0,0,0,384,0,1920,4032,8128,0,32704,0,0,0,393216,0,1966080,4128768,8323072,0,33488896,67108800,0,268435392,0,1073741760,0,4294967232,8589934591,17179869183]
theorem ax.zk:gv .any (opsOf Tryz.f226 25) = ax.Ag:=by kernel_rfl
theorem ax.yw:eN ax.Ag.2 ax.As = true:=by kernel_rfl
set_option maxHeartbeats 8000000 in
set_option maxRecDepth 100000 in
theorem ax.calls (k:Nat) (a0:Int) (a1:Int) (a2:Int) (A3:Option Addr) (c3:Nat) (l3:List Int) (a4:Int) (r:Int) (w:World) (g9:Kd.C (Kd.int .i64) w A3 l3.length l3) (gb:l3.length≤c3) (h:ax.f k a0 a1 a2 l3 a4 = some r) :
  Calls Tryz.prog 226 #[.int .i64 a0,.int .i64 a1,.int .i64 a2,.slice A3 l3.length c3,.int .i64 a4] w fun e w'=>e = .returned (.int .i64 r)∧Below w.heap.size w w':=by
 have kb:=ae.mk g9;have n1:=ae.mk gb;clear g9 gb;have HB:=ae.mk (Below.refl w.heap.size w);unfold ax.f at h;have H:=h;clear h;obtain ⟨d4,c1⟩:∃ y_:List Int,y_ = (([]:List Int)):=⟨_,rfl⟩
 replace H:(if d4.length+l3.length < 17592186044416 then (ax.l0 k a0 a1 a2 a4 (d4 ++ l3) 0 0) else (none)) = some r:=by (try rw [c1]);exact AC
 have dk:=ae.mk c1;clear c1;obtain ⟨c6,H⟩:=xt H;have gc:=ae.mk c6;clear c6;obtain ⟨ee,ca⟩:∃ y_:List Int,y_ = (d4 ++ l3):=⟨_,rfl⟩
 replace H:(ax.l0 k a0 a1 a2 a4 ee 0 0) = some r:=by (try rw [ca]);exact AC
 have eQ:=ae.mk ca;clear ca;have H':=ae.mk H;clear H;go_enter Tryz.func226,Tryz.ntmps226;go_wp2_with (first | (refine AL (Kd.int .i64) 3 21 ?_;intro go w7 dl hb kc f0;clear kc f0;(first | rw [← dk.out] at dl | (simp only [Int.reduceToNat] at dl;rw [← dk.out] at dl));have dp:=ae.mk (Kd.b5 dl (ak (wx HB.out)));replace HB:=xi HB hb;clear hb dl) | ((with_reducible refine cF (b:=.append) (xs:=#[.tmp 21,.tmp 22]) rfl ?_);at_builtin;refine Kd.iY (Kd.int .i64) (w0:=w) w.heap.size rfl (.tmp 21) (.tmp 22) 22 3 (.int .i64 0) 8 rfl Tryz.underlying22 fb rfl (by decide) (by omega) go d4 l3 _ _ _ (fun _=>True) (fun _=>False) rfl rfl (by exact ac dp.out) (by repeat (first | exact (Kd.aN kb.out HB.out) | (with_reducible refine Kd.gi ?_ _) | (with_reducible refine Kd.gj ?_ _) | (with_reducible refine Kd.gJ ?_))) (fun _ _ h=>h) (fun _ h=>h.elim) (by exact fun _ _=>trivial) (by exact wx HB.out) (by exact ak (wx HB.out)) (by have:=gc.out;omega) ?_;intro bo w9 ho hb hg hat;rw [← eQ.out] at ho;have gs:=ae.mk hb;have gt:=ae.mk ho;clear HB;clear dp;have HB:=gs;have f1:=gt;clear gs gt;clear ho hb hg hat));go_loopg [12,13] k (fun kq v12 kd w'=>∃ (a3:List Int) (y:Int) (z:Int),v12 = .int .i64 y∧kd = .int .i64 z∧ae (ax.l0 kq a0 a1 a2 a4 a3 y z = some r)∧ae (kq≤k)∧ae (Kd.R (Kd.int .i64) 3 w' w.heap.size (fun _=>True) bo a3)∧ae (Below w.heap.size w w'))
 case atStart=>exact ⟨(ee),(0),(0),ww,ww,H',⟨Nat.le_refl _⟩,⟨ac f1.out⟩,⟨wx HB.out⟩⟩
 case round =>
  clear H';obtain ⟨a3,y,z,rfl,rfl,HA,aO,j,HB⟩:=hrel;cases gk with
  | zero=>exact absurd HA.out (by simp [ax.l0])
  | succ k1 =>
   have H:=HA.out;clear HA;simp only [ax.l0] at H;by_cases iN:z < a2
   ·rw [if_pos iN] at H
    have f2:=decide_eq_true iN;clear iN;obtain ⟨h0,h6,H⟩:=xa H;(try dsimp only at H);by_cases e5:h0 = true
    ·subst e5
     replace H:(ax.l1 k1 a0 a1 a2 a4 a3 y z y) = some r:=by rw [if_pos rfl] at H;exact H
     have dq:=ae.mk H;clear H;go_upto_block 2 with (first | (refine ws (some 31) Tryz.func134 #[.int .i64 a4,.int .i64 z] ?_;(with_reducible refine (bZ.calls a4 z true _ h6.out).mono ?_);rintro e w' ⟨rfl,⟨nd,rfl⟩⟩;refine ⟨_,rfl,?_⟩))
     (try simp only [Act.put,List.setIfInBounds_toArray,List.set_cons_zero,List.set_cons_succ]);go_cut [14] (fun f3 wc=>∃ (kq:Nat) (aa:Int),f3 = .int .i64 aa∧ae (ax.j2 kq a0 a1 a2 a4 a3 y z aa = some r)∧ae (kq≤k1)∧ae (Kd.R (Kd.int .i64) 3 wc w.heap.size (fun _=>True) bo a3)∧ae (Below w.heap.size w wc))
     case first =>
      have H:=dq.out;clear dq;have H':=ae.mk H;clear H;go_wp2;go_loopg [14] k1 (fun kq f3 w'=>∃ (ap:Int),f3 = .int .i64 ap∧ae (ax.l1 kq a0 a1 a2 a4 a3 y z ap = some r)∧ae (kq≤k1)∧ae (Kd.R (Kd.int .i64) 3 w' w.heap.size (fun _=>True) bo a3)∧ae (Below w.heap.size w w'))
      case atStart=>exact ⟨(y),ww,H',⟨Nat.le_refl _⟩,⟨ac j.out⟩,⟨wx HB.out⟩⟩
      case round =>
       clear H';obtain ⟨ap,rfl,HA,e8,j,HB⟩:=hrel;cases gk with
       | zero=>exact absurd HA.out (by simp [ax.l1])
       | succ k2 =>
        have H:=HA.out;clear HA;simp only [ax.l1] at H;by_cases d7:ap < a1
        ·rw [if_pos d7] at H
         have b0:=decide_eq_true d7;clear d7;(first | rw [b0] | (simp only [b7,bC];rw [b0]) | skip);obtain ⟨aB,cb⟩:∃ j_:Int,(wrap64 ((wrap64 (ap * a2))+z)) = j_:=⟨_,rfl⟩
         replace H:(if 0≤(aB) then (if (aB) < (a3.length:Int) then (if (rd a3 (aB)) = 0 then (ax.l1 k2 a0 a1 a2 a4 a3 y z (wrap64 (ap+1))) else (ax.j2 k2 a0 a1 a2 a4 a3 y z ap)) else (none)) else (none)) = some r:=by first | (rw [cb] at H;exact H) | (simp only [cb] at H ⊢;exact H)
         have ih:(IntKind.i64.wrap ((wrap64 (ap * a2))+z)) = aB:=(b7 _).trans cb;obtain ⟨h7,H⟩:=xt H;have kh:=decide_eq_true h7;clear h7;obtain ⟨h8,H⟩:=xt H;have kl:=decide_eq_true h8;clear h8;by_cases cc:(rd a3 (aB)) = 0
         ·rw [if_pos cc] at H
          have f4:((rd a3 (aB)) == 0) = true:=beq_iff_eq.mpr cc;have f5:((rd a3 (aB)) != 0) = false:=bne_eq_false_iff_eq.mpr cc;clear cc;have H':=ae.mk H;clear H;obtain ⟨lr,ls,h9⟩:=Kd.bk j.out;subst h9;obtain ⟨f6,dt,aF,hj,bs⟩:=At (Kd.az j.out).2.2 (aB);cases dt
          go_wp2;go_roundg k2;case measure=>have:=aO.out;have:=e8.out;omega
          case rel=>exact ⟨(wrap64 (ap+1)),ww,H',⟨by have:=aO.out;have:=e8.out;omega⟩,⟨ac j.out⟩,⟨wx HB.out⟩⟩
         ·rw [if_neg cc] at H
          have f4:((rd a3 (aB)) == 0) = false:=beq_eq_false_iff_ne.mpr cc;have f5:((rd a3 (aB)) != 0) = true:=bne_iff_ne.mpr cc;have H':=ae.mk H;clear H;obtain ⟨lv,lw,hl⟩:=Kd.bk j.out;subst hl;obtain ⟨f6,dt,aF,hj,bs⟩:=At (Kd.az j.out).2.2 (aB);cases dt
          go_wp2;go_meet
          case rel=>exact ⟨_,(ap),ww,H',⟨by have:=aO.out;have:=e8.out;first | omega | exact Nat.le_refl _⟩,⟨ac j.out⟩,⟨wx HB.out⟩⟩
        ·rw [if_neg d7] at H
         have b0:decide (ap < a1) = false:=decide_eq_false d7;clear d7;(first | rw [b0] | (simp only [b7,bC];rw [b0]) | skip);have H':=ae.mk H;clear H;go_wp2;go_meet
         case rel=>exact ⟨_,(ap),ww,H',⟨by have:=aO.out;have:=e8.out;first | omega | exact Nat.le_refl _⟩,⟨ac j.out⟩,⟨wx HB.out⟩⟩
     case rest =>
      clear dq;(try clear q3);(try clear f7);(try clear aF);(try clear bs);obtain ⟨kq,aa,rfl,HA,aP,j,HB⟩:=hcut;cases kq with
      | zero=>exact absurd HA.out (by simp [ax.j2])
      | succ du =>
       have H:=HA.out;clear HA;simp only [ax.j2] at H;by_cases d8:aa≥a1
       ·rw [if_pos d8] at H
        have f8:=decide_eq_true d8;clear d8;have H':=ae.mk H;clear H;go_wp2;go_roundg du;case measure=>have:=aO.out;have:=aP.out;omega
        case rel=>exact ⟨(a3),(y),(wrap64 (z+1)),ww,ww,H',⟨by have:=aO.out;have:=aP.out;omega⟩,⟨ac j.out⟩,⟨wx HB.out⟩⟩
       ·rw [if_neg d8] at H
        have f8:decide (a1≤aa) = false:=decide_eq_false d8;clear d8;have H':=ae.mk H;clear H;go_wp2;go_loopg [15] du (fun kq km w'=>∃ (Y:List Int) (a6:Int),km = .int .i64 a6∧ae (ax.l2 kq a0 a1 a2 a4 Y y z aa a6 = some r)∧ae (kq≤du)∧ae (Kd.R (Kd.int .i64) 3 w' w.heap.size (fun _=>True) bo Y)∧ae (Below w.heap.size w w'))
        case atStart=>exact ⟨(a3),(0),ww,H',⟨Nat.le_refl _⟩,⟨ac j.out⟩,⟨wx HB.out⟩⟩
        case round =>
         clear H';(try clear q3);(try clear f7);(try clear aF);(try clear q3);(try clear bs);obtain ⟨Y,a6,rfl,HA,bv,j,HB⟩:=hrel;cases gk with
         | zero=>exact absurd HA.out (by simp [ax.l2])
         | succ k3 =>
          have H:=HA.out;clear HA;simp only [ax.l2] at H;by_cases d9:a6 < a2
          ·rw [if_pos d9] at H
           have f9:=decide_eq_true d9;clear d9;obtain ⟨ab,ce⟩:∃ j_:Int,(wrap64 ((wrap64 (aa * a2))+a6)) = j_:=⟨_,rfl⟩
           replace H:(if 0≤(ab) then (if (ab) < (Y.length:Int) then (if 0≤(wrap64 ((wrap64 (y * a2))+a6)) then (if (wrap64 ((wrap64 (y * a2))+a6)) < (Y.length:Int) then (ax.l2 k3 a0 a1 a2 a4 ((Y.set ((ab):Int).toNat (rd Y (wrap64 ((wrap64 (y * a2))+a6)))).set ((wrap64 ((wrap64 (y * a2))+a6)):Int).toNat (rd Y (ab))) y z aa (wrap64 (a6+1))) else (none)) else (none)) else (none)) else (none)) = some r:=by first | (rw [ce] at H;exact H) | (simp only [ce] at H ⊢;exact H)
           have ii:(IntKind.i64.wrap ((wrap64 (aa * a2))+a6)) = ab:=(b7 _).trans ce;obtain ⟨hm,H⟩:=xt H;have ks:=decide_eq_true hm;clear hm;obtain ⟨hq,H⟩:=xt H;have kt:=decide_eq_true hq;clear hq;obtain ⟨am,cf⟩:∃ j_:Int,(wrap64 ((wrap64 (y * a2))+a6)) = j_:=⟨_,rfl⟩
           replace H:(if 0≤(am) then (if (am) < (Y.length:Int) then (ax.l2 k3 a0 a1 a2 a4 ((Y.set ((ab):Int).toNat (rd Y (am))).set ((am):Int).toNat (rd Y (ab))) y z aa (wrap64 (a6+1))) else (none)) else (none)) = some r:=by first | (rw [cf] at H;exact H) | (simp only [cf] at H ⊢;exact H)
           have il:(IntKind.i64.wrap ((wrap64 (y * a2))+a6)) = am:=(b7 _).trans cf;obtain ⟨ht,H⟩:=xt H;have kv:=decide_eq_true ht;clear ht;obtain ⟨hu,H⟩:=xt H;have kw:=decide_eq_true hu;clear hu;obtain ⟨dv,ci⟩:∃ y_:List Int,y_ = (Y.set ((ab):Int).toNat (rd Y (am))):=⟨_,rfl⟩
           replace H:(ax.l2 k3 a0 a1 a2 a4 (dv.set ((am):Int).toNat (rd Y (ab))) y z aa (wrap64 (a6+1))) = some r:=by (try rw [ci]);exact AC
           have fd:=ae.mk ci;clear ci;obtain ⟨dC,cp⟩:∃ y_:List Int,y_ = (dv.set ((am):Int).toNat (rd Y (ab))):=⟨_,rfl⟩
           replace H:(ax.l2 k3 a0 a1 a2 a4 dC y z aa (wrap64 (a6+1))) = some r:=by (try rw [cp]);exact AC
           have fi:=ae.mk cp;clear cp;have H':=ae.mk H;clear H;obtain ⟨lx,ef,hx⟩:=Kd.bk j.out;subst hx;obtain ⟨fj,hz,b2,ly,eh⟩:=At (Kd.az j.out).2.2 (ab);cases hz
           obtain ⟨fp,hA,b3,lL,ei⟩:=At (Kd.az j.out).2.2 (am);obtain rfl:fj = fp:=(by injection hA)
           have fs:0≤((ab):Int):=yk;have cq:((ab):Int) < ((Y.length:Int):Int):=yk;obtain ⟨bm,lN,ej,el,hC,m1,em⟩:=Kd.mL j.out (by omega);(first | cases ej | (injection ej with aR dE dT;(first | subst aR | (injection aR with aR;subst aR));subst dT;clear dE));have eo:=ae.mk el;have m2:=ae.mk em;clear el hC em;(first | simp only [add_plain] at b2 | skip);(first | simp only [add_plain] at b3 | skip);obtain ⟨d5,im⟩:=Kd.kp 0 j.out ((ab):Int) fs cq;replace fs:=eq_true fs;replace cq:=eq_true cq;have e0:=Kd.nW j.out ((ab):Int) (rd Y (am));go_wp2_with (first | ((with_reducible refine gX (t:=3) (p:=80) rfl ?_);refine gG (t:=3) (p:=80) (v:=?vo_w33) (w1:=(wr.setCell ⟨bm,((ab):Int).toNat,none⟩ (.int .i64 (rd Y (am))))) ?hg ?ho ?hn ?hr ?_;(case ho=>rfl);(case hg=>rfl);(case hn=>rfl);(case hr=>first | (go_simp;done) | (go_simp;rfl));intro e1 hw;have hg:wr.grownBy e1 (some bm):=(by rw [hw];exact e0.2);have e2:Kd.R (Kd.int .i64) 3 e1 w.heap.size (fun _=>True) (.slice (some ⟨bm,0,none⟩) Y.length ef) dv:=(by rw [hw,fd.out];exact e0.1);clear e0;replace j:=ae.mk e2;replace HB:=ae.mk ((by rw [hw];exact dY (HB.out) eo.out:Below w.heap.size w e1));clear hg hw e2;have ft:0≤((am):Int):=yk;have cx:((am):Int) < ((Y.length:Int):Int):=yk;obtain ⟨d6,io⟩:=Kd.kp 0 j.out ((am):Int) ft cx;replace ft:=eq_true ft;replace cx:=eq_true cx;obtain ⟨ky,l5⟩:=Kd.kp 0 j.out ((am):Int) (yk) (yk);have e3:=Kd.nW j.out ((am):Int) (rd Y (ab))) | ((with_reducible refine gX (t:=3) (p:=88) rfl ?_);refine gG (t:=3) (p:=88) (v:=?vo_w35) (w1:=(e1.setCell ⟨bm,((am):Int).toNat,none⟩ (.int .i64 (rd Y (ab))))) ?hg ?ho ?hn ?hr ?_;(case ho=>rfl);(case hg=>rfl);(case hn=>rfl);(case hr=>first | (go_simp;done) | (go_simp;rfl));intro fw hw;have hg:e1.grownBy fw (some bm):=(by rw [hw];exact e3.2);have e2:Kd.R (Kd.int .i64) 3 fw w.heap.size (fun _=>True) (.slice (some ⟨bm,0,none⟩) Y.length ef) dC:=(by rw [hw,fi.out];exact e3.1);clear e3;replace j:=ae.mk e2;replace HB:=ae.mk ((by rw [hw];exact dY (HB.out) eo.out:Below w.heap.size w fw));clear hg hw e2));go_roundg k3;case measure=>have:=aO.out;have:=aP.out;have:=bv.out;omega
           case rel=>exact ⟨(dC),(wrap64 (a6+1)),ww,H',⟨by have:=aO.out;have:=aP.out;have:=bv.out;omega⟩,⟨ac j.out⟩,⟨wx HB.out⟩⟩
          ·rw [if_neg d9] at H
           have f9:decide (a6 < a2) = false:=decide_eq_false d9;clear d9;have H':=ae.mk H;clear H;go_wp2;go_loopg [17] k3 (fun kq l6 w'=>∃ (X:List Int) (a8:Int),l6 = .int .i64 a8∧ae (ax.l3 kq a0 a1 a2 a4 X y z a8 = some r)∧ae (kq≤k3)∧ae (Kd.R (Kd.int .i64) 3 w' w.heap.size (fun _=>True) bo X)∧ae (Below w.heap.size w w'))
           case atStart=>exact ⟨(Y),(wrap64 (y+1)),ww,H',⟨Nat.le_refl _⟩,⟨ac j.out⟩,⟨wx HB.out⟩⟩
           case round =>
            clear H';(try clear q2);(try clear la);(try clear q3);(try clear f7);(try clear cq);(try clear hD);(try clear hE);(try clear cx);(try clear hG);(try clear hH);(try clear hI);(try clear hL);(try clear d5);(try clear d6);(try clear aF);(try clear b2);(try clear b3);(try clear cq);(try clear q3);(try clear cx);(try clear bs);(try clear eh);(try clear ei);obtain ⟨X,a8,rfl,HA,db,j,HB⟩:=hrel;cases gk with
            | zero=>exact absurd HA.out (by simp [ax.l3])
            | succ k4 =>
             have H:=HA.out;clear HA;simp only [ax.l3] at H;by_cases dd:a8 < a1
             ·rw [if_pos dd] at H
              have g0:=decide_eq_true dd;clear dd;obtain ⟨ar,cy⟩:∃ j_:Int,(wrap64 ((wrap64 (a8 * a2))+z)) = j_:=⟨_,rfl⟩
              replace H:(if 0≤(ar) then (if (ar) < (X.length:Int) then (if 0≤(wrap64 ((wrap64 (y * a2))+z)) then (if (wrap64 ((wrap64 (y * a2))+z)) < (X.length:Int) then (ax.l4 k4 a0 a1 a2 a4 X y z a8 (rd X (ar)) (rd X (wrap64 ((wrap64 (y * a2))+z))) 0) else (none)) else (none)) else (none)) else (none)) = some r:=by first | (rw [cy] at H;exact H) | (simp only [cy] at H ⊢;exact H)
              have it:(IntKind.i64.wrap ((wrap64 (a8 * a2))+z)) = ar:=(b7 _).trans cy;obtain ⟨hM,H⟩:=xt H;have lc:=decide_eq_true hM;clear hM;obtain ⟨hP,H⟩:=xt H;have le:=decide_eq_true hP;clear hP;obtain ⟨aw,d0⟩:∃ j_:Int,(wrap64 ((wrap64 (y * a2))+z)) = j_:=⟨_,rfl⟩
              replace H:(if 0≤(aw) then (if (aw) < (X.length:Int) then (ax.l4 k4 a0 a1 a2 a4 X y z a8 (rd X (ar)) (rd X (aw)) 0) else (none)) else (none)) = some r:=by first | (rw [d0] at H;exact H) | (simp only [d0] at H ⊢;exact H)
              have jp:(IntKind.i64.wrap ((wrap64 (y * a2))+z)) = aw:=(b7 _).trans d0;obtain ⟨hR,H⟩:=xt H;have lh:=decide_eq_true hR;clear hR;obtain ⟨hT,H⟩:=xt H;have li:=decide_eq_true hT;clear hT;have H':=ae.mk H;clear H;obtain ⟨m5,hU,hV⟩:=Kd.bk j.out;subst hV;obtain ⟨g1,hW,b4,ma,hX⟩:=At (Kd.az j.out).2.2 (ar);cases hW
              obtain ⟨g2,hZ,ba,i0,eq⟩:=At (Kd.az j.out).2.2 (aw);obtain rfl:g1 = g2:=(by injection hZ)
              obtain ⟨c0,mf,es,-,-,-⟩:=Kd.mL j.out (by have p_:=of_eq_true i0;have q_:=of_eq_true eq;omega);(first | cases es | (injection es with aR dE dT;(first | subst aR | (injection aR with aR;subst aR));subst dT;clear dE));(try simp only [add_plain] at b4);(try simp only [add_plain] at ba);go_wp2;(try simp only [add_plain]);go_loopg [20] k4 (fun kq v20 w'=>∃ (a5:List Int) (a9:Int),v20 = .int .i64 a9∧ae (ax.l4 kq a0 a1 a2 a4 a5 y z a8 (rd X (ar)) (rd X (aw)) a9 = some r)∧ae (kq≤k4)∧ae (Kd.R (Kd.int .i64) 3 w' w.heap.size (fun _=>True) (.slice (some (⟨c0,0,none⟩:Addr)) X.length hU) a5)∧ae (Below w.heap.size w w'))
              case atStart=>exact ⟨(X),(0),ww,H',⟨Nat.le_refl _⟩,⟨ac j.out⟩,⟨wx HB.out⟩⟩
              case round =>
               clear H';(try clear q2);(try clear la);(try clear q3);(try clear f7);(try clear cq);(try clear hD);(try clear hE);(try clear cx);(try clear hG);(try clear hH);(try clear hI);(try clear hL);(try clear n2);(try clear mi);(try clear d5);(try clear d6);(try clear aF);(try clear b2);(try clear b3);(try clear b4);(try clear ba);(try clear q2);(try clear cq);(try clear q3);(try clear cx);(try clear hI);(try clear bs);(try clear eh);(try clear ei);(try clear hX);(try clear eq);obtain ⟨a5,a9,rfl,HA,ea,j,HB⟩:=hrel;have aL:=(Kd.az j.out).1;rw [aL] at j;(try simp only [aL]);cases gk with
               | zero=>exact absurd HA.out (by simp [ax.l4])
               | succ k5 =>
                have H:=HA.out;clear HA;simp only [ax.l4] at H;by_cases df:a9 < a2
                ·rw [if_pos df] at H
                 have g3:=decide_eq_true df;clear df;obtain ⟨ao,d1⟩:∃ j_:Int,(wrap64 ((wrap64 (a8 * a2))+a9)) = j_:=⟨_,rfl⟩
                 replace H:(if 0≤(ao) then (if (ao) < (a5.length:Int) then (if 0≤(wrap64 ((wrap64 (y * a2))+a9)) then (if (wrap64 ((wrap64 (y * a2))+a9)) < (a5.length:Int) then (if a0 = 0 then (none) else (ax.l4 k5 a0 a1 a2 a4 (a5.set ((ao):Int).toNat (Int.tmod (wrap64 ((Int.tmod (wrap64 ((wrap64 ((rd a5 (ao)) * (rd X (aw)))) - (wrap64 ((rd a5 (wrap64 ((wrap64 (y * a2))+a9))) * (rd X (ar)))))) a0)+a0)) a0)) y z a8 (rd X (ar)) (rd X (aw)) (wrap64 (a9+1)))) else (none)) else (none)) else (none)) else (none)) = some r:=by first | (rw [d1] at H;exact H) | (simp only [d1] at H ⊢;exact H)
                 have k0:(IntKind.i64.wrap ((wrap64 (a8 * a2))+a9)) = ao:=(b7 _).trans d1;obtain ⟨i1,H⟩:=xt H;have lj:=decide_eq_true i1;clear i1;obtain ⟨i2,H⟩:=xt H;have lk:=decide_eq_true i2;clear i2;obtain ⟨aS,d2⟩:∃ j_:Int,(wrap64 ((wrap64 (y * a2))+a9)) = j_:=⟨_,rfl⟩
                 replace H:(if 0≤(aS) then (if (aS) < (a5.length:Int) then (if a0 = 0 then (none) else (ax.l4 k5 a0 a1 a2 a4 (a5.set ((ao):Int).toNat (Int.tmod (wrap64 ((Int.tmod (wrap64 ((wrap64 ((rd a5 (ao)) * (rd X (aw)))) - (wrap64 ((rd a5 (aS)) * (rd X (ar)))))) a0)+a0)) a0)) y z a8 (rd X (ar)) (rd X (aw)) (wrap64 (a9+1)))) else (none)) else (none)) = some r:=by first | (rw [d2] at H;exact H) | (simp only [d2] at H ⊢;exact H)
                 have ka:(IntKind.i64.wrap ((wrap64 (y * a2))+a9)) = aS:=(b7 _).trans d2;obtain ⟨i3,H⟩:=xt H;have ll:=decide_eq_true i3;clear i3;obtain ⟨i4,H⟩:=xt H;have lm:=decide_eq_true i4;clear i4;by_cases eb:a0 = 0
                 ·rw [if_pos eb] at H
                  exact absurd H (by simp)
                 ·rw [if_neg eb] at H
                  have ln:(a0 == 0) = false:=beq_eq_false_iff_ne.mpr eb;have lo:(a0 != 0) = true:=bne_iff_ne.mpr eb;obtain ⟨et,d3⟩:∃ y_:List Int,y_ = (a5.set ((ao):Int).toNat (Int.tmod (wrap64 ((Int.tmod (wrap64 ((wrap64 ((rd a5 (ao)) * (rd X (aw)))) - (wrap64 ((rd a5 (aS)) * (rd X (ar)))))) a0)+a0)) a0)):=⟨_,rfl⟩
                  replace H:(ax.l4 k5 a0 a1 a2 a4 et y z a8 (rd X (ar)) (rd X (aw)) (wrap64 (a9+1))) = some r:=by (try rw [d3]);exact AC
                  have g4:=ae.mk d3;clear d3;have H':=ae.mk H;clear H;(try go_wp2);replace j:=ae.mk (Kd.bY j.out);replace HB:=ae.mk (bP HB.out);obtain ⟨g5,i5,bc,ml,mn⟩:=At (Kd.az j.out).2.2 (ao);obtain rfl:(⟨c0,0,none⟩:Addr) = g5:=(by injection i5)
                  obtain ⟨g6,i6,bi,mr,ms⟩:=At (Kd.az j.out).2.2 (aS);obtain rfl:(⟨c0,0,none⟩:Addr) = g6:=(by injection i6)
                  have g7:0≤((ao):Int):=yk;have g8:((ao):Int) < ((a5.length:Int):Int):=yk;obtain ⟨mv,mx,ev,ew,i7,n0,ex⟩:=Kd.mL j.out (by omega);(first | cases ev | (injection ev with aR dE dT;(first | subst aR | (injection aR with aR;subst aR));subst dT;clear dE));have i8:=ae.mk ew;have i9:=ae.mk ex;clear ew i7 ex;(first | simp only [add_plain] at b4 | skip);(first | simp only [add_plain] at ba | skip);(first | simp only [add_plain] at bc | skip);(first | simp only [add_plain] at bi | skip);obtain ⟨ec,ed⟩:=Kd.kp 0 j.out ((ao):Int) g7 g8;replace g7:=eq_true g7;replace g8:=eq_true g8;have e4:=Kd.yj j.out ((ao):Int) (Int.tmod (wrap64 ((Int.tmod (wrap64 ((wrap64 ((rd a5 (ao)) * (rd X (aw)))) - (wrap64 ((rd a5 (aS)) * (rd X (ar)))))) a0)+a0)) a0);rw [← g4.out] at e4;have ey:=ae.mk e4;clear e4;refine eT (n:=35) (S:=fun w'=>w'.cell? ⟨c0,((ao)).toNat,none⟩ = some (.int .i64 (rd a5 (ao)))∧w'.cell? ⟨c0,((aS)).toNat,none⟩ = some (.int .i64 (rd a5 (aS)))) (ds:=[34]) #[false,false,false,false,false,false,false,false,false,false,false,false,false,false,false,false,false,false,false,false,false,false,false,false,false,false,false,false,false,false,false,false,false,false,false] (by kernel_rfl) rfl rfl ⟨bc,bi⟩ (fun hHeld=>?_);refine da ax.zk ax.yw (fun a7 ib=>?_);generalize wr.drew = n3 at j HB i9 ey ed bc bi ec hHeld ⊢;refine wt 0 117 a7 ?_;refine wt 1 118 a7 ?_;refine wt 2 119 a7 ?_;refine wt 3 120 a7 ?_;refine wt 4 121 a7 ?_;refine wt 5 122 a7 ?_;refine wt 6 123 a7 ?_;refine wt 7 124 a7 ?_;refine wt 8 125 a7 ?_;refine wt 9 126 a7 ?_;refine wt 10 127 a7 ?_;refine wt 11 128 a7 ?_;refine wt 12 129 a7 ?_;refine wt 14 131 a7 ?_;refine wt 16 133 a7 ?_;refine wt 17 134 a7 ?_;refine wt 18 135 a7 ?_;refine wt 19 136 a7 ?_;refine wt 20 137 a7 ?_;refine wt 21 138 a7 ?_;refine wt 22 139 a7 ?_;refine wt 24 141 a7 ?_;refine wt 27 144 a7 ?_;refine wt 29 146 a7 ?_;refine wt 31 148 a7 ?_;refine AF 13 130 a7 ib hHeld ?_;refine wt 15 132 a7 ?_;refine AF 23 140 a7 ib hHeld ?_;refine wt 25 142 a7 ?_;refine wt 26 143 a7 ?_;refine wt 28 145 a7 ?_;refine wt 30 147 a7 ?_;refine wt 32 149 a7 ?_;refine wt 33 150 a7 ?_;refine lH (i:=34) (N:=none) #[true,true,true,true,true,true,true,true,true,true,true,true,true,true,true,true,true,true,true,true,true,true,true,true,true,true,true,true,true,true,true,true,true,true,true] rfl rfl (cH a7.out (by kernel_rfl)) (by decide) (fun K hK=>?_);refine nk (w1:=?_) (by rfl) rfl ?_ ?_;rotate_left
                  ·go_simp
                   rfl
                  refine hK.out _ _ ?_;clear hK K;refine fP (e9 a7.out (by kernel_rfl)) ?_;(try go_wp2);(try simp only [← aL]);go_roundg k5;case measure=>have:=aO.out;have:=aP.out;have:=bv.out;have:=db.out;have:=ea.out;omega
                  case rel=>exact ⟨(et),(wrap64 (a9+1)),ww,H',⟨by have:=aO.out;have:=aP.out;have:=bv.out;have:=db.out;have:=ea.out;omega⟩,⟨by (try simp only [aL]);(with_reducible repeat (first | apply Kd.cP | apply Kd.cQ | apply Kd.bY));exact ey.out⟩,⟨by repeat (first | (with_reducible first | exact HB.out | apply e6 | apply dX | apply bP | refine dY ?_ i8.out) | exact HB.out)⟩⟩
                ·rw [if_neg df] at H
                 have g3:decide (a9 < a2) = false:=decide_eq_false df;clear df;have H':=ae.mk H;clear H;go_wp2;(try simp only [← aL]);go_roundg k5;case measure=>have:=aO.out;have:=aP.out;have:=bv.out;have:=db.out;have:=ea.out;omega
                 case rel=>exact ⟨(a5),(wrap64 (a8+1)),ww,H',⟨by have:=aO.out;have:=aP.out;have:=bv.out;have:=db.out;have:=ea.out;omega⟩,⟨by (try simp only [aL]);(with_reducible repeat (first | apply Kd.cP | apply Kd.cQ | apply Kd.bY));exact j.out⟩,⟨wx HB.out⟩⟩
             ·rw [if_neg dd] at H
              have g0:decide (a8 < a1) = false:=decide_eq_false dd;clear dd;have H':=ae.mk H;clear H;go_wp2;go_roundg k4;case measure=>have:=aO.out;have:=aP.out;have:=bv.out;have:=db.out;omega
              case rel=>exact ⟨(X),(wrap64 (y+1)),(wrap64 (z+1)),ww,ww,H',⟨by have:=aO.out;have:=aP.out;have:=bv.out;have:=db.out;omega⟩,⟨ac j.out⟩,⟨wx HB.out⟩⟩
    ·replace e5:=Bool.eq_false_iff.mpr e5
     subst e5;replace H:(ax.l0 k1 a0 a1 a2 a4 a3 y (wrap64 (z+1))) = some r:=by rw [if_neg (show ¬ (false = true) by decide)] at H;exact H
     have H':=ae.mk H;clear H;go_wp2_with (first | (refine ws (some 31) Tryz.func134 #[.int .i64 a4,.int .i64 z] ?_;(with_reducible refine (bZ.calls a4 z false _ h6.out).mono ?_);rintro e w' ⟨rfl,⟨nd,rfl⟩⟩;refine ⟨_,rfl,?_⟩));go_roundg k1;case measure=>have:=aO.out;omega
     case rel=>exact ⟨(a3),(y),(wrap64 (z+1)),ww,ww,H',⟨by have:=aO.out;omega⟩,⟨ac j.out⟩,⟨wx HB.out⟩⟩
   ·rw [if_neg iN] at H
    have f2:decide (z < a2) = false:=decide_eq_false iN;clear iN;obtain rfl:=Option.some.inj H;go_wp2;go_ret;exact ⟨zd,wy⟩
def bK.l0:Nat→Int→Int→Int→List Int→Int→Int→Int→List Int→Option (Int×List Int)
 | 0,_,_,_,_,_,_,_,_=>none
 | k+1,x0,x1,Y,x3,X,z,y,j=>(cn.f Y).bind fun a0=>(if z≤a0 then ((b9.f k z).bind fun a1=>(if a1 = X then ((ax.f k x0 x1 Y x3 z).bind fun a2=>(if a2 = X then (if j.length < 17592186044416 then (bK.l0 k x0 x1 Y x3 X (wrap64 (z+1)) y (j ++ [z])) else (none)) else (bK.l0 k x0 x1 Y x3 X (wrap64 (z+1)) y j))) else (bK.l0 k x0 x1 Y x3 X (wrap64 (z+1)) y j))) else (some (y,j)))
def bK.f (k:Nat) (a0:Int) (z:Int) (a2:Int) (l3:List Int):Option (Int×List Int):=(cn.f a2).bind fun j=>((ax.f k a0 z a2 l3 j).bind fun y=>(bK.l0 k a0 z a2 l3 y 0 a2 ([]:List Int)))
set_option maxHeartbeats 8000000 in
set_option maxRecDepth 100000 in
theorem bK.calls (k:Nat) (a0:Int) (a1:Int) (a2:Int) (A3:Option Addr) (c3:Nat) (l3:List Int) (r1:Int) (r2:List Int) (w:World) (d1:Kd.C (Kd.int .i64) w A3 l3.length l3) (d2:l3.length≤c3) (h:bK.f k a0 a1 a2 l3 = some (r1,r2)) :
  Calls Tryz.prog 203 #[.int .i64 a0,.int .i64 a1,.int .i64 a2,.slice A3 l3.length c3] w fun e w'=>∃ d3:Value,e = .returned (.agg #[.int .i64 r1,d3])∧Kd.R (Kd.int .i64) 3 w' w.heap.size (fun _=>True) d3 r2∧Below w.heap.size w w':=by
 have ei:=Tryz.underlying37;have cb:=ae.mk d1;have cc:=ae.mk d2;clear d1 d2;have HB:=ae.mk (Below.refl w.heap.size w);unfold bK.f at h;have H:=h;clear h;obtain ⟨bm,A5,H⟩:=xa H;(try dsimp only at H);obtain ⟨a6,A6,H⟩:=xa H;(try dsimp only at H);have H':=ae.mk H;clear H;go_enter Tryz.func203,Tryz.ntmps203;go_wp2_with (first | ((with_reducible refine bu (N:=8) rfl ?_);refine zp 8 #[.int .i64 0,.slice none 0 0] 37 ?_;intro a4 hg w7 hbox hb;have y:=ae.mk hbox;have e8:=yv hg HB;have ea:=yv hg HB;replace HB:=xi HB hb;clear hb hbox hg) | ((with_reducible refine bu (N:=9) rfl ?_);refine zp 9 #[.int .i64 0,.slice none 0 0] 37 ?_;intro a5 hg w8 hbox hb;have z:=ae.mk hbox;have eb:=AM (w:=w) hg wy;have ec:=AM (w:=w) hg wy;replace HB:=ae.mk (aq wy hb);have a8:=AJ hg y;have a9:=AK hg y;replace y:=xc y hb;clear hb hbox hg;have ej:=a9.out;have el:=a8.out;obtain ⟨d4,d5,d6,d7⟩:=xv z.out) | ((with_reducible refine aD (f:=83) rfl ?_);refine ws (some 19) Tryz.func83 #[.int .i64 a2] ?_;(with_reducible refine (cn.calls a2 bm _ A5.out).mono ?_);rintro e w' ⟨rfl,⟨nd,rfl⟩⟩;refine ⟨_,rfl,?_⟩) | ((with_reducible refine aD (f:=226) rfl ?_);refine ws (some 20) Tryz.func226 #[.int .i64 a0,.int .i64 a1,.int .i64 a2,.slice A3 l3.length c3,.int .i64 bm] ?_;(with_reducible refine (ax.calls k a0 a1 a2 _ _ l3 bm a6 _ ?side1 ?side2 A6.out).mono ?_);(case side1=>exact Kd.aN cb.out wy);(case side2=>exact cc.out);rintro e eo ⟨rfl,hb⟩;refine ⟨_,rfl,?_⟩;replace y:=ae.mk (b6 (g:=a4) (o:=.cells #[.int .i64 0,.slice none 0 0] 37 (0,0)) AE hb);replace z:=ae.mk (b6 (g:=a5) (o:=.cells #[.int .i64 a2,.slice none 0 0] 37 (0,0)) AE hb);replace HB:=ae.mk (aq wy hb);(try clear hb);(try clear d8);(try clear hk);(try clear hi)));go_loopg [11] k (fun kq v11 w'=>∃ (a3:Int) (X:List Int) (Y:Value),v11 = .int .i64 a3∧ae (bK.l0 kq a0 a1 a2 l3 a6 a3 a2 X = some (r1,r2))∧ae (kq≤k)∧ae (Kd.R (Kd.int .i64) 3 w' w.heap.size (fun _=>True) Y X)∧ae (w'.heap[a4]? = some (.cells #[.int .i64 0,(.slice none 0 0)] 37 (0,0)))∧ae (w'.heap[a5]? = some (.cells #[.int .i64 a2,Y] 37 (0,0)))∧ae (Below w.heap.size w w'))
 case atStart=>exact ⟨(0),(([]:List Int)),(.slice none 0 0),ww,H',⟨Nat.le_refl _⟩,⟨af.N⟩,⟨xf y.out⟩,⟨xf z.out⟩,⟨wy⟩⟩
 case round =>
  clear H';obtain ⟨a3,X,Y,rfl,HA,bc,j,y,z,HB⟩:=hrel;cases gk with
  | zero=>exact absurd HA.out (by simp [bK.l0])
  | succ k1 =>
   have H:=HA.out;clear HA;simp only [bK.l0] at H;obtain ⟨aw,bs,H⟩:=xa H;(try dsimp only at H);by_cases bi:a3≤aw
   ·rw [if_pos bi] at H
    have ce:=decide_eq_true bi;clear bi;obtain ⟨aa,cf,H⟩:=xa H;(try dsimp only at H);by_cases b2:aa = a6
    ·rw [if_pos b2] at H
     have ci:(aa == a6) = true:=beq_iff_eq.mpr b2;have cp:(aa != a6) = false:=bne_eq_false_iff_eq.mpr b2;clear b2;obtain ⟨ab,d9,H⟩:=xa H;(try dsimp only at H);by_cases b3:ab = a6
     ·rw [if_pos b3] at H
      have cq:(ab == a6) = true:=beq_iff_eq.mpr b3;have cx:(ab != a6) = false:=bne_eq_false_iff_eq.mpr b3;clear b3;obtain ⟨db,H⟩:=xt H;have cy:=ae.mk db;clear db;obtain ⟨ba,b4⟩:∃ y_:List Int,y_ = (X ++ [a3]):=⟨_,rfl⟩
      replace H:(bK.l0 k1 a0 a1 a2 l3 a6 (wrap64 (a3+1)) a2 ba) = some (r1,r2):=by (try rw [b4]);exact AC
      have d0:=ae.mk b4;clear b4;have H':=ae.mk H;clear H;go_wp2_with (first | ((with_reducible refine aD (f:=83) rfl ?_);refine ws (some 23) Tryz.func83 #[.int .i64 a2] ?_;(with_reducible refine (cn.calls a2 aw _ bs.out).mono ?_);rintro e w' ⟨rfl,⟨nd,rfl⟩⟩;refine ⟨_,rfl,?_⟩;(try (rw [fu wr];generalize a7:World.drewN wr _ = wr;have am:ae (Kd.R (Kd.int .i64) 3 wr w.heap.size (fun _=>True) Y X):=⟨by rw [← a7];exact (ac j.out)⟩;have ao:ae (wr.heap[a4]? = some (.cells #[.int .i64 0,.slice none 0 0] 37 (0,0))):=⟨by rw [← a7];exact (xf y.out)⟩;have ap:ae (wr.heap[a5]? = some (.cells #[.int .i64 a2,Y] 37 (0,0))):=⟨by rw [← a7];exact (xf z.out)⟩;have ar:ae (Below w.heap.size w wr):=⟨by rw [← a7];exact wy⟩;clear j y z HB a7;have j:=am;have y:=ao;have z:=ap;have HB:=ar;clear am ao ap ar;have aB:wr.cell? ⟨a4,0,none⟩ = some (.int .i64 0):=(ah y.out 0).trans rfl;have aF:=aj y.out 0;have aL:wr.cell? ⟨a4,1,none⟩ = some (.slice none 0 0):=(ah y.out 1).trans rfl;have aO:=aj y.out 1;have aP:wr.cell? ⟨a5,0,none⟩ = some (.int .i64 a2):=(ah z.out 0).trans rfl;have aR:=aj z.out 0;have aS:wr.cell? ⟨a5,1,none⟩ = some (Y):=(ah z.out 1).trans rfl;have b0:=aj z.out 1))) | ((with_reducible refine aD (f:=59) rfl ?_);refine ws (some 28) Tryz.func59 #[.int .i64 a3] ?_;(with_reducible refine (b9.calls k1 a3 aa _ cf.out).mono ?_);rintro e w' ⟨rfl,⟨nd,rfl⟩⟩;refine ⟨_,rfl,?_⟩;(try (rw [fu wr];generalize a7:World.drewN wr _ = wr;have am:ae (Kd.R (Kd.int .i64) 3 wr w.heap.size (fun _=>True) Y X):=⟨by rw [← a7];exact (ac j.out)⟩;have ao:ae (wr.heap[a4]? = some (.cells #[.int .i64 0,.slice none 0 0] 37 (0,0))):=⟨by rw [← a7];exact (xf y.out)⟩;have ap:ae (wr.heap[a5]? = some (.cells #[.int .i64 a2,Y] 37 (0,0))):=⟨by rw [← a7];exact (xf z.out)⟩;have ar:ae (Below w.heap.size w wr):=⟨by rw [← a7];exact wy⟩;clear j y z HB a7;have j:=am;have y:=ao;have z:=ap;have HB:=ar;clear am ao ap ar;have aB:wr.cell? ⟨a4,0,none⟩ = some (.int .i64 0):=(ah y.out 0).trans rfl;have aF:=aj y.out 0;have aL:wr.cell? ⟨a4,1,none⟩ = some (.slice none 0 0):=(ah y.out 1).trans rfl;have aO:=aj y.out 1;have aP:wr.cell? ⟨a5,0,none⟩ = some (.int .i64 a2):=(ah z.out 0).trans rfl;have aR:=aj z.out 0;have aS:wr.cell? ⟨a5,1,none⟩ = some (Y):=(ah z.out 1).trans rfl;have b0:=aj z.out 1))) | (go_at_call 226;(with_reducible refine (ax.calls k1 a0 a1 a2 _ _ l3 a3 ab _ ?side1 ?side2 d9.out).mono ?_);(case side1=>exact yi (Kd.aN cb.out HB.out));(case side2=>exact cc.out);rintro e eq ⟨rfl,hb⟩;replace j:=z2 j hb;replace y:=xc y hb;replace z:=xc z hb;replace HB:=ae.mk (aq wy hb);(try clear hb);(try clear d8);(try clear hk);(try clear hi);have ed:=a9.out;have ee:=a8.out;obtain ⟨dd,df,dk,dl⟩:=xv z.out) | ((with_reducible refine cF (b:=.append) (xs:=#[.tmp 42,.tmp 44]) rfl ?_);at_builtin;refine Kd.eS (Kd.int .i64) (w0:=w) w.heap.size rfl (.tmp 42) (.tmp 44) 22 3 (.int .i64 0) 8 rfl Tryz.underlying22 fb rfl (by decide) (by omega) Y X a3 [.int .i64 a3] (fun _=>True) (fun _=>False) rfl rfl (by exact rfl) (fun _ hk=>hk.elim) (by exact fun _ _=>trivial) (by exact ac j.out) (by exact wy) (by exact ak wy) (by have:=cy.out;omega) ?_;intro em es ho hb hg hat;rw [← d0.out] at ho;have am:=ae.mk (eR (g:=a4) (o:=.cells #[.int .i64 0,.slice none 0 0] 37 (0,0)) (xf y.out) hg (Kd.jU j.out y.out (by decide)));have ao:=ae.mk (eR (g:=a5) (o:=.cells #[.int .i64 a2,Y] 37 (0,0)) (xf z.out) hg (Kd.jU j.out z.out (by decide)));have ap:=ae.mk hb;have ar:=ae.mk ho;clear y;clear z;clear HB;clear j;have y:=am;have z:=ao;have HB:=ap;have bo:=ar;clear am ao ap ar;clear ho hb hg hat;obtain ⟨bv,c0,dp⟩:=Kd.bk bo.out;subst dp;obtain ⟨dq,dt,du,dv⟩:=xv z.out));go_roundg k1;case measure=>have:=bc.out;omega
      case rel=>exact ⟨(wrap64 (a3+1)),(ba),(.slice bv ba.length c0),ww,H',⟨by have:=bc.out;omega⟩,⟨ac (Kd.aQ (Kd.bU (p:=⟨a5,1,none⟩) (Kd.cr bo.out z.out (by decide)) (fun _ hk=>hk.2) (.slice bv ba.length c0)) (fun _ hk=>trivial))⟩,⟨AE⟩,⟨AE⟩,⟨wy⟩⟩
     ·rw [if_neg b3] at H
      have cq:(ab == a6) = false:=beq_eq_false_iff_ne.mpr b3;have cx:(ab != a6) = true:=bne_iff_ne.mpr b3;have H':=ae.mk H;clear H;go_wp2_with (first | ((with_reducible refine aD (f:=83) rfl ?_);refine ws (some 23) Tryz.func83 #[.int .i64 a2] ?_;(with_reducible refine (cn.calls a2 aw _ bs.out).mono ?_);rintro e w' ⟨rfl,⟨nd,rfl⟩⟩;refine ⟨_,rfl,?_⟩) | ((with_reducible refine aD (f:=59) rfl ?_);refine ws (some 28) Tryz.func59 #[.int .i64 a3] ?_;(with_reducible refine (b9.calls k1 a3 aa _ cf.out).mono ?_);rintro e w' ⟨rfl,⟨nd,rfl⟩⟩;refine ⟨_,rfl,?_⟩) | (go_at_call 226;(with_reducible refine (ax.calls k1 a0 a1 a2 _ _ l3 a3 ab _ ?side1 ?side2 d9.out).mono ?_);(case side1=>exact yi (Kd.aN cb.out wy));(case side2=>exact cc.out);rintro e et ⟨rfl,hb⟩;replace j:=z2 j hb;replace y:=xc y hb;replace z:=xc z hb;replace HB:=ae.mk (aq wy hb);(try clear hb);(try clear d8);(try clear hk);(try clear hi)));go_roundg k1;case measure=>have:=bc.out;omega
      case rel=>exact ⟨(wrap64 (a3+1)),(X),(Y),ww,H',⟨by have:=bc.out;omega⟩,⟨ac j.out⟩,⟨xf y.out⟩,⟨xf z.out⟩,⟨wy⟩⟩
    ·rw [if_neg b2] at H
     have ci:(aa == a6) = false:=beq_eq_false_iff_ne.mpr b2;have cp:(aa != a6) = true:=bne_iff_ne.mpr b2;have H':=ae.mk H;clear H;go_wp2_with (first | ((with_reducible refine aD (f:=83) rfl ?_);refine ws (some 23) Tryz.func83 #[.int .i64 a2] ?_;(with_reducible refine (cn.calls a2 aw _ bs.out).mono ?_);rintro e w' ⟨rfl,⟨nd,rfl⟩⟩;refine ⟨_,rfl,?_⟩) | ((with_reducible refine aD (f:=59) rfl ?_);refine ws (some 28) Tryz.func59 #[.int .i64 a3] ?_;(with_reducible refine (b9.calls k1 a3 aa _ cf.out).mono ?_);rintro e w' ⟨rfl,⟨nd,rfl⟩⟩;refine ⟨_,rfl,?_⟩));go_roundg k1;case measure=>have:=bc.out;omega
     case rel=>exact ⟨(wrap64 (a3+1)),(X),(Y),ww,H',⟨by have:=bc.out;omega⟩,⟨ac j.out⟩,⟨xf y.out⟩,⟨xf z.out⟩,⟨wy⟩⟩
   ·rw [if_neg bi] at H
    have ce:decide (a3≤aw) = false:=decide_eq_false bi;clear bi;simp only [Option.some.injEq,Prod.mk.injEq] at H;obtain ⟨rfl,rfl⟩:=H;go_wp2_with (first | ((with_reducible refine aD (f:=83) rfl ?_);refine ws (some 23) Tryz.func83 #[.int .i64 a2] ?_;(with_reducible refine (cn.calls a2 aw _ bs.out).mono ?_);rintro e w' ⟨rfl,⟨nd,rfl⟩⟩;refine ⟨_,rfl,?_⟩;(try (rw [fu wr];generalize a7:World.drewN wr _ = wr;have am:ae (Kd.R (Kd.int .i64) 3 wr w.heap.size (fun _=>True) Y X):=⟨by rw [← a7];exact (ac j.out)⟩;have ao:ae (wr.heap[a4]? = some (.cells #[.int .i64 0,.slice none 0 0] 37 (0,0))):=⟨by rw [← a7];exact (xf y.out)⟩;have ap:ae (wr.heap[a5]? = some (.cells #[.int .i64 a2,Y] 37 (0,0))):=⟨by rw [← a7];exact (xf z.out)⟩;have ar:ae (Below w.heap.size w wr):=⟨by rw [← a7];exact wy⟩;clear j y z HB a7;have j:=am;have y:=ao;have z:=ap;have HB:=ar;clear am ao ap ar;have aB:wr.cell? ⟨a4,0,none⟩ = some (.int .i64 0):=(ah y.out 0).trans rfl;have aF:=aj y.out 0;have aL:wr.cell? ⟨a4,1,none⟩ = some (.slice none 0 0):=(ah y.out 1).trans rfl;have aO:=aj y.out 1;have aP:wr.cell? ⟨a5,0,none⟩ = some (.int .i64 a2):=(ah z.out 0).trans rfl;have aR:=aj z.out 0;have aS:wr.cell? ⟨a5,1,none⟩ = some (Y):=(ah z.out 1).trans rfl;have b0:=aj z.out 1));have ef:=a9.out;have eh:=a8.out;obtain ⟨dC,dE,dT,e0⟩:=xv z.out;obtain ⟨e1,e2,e3,e4⟩:=xv y.out;obtain ⟨c1,ca,e5⟩:=Kd.bk j.out;subst e5));refine bodyPost_ret (results_cell_row rfl _ _ a4 37 #[.int .i64 a2,.slice c1 X.length ca] (0,0) _ rfl AE Tryz.underlying37 rfl (by kernel_rfl)) rfl ?_;exact ⟨_,zd,by (with_reducible repeat (first | apply Kd.cP | apply Kd.cQ | apply Kd.bY));exact Kd.aQ (Kd.bU (p:=⟨a4,1,none⟩) (Kd.bU (p:=⟨a4,0,none⟩) (Kd.cr j.out y.out (by decide)) (fun _ hk=>hk.2) (.int .i64 a2)) (fun _ hk=>hk.2) (.slice c1 X.length ca)) (fun _ hk=>trivial),wy⟩
def bz.l0:Nat→Int→Int→Int→List Int→Int→List Int→Int→Int→Option (Int×List Int×Int×Int)
 | 0,_,_,_,_,_,_,_,_=>none
 | k+1,x1,x5,x6,x7,x8,y,z,X=>if x8 < (wrap64 (x6 * x1)) then ((aJ.f y z X x5).bind fun j=>(if x7.length < 17592186044416 then (bz.l0 k x1 x5 x6 (x7 ++ [j.1]) (wrap64 (x8+1)) y j.2.1 j.2.2) else (none))) else ((bK.f k x5 x6 x1 x7).bind fun Y=>(some (Y.1,Y.2,z,X)))
def bz.f (k:Nat) (z:List Int) (X:Int) (Y:Int) (a1:Int):Option (Int×List Int×Int×Int):=(cU.f z X Y (([2,3,5,2]:List Int))).bind fun j=>((aJ.f z j.2.1 j.2.2 3).bind fun y=>(bz.l0 k a1 j.1 (wrap64 (1+y.1)) (([]:List Int)) 0 z y.2.1 y.2.2))
set_option maxHeartbeats 8000000 in
set_option maxRecDepth 100000 in
theorem bz.calls (k:Nat) (g:Nat) (y:List Int) (a7:Int) (a8:Int) (a1:Int) (r1:Int) (r2:List Int) (r3:Int) (r4:Int) (w0 w:World) (hI:aG w0 w g y a7 a8) (hB:Below w0.heap.size w0 w) (h:bz.f k y a7 a8 a1 = some (r1,r2,r3,r4)) :
  Calls Tryz.prog 177 #[.pointer (some ⟨g,0,none⟩),.int .i64 a1] w fun e w'=>∃ cy:Value,e = .returned (.agg #[.int .i64 r1,cy])∧Kd.R (Kd.int .i64) 3 w' w.heap.size (fun _=>True) cy r2∧aG w0 w' g y r3 r4∧Below w0.heap.size w0 w'∧an w w' g none:=by
 have e2:=Tryz.underlying37;have a6:=ae.mk hI;have HK:=ae.mk (an.refl w g none);have HL:=ae.mk hB.size;clear hI;have dp:=ae.mk hB.size;have HB:=ae.mk hB;clear hB;unfold bz.f at h;have H:=h;clear h;obtain ⟨aO,am⟩:∃ y_:List Int,y_ = (([2,3,5,2]:List Int)):=⟨_,rfl⟩
 replace H:((cU.f y a7 a8 aO).bind fun ao=>((aJ.f y ao.2.1 ao.2.2 3).bind fun ap=>(bz.l0 k a1 ao.1 (wrap64 (1+ap.1)) (([]:List Int)) 0 y ap.2.1 ap.2.2))) = some (r1,r2,r3,r4):=by (try rw [am]);exact AC
 have aP:=ae.mk am;clear am;obtain ⟨⟨a4,aR,aS⟩,A3,H⟩:=xa H;(try dsimp only at H);obtain ⟨⟨a5,b0,b2⟩,A4,H⟩:=xa H;(try dsimp only at H);obtain ⟨bv,ar⟩:∃ y_:List Int,y_ = (([]:List Int)):=⟨_,rfl⟩
 replace H:(bz.l0 k a1 a4 (wrap64 (1+a5)) bv 0 y b0 b2) = some (r1,r2,r3,r4):=by (try rw [ar]);exact AC
 have b3:=ae.mk ar;clear ar;have H':=ae.mk H;clear H;go_enter Tryz.func177,Tryz.ntmps177;go_wp2_with (first | (refine zp 4 #[.int .i64 0,.slice none 0 0] 37 ?_;intro z hg w5 hbox hb;replace HB:=ae.mk (aq (yr HB) hb);have j:=ae.mk hbox;have dq:=ae.mk ((by rw [hg];exact (bn (w:=w) (g:=g) (row:=none) (y6 HK)):w.heap.size≤z));have dt:=ae.mk ((Nat.le_trans dp.out (by rw [hg];exact (bn (w:=w) (g:=g) (row:=none) (y6 HK)):w.heap.size≤z):w0.heap.size≤z));replace HK:=ae.mk (an.trans (y6 HK) (an.dn hb g none) (.inl rfl));have b4:=ae.mk ((by rw [hg];exact Nat.ne_of_lt (aG.lt (show aG w0 _ g y a7 a8 from xr)):g≠z));have a3:=ae.mk ((by rw [hg];exact Nat.ne_of_gt (aG.lt (show aG w0 _ g y a7 a8 from xr)):z≠g));replace a6:=ae.mk (aG.below xr hb);clear hb hbox hg) | ((with_reducible refine bu (N:=10) rfl ?_);refine Kd.jW (Kd.int .i64) _ 3 ?hg (N:=10) ?hd (xs:=([2,3,5,2]:List Int)) (inner:=[.int .i64 2,.int .i64 3,.int .i64 5,.int .i64 2]) (ok:=fun _=>True) (okp:=fun _=>True) ?hr ?hp (fun _ hk=>hk) trivial (Below.refl _ _) (Nat.le_refl _) (by simp) ?_;(case hd=>rfl);(case hg=>rfl);(case hr=>first | (go_simp;done) | (go_simp;rfl));(case hp=>exact (cY.one (show Kd.M (Kd.int .i64) _ _ _ 2 [.int .i64 2] from rfl) (cY.one (show Kd.M (Kd.int .i64) _ _ _ 3 [.int .i64 3] from rfl) (cY.one (show Kd.M (Kd.int .i64) _ _ _ 5 [.int .i64 5] from rfl) (cY.one (show Kd.M (Kd.int .i64) _ _ _ 2 [.int .i64 2] from rfl) (cY.none _ _))))));intro e3 w6 ba hb cb aw;clear cb aw;(first | rw [← aP.out] at ba | (simp only [Int.reduceToNat] at ba;rw [← aP.out] at ba));have X:=ae.mk (Kd.b5 ba (bn (w:=w) (g:=g) (row:=none) (y6 HK)));replace j:=xc j hb;replace HK:=ae.mk (an.trans (y6 HK) (an.dn hb g none) (.inl rfl));replace HB:=ae.mk (aq (yr HB) hb);replace a6:=ae.mk (aG.below xr hb);clear hb ba;obtain ⟨du,dv,dC⟩:=Kd.bk X.out;subst dC) | (refine ws (some 11) Tryz.func124 #[.pointer (some ⟨g,0,none⟩),.slice du aO.length dv] ?_;(with_reducible refine (cU.calls g y a7 a8 _ _ aO a4 aR aS w0 _ ?side1 ?side2 ?side3 ?side4 ?side5 A3.out).mono ?_);(case side1=>exact xr);(case side2=>exact yr HB);(case side3=>exact yi ((Kd.az X.out).2.2));(case side4=>exact (Kd.az X.out).2.1);(case side5=>exact l7 (aG.fY a6.out X.out (by decide)));rintro e w9 ⟨rfl,hi,hb,hk⟩;refine ⟨_,rfl,?_⟩;replace j:=ae.mk (an.blk hk (g':=z) (o:=.cells #[.int .i64 0,.slice none 0 0] 37 (0,0)) (xf j.out) a3.out (by simp));replace X:=ae.mk (Kd.aQ (Kd.fB (aG.apart (show aG w0 _ g y a7 a8 from xr) (ac X.out) (by decide)) hk (fun _ h=>h.2)) (fun _ h=>h.1));replace HK:=ae.mk (an.trans (y6 HK) hk (.inl rfl));replace HB:=ae.mk hb;replace a6:=ae.mk hi;(try clear hb);(try clear cc);(try clear hk);(try clear hi)) | (refine ws (some 13) Tryz.func122 #[.pointer (some ⟨g,0,none⟩),.int .i64 3] ?_;(with_reducible refine (aJ.calls g y aR aS 3 a5 b0 b2 w0 _ ?side1 ?side2 A4.out).mono ?_);(case side1=>exact xr);(case side2=>exact yr HB);rintro e ea ⟨rfl,hi,hb,hk⟩;refine ⟨_,rfl,?_⟩;replace j:=ae.mk (an.blk hk (g':=z) (o:=.cells #[.int .i64 0,.slice none 0 0] 37 (0,0)) (xf j.out) a3.out (by simp));replace X:=ae.mk (Kd.aQ (Kd.fB (aG.apart (show aG w0 _ g y aR aS from xr) (ac X.out) (by decide)) hk (fun _ h=>h.2)) (fun _ h=>h.1));replace HK:=ae.mk (an.trans (y6 HK) hk (.inl rfl));replace HB:=ae.mk hb;replace a6:=ae.mk hi;(try clear hb);(try clear cc);(try clear hk);(try clear hi)) | (refine AL (Kd.int .i64) 3 15 ?_;intro e4 eb ab hb cb aw;clear cb aw;(first | rw [← b3.out] at ab | (simp only [Int.reduceToNat] at ab;rw [← b3.out] at ab));have ce:=ae.mk (Kd.b5 (Kd.dy ab (Kd.ek (ac X.out))) (bn (w:=w) (g:=g) (row:=none) (y6 HK)));replace X:=ae.mk (Kd.cz (ac X.out) (Kd.cL ab) hb);replace j:=xc j hb;replace HK:=ae.mk (an.trans (y6 HK) (an.dn hb g none) (.inl rfl));replace HB:=ae.mk (aq (yr HB) hb);replace a6:=ae.mk (aG.below xr hb);clear hb ab));go_loopg [7,8] k (fun kq v7 v8 w'=>∃ (a9:List Int) (aa:Int) (a0:Int) (a2:Int),v8 = .int .i64 aa∧ae (bz.l0 kq a1 a4 (wrap64 (1+a5)) a9 aa y a0 a2 = some (r1,r2,r3,r4))∧ae (kq≤k)∧ae (Kd.R (Kd.int .i64) 3 w' w.heap.size (fun _=>True) v7 a9)∧ae (w'.heap[z]? = some (.cells #[.int .i64 0,(.slice none 0 0)] 37 (0,0)))∧ae (aG w0 w' g y a0 a2)∧ae (an w w' g none)∧ae (Below w0.heap.size w0 w'))
 case atStart=>exact ⟨(bv),(0),(b0),(b2),ww,H',⟨Nat.le_refl _⟩,⟨ac (Kd.aQ ce.out (fun _ hk=>trivial))⟩,⟨xf j.out⟩,⟨xr⟩,⟨y6 HK⟩,⟨yr HB⟩⟩
 case round =>
  clear H';obtain ⟨a9,aa,a0,a2,rfl,HA,d0,Y,j,a6,HK,HB⟩:=hrel;cases gk with
  | zero=>exact absurd HA.out (by simp [bz.l0])
  | succ k1 =>
   have H:=HA.out;clear HA;simp only [bz.l0] at H;by_cases aL:aa < (wrap64 ((wrap64 (1+a5)) * a1))
   ·rw [if_pos aL] at H
    have cf:=decide_eq_true aL;clear aL;obtain ⟨⟨aF,bc,bi⟩,dE,H⟩:=xa H;(try dsimp only at H);obtain ⟨d1,H⟩:=xt H;have ci:=ae.mk d1;clear d1;obtain ⟨c0,aB⟩:∃ y_:List Int,y_ = (a9 ++ [aF]):=⟨_,rfl⟩
    replace H:(bz.l0 k1 a1 a4 (wrap64 (1+a5)) c0 (wrap64 (aa+1)) y bc bi) = some (r1,r2,r3,r4):=by (try rw [aB]);exact AC
    have cp:=ae.mk aB;clear aB;have H':=ae.mk H;clear H;go_wp2_with (first | (refine ws (some 26) Tryz.func122 #[.pointer (some ⟨g,0,none⟩),.int .i64 a4] ?_;(with_reducible refine (aJ.calls g y a0 a2 a4 aF bc bi w0 _ ?side1 ?side2 dE.out).mono ?_);(case side1=>exact xr);(case side2=>exact yr HB);rintro e ec ⟨rfl,hi,hb,hk⟩;refine ⟨_,rfl,?_⟩;replace Y:=ae.mk (Kd.aQ (Kd.fB (aG.apart (show aG w0 _ g y a0 a2 from xr) (ac Y.out) (by decide)) hk (fun _ h=>h.2)) (fun _ h=>h.1));replace j:=ae.mk (an.blk hk (g':=z) (o:=.cells #[.int .i64 0,.slice none 0 0] 37 (0,0)) (xf j.out) a3.out (by simp));replace HK:=ae.mk (an.trans (y6 HK) hk (.inl rfl));replace HB:=ae.mk hb;replace a6:=ae.mk hi;(try clear hb);(try clear cc);(try clear hk);(try clear hi)) | ((with_reducible refine cF (b:=.append) (xs:=#[.tmp 23,.tmp 27]) rfl ?_);at_builtin;refine Kd.eS (Kd.int .i64) w.heap.size rfl (.tmp 23) (.tmp 27) 22 3 (.int .i64 0) 8 rfl Tryz.underlying22 fb rfl (by decide) (by omega) u7 a9 aF [.int .i64 aF] (fun _=>True) (fun _=>False) rfl rfl (by exact rfl) (fun _ hk=>hk.elim) (by exact fun _ _=>trivial) (by exact ac Y.out) (Below.refl _ _) (by exact bn (w:=w) (g:=g) (row:=none) (y6 HK)) (by have:=ci.out;omega) ?_;intro e5 ed ho hb hg hat;rw [← cp.out] at ho;have d2:=ae.mk (eR (g:=z) (o:=.cells #[.int .i64 0,.slice none 0 0] 37 (0,0)) (xf j.out) hg (Kd.jU Y.out j.out (by decide)));have d3:=ae.mk (aG.grown xr hg (aG.fY a6.out Y.out (by decide)));have d4:=ae.mk (iG (yr HB) HL.out hb);have d5:=ae.mk (an.trans (y6 HK) (an.jr hg g) (Kd.m8 Y.out));have d6:=ae.mk ho;clear j;clear a6;clear HB;clear HK;clear Y;have j:=d2;have a6:=d3;have HB:=d4;have HK:=d5;have cq:=d6;clear d2 d3 d4 d5 d6;clear ho hb hg hat));go_roundg k1;case measure=>have:=d0.out;omega
    case rel=>exact ⟨(c0),(wrap64 (aa+1)),(bc),(bi),ww,H',⟨by have:=d0.out;omega⟩,⟨ac cq.out⟩,⟨xf j.out⟩,⟨xr⟩,⟨y6 HK⟩,⟨yr HB⟩⟩
   ·rw [if_neg aL] at H
    have cf:decide (aa < (wrap64 ((wrap64 (1+a5)) * a1))) = false:=decide_eq_false aL;clear aL;obtain ⟨⟨bm,bo⟩,dT,H⟩:=xa H;(try dsimp only at H);simp only [Option.some.injEq,Prod.mk.injEq] at H;obtain ⟨rfl,rfl,rfl,rfl⟩:=H;obtain ⟨d7,d8,d9⟩:=Kd.bk Y.out;subst d9;go_wp2_with (first | (refine ws (some 33) Tryz.func203 #[.int .i64 a4,.int .i64 (wrap64 (1+a5)),.int .i64 a1,.slice d7 a9.length d8] ?_;(with_reducible refine (bK.calls k1 a4 (wrap64 (1+a5)) a1 _ _ a9 bm bo _ ?side1 ?side2 dT.out).mono ?_);(case side1=>exact yi ((Kd.az Y.out).2.2));(case side2=>exact (Kd.az Y.out).2.1);rintro e ee ⟨e8,rfl,cx,hb⟩;refine ⟨_,rfl,?_⟩;have bs:=ae.mk (Kd.b5 (Kd.dy cx (Kd.ek (ac Y.out))) (bn (w:=w) (g:=g) (row:=none) (y6 HK)));replace Y:=ae.mk (Kd.cz (ac Y.out) (Kd.cL cx) hb);replace j:=xc j hb;replace HK:=ae.mk (an.trans (y6 HK) (an.dn hb g none) (.inl rfl));replace HB:=ae.mk (aq (yr HB) hb);replace a6:=ae.mk (aG.below xr hb);(try clear hb);(try clear cc);(try clear hk);(try clear hi);(try clear cx);have e0:=a3.out;have e1:=b4.out;obtain ⟨db,dd,df,dk⟩:=xv j.out;obtain ⟨c1,ca,dl⟩:=Kd.bk bs.out;subst dl));refine bodyPost_ret (results_cell_row rfl _ _ z 37 #[.int .i64 bm,.slice c1 bo.length ca] (0,0) _ rfl AE Tryz.underlying37 rfl (by kernel_rfl)) rfl ?_;exact ⟨_,zd,by (with_reducible repeat (first | apply Kd.cP | apply Kd.cQ | apply Kd.bY));exact Kd.aQ (Kd.bU (p:=⟨z,1,none⟩) (Kd.bU (p:=⟨z,0,none⟩) (Kd.cr bs.out j.out (by decide)) (fun _ hk=>hk.2) (.int .i64 bm)) (fun _ hk=>hk.2) (.slice c1 bo.length ca)) (fun _ hk=>trivial),xr,yr HB,y6 HK⟩
end Pr
end
end Go.Proofs.YtlfkfdmggpipbaaGreat
