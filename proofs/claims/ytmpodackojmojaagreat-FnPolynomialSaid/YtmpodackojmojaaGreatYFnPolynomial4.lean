/- The claim FnPolynomial: every text that its row comes to, laid together by slim.py (the words of the kit's print, the printed walks, the pure law, the row). -/
import Derived.Test.YtmpodackojmojaaGreatYFnPolynomial3
section
namespace Go.Proofs.YtmpodackojmojaaGreat.Pr
open Go.RowKit Go.Proofs.ag.bl Go.Proofs.ag.cj Go.Proofs.ag.ck
attribute [local go_sem] j5 j6 jG jH iy iz j7 j8
set_option linter.unusedVariables false
set_option linter.unusedSimpArgs false
def eE.f (k:Nat) (y:Int) (z:List Int):Option (List Int):=(e6.f k y z).bind fun M=>(if M = true then ((bC.f k y z).bind fun j=>((aT.f k j 1 1).bind fun X=>((aT.f k j 2 1).bind fun Y=>((aT.f k j 1 2).bind fun a0=>((aT.f k j 2 2).bind fun a1=>(some (([X,Y,a0,a1]:List Int)))))))) else (some ([]:List Int)))
set_option maxHeartbeats 8000000 in
set_option maxRecDepth 100000 in
theorem eE.calls (k:Nat) (Y:Int) (a4:Option Addr) (a5:Nat) (X:List Int) (r:List Int) (w:World) (am:Kd.C (Kd.int .i64) w a4 X.length X) (ao:X.length≤a5) (h:eE.f k Y X = some r) :
  Calls Tryz.prog 55 #[.agg #[.int .i64 Y,.slice a4 X.length a5]] w fun e w'=>∃ aP:Value,e = .returned (aP)∧Kd.R (Kd.int .i64) 3 w' w.heap.size (fun _=>True) aP r∧Below w.heap.size w w':=by
 have cd:=Tryz.underlying30
 have a8:=ae.mk am
 have a9:=ae.mk ao
 clear am ao
 have HB:=ae.mk (Below.refl w.heap.size w)
 unfold eE.f at h
 have H:=h
 clear h
 obtain ⟨aF,A2,H⟩:=af.be H
 (try dsimp only at H)
 by_cases c3:aF = true
 ·subst c3
  replace H:((bC.f k Y X).bind fun y=>((aT.f k y 1 1).bind fun a0=>((aT.f k y 2 1).bind fun a1=>((aT.f k y 1 2).bind fun a2=>((aT.f k y 2 2).bind fun a3=>(some (([a0,a1,a2,a3]:List Int)))))))) = some r:=by rw [if_pos rfl] at H;exact H
  obtain ⟨y,A4,H⟩:=af.be H
  (try dsimp only at H)
  obtain ⟨a0,A5,H⟩:=af.be H
  (try dsimp only at H)
  obtain ⟨a1,A6,H⟩:=af.be H
  (try dsimp only at H)
  obtain ⟨a2,A7,H⟩:=af.be H
  (try dsimp only at H)
  obtain ⟨a3,A8,H⟩:=af.be H
  (try dsimp only at H)
  obtain ⟨aL,a7⟩:∃ y_:List Int,y_ = (([a0,a1,a2,a3]:List Int)):=⟨_,rfl⟩
  replace H:(some aL) = some r:=by (try rw [a7]);exact af.Z
  have aa:=ae.mk a7
  clear a7
  obtain rfl:=Option.some.inj H
  go_enter Tryz.func55,Tryz.ntmps55
  go_wp2_with (first | (refine af.bx 1 #[.int .i64 Y,.slice a4 X.length a5] 30 ?_;intro ap hg w9 hbox hb;have j:=ae.mk hbox;have ar:=af.gw hg HB;have aw:=af.gw hg HB;replace HB:=af.lb HB hb;clear hb hbox hg;obtain ⟨aR,aS,b0,b1⟩:=af.bR j.out) | (refine af.gl (some 5) Tryz.func120 #[.agg #[.int .i64 Y,.slice a4 X.length a5]] ?_;(with_reducible refine (e6.calls k Y _ _ X true _ ?side1 ?side2 A2.out).mono ?_);(case side1=>exact af.Cw (Kd.bG a8.out HB.out));(case side2=>exact a9.out);rintro e ce ⟨rfl,hb⟩;refine ⟨_,rfl,?_⟩;replace j:=af.bb j hb;replace HB:=af.lb HB hb;(try clear hb);(try clear b2);(try clear hk);(try clear hi);obtain ⟨b3,b4,ba,bc⟩:=af.bR j.out) | (refine af.gl (some 8) Tryz.func51 #[.agg #[.int .i64 Y,.slice a4 X.length a5]] ?_;(with_reducible refine (bC.calls k Y _ _ X y _ ?side1 ?side2 A4.out).mono ?_);(case side1=>exact af.Cw (Kd.bG a8.out HB.out));(case side2=>exact a9.out);rintro e cf ⟨ca,rfl,bd,hb⟩;refine ⟨_,rfl,?_⟩;have z:=ae.mk (Kd.cT bd (aj (af.Lw HB.out)));replace j:=af.bb j hb;replace HB:=af.lb HB hb;(try clear hb);(try clear b2);(try clear hk);(try clear hi);(try clear bd);obtain ⟨ab,al,bi⟩:=Kd.cP z.out;subst bi) | (refine af.gl (some 10) Tryz.func57 #[.slice ab y.length al,.int .i64 1,.int .i64 1] ?_;(with_reducible refine (aT.calls k _ _ y 1 1 a0 _ ?side1 ?side2 A5.out).mono ?_);(case side1=>exact af.Cw ((Kd.aE z.out).2.2));(case side2=>exact (Kd.aE z.out).2.1);rintro e w' ⟨rfl,⟨nd,rfl⟩⟩;refine ⟨_,rfl,?_⟩) | (refine af.gl (some 12) Tryz.func57 #[.slice ab y.length al,.int .i64 2,.int .i64 1] ?_;(with_reducible refine (aT.calls k _ _ y 2 1 a1 _ ?side1 ?side2 A6.out).mono ?_);(case side1=>exact af.Cw ((Kd.aE z.out).2.2));(case side2=>exact (Kd.aE z.out).2.1);rintro e w' ⟨rfl,⟨nd,rfl⟩⟩;refine ⟨_,rfl,?_⟩) | (refine af.gl (some 14) Tryz.func57 #[.slice ab y.length al,.int .i64 1,.int .i64 2] ?_;(with_reducible refine (aT.calls k _ _ y 1 2 a2 _ ?side1 ?side2 A7.out).mono ?_);(case side1=>exact af.Cw ((Kd.aE z.out).2.2));(case side2=>exact (Kd.aE z.out).2.1);rintro e w' ⟨rfl,⟨nd,rfl⟩⟩;refine ⟨_,rfl,?_⟩) | (refine af.gl (some 16) Tryz.func57 #[.slice ab y.length al,.int .i64 2,.int .i64 2] ?_;(with_reducible refine (aT.calls k _ _ y 2 2 a3 _ ?side1 ?side2 A8.out).mono ?_);(case side1=>exact af.Cw ((Kd.aE z.out).2.2));(case side2=>exact (Kd.aE z.out).2.1);rintro e w' ⟨rfl,⟨nd,rfl⟩⟩;refine ⟨_,rfl,?_⟩) | ((with_reducible refine bJ (N:=17) rfl ?_);refine Kd.iY (Kd.int .i64) _ 3 ?hg (N:=17) ?hd (xs:=([a0,a1,a2,a3]:List Int)) (inner:=[.int .i64 a0,.int .i64 a1,.int .i64 a2,.int .i64 a3]) (ok:=fun _=>True) (okp:=fun _=>True) ?hr ?hp (fun _ hk=>hk) trivial (Below.refl _ _) (Nat.le_refl _) (by simp) ?_;(case hd=>rfl);(case hg=>rfl);(case hr=>first | (go_simp;done) | (go_simp;rfl));(case hp=>exact (cE.one (show Kd.M (Kd.int .i64) _ _ _ a0 [.int .i64 a0] from rfl) (cE.one (show Kd.M (Kd.int .i64) _ _ _ a1 [.int .i64 a1] from rfl) (cE.one (show Kd.M (Kd.int .i64) _ _ _ a2 [.int .i64 a2] from rfl) (cE.one (show Kd.M (Kd.int .i64) _ _ _ a3 [.int .i64 a3] from rfl) (cE.none _ _))))));intro cb ci a6 hb cc aO;clear cc aO;(first | rw [← aa.out] at a6 | (simp only [Int.reduceToNat] at a6;rw [← aa.out] at a6));replace z:=ae.mk (Kd.aA (af.Sw z.out) (Kd.bF a6) hb);have aB:=ae.mk (Kd.b9 a6 (aj (af.Lw HB.out)));replace j:=af.bb j hb;replace HB:=af.lb HB hb;clear hb a6))
  go_ret
  exact ⟨_,af.E,by (with_reducible repeat (first | apply Kd.cL | apply Kd.cM | apply Kd.bS));exact aB.out,af.L⟩
 ·replace c3:=Bool.eq_false_iff.mpr c3
  subst c3
  replace H:(some ([]:List Int)) = some r:=by rw [if_neg (show ¬ (false = true) by decide)] at H;exact H
  obtain rfl:=Option.some.inj H
  go_enter Tryz.func55,Tryz.ntmps55
  go_wp2_with (first | (refine af.bx 1 #[.int .i64 Y,.slice a4 X.length a5] 30 ?_;intro ap hg cp hbox hb;have j:=ae.mk hbox;have ar:=af.gw hg HB;have aw:=af.gw hg HB;replace HB:=af.lb HB hb;clear hb hbox hg;obtain ⟨bm,bo,bs,bv⟩:=af.bR j.out) | (refine af.gl (some 5) Tryz.func120 #[.agg #[.int .i64 Y,.slice a4 X.length a5]] ?_;(with_reducible refine (e6.calls k Y _ _ X false _ ?side1 ?side2 A2.out).mono ?_);(case side1=>exact af.Cw (Kd.bG a8.out HB.out));(case side2=>exact a9.out);rintro e cx ⟨rfl,hb⟩;refine ⟨_,rfl,?_⟩;replace j:=af.bb j hb;replace HB:=af.lb HB hb;(try clear hb);(try clear b2);(try clear hk);(try clear hi)))
  go_ret
  exact ⟨_,af.E,af.N,af.L⟩
def bB.l0:Nat→List (List Int)→List (List Int)→Int→Option (Bool)
 | 0,_,_,_=>none
 | k+1,z,M,y=>if y < (z.length:Int) then (if 0≤y then (if y < (M.length:Int) then ((bZ.f k (cw z y) (cw M y)).bind fun j=>(if j = true then (bB.l0 k z M (wrap64 (y+1))) else (some false))) else (none)) else (none)) else (some true)
def bB.f (k:Nat) (l0:List (List Int)) (l1:List (List Int)):Option (Bool):=if (l0.length:Int) = (l1.length:Int) then (bB.l0 k l0 l1 0) else (some false)
set_option maxHeartbeats 8000000 in
set_option maxRecDepth 100000 in
theorem bB.calls (k:Nat) (A0:Option Addr) (c0:Nat) (l0:List (List Int)) (A1:Option Addr) (c1:Nat) (l1:List (List Int)) (r:Bool) (w:World) (aB:Kd.C (Kd.slice 3 (Kd.int .i64)) w A0 l0.length l0) (aF:l0.length≤c0) (aL:Kd.C (Kd.slice 3 (Kd.int .i64)) w A1 l1.length l1) (aO:l1.length≤c1) (h:bB.f k l0 l1 = some r) :
  Calls Tryz.prog 56 #[.slice A0 l0.length c0,.slice A1 l1.length c1] w fun e w'=>e = .returned (.bool r)∧cQ w w':=by
 have aP:=ae.mk aB
 have bc:=ae.mk aF
 clear aB aF
 have aR:=ae.mk aL
 have bd:=ae.mk aO
 clear aL aO
 unfold bB.f at h
 have H:=h
 clear h
 by_cases c3:(l0.length:Int) = (l1.length:Int)
 ·rw [if_pos c3] at H
  have aS:((l0.length:Int) == (l1.length:Int)) = true:=beq_iff_eq.mpr c3
  have b0:((l0.length:Int) != (l1.length:Int)) = false:=bne_eq_false_iff_eq.mpr c3
  have b1:(l0.length == l1.length) = true:=by first | simpa using c3 | (simp at c3 ⊢;omega)
  clear c3
  have H':=ae.mk H
  clear H
  go_enter Tryz.func56,Tryz.ntmps56
  go_wp2
  repeat (go_quiet (fail);try go_wp2)
  go_loopg [5] k (fun kq v5 w'=>∃ (j:Int),v5 = .int .i64 j∧ae (bB.l0 kq l0 l1 j = some r)∧ae (kq≤k)∧cQ w w')
  case atStart=>exact ⟨(0),af.F,H',⟨Nat.le_refl _⟩,af.G⟩
  case round =>
   clear H'
   obtain ⟨j,rfl,HA,b2,⟨m1,rfl⟩⟩:=hrel
   cases gk with
   | zero=>exact absurd HA.out (by simp [bB.l0])
   | succ k1 =>
    have H:=HA.out
    clear HA
    simp only [bB.l0] at H
    by_cases c4:j < (l0.length:Int)
    ·rw [if_pos c4] at H
     have b3:=decide_eq_true c4
     clear c4
     obtain ⟨c5,H⟩:=af.ip H
     have b4:=decide_eq_true c5
     clear c5
     obtain ⟨c6,H⟩:=af.ip H
     have ba:=decide_eq_true c6
     clear c6
     obtain ⟨aw,A7,H⟩:=af.be H
     (try dsimp only at H)
     by_cases c8:aw = true
     ·subst c8
      replace H:(bB.l0 k1 l0 l1 (wrap64 (j+1))) = some r:=by rw [if_pos rfl] at H;exact H
      have H':=ae.mk H
      clear H
      have a3:0≤(j:Int):=af.D
      have a4:j < (l0.length:Int):=af.D
      obtain ⟨ap,ab,al,a7,a9,Y,a0⟩:=gM aP.out j a3 a4
      cases a7
      have y:=ae.mk a0
      have z:=ae.mk Y
      clear a0 Y
      replace a3:=eq_true a3
      replace a4:=eq_true a4
      have a5:0≤(j:Int):=af.D
      have a6:j < (l1.length:Int):=af.D
      obtain ⟨ar,am,ao,a8,aa,a1,a2⟩:=gM aR.out j a5 a6
      cases a8
      have M:=ae.mk a2
      have X:=ae.mk a1
      clear a2 a1
      replace a5:=eq_true a5
      replace a6:=eq_true a6
      go_wp2_with (first | (go_at_call 17;(with_reducible refine (bZ.calls k1 _ _ (cw l0 j) _ _ (cw l1 j) true _ ?side1 ?side2 ?side3 ?side4 A7.out).mono ?_);(case side1=>exact af.Cw y.out);(case side2=>exact z.out);(case side3=>exact af.Cw M.out);(case side4=>exact X.out);rintro e w' ⟨rfl,⟨nd,rfl⟩⟩;(try exact af.W)))
      repeat (go_quiet (first | (go_at_call 17;(with_reducible refine (bZ.calls k1 _ _ (cw l0 j) _ _ (cw l1 j) true _ ?side1 ?side2 ?side3 ?side4 A7.out).mono ?_);(case side1=>exact af.Cw y.out);(case side2=>exact z.out);(case side3=>exact af.Cw M.out);(case side4=>exact X.out);rintro e w' ⟨rfl,⟨nd,rfl⟩⟩;(try exact af.W)));try go_wp2_with (first | (go_at_call 17;(with_reducible refine (bZ.calls k1 _ _ (cw l0 j) _ _ (cw l1 j) true _ ?side1 ?side2 ?side3 ?side4 A7.out).mono ?_);(case side1=>exact af.Cw y.out);(case side2=>exact z.out);(case side3=>exact af.Cw M.out);(case side4=>exact X.out);rintro e w' ⟨rfl,⟨nd,rfl⟩⟩;(try exact af.W))))
      go_roundg k1
      case measure=>have:=b2.out;omega
      case rel=>exact ⟨(wrap64 (j+1)),af.F,H',⟨by have:=b2.out;omega⟩,af.G⟩
     ·replace c8:=Bool.eq_false_iff.mpr c8
      subst c8
      replace H:(some false) = some r:=by rw [if_neg (show ¬ (false = true) by decide)] at H;exact H
      obtain rfl:=Option.some.inj H
      have a3:0≤(j:Int):=af.D
      have a4:j < (l0.length:Int):=af.D
      obtain ⟨ap,ab,al,a7,a9,Y,a0⟩:=gM aP.out j a3 a4
      cases a7
      have y:=ae.mk a0
      have z:=ae.mk Y
      clear a0 Y
      replace a3:=eq_true a3
      replace a4:=eq_true a4
      have a5:0≤(j:Int):=af.D
      have a6:j < (l1.length:Int):=af.D
      obtain ⟨ar,am,ao,a8,aa,a1,a2⟩:=gM aR.out j a5 a6
      cases a8
      have M:=ae.mk a2
      have X:=ae.mk a1
      clear a2 a1
      replace a5:=eq_true a5
      replace a6:=eq_true a6
      go_wp2_with (first | (go_at_call 17;(with_reducible refine (bZ.calls k1 _ _ (cw l0 j) _ _ (cw l1 j) false _ ?side1 ?side2 ?side3 ?side4 A7.out).mono ?_);(case side1=>exact af.Cw y.out);(case side2=>exact z.out);(case side3=>exact af.Cw M.out);(case side4=>exact X.out);rintro e w' ⟨rfl,⟨nd,rfl⟩⟩;(try exact af.W)))
      repeat (go_quiet (first | (go_at_call 17;(with_reducible refine (bZ.calls k1 _ _ (cw l0 j) _ _ (cw l1 j) false _ ?side1 ?side2 ?side3 ?side4 A7.out).mono ?_);(case side1=>exact af.Cw y.out);(case side2=>exact z.out);(case side3=>exact af.Cw M.out);(case side4=>exact X.out);rintro e w' ⟨rfl,⟨nd,rfl⟩⟩;(try exact af.W)));try go_wp2_with (first | (go_at_call 17;(with_reducible refine (bZ.calls k1 _ _ (cw l0 j) _ _ (cw l1 j) false _ ?side1 ?side2 ?side3 ?side4 A7.out).mono ?_);(case side1=>exact af.Cw y.out);(case side2=>exact z.out);(case side3=>exact af.Cw M.out);(case side4=>exact X.out);rintro e w' ⟨rfl,⟨nd,rfl⟩⟩;(try exact af.W))))
      go_ret
      exact ⟨af.F,af.G⟩
    ·rw [if_neg c4] at H
     have b3:decide (j < (l0.length:Int)) = false:=decide_eq_false c4
     clear c4
     obtain rfl:=Option.some.inj H
     go_wp2
     repeat (go_quiet (fail);try go_wp2)
     go_ret
     exact ⟨af.F,af.G⟩
 ·rw [if_neg c3] at H
  have aS:((l0.length:Int) == (l1.length:Int)) = false:=beq_eq_false_iff_ne.mpr c3
  have b0:((l0.length:Int) != (l1.length:Int)) = true:=bne_iff_ne.mpr c3
  have b1:(l0.length == l1.length) = false:=by first | simpa using c3 | (simp at c3 ⊢;omega)
  obtain rfl:=Option.some.inj H
  go_enter Tryz.func56,Tryz.ntmps56
  go_wp2
  repeat (go_quiet (fail);try go_wp2)
  go_ret
  exact ⟨af.F,af.G⟩
def ei.f (l0:List (List Int)) (j:Int):Option (List Int):=if j≥(l0.length:Int) then (some (([]:List Int))) else (if 0≤j then (if j < (l0.length:Int) then (some (cw l0 j)) else (none)) else (none))
set_option maxHeartbeats 8000000 in
set_option maxRecDepth 100000 in
theorem ei.calls (ap:Nat→Prop) (A0:Option Addr) (c0:Nat) (l0:List (List Int)) (a1:Int) (r:List Int) (w:World) (ba:Kd.V (Kd.slice 3 (Kd.int .i64)) 28 w w.heap.size (fun k_=>ap k_) (.slice A0 l0.length c0) l0) (h:ei.f l0 a1 = some r) :
  Calls Tryz.prog 122 #[.slice A0 l0.length c0,.int .i64 a1] w fun e w'=>∃ aR:Value,e = .returned (aR)∧Kd.V (Kd.int .i64) 3 w' w.heap.size (fun k_=>(ap k_∨w.heap.size≤k_)) aR r∧Below w.heap.size w w':=by
 have a9:=ae.mk (show Kd.V (Kd.slice 3 (Kd.int .i64)) 28 w w.heap.size (fun k_=>(ap k_∨w.heap.size≤k_)) (.slice A0 l0.length c0) l0 from Kd.ic ba (fun k_ hk=>.inl hk))
 have HB:=ae.mk (Below.refl w.heap.size w)
 unfold ei.f at h
 have H:=h
 clear h
 by_cases c3:a1≥(l0.length:Int)
 ·rw [if_pos c3] at H
  have aS:=decide_eq_true c3
  clear c3
  obtain ⟨ar,a0⟩:∃ y_:List Int,y_ = (([]:List Int)):=⟨_,rfl⟩
  replace H:(some ar) = some r:=by (try rw [a0]);exact af.Z
  have a5:=ae.mk a0
  clear a0
  obtain rfl:=Option.some.inj H
  go_enter Tryz.func122,Tryz.ntmps122
  go_wp2_with (first | (refine af.lt (Kd.int .i64) 3 9 ?_;intro bc w4 a6 hb bd aw;clear bd aw;(first | rw [← a5.out] at a6 | (simp only [Int.reduceToNat] at a6;rw [← a5.out] at a6));replace a9:=ae.mk (Kd.jX (by (with_reducible repeat (first | apply Kd.dW | apply Kd.dX | apply Kd.eB));exact a9.out) (Kd.bF a6) hb);have al:=ae.mk (Kd.b9 (Kd.vq (M:=fun k_=>(w.heap.size≤k_)) a6 (aj (af.Lw HB.out)) (fun k_ h_=>h_)) (aj (af.Lw HB.out)));replace HB:=af.lb HB hb;clear hb a6))
  go_ret
  exact ⟨_,af.E,Kd.ic (Kd.wQ (af.Rw (Kd.aX al.out (fun _ hk=>hk.1)))) (fun k_ hk=>by first | exact ⟨(.inr (hk.1)),hk.2⟩ | exact (.inr (hk))),af.L⟩
 ·rw [if_neg c3] at H
  have aS:decide ((l0.length:Int)≤a1) = false:=decide_eq_false c3
  clear c3
  obtain ⟨c6,H⟩:=af.ip H
  have bi:=decide_eq_true c6
  clear c6
  obtain ⟨c7,H⟩:=af.ip H
  have bm:=decide_eq_true c7
  clear c7
  obtain rfl:=Option.some.inj H
  have a2:0≤(a1:Int):=af.D
  have a3:a1 < (l0.length:Int):=af.D
  obtain ⟨b3,b0,b1,aB,a7,X,Y⟩:=gM (Kd.jt a9.out).2.2 a1 a2 a3
  cases aB
  obtain ⟨b4,aa,ab,a4⟩:=Kd.vZ a9.out [] a1 a2 (by first | exact a3 | exact af.D | (have e_:=(Kd.jt a9.out).1;omega))
  obtain ⟨aF,aL,rfl,y,z⟩:=Kd.nr ab
  have j:=a4 0 _ rfl
  rw [Nat.add_zero,show ((Kd.slice 3 (Kd.int .i64))).sz = 1 from rfl,Nat.mul_one] at j
  replace j:=Option.some.inj (j.symm.trans a7)
  injection j with am b2 ao
  rw [am] at z
  rw [ao] at y
  have a8:=ae.mk (show Kd.V (Kd.int .i64) 3 _ w.heap.size _ _ (cw l0 a1) from Kd.sx y z)
  clear am b2 ao z y
  clear a4 aa
  have aO:=ae.mk Y
  have aP:=ae.mk X
  clear Y X
  replace a2:=eq_true a2
  replace a3:=eq_true a3
  go_enter Tryz.func122,Tryz.ntmps122
  go_wp2
  go_ret
  exact ⟨_,af.E,by (with_reducible repeat (first | apply Kd.dW | apply Kd.dX | apply Kd.eB));exact a8.out,af.L⟩
mutual
def aU.l0:Nat→List (List Int)→List (List Int)→List (List Int)→Int→Option ((List (List Int)))
 | 0,_,_,_,_=>none
 | k+1,Y,x1,x5,X=>if X < (mx (Y.length:Int) (x1.length:Int)) then ((ei.f Y X).bind fun j=>((ei.f x1 X).bind fun y=>(if 0≤(mx (j.length:Int) (y.length:Int)) then (if (mx (j.length:Int) (y.length:Int):Int).toNat≤35184372088832 then (aU.l1 k Y x1 x5 X y (List.replicate (mx (j.length:Int) (y.length:Int):Int).toNat 0) j (j.length:Int) 0) else (none)) else (none)))) else (some x5)
def aU.l1:Nat→List (List Int)→List (List Int)→List (List Int)→Int→List Int→List Int→List Int→Int→Int→Option ((List (List Int)))
 | 0,_,_,_,_,_,_,_,_,_=>none
 | k+1,Y,x1,x5,X,x8,x9,a0,a2,z=>if z < a2 then (if 0≤z then (if z < (a0.length:Int) then (if z < (x9.length:Int) then (aU.l1 k Y x1 x5 X x8 (x9.set (z:Int).toNat (wrap64 ((rd x9 z)+(rd a0 z)))) a0 a2 (wrap64 (z+1))) else (none)) else (none)) else (none)) else (aU.l2 k Y x1 x5 X x9 x8 (x8.length:Int) 0)
def aU.l2:Nat→List (List Int)→List (List Int)→List (List Int)→Int→List Int→List Int→Int→Int→Option ((List (List Int)))
 | 0,_,_,_,_,_,_,_,_=>none
 | k+1,Y,x1,x5,X,x9,a1,a3,M=>if M < a3 then (if 0≤M then (if M < (a1.length:Int) then (if M < (x9.length:Int) then (aU.l2 k Y x1 x5 X (x9.set (M:Int).toNat (wrap64 ((rd x9 M)+(rd a1 M)))) a1 a3 (wrap64 (M+1))) else (none)) else (none)) else (none)) else (if x5.length < 5864062014805 then (aU.l0 k Y x1 (x5 ++ [x9]) (wrap64 (X+1))) else (none))
end
def aU.f (k:Nat) (l0:List (List Int)) (l1:List (List Int)):Option ((List (List Int))):=aU.l0 k l0 l1 (([]:List (List Int))) 0
set_option maxHeartbeats 8000000 in
set_option maxRecDepth 100000 in
theorem aU.calls (k:Nat) (A0:Option Addr) (c0:Nat) (l0:List (List Int)) (A1:Option Addr) (c1:Nat) (l1:List (List Int)) (r:List (List Int)) (w:World) (fd:Kd.C (Kd.slice 3 (Kd.int .i64)) w A0 l0.length l0) (fi:l0.length≤c0) (fj:Kd.C (Kd.slice 3 (Kd.int .i64)) w A1 l1.length l1) (fl:l1.length≤c1) (h:aU.f k l0 l1 = some r) :
  Calls Tryz.prog 58 #[.slice A0 l0.length c0,.slice A1 l1.length c1] w fun e w'=>∃ fp:Value,e = .returned (fp)∧Kd.S (Kd.slice 3 (Kd.int .i64)) 28 w' w.heap.size (fun _=>True) fp r∧Below w.heap.size w w':=by
 have hl:=ae.mk fd
 have io:=ae.mk fi
 clear fd fi
 have hm:=ae.mk fj
 have it:=ae.mk fl
 clear fj fl
 have HB:=ae.mk (Below.refl w.heap.size w)
 unfold aU.f at h
 have H:=h
 clear h
 obtain ⟨cY,aR⟩:∃ y_:List (List Int),y_ = (([]:List (List Int))):=⟨_,rfl⟩
 replace H:(aU.l0 k l0 l1 cY 0) = some r:=by (try rw [aR]);exact af.Z
 have ca:=ae.mk aR
 clear aR
 have H':=ae.mk H
 clear H
 go_enter Tryz.func58,Tryz.ntmps58
 go_wp2_with (first | ((with_reducible refine bJ (N:=14) rfl ?_);refine Kd.mM (Kd.slice 3 (Kd.int .i64)) _ 28 ?hg (N:=14) ?hd (xs:=([]:List (List Int))) (inner:=[]) (ok:=fun _=>True) (okp:=fun _=>True) ?hr ?hp (fun _ hk=>hk) trivial (Below.refl _ _) (Nat.le_refl _) (by simp) ?_;(case hd=>rfl);(case hg=>rfl);(case hr=>first | (go_simp;done) | (go_simp;rfl));(case hp=>exact (cE.none _ _));intro hq w3 d0 hb bo a6;clear bo a6;(first | rw [← ca.out] at d0 | (simp only [Int.reduceToNat] at d0;rw [← ca.out] at d0));have dt:=ae.mk (Kd.cT d0 (aj (af.Lw HB.out)));replace HB:=af.lb HB hb;clear hb d0))
 go_loopg [5,6] k (fun kq v5 v6 w'=>∃ (a2:List (List Int)) (M:Int),v6 = .int .i64 M∧ae (aU.l0 kq l0 l1 a2 M = some r)∧ae (kq≤k)∧ae (Kd.S (Kd.slice 3 (Kd.int .i64)) 28 w' w.heap.size (fun _=>True) v5 a2)∧ae (Below w.heap.size w w'))
 case atStart=>exact ⟨(cY),(0),af.F,H',⟨Nat.le_refl _⟩,⟨af.Sw dt.out⟩,⟨af.Lw HB.out⟩⟩
 case round =>
  clear H'
  obtain ⟨a2,M,rfl,HA,cf,z,HB⟩:=hrel
  cases gk with
  | zero=>exact absurd HA.out (by simp [aU.l0])
  | succ k1 =>
   have H:=HA.out
   clear HA
   simp only [aU.l0] at H
   obtain ⟨d1,cb⟩:∃ j_:Int,(mx (l0.length:Int) (l1.length:Int)) = j_:=⟨_,rfl⟩
   replace H:(if M < (d1) then ((ei.f l0 M).bind fun j=>((ei.f l1 M).bind fun y=>(if 0≤(mx (j.length:Int) (y.length:Int)) then (if (mx (j.length:Int) (y.length:Int):Int).toNat≤35184372088832 then (aU.l1 k1 l0 l1 a2 M y (List.replicate (mx (j.length:Int) (y.length:Int):Int).toNat 0) j (j.length:Int) 0) else (none)) else (none)))) else (some a2)) = some r:=by first | (rw [cb] at H;exact H) | (simp only [cb] at H ⊢;exact H)
   have eg:(if (l0.length:Int) < (l1.length:Int) then (l1.length:Int) else (l0.length:Int)) = d1:=cb
   have go:(if l0.length < l1.length then (l1.length:Int) else (l0.length:Int)) = d1:=by rw [← eg];simp only [Int.ofNat_lt]
   by_cases c6:M < (d1)
   ·rw [if_pos c6] at H
    have fs:=decide_eq_true c6
    clear c6
    obtain ⟨j,A7,H⟩:=af.be H
    (try dsimp only at H)
    obtain ⟨y,A8,H⟩:=af.be H
    (try dsimp only at H)
    obtain ⟨ab,ar⟩:∃ j_:Int,(mx (j.length:Int) (y.length:Int)) = j_:=⟨_,rfl⟩
    replace H:(if 0≤(ab) then (if (ab:Int).toNat≤35184372088832 then (aU.l1 k1 l0 l1 a2 M y (List.replicate (ab:Int).toNat 0) j (j.length:Int) 0) else (none)) else (none)) = some r:=by first | (rw [ar] at H;exact H) | (simp only [ar] at H ⊢;exact H)
    (try rw [ar] at A7)
    (try rw [ar] at A8)
    (try (have ht:0≤ab:=by (rw [← ar];unfold mx;(repeat' split) <;> omega)))
    (try (have hu:0≤ab:=by omega))
    have eh:(if (j.length:Int) < (y.length:Int) then (y.length:Int) else (j.length:Int)) = ab:=ar
    have gs:(if j.length < y.length then (y.length:Int) else (j.length:Int)) = ab:=by rw [← eh];simp only [Int.ofNat_lt]
    obtain ⟨gz,H⟩:=af.ip H
    have hx:=eq_true gz
    have hz:decide (0≤(ab)) = true:=decide_eq_true gz
    clear gz
    obtain ⟨ej,H⟩:=af.ip H
    have hA:=eq_true ej
    have hC:decide ((ab:Int).toNat≤35184372088832) = true:=decide_eq_true ej
    clear ej
    obtain ⟨d2,b0⟩:∃ y_:List Int,y_ = (List.replicate (ab:Int).toNat 0):=⟨_,rfl⟩
    replace H:(aU.l1 k1 l0 l1 a2 M y d2 j (j.length:Int) 0) = some r:=by (try rw [b0]);exact af.Z
    have cc:=ae.mk b0
    clear b0
    have H':=ae.mk H
    clear H
    go_upto_if 29 with (first | (refine af.lt (Kd.int .i64) 3 24 ?_;intro hD hE d3 hb bo a6;clear bo a6;have cd:=ae.mk (Kd.aX (ok':=fun k_=>some k_≠(u5:Value).ownBlock) (Kd.b9 (Kd.dc d3 (Kd.cF (af.Sw z.out))) (aj (af.Lw HB.out))) (fun _ hk=>hk.2));replace z:=ae.mk (Kd.dQ (af.Sw z.out) hb);replace HB:=af.lb HB hb;clear hb d3;obtain ⟨jp,k0,el⟩:=Kd.aY cd.out;subst el) | (refine af.lt (Kd.int .i64) 3 25 ?_;intro hD hE d3 hb bo a6;clear bo a6;have bi:=ae.mk (Kd.aX (ok':=fun k_=>some k_≠(u5:Value).ownBlock) (Kd.b9 (Kd.dc d3 (Kd.cF (af.Sw z.out))) (aj (af.Lw HB.out))) (fun _ hk=>hk.2));replace cd:=af.rb cd hb;replace z:=ae.mk (Kd.dQ (af.Sw z.out) hb);replace HB:=af.lb HB hb;clear hb d3;obtain ⟨hG,hH,el⟩:=Kd.aY bi.out;subst el))
    go_cut [7] from 15 to 81 (fun em wc=>∃ (d4:Option Addr) (d5:Nat),em = .slice d4 j.length d5∧ae (Kd.V (Kd.int .i64) 3 wc w.heap.size (fun k_=>some k_≠(u5:Value).ownBlock) (.slice d4 j.length d5) j)∧ae (Kd.R (Kd.int .i64) 3 wc w.heap.size (fun k_=>some k_≠(u5:Value).ownBlock) (.slice hG ([]:List Int).length hH) [])∧ae (Kd.S (Kd.slice 3 (Kd.int .i64)) 28 wc w.heap.size (fun _=>True) u5 a2)∧ae (Below w.heap.size w wc))
    case first =>
     have a4:=A7.out
     unfold ei.f at a4
     by_cases b1:M≥(l0.length:Int)
     ·rw [if_pos b1] at a4
      have al:decide (M < (l0.length:Int)) = false:=decide_eq_false (by omega)
      clear b1
      obtain rfl:=Option.some.inj a4
      (first | rw [al] | (simp only [bw,bW];rw [al]) | skip)
      go_wp2
      go_meet
      case rel=>exact ⟨_,_,rfl,⟨Kd.wQ (af.Rw cd.out)⟩,⟨af.Rw bi.out⟩,⟨af.Sw z.out⟩,⟨af.Lw HB.out⟩⟩
     ·rw [if_neg b1] at a4
      by_cases am:0≤M
      ·rw [if_pos am] at a4
       have q_:M < (l0.length:Int):=by omega
       rw [if_pos q_] at a4
       obtain rfl:=Option.some.inj a4
       have al:decide (M < (l0.length:Int)) = true:=decide_eq_true q_
       obtain ⟨hI,hL,hM,eo,d6,d7,d8⟩:=gM hl.out M am q_
       cases eo
       have hO:=fQ HB.out d6
       clear b1
       replace am:=eq_true am
       replace q_:=eq_true q_
       have eq:=ae.mk (Kd.ic (ok':=fun k_=>some k_≠(u5:Value).ownBlock) (Kd.sx (e:=3) (base:=w.heap.size) d7 (Kd.jg (Kd.wO (Kd.kU .i64) d8) HB.out)) (fun k_ d9=>fun e_=>Nat.not_le.2 d9 (Kd.bh z.out k_ e_.symm)))
       clear d6 d7 d8
       (first | rw [al] | (simp only [bw,bW];rw [al]) | skip)
       go_wp2
       go_meet
       case rel=>exact ⟨_,_,rfl,⟨by (with_reducible repeat (first | apply Kd.dW | apply Kd.dX | apply Kd.eB));exact eq.out⟩,⟨af.Rw bi.out⟩,⟨af.Sw z.out⟩,⟨af.Lw HB.out⟩⟩
      ·rw [if_neg am] at a4
       exact absurd a4 (by simp)
    obtain ⟨e2,e3,rfl,a5,bi,z,HB⟩:=hcut
    go_upto_if 37 with (fail)
    go_cut [8] from 15 to 81 (fun em wc=>∃ (d4:Option Addr) (d5:Nat),em = .slice d4 y.length d5∧ae (Kd.V (Kd.int .i64) 3 wc w.heap.size (fun k_=>some k_≠(u5:Value).ownBlock) (.slice d4 y.length d5) y)∧ae (Kd.V (Kd.int .i64) 3 wc w.heap.size (fun k_=>some k_≠(u5:Value).ownBlock) (.slice e2 j.length e3) j)∧ae (Kd.S (Kd.slice 3 (Kd.int .i64)) 28 wc w.heap.size (fun _=>True) u5 a2)∧ae (Below w.heap.size w wc))
    case first =>
     have a4:=A8.out
     unfold ei.f at a4
     by_cases b1:M≥(l1.length:Int)
     ·rw [if_pos b1] at a4
      have al:decide (M < (l1.length:Int)) = false:=decide_eq_false (by omega)
      clear b1
      obtain rfl:=Option.some.inj a4
      (first | rw [al] | (simp only [bw,bW];rw [al]) | skip)
      go_wp2
      go_meet
      case rel=>exact ⟨_,_,rfl,⟨Kd.wQ (af.Rw bi.out)⟩,⟨by (with_reducible repeat (first | apply Kd.dW | apply Kd.dX | apply Kd.eB));exact a5.out⟩,⟨af.Sw z.out⟩,⟨af.Lw HB.out⟩⟩
     ·rw [if_neg b1] at a4
      by_cases am:0≤M
      ·rw [if_pos am] at a4
       have q_:M < (l1.length:Int):=by omega
       rw [if_pos q_] at a4
       obtain rfl:=Option.some.inj a4
       have al:decide (M < (l1.length:Int)) = true:=decide_eq_true q_
       obtain ⟨hI,hL,hM,eo,d6,d7,d8⟩:=gM hm.out M am q_
       cases eo
       have hO:=fQ HB.out d6
       clear b1
       replace am:=eq_true am
       replace q_:=eq_true q_
       have eq:=ae.mk (Kd.ic (ok':=fun k_=>some k_≠(u5:Value).ownBlock) (Kd.sx (e:=3) (base:=w.heap.size) d7 (Kd.jg (Kd.wO (Kd.kU .i64) d8) HB.out)) (fun k_ d9=>fun e_=>Nat.not_le.2 d9 (Kd.bh z.out k_ e_.symm)))
       clear d6 d7 d8
       (first | rw [al] | (simp only [bw,bW];rw [al]) | skip)
       go_wp2
       go_meet
       case rel=>exact ⟨_,_,rfl,⟨by (with_reducible repeat (first | apply Kd.dW | apply Kd.dX | apply Kd.eB));exact eq.out⟩,⟨by (with_reducible repeat (first | apply Kd.dW | apply Kd.dX | apply Kd.eB));exact a5.out⟩,⟨af.Sw z.out⟩,⟨af.Lw HB.out⟩⟩
      ·rw [if_neg am] at a4
       exact absurd a4 (by simp)
    obtain ⟨e4,e8,rfl,b2,a5,z,HB⟩:=hcut
    go_wp2_with (first | ((with_reducible refine bJ (N:=47) rfl ?_);refine Kd.lD (Kd.int .i64) _ 3 rfl (N:=47) rfl 28 _ _ rfl ab rfl rfl Tryz.underlying28 (.int .i64 0) 8 eJ rfl (by decide) (by omega) 0 (ok:=fun _=>True) (okp:=fun _=>True) rfl (fun _ hk=>hk) trivial (af.D) (Nat.le_trans (Nat.mul_le_mul_right _ (af.D:ab.toNat≤35184372088832)) (by omega)) (Below.refl _ _) (Nat.le_refl _) ?_;intro a7 k4 aa hb bo a6;clear bo a6;(first | rw [← cc.out] at aa | (simp only [Int.reduceToNat] at aa;rw [← cc.out] at aa));replace z:=ae.mk (Kd.aA (af.Sw z.out) (Kd.bF aa) hb);replace a5:=ae.mk (Kd.jX (by (with_reducible repeat (first | apply Kd.dW | apply Kd.dX | apply Kd.eB));exact a5.out) (Kd.bF aa) hb);replace b2:=ae.mk (Kd.jX (by (with_reducible repeat (first | apply Kd.dW | apply Kd.dX | apply Kd.eB));exact b2.out) (Kd.bF aa) hb);have du:=ae.mk (Kd.b9 aa (aj (af.Lw HB.out)));replace HB:=af.lb HB hb;clear hb aa))
    go_loopg [50] k1 (fun kq v50 w'=>∃ (a3:List Int) (X:Int),v50 = .int .i64 X∧ae (aU.l1 kq l0 l1 a2 M y a3 j (j.length:Int) X = some r)∧ae (kq≤k1)∧ae (Kd.S (Kd.slice 3 (Kd.int .i64)) 28 w' w.heap.size (fun k_=>some k_≠(a7:Value).ownBlock) u5 a2)∧ae (Kd.V (Kd.int .i64) 3 w' w.heap.size (fun k_=>some k_≠(u5:Value).ownBlock∧some k_≠(a7:Value).ownBlock) (.slice e4 y.length e8) y)∧ae (Kd.R (Kd.int .i64) 3 w' w.heap.size (fun _=>True) a7 a3)∧ae (Kd.V (Kd.int .i64) 3 w' w.heap.size (fun k_=>some k_≠(u5:Value).ownBlock∧some k_≠(a7:Value).ownBlock) (.slice e2 j.length e3) j)∧ae (Below w.heap.size w w'))
    case atStart=>exact ⟨(d2),(0),af.F,H',⟨Nat.le_refl _⟩,⟨af.Sw (Kd.dh z.out (fun _ hk=>hk.2))⟩,⟨by (with_reducible repeat (first | apply Kd.dW | apply Kd.dX | apply Kd.eB));exact b2.out⟩,⟨af.Rw du.out⟩,⟨by (with_reducible repeat (first | apply Kd.dW | apply Kd.dX | apply Kd.eB));exact a5.out⟩,⟨af.Lw HB.out⟩⟩
    case round =>
     clear H'
     obtain ⟨a3,X,rfl,HA,ci,z,ce,a0,b3,HB⟩:=hrel
     cases gk with
     | zero=>exact absurd HA.out (by simp [aU.l1])
     | succ k2 =>
      have H:=HA.out
      clear HA
      simp only [aU.l1] at H
      by_cases cp:X < (j.length:Int)
      ·rw [if_pos cp] at H
       have es:=decide_eq_true cp
       clear cp
       obtain ⟨ft,H⟩:=af.ip H
       have hP:=decide_eq_true ft
       clear ft
       obtain ⟨fw,H⟩:=af.ip H
       have hR:=decide_eq_true fw
       clear fw
       obtain ⟨fx,H⟩:=af.ip H
       have hT:=decide_eq_true fx
       clear fx
       obtain ⟨bs,b4⟩:∃ y_:List Int,y_ = (a3.set (X:Int).toNat (wrap64 ((rd a3 X)+(rd j X)))):=⟨_,rfl⟩
       replace H:(aU.l1 k2 l0 l1 a2 M y bs j (j.length:Int) (wrap64 (X+1))) = some r:=by (try rw [b4]);exact af.Z
       have dv:=ae.mk b4
       clear b4
       have H':=ae.mk H
       clear H
       obtain ⟨gt,et,cx,hU,ev⟩:=af.ai (Kd.jt b3.out).2.2 X
       cases et
       obtain ⟨i5,ao,fy⟩:=Kd.aY a0.out
       subst fy
       obtain ⟨h0,ew,aw,hV,ex⟩:=af.ai (Kd.au a0.out).2.2 X
       cases ew
       have eQ:0≤(X:Int):=af.D
       have db:(X:Int) < ((a3.length:Int):Int):=af.D
       obtain ⟨a9,i6,ea,eb,fX,i7,ec⟩:=Kd.jm a0.out (by omega)
       (first | cases ea | (injection ea with ba f0 f1;(first | subst ba | (injection ba with ba;subst ba));subst f1;clear f0))
       have fY:=ae.mk eb
       have i8:=ae.mk ec
       clear eb fX ec
       (first | simp only [add_plain] at aw | skip)
       obtain ⟨dC,h6⟩:=Kd.gH 0 a0.out (X:Int) eQ db
       replace eQ:=eq_true eQ
       replace db:=eq_true db
       have dd:=Kd.jV a0.out (X:Int) (wrap64 ((rd a3 X)+(rd j X)))
       go_wp2_with (first | ((with_reducible refine fT (t:=3) (p:=61) rfl ?_);refine fq (t:=3) (p:=61) (v:=?vo_w25) (w1:=(wr.setCell ⟨a9,(X:Int).toNat,none⟩ (.int .i64 (wrap64 ((rd a3 X)+(rd j X)))))) ?hg ?ho ?hn ?hr ?_;(case ho=>rfl);(case hg=>rfl);(case hn=>rfl);(case hr=>first | (go_simp;done) | (go_simp;rfl));intro f2 hw;have hg:wr.grownBy f2 (some a9):=(by rw [hw];exact dd.2);have df:Kd.R (Kd.int .i64) 3 f2 w.heap.size (fun _=>True) (.slice (some ⟨a9,0,none⟩) a3.length ao) bs:=(by rw [hw,dv.out];exact dd.1);clear dd;replace z:=ae.mk (Kd.mq (v:=(.slice (some ⟨a9,0,none⟩) a3.length ao)) (v1:=(.slice (some ⟨a9,0,none⟩) a3.length ao)) (ok:=(fun _=>True)) (af.Sw (Kd.dh z.out (fun _ hk=>⟨trivial,hk⟩))) hg (.inl rfl));replace ce:=ae.mk (Kd.jW (v:=(.slice (some ⟨a9,0,none⟩) a3.length ao)) (v1:=(.slice (some ⟨a9,0,none⟩) a3.length ao)) (ok:=(fun k_=>some k_≠(u5:Value).ownBlock)) (by (with_reducible repeat (first | apply Kd.dW | apply Kd.dX | apply Kd.eB));exact ce.out) hg (.inl rfl));replace a0:=ae.mk df;replace b3:=ae.mk (Kd.jW (v:=(.slice (some ⟨a9,0,none⟩) a3.length ao)) (v1:=(.slice (some ⟨a9,0,none⟩) a3.length ao)) (ok:=(fun k_=>some k_≠(u5:Value).ownBlock)) (by (with_reducible repeat (first | apply Kd.dW | apply Kd.dX | apply Kd.eB));exact b3.out) hg (.inl rfl));replace HB:=ae.mk ((by rw [hw];exact dK (HB.out) fY.out:Below w.heap.size w f2));clear hg hw df))
       go_roundg k2
       case measure=>have:=cf.out;have:=ci.out;omega
       case rel=>exact ⟨(bs),(wrap64 (X+1)),af.F,H',⟨by have:=cf.out;have:=ci.out;omega⟩,⟨af.Sw (Kd.dh z.out (fun _ hk=>hk.2))⟩,⟨by (with_reducible repeat (first | apply Kd.dW | apply Kd.dX | apply Kd.eB));exact ce.out⟩,⟨af.Rw a0.out⟩,⟨by (with_reducible repeat (first | apply Kd.dW | apply Kd.dX | apply Kd.eB));exact b3.out⟩,⟨af.Lw HB.out⟩⟩
      ·rw [if_neg cp] at H
       have es:decide (X < (j.length:Int)) = false:=decide_eq_false cp
       clear cp
       have H':=ae.mk H
       clear H
       go_wp2
       go_loopg [65] k2 (fun kq hW w'=>∃ (a1:List Int) (Y:Int),hW = .int .i64 Y∧ae (aU.l2 kq l0 l1 a2 M a1 y (y.length:Int) Y = some r)∧ae (kq≤k2)∧ae (Kd.S (Kd.slice 3 (Kd.int .i64)) 28 w' w.heap.size (fun k_=>some k_≠(a7:Value).ownBlock) u5 a2)∧ae (Kd.R (Kd.int .i64) 3 w' w.heap.size (fun _=>True) a7 a1)∧ae (Kd.V (Kd.int .i64) 3 w' w.heap.size (fun k_=>some k_≠(u5:Value).ownBlock∧some k_≠(a7:Value).ownBlock) (.slice e4 y.length e8) y)∧ae (Below w.heap.size w w'))
       case atStart=>exact ⟨(a3),(0),af.F,H',⟨Nat.le_refl _⟩,⟨af.Sw z.out⟩,⟨af.Rw a0.out⟩,⟨by (with_reducible repeat (first | apply Kd.dW | apply Kd.dX | apply Kd.eB));exact ce.out⟩,⟨af.Lw HB.out⟩⟩
       case round =>
        clear H'
        try clear q1
        try clear k5
        try clear q2
        try clear ka
        try clear kb
        try clear kc
        try clear i9
        try clear db
        try clear ib
        try clear ie
        try clear cx
        try clear aw
        try clear dC
        try clear ev
        try clear ex
        try clear db
        obtain ⟨a1,Y,rfl,HA,dE,z,a0,a8,HB⟩:=hrel
        cases gk with
        | zero=>exact absurd HA.out (by simp [aU.l2])
        | succ k3 =>
         have H:=HA.out
         clear HA
         simp only [aU.l2] at H
         by_cases cy:Y < (y.length:Int)
         ·rw [if_pos cy] at H
          have f3:=decide_eq_true cy
          clear cy
          obtain ⟨g0,H⟩:=af.ip H
          have hX:=decide_eq_true g0
          clear g0
          obtain ⟨g1,H⟩:=af.ip H
          have hY:=decide_eq_true g1
          clear g1
          obtain ⟨g2,H⟩:=af.ip H
          have hZ:=decide_eq_true g2
          clear g2
          obtain ⟨bv,bc⟩:∃ y_:List Int,y_ = (a1.set (Y:Int).toNat (wrap64 ((rd a1 Y)+(rd y Y)))):=⟨_,rfl⟩
          replace H:(aU.l2 k3 l0 l1 a2 M bv y (y.length:Int) (wrap64 (Y+1))) = some r:=by (try rw [bc]);exact af.Z
          have dT:=ae.mk bc
          clear bc
          have H':=ae.mk H
          clear H
          obtain ⟨h7,f4,fa,i0,i1⟩:=af.ai (Kd.jt a8.out).2.2 Y
          cases f4
          obtain ⟨ih,bm,g3⟩:=Kd.aY a0.out
          subst g3
          obtain ⟨h8,f5,cX,i2,i3⟩:=af.ai (Kd.au a0.out).2.2 Y
          cases f5
          have f6:0≤(Y:Int):=af.D
          have f7:(Y:Int) < ((a1.length:Int):Int):=af.D
          obtain ⟨ap,ii,ed,ee,g4,il,ef⟩:=Kd.jm a0.out (by omega)
          (first | cases ed | (injection ed with ba f0 f1;(first | subst ba | (injection ba with ba;subst ba));subst f1;clear f0))
          have g5:=ae.mk ee
          have im:=ae.mk ef
          clear ee g4 ef
          (first | simp only [add_plain] at cX | skip)
          obtain ⟨h9,hj⟩:=Kd.gH 0 a0.out (Y:Int) f6 f7
          replace f6:=eq_true f6
          replace f7:=eq_true f7
          have dk:=Kd.jV a0.out (Y:Int) (wrap64 ((rd a1 Y)+(rd y Y)))
          go_wp2_with (first | ((with_reducible refine fT (t:=3) (p:=76) rfl ?_);refine fq (t:=3) (p:=76) (v:=?vo_w33) (w1:=(wr.setCell ⟨ap,(Y:Int).toNat,none⟩ (.int .i64 (wrap64 ((rd a1 Y)+(rd y Y)))))) ?hg ?ho ?hn ?hr ?_;(case ho=>rfl);(case hg=>rfl);(case hn=>rfl);(case hr=>first | (go_simp;done) | (go_simp;rfl));intro f8 hw;have hg:wr.grownBy f8 (some ap):=(by rw [hw];exact dk.2);have df:Kd.R (Kd.int .i64) 3 f8 w.heap.size (fun _=>True) (.slice (some ⟨ap,0,none⟩) a1.length bm) bv:=(by rw [hw,dT.out];exact dk.1);clear dk;replace z:=ae.mk (Kd.mq (v:=(.slice (some ⟨ap,0,none⟩) a1.length bm)) (v1:=(.slice (some ⟨ap,0,none⟩) a1.length bm)) (ok:=(fun _=>True)) (af.Sw (Kd.dh z.out (fun _ hk=>⟨trivial,hk⟩))) hg (.inl rfl));replace a0:=ae.mk df;replace a8:=ae.mk (Kd.jW (v:=(.slice (some ⟨ap,0,none⟩) a1.length bm)) (v1:=(.slice (some ⟨ap,0,none⟩) a1.length bm)) (ok:=(fun k_=>some k_≠(u5:Value).ownBlock)) (by (with_reducible repeat (first | apply Kd.dW | apply Kd.dX | apply Kd.eB));exact a8.out) hg (.inl rfl));replace HB:=ae.mk ((by rw [hw];exact dK (HB.out) g5.out:Below w.heap.size w f8));clear hg hw df))
          go_roundg k3
          case measure=>have:=cf.out;have:=ci.out;have:=dE.out;omega
          case rel=>exact ⟨(bv),(wrap64 (Y+1)),af.F,H',⟨by have:=cf.out;have:=ci.out;have:=dE.out;omega⟩,⟨af.Sw (Kd.dh z.out (fun _ hk=>hk.2))⟩,⟨af.Rw a0.out⟩,⟨by (with_reducible repeat (first | apply Kd.dW | apply Kd.dX | apply Kd.eB));exact a8.out⟩,⟨af.Lw HB.out⟩⟩
         ·rw [if_neg cy] at H
          have f3:decide (Y < (y.length:Int)) = false:=decide_eq_false cy
          clear cy
          obtain ⟨g6,H⟩:=af.ip H
          have f9:=ae.mk g6
          clear g6
          obtain ⟨dl,bd⟩:∃ y_:List (List Int),y_ = (a2 ++ [a1]):=⟨_,rfl⟩
          replace H:(aU.l0 k3 l0 l1 dl (wrap64 (M+1))) = some r:=by (try rw [bd]);exact af.Z
          have e0:=ae.mk bd
          clear bd
          have H':=ae.mk H
          clear H
          obtain ⟨dp,dq,g7⟩:=Kd.aY a0.out
          subst g7
          go_wp2_with (first | ((with_reducible refine cB (b:=.append) (xs:=#[.tmp 78,.tmp 80]) rfl ?_);at_builtin;refine Kd.j4 (Kd.slice 3 (Kd.int .i64)) (w0:=w) w.heap.size rfl (.tmp 78) (.tmp 80) 57 28 (.slice none 0 0) 24 rfl Tryz.underlying57 jZ rfl (by decide) (by omega) u5 a2 a1 [.slice dp a1.length dq] (fun _=>True) (fun k_=>some k_ = (.slice dp a1.length dq:Value).ownBlock) rfl rfl ?aP (fun k_ d9=>((Kd.aX (ok':=fun k_=>((fun _=>True)) k_∧some k_≠(u5:Value).ownBlock) (Kd.fh (a0.out) (Kd.gb z.out) (by decide)) (fun k_ hk=>⟨trivial,hk.2⟩))).1 k_ d9.symm) ?aF ?aO ?aB ?aS ?aL ?_;(case aP=>exact Kd.kC (Kd.aX (Kd.iF rfl (Kd.aX (ok':=fun k_=>((fun _=>True)) k_∧some k_≠(u5:Value).ownBlock) (Kd.fh (a0.out) (Kd.gb z.out) (by decide)) (fun k_ hk=>⟨trivial,hk.2⟩))) (fun _ h_=>h_)));(case aB=>exact (af.Lw HB.out));(case aF=>exact (fun _ _=>trivial));(case aO=>exact (af.Sw (Kd.dh z.out (fun k_ hk=>⟨trivial,fun e_=>hk e_⟩))));(case aS=>exact (aj (af.Lw HB.out)));(case aL=>have:=f9.out;omega);intro i4 kd ho hb hg hat;rw [← e0.out] at ho;have g8:=ae.mk (Kd.jW (ok:=(fun k_=>some k_≠(.slice dp a1.length dq:Value).ownBlock)) (by (with_reducible repeat (first | apply Kd.dW | apply Kd.dX | apply Kd.eB));exact Kd.ic a8.out (fun _ hk=>(by first | exact ⟨hk.2,hk.1⟩ | (simp_all;done)))) hg hat);have g9:=ae.mk hb;have gc:=ae.mk ho;clear a8;clear HB;clear z;clear a0;have a8:=g8;have HB:=g9;have e1:=gc;clear g8 g9 gc;clear ho hb hg hat))
          go_roundg k3
          case measure=>have:=cf.out;have:=ci.out;have:=dE.out;omega
          case rel=>exact ⟨(dl),(wrap64 (M+1)),af.F,H',⟨by have:=cf.out;have:=ci.out;have:=dE.out;omega⟩,⟨af.Sw e1.out⟩,⟨af.Lw HB.out⟩⟩
   ·rw [if_neg c6] at H
    have fs:decide (M < (d1)) = false:=decide_eq_false c6
    clear c6
    obtain rfl:=Option.some.inj H
    go_wp2
    go_ret
    exact ⟨_,by first | rfl | (simp [gj,gm] <;> rfl) | (simp only [← cb];first | rfl | (simp [gj,gm] <;> rfl)) | (simp [*,gj,gm] <;> rfl),by (with_reducible repeat (first | apply Kd.fE | apply Kd.fF | apply Kd.ez));exact z.out,af.L⟩
mutual
def aJ.l0:Nat→List (List Int)→List (List Int)→List (List Int)→Int→Option ((List (List Int)))
 | 0,_,_,_,_=>none
 | k+1,x0,x1,x5,Y=>(dO.f (x0.length:Int) (x1.length:Int)).bind fun a0=>(if Y < a0 then ((ei.f x0 Y).bind fun M=>((ei.f x1 Y).bind fun X=>((dO.f (M.length:Int) (X.length:Int)).bind fun j=>(if 0≤j then (if (j:Int).toNat≤35184372088832 then (aJ.l1 k x0 x1 x5 Y M X (List.replicate (j:Int).toNat 0) 0) else (none)) else (none))))) else (some x5))
def aJ.l1:Nat→List (List Int)→List (List Int)→List (List Int)→Int→List Int→List Int→List Int→Int→Option ((List (List Int)))
 | 0,_,_,_,_,_,_,_,_=>none
 | k+1,x0,x1,x5,Y,x7,x8,x9,y=>if y < (x7.length:Int) then (if 0≤y then (if y < (x9.length:Int) then (aJ.l1 k x0 x1 x5 Y x7 x8 (x9.set (y:Int).toNat (wrap64 ((rd x9 y)+(rd x7 y)))) (wrap64 (y+1))) else (none)) else (none)) else (aJ.l2 k x0 x1 x5 Y x8 x9 0)
def aJ.l2:Nat→List (List Int)→List (List Int)→List (List Int)→Int→List Int→List Int→Int→Option ((List (List Int)))
 | 0,_,_,_,_,_,_,_=>none
 | k+1,x0,x1,x5,Y,x8,x9,z=>if z < (x8.length:Int) then (if 0≤z then (if z < (x9.length:Int) then (aJ.l2 k x0 x1 x5 Y x8 (x9.set (z:Int).toNat (wrap64 ((rd x9 z)+(rd x8 z)))) (wrap64 (z+1))) else (none)) else (none)) else (if x5.length < 5864062014805 then (aJ.l0 k x0 x1 (x5 ++ [x9]) (wrap64 (Y+1))) else (none))
end
def aJ.f (k:Nat) (l0:List (List Int)) (l1:List (List Int)):Option ((List (List Int))):=aJ.l0 k l0 l1 (([]:List (List Int))) 0
def aJ.wo:Bool×List (List Nat×List Nat):=(true,[([],[]),([],[]),([],[]),([],[]),([2,3],[2,3]),([4],[4]),([],[]),([],[]),([6,7],[6,7]),([8],[8]),([5,9],[5,9]),([0,1,0,1,2,3,4,5,6,7,8,9,10],[0,1]),([11,10,0,1,2,3,4,5,6,7,8,9,10],[10,11])])
def aJ.wS:List Nat:=[0,0,0,0,12,28,0,0,192,448,1020,2047,4095]
theorem aJ.sL:gr .any (opsOf Tryz.f59 11) = aJ.wo:=by kernel_rfl
theorem aJ.pP:eL aJ.wo.2 aJ.wS = true:=by kernel_rfl
def aJ.xj:Bool×List (List Nat×List Nat):=(true,[([],[]),([],[]),([],[]),([],[]),([2,3],[2,3]),([4],[4]),([],[]),([],[]),([6,7],[6,7]),([8],[8]),([5,9],[5,9]),([0,1,0,1,2,3,4,5,6,7,8,9,10],[0,1]),([11,10,0,1,2,3,4,5,6,7,8,9,10],[10,11])])
def aJ.xy:List Nat:=[0,0,0,0,12,28,0,0,192,448,1020,2047,4095]
theorem aJ.wq:gr .any (opsOf Tryz.f59 15) = aJ.xj:=by kernel_rfl
theorem aJ.vy:eL aJ.xj.2 aJ.xy = true:=by kernel_rfl
set_option maxHeartbeats 8000000 in
set_option maxRecDepth 100000 in
theorem aJ.calls (k:Nat) (A0:Option Addr) (c0:Nat) (l0:List (List Int)) (A1:Option Addr) (c1:Nat) (l1:List (List Int)) (r:List (List Int)) (w:World) (f1:Kd.C (Kd.slice 3 (Kd.int .i64)) w A0 l0.length l0) (f2:l0.length≤c0) (f3:Kd.C (Kd.slice 3 (Kd.int .i64)) w A1 l1.length l1) (f4:l1.length≤c1) (h:aJ.f k l0 l1 = some r) :
  Calls Tryz.prog 59 #[.slice A0 l0.length c0,.slice A1 l1.length c1] w fun e w'=>∃ f5:Value,e = .returned (f5)∧Kd.S (Kd.slice 3 (Kd.int .i64)) 28 w' w.heap.size (fun _=>True) f5 r∧Below w.heap.size w w':=by
 have g5:=ae.mk f1
 have g6:=ae.mk f2
 clear f1 f2
 have g7:=ae.mk f3
 have g8:=ae.mk f4
 clear f3 f4
 have HB:=ae.mk (Below.refl w.heap.size w)
 unfold aJ.f at h
 have H:=h
 clear h
 obtain ⟨cb,ar⟩:∃ y_:List (List Int),y_ = (([]:List (List Int))):=⟨_,rfl⟩
 replace H:(aJ.l0 k l0 l1 cb 0) = some r:=by (try rw [ar]);exact af.Z
 have bd:=ae.mk ar
 clear ar
 have H':=ae.mk H
 clear H
 go_enter Tryz.func59,Tryz.ntmps59
 go_wp2_with (first | ((with_reducible refine bJ (N:=12) rfl ?_);refine Kd.mM (Kd.slice 3 (Kd.int .i64)) _ 28 ?hg (N:=12) ?hd (xs:=([]:List (List Int))) (inner:=[]) (ok:=fun _=>True) (okp:=fun _=>True) ?hr ?hp (fun _ hk=>hk) trivial (Below.refl _ _) (Nat.le_refl _) (by simp) ?_;(case hd=>rfl);(case hg=>rfl);(case hr=>first | (go_simp;done) | (go_simp;rfl));(case hp=>exact (cE.none _ _));intro g9 w3 cc hb ea bc;clear ea bc;(first | rw [← bd.out] at cc | (simp only [Int.reduceToNat] at cc;rw [← bd.out] at cc));have d5:=ae.mk (Kd.cT cc (aj (af.Lw HB.out)));replace HB:=af.lb HB hb;clear hb cc))
 go_loopg [5,6] k (fun kq v5 v6 w'=>∃ (a4:List (List Int)) (a1:Int),v6 = .int .i64 a1∧ae (aJ.l0 kq l0 l1 a4 a1 = some r)∧ae (kq≤k)∧ae (Kd.S (Kd.slice 3 (Kd.int .i64)) 28 w' w.heap.size (fun _=>True) v5 a4)∧ae (Below w.heap.size w w'))
 case atStart=>exact ⟨(cb),(0),af.F,H',⟨Nat.le_refl _⟩,⟨af.Sw d5.out⟩,⟨af.Lw HB.out⟩⟩
 case round =>
  clear H'
  obtain ⟨a4,a1,rfl,HA,bo,z,HB⟩:=hrel
  cases gk with
  | zero=>exact absurd HA.out (by simp [aJ.l0])
  | succ k1 =>
   have H:=HA.out
   clear HA
   simp only [aJ.l0] at H
   obtain ⟨aw,A5,H⟩:=af.be H
   (try dsimp only at H)
   by_cases c6:a1 < aw
   ·rw [if_pos c6] at H
    have f6:=decide_eq_true c6
    clear c6
    obtain ⟨Y,A7,H⟩:=af.be H
    (try dsimp only at H)
    obtain ⟨M,A8,H⟩:=af.be H
    (try dsimp only at H)
    obtain ⟨a9,A9,H⟩:=af.be H
    (try dsimp only at H)
    obtain ⟨gz,H⟩:=af.ip H
    have gc:=eq_true gz
    have go:decide (0≤a9) = true:=decide_eq_true gz
    clear gz
    obtain ⟨eb,H⟩:=af.ip H
    have gs:=eq_true eb
    have gt:decide ((a9:Int).toNat≤35184372088832) = true:=decide_eq_true eb
    clear eb
    obtain ⟨cd,aR⟩:∃ y_:List Int,y_ = (List.replicate (a9:Int).toNat 0):=⟨_,rfl⟩
    replace H:(aJ.l1 k1 l0 l1 a4 a1 Y M cd 0) = some r:=by (try rw [aR]);exact af.Z
    have bi:=ae.mk aR
    clear aR
    have H':=ae.mk H
    clear H
    go_wp2_with (first | (refine af.gl (some 18) Tryz.func121 #[.int .i64 (l0.length:Int),.int .i64 (l1.length:Int)] ?_;(with_reducible refine (dO.calls (l0.length:Int) (l1.length:Int) aw _ A5.out).mono ?_);rintro e w' ⟨rfl,⟨nd,rfl⟩⟩;refine ⟨_,rfl,?_⟩) | (refine af.gl (some 24) Tryz.func122 #[.slice A0 l0.length c0,.int .i64 a1] ?_;(with_reducible refine (ei.calls (fun k_=>k_ < w.heap.size) _ _ l0 a1 Y _ ?side1 A7.out).mono ?_);(case side1=>exact Kd.sx g6.out (Kd.jg (Kd.wO (Kd.mN 3 (Kd.kU .i64)) g5.out) (af.Lw HB.out)));rintro e hR ⟨h0,rfl,ce,hb⟩;refine ⟨_,rfl,?_⟩;have a6:=ae.mk (Kd.qt (Kd.ic (ok':=fun k_=>some k_≠(u5:Value).ownBlock) ce (fun k_ cf=>Or.elim cf (fun hs_=>fun e_=>Nat.not_le.2 hs_ (Kd.bh z.out k_ e_.symm)) (fun ec=>(Kd.fresh' (Kd.cF (af.Sw z.out)) k_ ec)))) (aj (af.Lw HB.out)));replace z:=ae.mk (Kd.dQ (af.Sw z.out) hb);replace HB:=af.lb HB hb;(try clear hb);(try clear h6);(try clear hk);(try clear hi);(try clear ce)) | (refine af.gl (some 27) Tryz.func122 #[.slice A1 l1.length c1,.int .i64 a1] ?_;(with_reducible refine (ei.calls (fun k_=>k_ < w.heap.size) _ _ l1 a1 M _ ?side1 A8.out).mono ?_);(case side1=>exact Kd.sx g8.out (Kd.jg (Kd.wO (Kd.mN 3 (Kd.kU .i64)) g7.out) (af.Lw HB.out)));rintro e hT ⟨h7,rfl,ce,hb⟩;refine ⟨_,rfl,?_⟩;replace a6:=ae.mk (Kd.tZ (by (with_reducible repeat (first | apply Kd.dW | apply Kd.dX | apply Kd.eB));exact a6.out) hb);have am:=ae.mk (Kd.qt (Kd.ic (ok':=fun k_=>some k_≠(u5:Value).ownBlock) ce (fun k_ cf=>Or.elim cf (fun hs_=>fun e_=>Nat.not_le.2 hs_ (Kd.bh z.out k_ e_.symm)) (fun ec=>(Kd.fresh' (Kd.cF (af.Sw z.out)) k_ ec)))) (aj (af.Lw HB.out)));replace z:=ae.mk (Kd.dQ (af.Sw z.out) hb);replace HB:=af.lb HB hb;(try clear hb);(try clear h6);(try clear hk);(try clear hi);(try clear ce);obtain ⟨f7,f8,f9⟩:=Kd.qq a6.out;subst f9;obtain ⟨dt,du,fa⟩:=Kd.qq am.out;subst fa) | (refine af.gl (some 32) Tryz.func121 #[.int .i64 (Y.length:Int),.int .i64 (M.length:Int)] ?_;(with_reducible refine (dO.calls (Y.length:Int) (M.length:Int) a9 _ A9.out).mono ?_);rintro e w' ⟨rfl,⟨nd,rfl⟩⟩;refine ⟨_,rfl,?_⟩) | ((with_reducible refine bJ (N:=33) rfl ?_);refine Kd.lD (Kd.int .i64) _ 3 rfl (N:=33) rfl 28 _ _ rfl a9 rfl rfl Tryz.underlying28 (.int .i64 0) 8 eJ rfl (by decide) (by omega) 0 (ok:=fun _=>True) (okp:=fun _=>True) rfl (fun _ hk=>hk) trivial (af.D) (Nat.le_trans (Nat.mul_le_mul_right _ (af.D:a9.toNat≤35184372088832)) (by omega)) (Below.refl _ _) (Nat.le_refl _) ?_;intro a8 hU al hb ea bc;clear ea bc;(first | rw [← bi.out] at al | (simp only [Int.reduceToNat] at al;rw [← bi.out] at al));replace z:=ae.mk (Kd.aA (af.Sw z.out) (Kd.bF al) hb);replace a6:=ae.mk (Kd.jX (by (with_reducible repeat (first | apply Kd.dW | apply Kd.dX | apply Kd.eB));exact a6.out) (Kd.bF al) hb);replace am:=ae.mk (Kd.jX (by (with_reducible repeat (first | apply Kd.dW | apply Kd.dX | apply Kd.eB));exact am.out) (Kd.bF al) hb);have d6:=ae.mk (Kd.b9 al (aj (af.Lw HB.out)));replace HB:=af.lb HB hb;clear hb al))
    go_loopg [10] k1 (fun kq v10 w'=>∃ (a5:List Int) (j:Int),v10 = .int .i64 j∧ae (aJ.l1 kq l0 l1 a4 a1 Y M a5 j = some r)∧ae (kq≤k1)∧ae (Kd.S (Kd.slice 3 (Kd.int .i64)) 28 w' w.heap.size (fun k_=>some k_≠(a8:Value).ownBlock) u5 a4)∧ae (Kd.V (Kd.int .i64) 3 w' w.heap.size (fun k_=>some k_≠(u5:Value).ownBlock∧some k_≠(a8:Value).ownBlock) (.slice f7 Y.length f8) Y)∧ae (Kd.V (Kd.int .i64) 3 w' w.heap.size (fun k_=>some k_≠(u5:Value).ownBlock∧some k_≠(a8:Value).ownBlock) (.slice dt M.length du) M)∧ae (Kd.R (Kd.int .i64) 3 w' w.heap.size (fun _=>True) a8 a5)∧ae (Below w.heap.size w w'))
    case atStart=>exact ⟨(cd),(0),af.F,H',⟨Nat.le_refl _⟩,⟨af.Sw (Kd.dh z.out (fun _ hk=>hk.2))⟩,⟨by (with_reducible repeat (first | apply Kd.dW | apply Kd.dX | apply Kd.eB));exact a6.out⟩,⟨by (with_reducible repeat (first | apply Kd.dW | apply Kd.dX | apply Kd.eB));exact am.out⟩,⟨af.Rw d6.out⟩,⟨af.Lw HB.out⟩⟩
    case round =>
     clear H'
     obtain ⟨a5,j,rfl,HA,bs,z,b4,a3,X,HB⟩:=hrel
     cases gk with
     | zero=>exact absurd HA.out (by simp [aJ.l1])
     | succ k2 =>
      have H:=HA.out
      clear HA
      simp only [aJ.l1] at H
      by_cases bv:j < (Y.length:Int)
      ·rw [if_pos bv] at H
       have ed:=decide_eq_true bv
       clear bv
       obtain ⟨fd,H⟩:=af.ip H
       have h8:=decide_eq_true fd
       clear fd
       obtain ⟨fi,H⟩:=af.ip H
       have h9:=decide_eq_true fi
       clear fi
       obtain ⟨ci,b0⟩:∃ y_:List Int,y_ = (a5.set (j:Int).toNat (wrap64 ((rd a5 j)+(rd Y j)))):=⟨_,rfl⟩
       replace H:(aJ.l1 k2 l0 l1 a4 a1 Y M ci (wrap64 (j+1))) = some r:=by (try rw [b0]);exact af.Z
       have d7:=ae.mk b0
       clear b0
       have H':=ae.mk H
       clear H
       try go_wp2
       replace z:=ae.mk (Kd.ez z.out)
       replace b4:=ae.mk (Kd.eB b4.out)
       replace a3:=ae.mk (Kd.eB a3.out)
       replace X:=ae.mk (Kd.bS X.out)
       replace HB:=ae.mk (bU HB.out)
       obtain ⟨hA,hC,dv⟩:=Kd.aY X.out
       (first | subst dv | (injection dv with cp ee cx;have ef:=cp.symm;have eg:=cx.symm;clear cp ee cx;subst ef;subst eg))
       obtain ⟨g3,eh,a7,hj,ej⟩:=af.ai (Kd.au X.out).2.2 j
       cases eh
       obtain ⟨d8,el,aa,hl,em⟩:=af.ai (Kd.jt b4.out).2.2 j
       cases el
       have eo:0≤(j:Int):=af.D
       have cy:(j:Int) < ((a5.length:Int):Int):=af.D
       obtain ⟨ao,hD,dC,dE,fj,hE,dT⟩:=Kd.jm X.out (by omega)
       (first | cases dC | (injection dC with b1 eq es;(first | subst b1 | (injection b1 with b1;subst b1));subst es;clear eq))
       have fl:=ae.mk dE
       have fp:=ae.mk dT
       clear dE fj dT
       (first | simp only [add_plain] at a7 | skip)
       obtain ⟨bm,d9⟩:=Kd.gH 0 X.out (j:Int) eo cy
       replace eo:=eq_true eo
       replace cy:=eq_true cy
       have cX:=Kd.pI X.out (j:Int) (wrap64 ((rd a5 j)+(rd Y j)))
       rw [← d7.out] at cX
       have e0:=ae.mk cX
       clear cX
       refine eS (n:=13) (S:=fun w'=>w'.cell? ⟨ao,(j).toNat,none⟩ = some (.int .i64 (rd a5 j))∧w'.cell? (d8.add (j).toNat) = some (.int .i64 (rd Y j))) (ds:=[12]) #[false,false,false,false,false,false,false,false,false,false,false,false,false] (by kernel_rfl) rfl rfl ⟨a7,aa⟩ (fun hHeld=>?_);refine dn aJ.sL aJ.pP (fun a0 cY=>?_)
       generalize wr.drew = hV at z b4 a3 X HB fp e0 d9 a7 aa bm hHeld ⊢
       refine af.pu 0 40 a0 ?_
       refine af.pu 1 41 a0 ?_
       refine af.pu 2 42 a0 ?_
       refine af.pu 3 43 a0 ?_
       refine af.pu 4 44 a0 ?_
       refine af.pu 6 46 a0 ?_
       refine af.pu 7 47 a0 ?_
       refine af.pu 8 48 a0 ?_
       refine af.tk 5 45 a0 cY hHeld ?_
       refine af.tk 9 49 a0 cY hHeld ?_
       refine af.pu 10 50 a0 ?_
       refine af.pu 11 51 a0 ?_
       refine lY (i:=12) (N:=none) #[true,true,true,true,true,true,true,true,true,true,true,true,true] rfl rfl (dD a0.out (by kernel_rfl)) (by decide) (fun K hK=>?_)
       refine mL (w1:=?_) (by rfl) rfl ?_ ?_
       rotate_left
       ·go_simp
        rfl
       refine hK.out _ _ ?_
       clear hK K
       refine gh (er a0.out (by kernel_rfl)) ?_
       try go_wp2
       go_roundg k2
       case measure=>have:=bo.out;have:=bs.out;omega
       case rel=>exact ⟨(ci),(wrap64 (j+1)),af.F,H',⟨by have:=bo.out;have:=bs.out;omega⟩,⟨af.Sw (Kd.dh (Kd.uD (p:=⟨ao,(j:Int).toNat,none⟩) (Kd.dh z.out (fun k_ hk=>(⟨hk,fun e_=>hk (by rw [e_];rfl)⟩:_∧k_≠ao))) (fun _ hk=>hk.2) (.int .i64 (wrap64 ((rd a5 j)+(rd Y j))))) (fun _ hk=>hk.1))⟩,⟨by (with_reducible repeat (first | apply Kd.dW | apply Kd.dX | apply Kd.eB));exact Kd.ic (Kd.sA (p:=⟨ao,(j:Int).toNat,none⟩) (Kd.ic b4.out (fun k_ hk=>(⟨hk,fun e_=>hk.2 (by rw [e_];rfl)⟩:_∧k_≠ao))) (fun _ hk=>hk.2) (.int .i64 (wrap64 ((rd a5 j)+(rd Y j))))) (fun _ hk=>(by first | exact ⟨hk.1.1,hk.1.2⟩ | (simp_all;done)))⟩,⟨by (with_reducible repeat (first | apply Kd.dW | apply Kd.dX | apply Kd.eB));exact Kd.ic (Kd.sA (p:=⟨ao,(j:Int).toNat,none⟩) (Kd.ic a3.out (fun k_ hk=>(⟨hk,fun e_=>hk.2 (by rw [e_];rfl)⟩:_∧k_≠ao))) (fun _ hk=>hk.2) (.int .i64 (wrap64 ((rd a5 j)+(rd Y j))))) (fun _ hk=>(by first | exact ⟨hk.1.1,hk.1.2⟩ | (simp_all;done)))⟩,⟨af.Rw e0.out⟩,⟨by repeat (first | (with_reducible first | exact HB.out | apply dH | apply dA | apply bU | refine dK ?_ fl.out) | exact HB.out)⟩⟩
      ·rw [if_neg bv] at H
       have ed:decide (j < (Y.length:Int)) = false:=decide_eq_false bv
       clear bv
       have H':=ae.mk H
       clear H
       go_wp2
       go_loopg [11] k2 (fun kq v11 w'=>∃ (a2:List Int) (y:Int),v11 = .int .i64 y∧ae (aJ.l2 kq l0 l1 a4 a1 M a2 y = some r)∧ae (kq≤k2)∧ae (Kd.S (Kd.slice 3 (Kd.int .i64)) 28 w' w.heap.size (fun k_=>some k_≠(a8:Value).ownBlock) u5 a4)∧ae (Kd.V (Kd.int .i64) 3 w' w.heap.size (fun k_=>some k_≠(u5:Value).ownBlock∧some k_≠(a8:Value).ownBlock) (.slice dt M.length du) M)∧ae (Kd.R (Kd.int .i64) 3 w' w.heap.size (fun _=>True) a8 a2)∧ae (Below w.heap.size w w'))
       case atStart=>exact ⟨(a5),(0),af.F,H',⟨Nat.le_refl _⟩,⟨af.Sw z.out⟩,⟨by (with_reducible repeat (first | apply Kd.dW | apply Kd.dX | apply Kd.eB));exact a3.out⟩,⟨af.Rw X.out⟩,⟨af.Lw HB.out⟩⟩
       case round =>
        clear H'
        try clear q1
        try clear hW
        try clear q2
        try clear hX
        try clear hY
        try clear hZ
        try clear hG
        try clear cy
        try clear hH
        try clear hI
        try clear a7
        try clear aa
        try clear bm
        try clear ej
        try clear em
        try clear cy
        obtain ⟨a2,y,rfl,HA,db,z,a3,X,HB⟩:=hrel
        cases gk with
        | zero=>exact absurd HA.out (by simp [aJ.l2])
        | succ k3 =>
         have H:=HA.out
         clear HA
         simp only [aJ.l2] at H
         by_cases ca:y < (M.length:Int)
         ·rw [if_pos ca] at H
          have et:=decide_eq_true ca
          clear ca
          obtain ⟨fs,H⟩:=af.ip H
          have hm:=decide_eq_true fs
          clear fs
          obtain ⟨ft,H⟩:=af.ip H
          have hn:=decide_eq_true ft
          clear ft
          obtain ⟨d0,b2⟩:∃ y_:List Int,y_ = (a2.set (y:Int).toNat (wrap64 ((rd a2 y)+(rd M y)))):=⟨_,rfl⟩
          replace H:(aJ.l2 k3 l0 l1 a4 a1 M d0 (wrap64 (y+1))) = some r:=by (try rw [b2]);exact af.Z
          have dd:=ae.mk b2
          clear b2
          have H':=ae.mk H
          clear H
          try go_wp2
          replace z:=ae.mk (Kd.ez z.out)
          replace a3:=ae.mk (Kd.eB a3.out)
          replace X:=ae.mk (Kd.bS X.out)
          replace HB:=ae.mk (bU HB.out)
          obtain ⟨hL,hM,e1⟩:=Kd.aY X.out
          (first | subst e1 | (injection e1 with cp ee cx;have ef:=cp.symm;have eg:=cx.symm;clear cp ee cx;subst ef;subst eg))
          obtain ⟨g4,ev,ab,hq,ht⟩:=af.ai (Kd.au X.out).2.2 y
          cases ev
          obtain ⟨df,ew,ap,hu,hx⟩:=af.ai (Kd.jt a3.out).2.2 y
          cases ew
          have ex:0≤(y:Int):=af.D
          have eQ:(y:Int) < ((a2.length:Int):Int):=af.D
          obtain ⟨ba,hO,e2,e3,fw,hP,e4⟩:=Kd.jm X.out (by omega)
          (first | cases e2 | (injection e2 with b1 eq es;(first | subst b1 | (injection b1 with b1;subst b1));subst es;clear eq))
          have fx:=ae.mk e3
          have fy:=ae.mk e4
          clear e3 fw e4
          (first | simp only [add_plain] at ab | skip)
          obtain ⟨dk,dl⟩:=Kd.gH 0 X.out (y:Int) ex eQ
          replace ex:=eq_true ex
          replace eQ:=eq_true eQ
          have d1:=Kd.pI X.out (y:Int) (wrap64 ((rd a2 y)+(rd M y)))
          rw [← dd.out] at d1
          have e8:=ae.mk d1
          clear d1
          refine eS (n:=13) (S:=fun w'=>w'.cell? ⟨ba,(y).toNat,none⟩ = some (.int .i64 (rd a2 y))∧w'.cell? (df.add (y).toNat) = some (.int .i64 (rd M y))) (ds:=[12]) #[false,false,false,false,false,false,false,false,false,false,false,false,false] (by kernel_rfl) rfl rfl ⟨ab,ap⟩ (fun hHeld=>?_);refine dn aJ.wq aJ.vy (fun a0 cY=>?_)
          generalize wr.drew = i0 at z a3 X HB fy e8 dl ab ap dk hHeld ⊢
          refine af.pu 0 58 a0 ?_
          refine af.pu 1 59 a0 ?_
          refine af.pu 2 60 a0 ?_
          refine af.pu 3 61 a0 ?_
          refine af.pu 4 62 a0 ?_
          refine af.pu 6 64 a0 ?_
          refine af.pu 7 65 a0 ?_
          refine af.pu 8 66 a0 ?_
          refine af.tk 5 63 a0 cY hHeld ?_
          refine af.tk 9 67 a0 cY hHeld ?_
          refine af.pu 10 68 a0 ?_
          refine af.pu 11 69 a0 ?_
          refine lY (i:=12) (N:=none) #[true,true,true,true,true,true,true,true,true,true,true,true,true] rfl rfl (dD a0.out (by kernel_rfl)) (by decide) (fun K hK=>?_)
          refine mL (w1:=?_) (by rfl) rfl ?_ ?_
          rotate_left
          ·go_simp
           rfl
          refine hK.out _ _ ?_
          clear hK K
          refine gh (er a0.out (by kernel_rfl)) ?_
          try go_wp2
          go_roundg k3
          case measure=>have:=bo.out;have:=bs.out;have:=db.out;omega
          case rel=>exact ⟨(d0),(wrap64 (y+1)),af.F,H',⟨by have:=bo.out;have:=bs.out;have:=db.out;omega⟩,⟨af.Sw (Kd.dh (Kd.uD (p:=⟨ba,(y:Int).toNat,none⟩) (Kd.dh z.out (fun k_ hk=>(⟨hk,fun e_=>hk (by rw [e_];rfl)⟩:_∧k_≠ba))) (fun _ hk=>hk.2) (.int .i64 (wrap64 ((rd a2 y)+(rd M y))))) (fun _ hk=>hk.1))⟩,⟨by (with_reducible repeat (first | apply Kd.dW | apply Kd.dX | apply Kd.eB));exact Kd.ic (Kd.sA (p:=⟨ba,(y:Int).toNat,none⟩) (Kd.ic a3.out (fun k_ hk=>(⟨hk,fun e_=>hk.2 (by rw [e_];rfl)⟩:_∧k_≠ba))) (fun _ hk=>hk.2) (.int .i64 (wrap64 ((rd a2 y)+(rd M y))))) (fun _ hk=>(by first | exact ⟨hk.1.1,hk.1.2⟩ | (simp_all;done)))⟩,⟨af.Rw e8.out⟩,⟨by repeat (first | (with_reducible first | exact HB.out | apply dH | apply dA | apply bU | refine dK ?_ fx.out) | exact HB.out)⟩⟩
         ·rw [if_neg ca] at H
          have et:decide (y < (M.length:Int)) = false:=decide_eq_false ca
          clear ca
          obtain ⟨fX,H⟩:=af.ip H
          have f0:=ae.mk fX
          clear fX
          obtain ⟨d2,b3⟩:∃ y_:List (List Int),y_ = (a4 ++ [a2]):=⟨_,rfl⟩
          replace H:(aJ.l0 k3 l0 l1 d2 (wrap64 (a1+1))) = some r:=by (try rw [b3]);exact af.Z
          have dp:=ae.mk b3
          clear b3
          have H':=ae.mk H
          clear H
          obtain ⟨d3,d4,fY⟩:=Kd.aY X.out
          subst fY
          go_wp2_with (first | ((with_reducible refine cB (b:=.append) (xs:=#[.tmp 70,.tmp 72]) rfl ?_);at_builtin;refine Kd.j4 (Kd.slice 3 (Kd.int .i64)) (w0:=w) w.heap.size rfl (.tmp 70) (.tmp 72) 57 28 (.slice none 0 0) 24 rfl Tryz.underlying57 jZ rfl (by decide) (by omega) u5 a4 a2 [.slice d3 a2.length d4] (fun _=>True) (fun k_=>some k_ = (.slice d3 a2.length d4:Value).ownBlock) rfl rfl ?aP (fun k_ cf=>((Kd.aX (ok':=fun k_=>((fun _=>True)) k_∧some k_≠(u5:Value).ownBlock) (Kd.fh (X.out) (Kd.gb z.out) (by decide)) (fun k_ hk=>⟨trivial,hk.2⟩))).1 k_ cf.symm) ?aF ?aO ?aB ?aS ?aL ?_;(case aP=>exact Kd.kC (Kd.aX (Kd.iF rfl (Kd.aX (ok':=fun k_=>((fun _=>True)) k_∧some k_≠(u5:Value).ownBlock) (Kd.fh (X.out) (Kd.gb z.out) (by decide)) (fun k_ hk=>⟨trivial,hk.2⟩))) (fun _ h_=>h_)));(case aB=>exact (af.Lw HB.out));(case aF=>exact (fun _ _=>trivial));(case aO=>exact (af.Sw (Kd.dh z.out (fun k_ hk=>⟨trivial,fun e_=>hk e_⟩))));(case aS=>exact (aj (af.Lw HB.out)));(case aL=>have:=f0.out;omega);intro hz i1 ho hb hg hat;rw [← dp.out] at ho;have g0:=ae.mk (Kd.jW (ok:=(fun k_=>some k_≠(.slice d3 a2.length d4:Value).ownBlock)) (by (with_reducible repeat (first | apply Kd.dW | apply Kd.dX | apply Kd.eB));exact Kd.ic a3.out (fun _ hk=>(by first | exact ⟨hk.2,hk.1⟩ | (simp_all;done)))) hg hat);have g1:=ae.mk hb;have g2:=ae.mk ho;clear a3;clear HB;clear z;clear X;have a3:=g0;have HB:=g1;have dq:=g2;clear g0 g1 g2;clear ho hb hg hat))
          go_roundg k3
          case measure=>have:=bo.out;have:=bs.out;have:=db.out;omega
          case rel=>exact ⟨(d2),(wrap64 (a1+1)),af.F,H',⟨by have:=bo.out;have:=bs.out;have:=db.out;omega⟩,⟨af.Sw dq.out⟩,⟨af.Lw HB.out⟩⟩
   ·rw [if_neg c6] at H
    have f6:decide (a1 < aw) = false:=decide_eq_false c6
    clear c6
    obtain rfl:=Option.some.inj H
    go_wp2_with (first | (refine af.gl (some 18) Tryz.func121 #[.int .i64 (l0.length:Int),.int .i64 (l1.length:Int)] ?_;(with_reducible refine (dO.calls (l0.length:Int) (l1.length:Int) aw _ A5.out).mono ?_);rintro e w' ⟨rfl,⟨nd,rfl⟩⟩;refine ⟨_,rfl,?_⟩))
    go_ret
    exact ⟨_,af.E,by (with_reducible repeat (first | apply Kd.fE | apply Kd.fF | apply Kd.ez));exact z.out,af.L⟩
mutual
def aW.j0:Nat→List (List Int)→Int→Int→Bool→Option ((List (List Int)))
 | 0,_,_,_,_=>none
 | k+1,x0,x1,X,a0=>if a0 = true then (some ([]:List (List Int))) else ((cg.f k x1 0).bind fun M=>(aW.l0 k X M x0 (x0.length:Int) 0))
def aW.l0:Nat→Int→List (List Int)→List (List Int)→Int→Int→Option ((List (List Int)))
 | 0,_,_,_,_,_=>none
 | k+1,X,x7,z,Y,j=>if j < Y then (if 0≤j then (if j < (z.length:Int) then (if 0≤X then (if (X:Int).toNat≤35184372088832 then ((some (List.replicate (X:Int).toNat 0:List Int)).bind fun y=>(if y.length+(cw z j).length < 17592186044416 then (if x7.length < 5864062014805 then (aW.l0 k X (x7 ++ [(y ++ (cw z j))]) z Y (wrap64 (j+1))) else (none)) else (none))) else (none)) else (none)) else (none)) else (none)) else (some x7)
end
def aW.f (k:Nat) (l0:List (List Int)) (z:Int) (a2:Int):Option ((List (List Int))):=(dm.f z).bind fun j=>(if j = true then ((dm.f a2).bind fun y=>(aW.j0 k l0 z a2 (!y))) else (aW.j0 k l0 z a2 true))
set_option maxHeartbeats 8000000 in
set_option maxRecDepth 100000 in
theorem aW.calls (k:Nat) (A0:Option Addr) (c0:Nat) (l0:List (List Int)) (a1:Int) (a2:Int) (r:List (List Int)) (w:World) (cp:Kd.C (Kd.slice 3 (Kd.int .i64)) w A0 l0.length l0) (cx:l0.length≤c0) (h:aW.f k l0 a1 a2 = some r) :
  Calls Tryz.prog 60 #[.slice A0 l0.length c0,.int .i64 a1,.int .i64 a2] w fun e w'=>∃ cy:Value,e = .returned (cy)∧Kd.S (Kd.slice 3 (Kd.int .i64)) 28 w' w.heap.size (fun _=>True) cy r∧Below w.heap.size w w':=by
 have db:=ae.mk cp
 have dT:=ae.mk cx
 clear cp cx
 have HB:=ae.mk (Below.refl w.heap.size w)
 unfold aW.f at h
 have H:=h
 clear h
 have bm:=ae.mk H
 clear H
 go_enter Tryz.func60,Tryz.ntmps60
 go_upto_region 1 with (fail)
 go_cut [17] (fun v17 wc=>∃ (kq:Nat) (a5:Bool),v17 = .bool a5∧ae (aW.j0 kq l0 a1 a2 a5 = some r)∧ae (kq≤k)∧ae (Below w.heap.size w wc))
 case first =>
  have H:=bm.out
  clear bm
  obtain ⟨bo,A5,H⟩:=af.be H
  (try dsimp only at H)
  by_cases c6:bo = true
  ·subst c6
   replace H:((dm.f a2).bind fun a6=>(aW.j0 k l0 a1 a2 (!a6))) = some r:=by rw [if_pos rfl] at H;exact H
   obtain ⟨a6,A7,H⟩:=af.be H
   (try dsimp only at H)
   have H':=ae.mk H
   clear H
   go_wp2_with (first | ((with_reducible refine ax (f:=123) rfl ?_);refine af.gl (some 11) Tryz.func123 #[.int .i64 a1] ?_;(with_reducible refine (dm.calls a1 true _ A5.out).mono ?_);rintro e w' ⟨rfl,⟨nd,rfl⟩⟩;refine ⟨_,rfl,?_⟩) | (go_at_call 123;(with_reducible refine (dm.calls a2 a6 _ A7.out).mono ?_);rintro e w' ⟨rfl,⟨nd,rfl⟩⟩))
   go_meet
   case rel=>exact ⟨_,(!a6),af.F,H',⟨by first | omega | exact Nat.le_refl _⟩,⟨af.Lw HB.out⟩⟩
  ·replace c6:=Bool.eq_false_iff.mpr c6
   subst c6
   replace H:(aW.j0 k l0 a1 a2 true) = some r:=by rw [if_neg (show ¬ (false = true) by decide)] at H;exact H
   have H':=ae.mk H
   clear H
   go_wp2_with (first | ((with_reducible refine ax (f:=123) rfl ?_);refine af.gl (some 11) Tryz.func123 #[.int .i64 a1] ?_;(with_reducible refine (dm.calls a1 false _ A5.out).mono ?_);rintro e w' ⟨rfl,⟨nd,rfl⟩⟩;refine ⟨_,rfl,?_⟩))
   go_meet
   case rel=>exact ⟨_,(true),af.F,H',⟨by first | omega | exact Nat.le_refl _⟩,⟨af.Lw HB.out⟩⟩
 case rest =>
  clear bm
  obtain ⟨kq,a5,rfl,HA,cX,HB⟩:=hcut
  cases kq with
  | zero=>exact absurd HA.out (by simp [aW.j0])
  | succ aR =>
   have H:=HA.out
   clear HA
   simp only [aW.j0] at H
   by_cases c8:a5 = true
   ·subst c8
    replace H:(some ([]:List (List Int))) = some r:=by rw [if_pos rfl] at H;exact H
    obtain rfl:=Option.some.inj H
    go_wp2
    go_ret
    exact ⟨_,af.E,by first | exact Kd.s8 _ _ _ _ _ | exact Kd.sr _ _ _ _ _ | exact Kd.sy _ _ _ _ _ | exact Kd.s4 _ _ _ _ _ | exact Kd.nx _ _ _ _ _,af.L⟩
   ·replace c8:=Bool.eq_false_iff.mpr c8
    subst c8
    replace H:((cg.f aR a1 0).bind fun a7=>(aW.l0 aR a2 a7 l0 (l0.length:Int) 0)) = some r:=by rw [if_neg (show ¬ (false = true) by decide)] at H;exact H
    obtain ⟨a7,A9,H⟩:=af.be H
    (try dsimp only at H)
    have H':=ae.mk H
    clear H
    go_wp2_with (first | ((with_reducible refine ax (f:=114) rfl ?_);refine af.gl (some 19) Tryz.func114 #[.int .i64 a1,.int .i64 0] ?_;(with_reducible refine (cg.calls aR a1 0 a7 _ A9.out).mono ?_);rintro e e0 ⟨dd,rfl,cY,hb⟩;refine ⟨_,rfl,?_⟩;have b3:=ae.mk (Kd.cT cY (aj (af.Lw HB.out)));replace HB:=af.lb HB hb;(try clear hb);(try clear e1);(try clear hk);(try clear hi);(try clear cY)))
    go_loopg [7,22] aR (fun kq v7 v22 w'=>∃ (z:List (List Int)) (j:Int),v22 = .int .i64 j∧ae (aW.l0 kq a2 z l0 (l0.length:Int) j = some r)∧ae (kq≤aR)∧ae (Kd.S (Kd.slice 3 (Kd.int .i64)) 28 w' w.heap.size (fun _=>True) v7 z)∧ae (Below w.heap.size w w'))
    case atStart=>exact ⟨(a7),(0),af.F,H',⟨Nat.le_refl _⟩,⟨af.Sw b3.out⟩,⟨af.Lw HB.out⟩⟩
    case round =>
     clear H'
     obtain ⟨z,j,rfl,HA,d0,y,HB⟩:=hrel
     cases gk with
     | zero=>exact absurd HA.out (by simp [aW.l0])
     | succ k2 =>
      have H:=HA.out
      clear HA
      simp only [aW.l0] at H
      by_cases ar:j < (l0.length:Int)
      ·rw [if_pos ar] at H
       have bs:=decide_eq_true ar
       clear ar
       obtain ⟨d1,H⟩:=af.ip H
       have df:=decide_eq_true d1
       clear d1
       obtain ⟨d2,H⟩:=af.ip H
       have dk:=decide_eq_true d2
       clear d2
       obtain ⟨bv,H⟩:=af.ip H
       have dl:=eq_true bv
       have dp:decide (0≤a2) = true:=decide_eq_true bv
       clear bv
       obtain ⟨ca,H⟩:=af.ip H
       have dq:=eq_true ca
       have dt:decide ((a2:Int).toNat≤35184372088832) = true:=decide_eq_true ca
       clear ca
       obtain ⟨a8,a9⟩:∃ y_:List Int,y_ = (List.replicate (a2:Int).toNat 0):=⟨_,rfl⟩
       replace H:(if a8.length+(cw l0 j).length < 17592186044416 then (if z.length < 5864062014805 then (aW.l0 k2 a2 (z ++ [(a8 ++ (cw l0 j))]) l0 (l0.length:Int) (wrap64 (j+1))) else (none)) else (none)) = some r:=by (try rw [a9]);exact af.Z
       have ao:=ae.mk a9
       clear a9
       obtain ⟨d3,H⟩:=af.ip H
       have cb:=ae.mk d3
       clear d3
       obtain ⟨Y,aa⟩:∃ y_:List Int,y_ = (a8 ++ (cw l0 j)):=⟨_,rfl⟩
       replace H:(if z.length < 5864062014805 then (aW.l0 k2 a2 (z ++ [Y]) l0 (l0.length:Int) (wrap64 (j+1))) else (none)) = some r:=by (try rw [aa]);exact af.Z
       have b4:=ae.mk aa
       clear aa
       obtain ⟨d4,H⟩:=af.ip H
       have cc:=ae.mk d4
       clear d4
       obtain ⟨b0,ab⟩:∃ y_:List (List Int),y_ = (z ++ [Y]):=⟨_,rfl⟩
       replace H:(aW.l0 k2 a2 b0 l0 (l0.length:Int) (wrap64 (j+1))) = some r:=by (try rw [ab]);exact af.Z
       have ba:=ae.mk ab
       clear ab
       have H':=ae.mk H
       clear H
       have al:0≤(j:Int):=af.D
       have am:j < (l0.length:Int):=af.D
       obtain ⟨d9,d5,d6,cd,M,a0,a3⟩:=gM db.out j al am
       cases cd
       try replace M:=(HB.out.cell (World.block_lt_of_cell? w _ M)).trans M
       have aw:=ae.mk a3
       have ci:=ae.mk a0
       clear a3 a0
       replace al:=eq_true al
       replace am:=eq_true am
       go_wp2_with (first | ((with_reducible refine bJ (N:=28) rfl ?_);refine Kd.lD (Kd.int .i64) _ 3 rfl (N:=28) rfl 28 _ _ rfl a2 rfl rfl Tryz.underlying28 (.int .i64 0) 8 eJ rfl (by decide) (by omega) 0 (ok:=fun _=>True) (okp:=fun _=>True) rfl (fun _ hk=>hk) trivial (af.D) (Nat.le_trans (Nat.mul_le_mul_right _ (af.D:a2.toNat≤35184372088832)) (by omega)) (Below.refl _ _) (Nat.le_refl _) ?_;intro ce e2 a4 hb du cf;clear du cf;(first | rw [← ao.out] at a4 | (simp only [Int.reduceToNat] at a4;rw [← ao.out] at a4));replace y:=ae.mk (Kd.aA (af.Sw y.out) (Kd.bF a4) hb);have ap:=ae.mk (Kd.b9 a4 (aj (af.Lw HB.out)));replace HB:=af.lb HB hb;clear hb a4) | ((with_reducible refine cB (b:=.append) (xs:=#[.tmp 28,.tmp 29]) rfl ?_);at_builtin;refine Kd.iE (Kd.int .i64) (w0:=w) w.heap.size rfl (.tmp 28) (.tmp 29) 28 3 (.int .i64 0) 8 rfl Tryz.underlying28 eJ rfl (by decide) (by omega) ce a8 (cw l0 j) _ _ _ (fun _=>True) (fun _=>False) rfl rfl (by exact af.Rw ap.out) (by repeat (first | exact (Kd.bG aw.out HB.out) | (with_reducible refine Kd.fk ?_ _) | (with_reducible refine Kd.fm ?_ _) | (with_reducible refine Kd.fJ ?_))) (fun _ _ h=>h) (fun _ h=>h.elim) (by exact fun _ _=>trivial) (by exact af.Lw HB.out) (by exact aj (af.Lw HB.out)) (by have:=cb.out;omega) ?_;intro dv e3 ho hb hg hat;rw [← b4.out] at ho;have b1:=ae.mk (Kd.mq (ok:=(fun _=>True)) (af.Sw y.out) hg hat);have b2:=ae.mk hb;have d7:=ae.mk ho;clear y;clear HB;clear ap;have y:=b1;have HB:=b2;have X:=d7;clear b1 b2 d7;clear ho hb hg hat;obtain ⟨bd,bi,d8⟩:=Kd.aY X.out;subst d8) | ((with_reducible refine cB (b:=.append) (xs:=#[.tmp 26,.tmp 31]) rfl ?_);at_builtin;refine Kd.j4 (Kd.slice 3 (Kd.int .i64)) (w0:=w) w.heap.size rfl (.tmp 26) (.tmp 31) 57 28 (.slice none 0 0) 24 rfl Tryz.underlying57 jZ rfl (by decide) (by omega) u7 z Y [.slice bd Y.length bi] (fun _=>True) (fun k_=>some k_ = (.slice bd Y.length bi:Value).ownBlock) rfl rfl ?aP (fun k_ dC=>((Kd.aX (ok':=fun k_=>((fun _=>True)) k_∧some k_≠(u7:Value).ownBlock) (Kd.fh (X.out) (Kd.gb y.out) (by decide)) (fun k_ hk=>⟨trivial,hk.2⟩))).1 k_ dC.symm) ?aF ?aO ?aB ?aS ?aL ?_;(case aP=>exact Kd.kC (Kd.aX (Kd.iF rfl (Kd.aX (ok':=fun k_=>((fun _=>True)) k_∧some k_≠(u7:Value).ownBlock) (Kd.fh (X.out) (Kd.gb y.out) (by decide)) (fun k_ hk=>⟨trivial,hk.2⟩))) (fun _ h_=>h_)));(case aB=>exact (af.Lw HB.out));(case aF=>exact (fun _ _=>trivial));(case aO=>exact (af.Sw (Kd.dh y.out (fun k_ hk=>⟨trivial,fun e_=>hk.2 e_⟩))));(case aS=>exact (aj (af.Lw HB.out)));(case aL=>have:=cc.out;omega);intro dE e4 ho hb hg hat;rw [← ba.out] at ho;have b1:=ae.mk hb;have b2:=ae.mk ho;clear HB;clear y;clear X;have HB:=b1;have bc:=b2;clear b1 b2;clear ho hb hg hat))
       go_roundg k2
       case measure=>have:=cX.out;have:=d0.out;omega
       case rel=>exact ⟨(b0),(wrap64 (j+1)),af.F,H',⟨by have:=cX.out;have:=d0.out;omega⟩,⟨af.Sw bc.out⟩,⟨af.Lw HB.out⟩⟩
      ·rw [if_neg ar] at H
       have bs:decide (j < (l0.length:Int)) = false:=decide_eq_false ar
       clear ar
       obtain rfl:=Option.some.inj H
       go_wp2
       go_ret
       exact ⟨_,af.E,by (with_reducible repeat (first | apply Kd.fE | apply Kd.fF | apply Kd.ez));exact y.out,af.L⟩
mutual
def aI.j0:Nat→List (List Int)→Int→Int→List (List Int)→Bool→Option ((List (List Int)))
 | 0,_,_,_,_,_=>none
 | k+1,z,Y,M,y,a0=>if a0 = true then (some y) else (aI.l0 k z Y M y 0)
def aI.l0:Nat→List (List Int)→Int→Int→List (List Int)→Int→Option ((List (List Int)))
 | 0,_,_,_,_,_=>none
 | k+1,z,Y,M,y,x8=>if x8 < Y then (if y.length < 5864062014805 then (aI.l0 k z Y M (y ++ [(([]:List Int))]) (wrap64 (x8+1))) else (none)) else (aI.l1 k z M y 0)
def aI.l1:Nat→List (List Int)→Int→List (List Int)→Int→Option ((List (List Int)))
 | 0,_,_,_,_=>none
 | k+1,z,M,y,X=>if X < (z.length:Int) then (if 0≤M then (if (M:Int).toNat≤35184372088832 then ((some (List.replicate (M:Int).toNat 0:List Int)).bind fun j=>(if 0≤X then (if j.length+(cw z X).length < 17592186044416 then (if y.length < 5864062014805 then (aI.l1 k z M (y ++ [(j ++ (cw z X))]) (wrap64 (X+1))) else (none)) else (none)) else (none))) else (none)) else (none)) else (some y)
end
def aI.f (k:Nat) (l0:List (List Int)) (M:Int) (a2:Int):Option ((List (List Int))):=(some (([]:List (List Int)):List (List Int))).bind fun j=>((bH.f M 0 8).bind fun y=>(if y = true then ((bH.f a2 0 8).bind fun z=>(aI.j0 k l0 M a2 j (!z))) else (aI.j0 k l0 M a2 j true)))
def aI.wo:Bool×List (List Nat×List Nat):=(true,[([],[]),([],[]),([1,1],[1]),([],[]),([],[]),([3,4],[3,4]),([5],[5]),([2,6],[2,6]),([7],[7]),([0,8,7],[0,8]),([9,9,0,1,2,3,4,5,6,7,8,9],[0,9])])
def aI.wS:List Nat:=[0,0,2,0,0,24,56,126,254,511,1023]
theorem aI.sL:gr .any (opsOf Tryz.f61 11) = aI.wo:=by kernel_rfl
theorem aI.pP:eL aI.wo.2 aI.wS = true:=by kernel_rfl
set_option maxHeartbeats 8000000 in
set_option maxRecDepth 100000 in
theorem aI.calls (k:Nat) (A0:Option Addr) (c0:Nat) (l0:List (List Int)) (a1:Int) (a2:Int) (r:List (List Int)) (w:World) (e3:Kd.C (Kd.slice 3 (Kd.int .i64)) w A0 l0.length l0) (e4:l0.length≤c0) (h:aI.f k l0 a1 a2 = some r) :
  Calls Tryz.prog 61 #[.slice A0 l0.length c0,.int .i64 a1,.int .i64 a2] w fun e w'=>∃ e8:Value,e = .returned (e8)∧Kd.S (Kd.slice 3 (Kd.int .i64)) 28 w' w.heap.size (fun _=>True) e8 r∧Below w.heap.size w w':=by
 have el:=ae.mk e3
 have f5:=ae.mk e4
 clear e3 e4
 have HB:=ae.mk (Below.refl w.heap.size w)
 unfold aI.f at h
 have H:=h
 clear h
 obtain ⟨X,ar⟩:∃ y_:List (List Int),y_ = (([]:List (List Int))):=⟨_,rfl⟩
 replace H:((bH.f a1 0 8).bind fun bi=>(if bi = true then ((bH.f a2 0 8).bind fun a0=>(aI.j0 k l0 a1 a2 X (!a0))) else (aI.j0 k l0 a1 a2 X true))) = some r:=by (try rw [ar]);exact af.Z
 have bs:=ae.mk ar
 clear ar
 have df:=ae.mk H
 clear H
 go_enter Tryz.func61,Tryz.ntmps61
 go_upto_region 2 with (first | ((with_reducible refine bJ (N:=10) rfl ?_);refine Kd.mM (Kd.slice 3 (Kd.int .i64)) _ 28 ?hg (N:=10) ?hd (xs:=([]:List (List Int))) (inner:=[]) (ok:=fun _=>True) (okp:=fun _=>True) ?hr ?hp (fun _ hk=>hk) trivial (Below.refl _ _) (Nat.le_refl _) (by simp) ?_;(case hd=>rfl);(case hg=>rfl);(case hr=>first | (go_simp;done) | (go_simp;rfl));(case hp=>exact (cE.none _ _));intro dk w5 cf hb ci a8;clear ci a8;(first | rw [← bs.out] at cf | (simp only [Int.reduceToNat] at cf;rw [← bs.out] at cf));have bv:=ae.mk (Kd.cT cf (aj (af.Lw HB.out)));replace HB:=af.lb HB hb;clear hb cf))
 (try simp only [Act.put,List.setIfInBounds_toArray,List.set_cons_zero,List.set_cons_succ])
 go_cut [18] (fun em wc=>∃ (kq:Nat) (aw:Bool),em = .bool aw∧ae (aI.j0 kq l0 a1 a2 X aw = some r)∧ae (kq≤k)∧ae (Kd.S (Kd.slice 3 (Kd.int .i64)) 28 wc w.heap.size (fun _=>True) dk X)∧ae (Below w.heap.size w wc))
 case first =>
  have H:=df.out
  clear df
  obtain ⟨bi,A7,H⟩:=af.be H
  (try dsimp only at H)
  by_cases c8:bi = true
  ·subst c8
   replace H:((bH.f a2 0 8).bind fun a0=>(aI.j0 k l0 a1 a2 X (!a0))) = some r:=by rw [if_pos rfl] at H;exact H
   obtain ⟨a0,A9,H⟩:=af.be H
   (try dsimp only at H)
   have H':=ae.mk H
   clear H
   go_wp2_with (first | ((with_reducible refine ax (f:=94) rfl ?_);refine af.gl (some 12) Tryz.func94 #[.int .i64 a1,.int .i64 0,.int .i64 8] ?_;(with_reducible refine (bH.calls a1 0 8 true _ A7.out).mono ?_);rintro e w' ⟨rfl,⟨nd,rfl⟩⟩;refine ⟨_,rfl,?_⟩) | (go_at_call 94;(with_reducible refine (bH.calls a2 0 8 a0 _ A9.out).mono ?_);rintro e w' ⟨rfl,⟨nd,rfl⟩⟩))
   go_meet
   case rel=>exact ⟨_,(!a0),af.F,H',⟨by first | omega | exact Nat.le_refl _⟩,⟨af.Sw bv.out⟩,⟨af.Lw HB.out⟩⟩
  ·replace c8:=Bool.eq_false_iff.mpr c8
   subst c8
   replace H:(aI.j0 k l0 a1 a2 X true) = some r:=by rw [if_neg (show ¬ (false = true) by decide)] at H;exact H
   have H':=ae.mk H
   clear H
   go_wp2_with (first | ((with_reducible refine ax (f:=94) rfl ?_);refine af.gl (some 12) Tryz.func94 #[.int .i64 a1,.int .i64 0,.int .i64 8] ?_;(with_reducible refine (bH.calls a1 0 8 false _ A7.out).mono ?_);rintro e w' ⟨rfl,⟨nd,rfl⟩⟩;refine ⟨_,rfl,?_⟩))
   go_meet
   case rel=>exact ⟨_,(true),af.F,H',⟨by first | omega | exact Nat.le_refl _⟩,⟨af.Sw bv.out⟩,⟨af.Lw HB.out⟩⟩
 case rest =>
  clear df
  obtain ⟨kq,aw,rfl,HA,cY,y,HB⟩:=hcut
  cases kq with
  | zero=>exact absurd HA.out (by simp [aI.j0])
  | succ dl =>
   have H:=HA.out
   clear HA
   simp only [aI.j0] at H
   by_cases gz:aw = true
   ·subst gz
    replace H:(some X) = some r:=by rw [if_pos rfl] at H;exact H
    obtain rfl:=Option.some.inj H
    go_wp2
    go_ret
    exact ⟨_,af.E,by (with_reducible repeat (first | apply Kd.fE | apply Kd.fF | apply Kd.ez));exact y.out,af.L⟩
   ·replace gz:=Bool.eq_false_iff.mpr gz
    subst gz
    replace H:(aI.l0 dl l0 a1 a2 X 0) = some r:=by rw [if_neg (show ¬ (false = true) by decide)] at H;exact H
    have H':=ae.mk H
    clear H
    go_wp2
    go_loopg [7,8] dl (fun kq v7 v8 w'=>∃ (a3:List (List Int)) (a4:Int),v8 = .int .i64 a4∧ae (aI.l0 kq l0 a1 a2 a3 a4 = some r)∧ae (kq≤dl)∧ae (Kd.S (Kd.slice 3 (Kd.int .i64)) 28 w' w.heap.size (fun _=>True) v7 a3)∧ae (Below w.heap.size w w'))
    case atStart=>exact ⟨(X),(0),af.F,H',⟨Nat.le_refl _⟩,⟨af.Sw y.out⟩,⟨af.Lw HB.out⟩⟩
    case round =>
     clear H'
     obtain ⟨a3,a4,rfl,HA,d0,y,HB⟩:=hrel
     cases gk with
     | zero=>exact absurd HA.out (by simp [aI.l0])
     | succ k2 =>
      have H:=HA.out
      clear HA
      simp only [aI.l0] at H
      by_cases cd:a4 < a1
      ·rw [if_pos cd] at H
       have dp:=decide_eq_true cd
       clear cd
       obtain ⟨a9,b0⟩:∃ y_:List Int,y_ = (([]:List Int)):=⟨_,rfl⟩
       replace H:(if a3.length < 5864062014805 then (aI.l0 k2 l0 a1 a2 (a3 ++ [a9]) (wrap64 (a4+1))) else (none)) = some r:=by (try rw [b0]);exact af.Z
       have ca:=ae.mk b0
       clear b0
       obtain ⟨ea,H⟩:=af.ip H
       have dq:=ae.mk ea
       clear ea
       obtain ⟨cp,b1⟩:∃ y_:List (List Int),y_ = (a3 ++ [a9]):=⟨_,rfl⟩
       replace H:(aI.l0 k2 l0 a1 a2 cp (wrap64 (a4+1))) = some r:=by (try rw [b1]);exact af.Z
       have d1:=ae.mk b1
       clear b1
       have H':=ae.mk H
       clear H
       go_wp2_with (first | (refine af.lt (Kd.int .i64) 3 26 ?_;intro eo f6 ab hb ci a8;clear ci a8;(first | rw [← ca.out] at ab | (simp only [Int.reduceToNat] at ab;rw [← ca.out] at ab));replace y:=ae.mk (Kd.aA (af.Sw y.out) (Kd.bF ab) hb);have a6:=ae.mk (Kd.b9 ab (aj (af.Lw HB.out)));replace HB:=af.lb HB hb;clear hb ab;obtain ⟨d7,d8,eb⟩:=Kd.aY a6.out;subst eb) | ((with_reducible refine cB (b:=.append) (xs:=#[.tmp 25,.tmp 27]) rfl ?_);at_builtin;refine Kd.j4 (Kd.slice 3 (Kd.int .i64)) (w0:=w) w.heap.size rfl (.tmp 25) (.tmp 27) 57 28 (.slice none 0 0) 24 rfl Tryz.underlying57 jZ rfl (by decide) (by omega) u7 a3 a9 [.slice d7 a9.length d8] (fun _=>True) (fun k_=>some k_ = (.slice d7 a9.length d8:Value).ownBlock) rfl rfl ?aP (fun k_ dt=>((Kd.aX (ok':=fun k_=>((fun _=>True)) k_∧some k_≠(u7:Value).ownBlock) (Kd.fh (a6.out) (Kd.gb y.out) (by decide)) (fun k_ hk=>⟨trivial,hk.2⟩))).1 k_ dt.symm) ?aF ?aO ?aB ?aS ?aL ?_;(case aP=>exact Kd.kC (Kd.aX (Kd.iF rfl (Kd.aX (ok':=fun k_=>((fun _=>True)) k_∧some k_≠(u7:Value).ownBlock) (Kd.fh (a6.out) (Kd.gb y.out) (by decide)) (fun k_ hk=>⟨trivial,hk.2⟩))) (fun _ h_=>h_)));(case aB=>exact (af.Lw HB.out));(case aF=>exact (fun _ _=>trivial));(case aO=>exact (af.Sw (Kd.dh y.out (fun k_ hk=>⟨trivial,fun e_=>hk.2 e_⟩))));(case aS=>exact (aj (af.Lw HB.out)));(case aL=>have:=dq.out;omega);intro eq f7 ho hb hg hat;rw [← d1.out] at ho;have bc:=ae.mk hb;have bd:=ae.mk ho;clear HB;clear y;clear a6;have HB:=bc;have d2:=bd;clear bc bd;clear ho hb hg hat))
       go_roundg k2
       case measure=>have:=cY.out;have:=d0.out;omega
       case rel=>exact ⟨(cp),(wrap64 (a4+1)),af.F,H',⟨by have:=cY.out;have:=d0.out;omega⟩,⟨af.Sw d2.out⟩,⟨af.Lw HB.out⟩⟩
      ·rw [if_neg cd] at H
       have dp:decide (a4 < a1) = false:=decide_eq_false cd
       clear cd
       have H':=ae.mk H
       clear H
       go_wp2
       go_loopg [7,9] k2 (fun kq v7 v9 w'=>∃ (Y:List (List Int)) (z:Int),v9 = .int .i64 z∧ae (aI.l1 kq l0 a2 Y z = some r)∧ae (kq≤k2)∧ae (Kd.S (Kd.slice 3 (Kd.int .i64)) 28 w' w.heap.size (fun _=>True) v7 Y)∧ae (Below w.heap.size w w'))
       case atStart=>exact ⟨(a3),(0),af.F,H',⟨Nat.le_refl _⟩,⟨af.Sw y.out⟩,⟨af.Lw HB.out⟩⟩
       case round =>
        clear H'
        obtain ⟨Y,z,rfl,HA,ec,y,HB⟩:=hrel
        cases gk with
        | zero=>exact absurd HA.out (by simp [aI.l1])
        | succ k3 =>
         have H:=HA.out
         clear HA
         simp only [aI.l1] at H
         by_cases ce:z < (l0.length:Int)
         ·rw [if_pos ce] at H
          have du:=decide_eq_true ce
          clear ce
          obtain ⟨dv,H⟩:=af.ip H
          have es:=eq_true dv
          have et:decide (0≤a2) = true:=decide_eq_true dv
          clear dv
          obtain ⟨dC,H⟩:=af.ip H
          have ev:=eq_true dC
          have ew:decide ((a2:Int).toNat≤35184372088832) = true:=decide_eq_true dC
          clear dC
          obtain ⟨b2,b3⟩:∃ y_:List Int,y_ = (List.replicate (a2:Int).toNat 0):=⟨_,rfl⟩
          replace H:(if 0≤z then (if b2.length+(cw l0 z).length < 17592186044416 then (if Y.length < 5864062014805 then (aI.l1 k3 l0 a2 (Y ++ [(b2 ++ (cw l0 z))]) (wrap64 (z+1))) else (none)) else (none)) else (none)) = some r:=by (try rw [b3]);exact af.Z
          have cb:=ae.mk b3
          clear b3
          obtain ⟨ed,H⟩:=af.ip H
          have ex:=decide_eq_true ed
          clear ed
          obtain ⟨ee,H⟩:=af.ip H
          have dE:=ae.mk ee
          clear ee
          obtain ⟨aa,b4⟩:∃ y_:List Int,y_ = (b2 ++ (cw l0 z)):=⟨_,rfl⟩
          replace H:(if Y.length < 5864062014805 then (aI.l1 k3 l0 a2 (Y ++ [aa]) (wrap64 (z+1))) else (none)) = some r:=by (try rw [b4]);exact af.Z
          have d3:=ae.mk b4
          clear b4
          obtain ⟨ef,H⟩:=af.ip H
          have dT:=ae.mk ef
          clear ef
          obtain ⟨cx,ba⟩:∃ y_:List (List Int),y_ = (Y ++ [aa]):=⟨_,rfl⟩
          replace H:(aI.l1 k3 l0 a2 cx (wrap64 (z+1))) = some r:=by (try rw [ba]);exact af.Z
          have d4:=ae.mk ba
          clear ba
          have H':=ae.mk H
          clear H
          try go_wp2
          replace y:=ae.mk (Kd.ez y.out)
          replace HB:=ae.mk (bU HB.out)
          have bm:0≤(z:Int):=af.D
          have bo:z < (l0.length:Int):=af.D
          obtain ⟨d5,cy,cX,e0,M,al,am⟩:=gM el.out z bm bo
          have j:=M
          cases e0
          try replace M:=(HB.out.cell (World.block_lt_of_cell? w _ M)).trans M
          have ao:=ae.mk am
          have e2:=ae.mk al
          clear am al
          replace bm:=eq_true bm
          replace bo:=eq_true bo
          refine eS (n:=11) (S:=fun w'=>w'.cell? (d5.add (z).toNat) = some (.slice cy (cw l0 z).length cX)) (ds:=[]) #[false,false,false,false,false,false,false,false,false,false,false] (by kernel_rfl) rfl rfl (((HB.out.cell (World.block_lt_of_cell? w _ j)).trans j)) (fun hHeld=>?_);refine dn aI.sL aI.pP (fun a5 eQ=>?_)
          generalize wr.drew = f8 at y HB ao M hHeld ⊢
          refine af.pu 0 35 a5 ?_
          refine af.pu 1 36 a5 ?_
          refine af.pu 3 38 a5 ?_
          refine af.pu 4 39 a5 ?_
          refine af.pu 5 40 a5 ?_
          refine mD (i:=6) (N:=some 41) (v:=?_) (a':=?_) #[true,true,false,true,true,true,true,false,false,false,false] rfl rfl (jY a5.out eQ.out (by kernel_rfl)) (fun _ _ _ h=>h) (Or.inl ⟨by rfl,?_⟩) hHeld ?_ ?_
          rotate_left
          ·intro w' s0
           go_simp
           with_reducible rfl
          rotate_left
          ·simp only [Act.put,List.setIfInBounds_toArray,List.set_cons_zero,List.set_cons_succ,bw,bW]
           rfl
          refine gA (i:=2) (N:=some 37) #[true,true,true,true,true,true,true,false,false,false,false] rfl rfl (dD a5.out (by kernel_rfl)) (by decide) (fun K hK=>?_)
          refine Kd.oC (Kd.int .i64) _ 3 (by rfl) (N:=37) rfl 28 _ _ rfl a2 rfl rfl Tryz.underlying28 (.int .i64 0) 8 eJ rfl (by decide) (by omega) 0 (ok:=fun _=>True) (okp:=fun _=>True) rfl (fun _ hk=>hk) trivial (af.D) (Nat.le_trans (Nat.mul_le_mul_right _ (af.D:a2.toNat≤35184372088832)) (by omega)) (Below.refl _ _) (Nat.le_refl _) ?_
          intro e1 f9 ap hb ci a8
          clear ci a8
          (first | rw [← cb.out] at ap | (simp only [Int.reduceToNat] at ap;rw [← cb.out] at ap))
          replace y:=ae.mk (Kd.aA (af.Sw y.out) (Kd.bF ap) hb)
          have cc:=ae.mk (Kd.b9 ap (aj (af.Lw HB.out)))
          replace HB:=af.lb HB hb
          clear hb ap
          refine hK.out _ _ (((HB.out.cell (World.block_lt_of_cell? w _ j)).trans j)) (fun hHeld=>?_)
          clear hK K
          refine eV (a':=?_) ?_ ?_
          rotate_left
          ·show Act.put _ (some 37) _ = _
           simp only [Act.put,List.setIfInBounds_toArray,List.set_cons_zero,List.set_cons_succ,bw,bW]
           rfl
          refine gA (i:=7) (N:=some 42) #[true,true,true,true,true,true,true,true,false,false,false] rfl rfl (dD a5.out (by kernel_rfl)) (by decide) (fun K hK=>?_)
          refine Kd.fC (Kd.int .i64) (w0:=w) w.heap.size (by rfl) (.tmp 37) (.tmp 41) 28 3 (.int .i64 0) 8 rfl Tryz.underlying28 eJ rfl (by decide) (by omega) e1 b2 (cw l0 z) _ _ _ (fun _=>True) (fun _=>False) rfl rfl ?aO ?aR (fun _ _ h=>h) (fun _ h=>h.elim) ?aF ?aB ?aS ?aL ?_
          (case aR=>repeat (first | exact (Kd.bG ao.out HB.out) | (with_reducible refine Kd.fk ?_ _) | (with_reducible refine Kd.fm ?_ _) | (with_reducible refine Kd.fJ ?_)))
          (case aB=>exact (af.Lw HB.out))
          (case aF=>exact (fun _ _=>trivial))
          (case aO=>exact (af.Rw cc.out))
          (case aS=>exact (aj (af.Lw HB.out)))
          (case aL=>have:=dE.out;omega)
          intro f0 fa ho hb hg hat
          rw [← d3.out] at ho
          have bc:=ae.mk (Kd.mq (ok:=(fun _=>True)) (af.Sw y.out) hg hat)
          have bd:=ae.mk hb
          have eg:=ae.mk ho
          clear y
          clear HB
          clear cc
          have y:=bc
          have HB:=bd
          have a7:=eg
          clear bc bd eg
          clear ho hb hg hat
          obtain ⟨d9,db,dd⟩:=Kd.aY a7.out
          (first | subst dd | (injection dd with eh f1 ej;have f2:=eh.symm;have f3:=ej.symm;clear eh f1 ej;subst f2;subst f3))
          refine hK.out _ _ (((HB.out.cell (World.block_lt_of_cell? w _ j)).trans j)) (fun hHeld=>?_)
          clear hK K
          refine eV (a':=?_) ?_ ?_
          rotate_left
          ·show Act.put _ (some 42) _ = _
           simp only [Act.put,List.setIfInBounds_toArray,List.set_cons_zero,List.set_cons_succ,bw,bW]
           rfl
          refine gA (i:=8) (N:=some 43) #[true,true,true,true,true,true,true,true,true,false,false] rfl rfl (dD a5.out (by kernel_rfl)) (by decide) (fun K hK=>?_)
          refine kK (w1:=?_) (v:=?_) (by rfl) rfl ?_ ?_
          rotate_left 2
          ·go_simp
           constructor
           ·rfl
           ·rfl
          refine hK.out _ _ ((World.cell?_alloc_lt _ _ _ (World.block_lt_of_cell? _ _ (((HB.out.cell (World.block_lt_of_cell? w _ j)).trans j)))).trans (((HB.out.cell (World.block_lt_of_cell? w _ j)).trans j))) (fun hHeld=>?_)
          clear hK K
          refine eV (a':=?_) ?_ ?_
          rotate_left
          ·show Act.put _ (some 43) _ = _
           simp only [Act.put,List.setIfInBounds_toArray,List.set_cons_zero,List.set_cons_succ,bw,bW]
           rfl
          refine gA (i:=9) (N:=some 44) #[true,true,true,true,true,true,true,true,true,true,false] rfl rfl (dD a5.out (by kernel_rfl)) (by decide) (fun K hK=>?_)
          refine Kd.nq (Kd.slice 3 (Kd.int .i64)) (w0:=w) w.heap.size (by rfl) (.tmp 35) (.tmp 43) 57 28 (.slice none 0 0) 24 rfl Tryz.underlying57 jZ rfl (by decide) (by omega) u7 Y aa [.slice d9 aa.length db] (fun _=>True) (fun k_=>some k_ = (.slice d9 aa.length db:Value).ownBlock) rfl rfl ?aP (fun k_ dt=>((Kd.aX (ok':=fun k_=>((fun _=>True)) k_∧some k_≠(u7:Value).ownBlock) (Kd.fh (a7.out) (Kd.gb y.out) (by decide)) (fun k_ hk=>⟨trivial,hk.2⟩))).1 k_ dt.symm) ?aF ?aO ?aB ?aS ?aL ?_
          (case aP=>exact Kd.kC (Kd.aX (Kd.iF rfl (Kd.aX (ok':=fun k_=>((fun _=>True)) k_∧some k_≠(u7:Value).ownBlock) (Kd.fh (a7.out) (Kd.gb y.out) (by decide)) (fun k_ hk=>⟨trivial,hk.2⟩))) (fun _ h_=>h_)))
          (case aB=>exact (af.Lw HB.out))
          (case aF=>exact (fun _ _=>trivial))
          (case aO=>exact (af.Sw (Kd.dh y.out (fun k_ hk=>⟨trivial,fun e_=>hk.2 e_⟩))))
          (case aS=>exact (aj (af.Lw HB.out)))
          (case aL=>have:=dT.out;omega)
          intro f4 fd ho hb hg hat
          rw [← d4.out] at ho
          have bc:=ae.mk hb
          have bd:=ae.mk ho
          clear HB
          clear y
          clear a7
          have HB:=bc
          have d6:=bd
          clear bc bd
          clear ho hb hg hat
          refine hK.out _ _ (((HB.out.cell (World.block_lt_of_cell? w _ j)).trans j)) (fun hHeld=>?_)
          clear hK K
          refine eV (a':=?_) ?_ ?_
          rotate_left
          ·show Act.put _ (some 44) _ = _
           simp only [Act.put,List.setIfInBounds_toArray,List.set_cons_zero,List.set_cons_succ,bw,bW]
           rfl
          refine af.pu 10 7 a5 ?_
          refine gh (er a5.out (by kernel_rfl)) ?_
          try go_wp2
          go_roundg k3
          case measure=>have:=cY.out;have:=d0.out;have:=ec.out;omega
          case rel=>exact ⟨(cx),(wrap64 (z+1)),af.F,H',⟨by have:=cY.out;have:=d0.out;have:=ec.out;omega⟩,⟨af.Sw d6.out⟩,⟨af.Lw HB.out⟩⟩
         ·rw [if_neg ce] at H
          have du:decide (z < (l0.length:Int)) = false:=decide_eq_false ce
          clear ce
          obtain rfl:=Option.some.inj H
          go_wp2
          go_ret
          exact ⟨_,af.E,by (with_reducible repeat (first | apply Kd.fE | apply Kd.fF | apply Kd.ez));exact y.out,af.L⟩
def dL.f (k:Nat) (y:Int) (z:List Int):Option (List Int):=(bf.f k y z).bind fun M=>(if M = true then ((aZ.f k y z).bind fun j=>((aQ.f k j 1 1).bind fun X=>((aQ.f k j 2 1).bind fun Y=>((aQ.f k j 1 2).bind fun a0=>((aQ.f k j 2 2).bind fun a1=>(some (([X,Y,a0,a1]:List Int)))))))) else (some (([]:List Int))))
set_option maxHeartbeats 8000000 in
set_option maxRecDepth 100000 in
theorem dL.calls (k:Nat) (Y:Int) (a4:Option Addr) (a5:Nat) (X:List Int) (r:List Int) (w:World) (aw:Kd.C (Kd.int .i64) w a4 X.length X) (aB:X.length≤a5) (h:dL.f k Y X = some r) :
  Calls Tryz.prog 62 #[.agg #[.int .i64 Y,.slice a4 X.length a5]] w fun e w'=>∃ b3:Value,e = .returned (b3)∧Kd.R (Kd.int .i64) 3 w' w.heap.size (fun _=>True) b3 r∧Below w.heap.size w w':=by
 have cy:=Tryz.underlying30
 have aa:=ae.mk aw
 have ab:=ae.mk aB
 clear aw aB
 have HB:=ae.mk (Below.refl w.heap.size w)
 unfold dL.f at h
 have H:=h
 clear h
 obtain ⟨aS,A2,H⟩:=af.be H
 (try dsimp only at H)
 by_cases c3:aS = true
 ·subst c3
  replace H:((aZ.f k Y X).bind fun y=>((aQ.f k y 1 1).bind fun a0=>((aQ.f k y 2 1).bind fun a1=>((aQ.f k y 1 2).bind fun a2=>((aQ.f k y 2 2).bind fun a3=>(some (([a0,a1,a2,a3]:List Int)))))))) = some r:=by rw [if_pos rfl] at H;exact H
  obtain ⟨y,A4,H⟩:=af.be H
  (try dsimp only at H)
  obtain ⟨a0,A5,H⟩:=af.be H
  (try dsimp only at H)
  obtain ⟨a1,A6,H⟩:=af.be H
  (try dsimp only at H)
  obtain ⟨a2,A7,H⟩:=af.be H
  (try dsimp only at H)
  obtain ⟨a3,A8,H⟩:=af.be H
  (try dsimp only at H)
  obtain ⟨b0,a7⟩:∃ y_:List Int,y_ = (([a0,a1,a2,a3]:List Int)):=⟨_,rfl⟩
  replace H:(some b0) = some r:=by (try rw [a7]);exact af.Z
  have am:=ae.mk a7
  clear a7
  obtain rfl:=Option.some.inj H
  go_enter Tryz.func62,Tryz.ntmps62
  go_wp2_with (first | (refine af.bx 1 #[.int .i64 Y,.slice a4 X.length a5] 30 ?_;intro aF hg w9 hbox hb;have j:=ae.mk hbox;have aL:=af.gw hg HB;have aO:=af.gw hg HB;replace HB:=af.lb HB hb;clear hb hbox hg;obtain ⟨b4,ba,bc,bd⟩:=af.bR j.out) | (refine af.gl (some 5) Tryz.func26 #[.agg #[.int .i64 Y,.slice a4 X.length a5]] ?_;(with_reducible refine (bf.calls k Y _ _ X true _ ?side1 ?side2 A2.out).mono ?_);(case side1=>exact af.Cw (Kd.bG aa.out HB.out));(case side2=>exact ab.out);rintro e cX ⟨rfl,hb⟩;refine ⟨_,rfl,?_⟩;replace j:=af.bb j hb;replace HB:=af.lb HB hb;(try clear hb);(try clear bi);(try clear hk);(try clear hi);obtain ⟨bm,bo,bs,bv⟩:=af.bR j.out) | (refine af.gl (some 9) Tryz.func48 #[.agg #[.int .i64 Y,.slice a4 X.length a5]] ?_;(with_reducible refine (aZ.calls k Y _ _ X y _ ?side1 ?side2 A4.out).mono ?_);(case side1=>exact af.Cw (Kd.bG aa.out HB.out));(case side2=>exact ab.out);rintro e cY ⟨ci,rfl,ca,hb⟩;refine ⟨_,rfl,?_⟩;have z:=ae.mk (Kd.cT ca (aj (af.Lw HB.out)));replace j:=af.bb j hb;replace HB:=af.lb HB hb;(try clear hb);(try clear bi);(try clear hk);(try clear hi);(try clear ca);obtain ⟨ao,ap,cb⟩:=Kd.cP z.out;subst cb) | (refine af.gl (some 11) Tryz.func49 #[.slice ao y.length ap,.int .i64 1,.int .i64 1] ?_;(with_reducible refine (aQ.calls k _ _ y 1 1 a0 _ ?side1 ?side2 A5.out).mono ?_);(case side1=>exact af.Cw ((Kd.aE z.out).2.2));(case side2=>exact (Kd.aE z.out).2.1);rintro e w' ⟨rfl,⟨nd,rfl⟩⟩;refine ⟨_,rfl,?_⟩) | (refine af.gl (some 13) Tryz.func49 #[.slice ao y.length ap,.int .i64 2,.int .i64 1] ?_;(with_reducible refine (aQ.calls k _ _ y 2 1 a1 _ ?side1 ?side2 A6.out).mono ?_);(case side1=>exact af.Cw ((Kd.aE z.out).2.2));(case side2=>exact (Kd.aE z.out).2.1);rintro e w' ⟨rfl,⟨nd,rfl⟩⟩;refine ⟨_,rfl,?_⟩) | (refine af.gl (some 15) Tryz.func49 #[.slice ao y.length ap,.int .i64 1,.int .i64 2] ?_;(with_reducible refine (aQ.calls k _ _ y 1 2 a2 _ ?side1 ?side2 A7.out).mono ?_);(case side1=>exact af.Cw ((Kd.aE z.out).2.2));(case side2=>exact (Kd.aE z.out).2.1);rintro e w' ⟨rfl,⟨nd,rfl⟩⟩;refine ⟨_,rfl,?_⟩) | (refine af.gl (some 17) Tryz.func49 #[.slice ao y.length ap,.int .i64 2,.int .i64 2] ?_;(with_reducible refine (aQ.calls k _ _ y 2 2 a3 _ ?side1 ?side2 A8.out).mono ?_);(case side1=>exact af.Cw ((Kd.aE z.out).2.2));(case side2=>exact (Kd.aE z.out).2.1);rintro e w' ⟨rfl,⟨nd,rfl⟩⟩;refine ⟨_,rfl,?_⟩) | ((with_reducible refine bJ (N:=18) rfl ?_);refine Kd.iY (Kd.int .i64) _ 3 ?hg (N:=18) ?hd (xs:=([a0,a1,a2,a3]:List Int)) (inner:=[.int .i64 a0,.int .i64 a1,.int .i64 a2,.int .i64 a3]) (ok:=fun _=>True) (okp:=fun _=>True) ?hr ?hp (fun _ hk=>hk) trivial (Below.refl _ _) (Nat.le_refl _) (by simp) ?_;(case hd=>rfl);(case hg=>rfl);(case hr=>first | (go_simp;done) | (go_simp;rfl));(case hp=>exact (cE.one (show Kd.M (Kd.int .i64) _ _ _ a0 [.int .i64 a0] from rfl) (cE.one (show Kd.M (Kd.int .i64) _ _ _ a1 [.int .i64 a1] from rfl) (cE.one (show Kd.M (Kd.int .i64) _ _ _ a2 [.int .i64 a2] from rfl) (cE.one (show Kd.M (Kd.int .i64) _ _ _ a3 [.int .i64 a3] from rfl) (cE.none _ _))))));intro cp d0 a6 hb b1 al;clear b1 al;(first | rw [← am.out] at a6 | (simp only [Int.reduceToNat] at a6;rw [← am.out] at a6));replace z:=ae.mk (Kd.aA (af.Sw z.out) (Kd.bF a6) hb);have aP:=ae.mk (Kd.b9 a6 (aj (af.Lw HB.out)));replace j:=af.bb j hb;replace HB:=af.lb HB hb;clear hb a6))
  go_ret
  exact ⟨_,af.E,by (with_reducible repeat (first | apply Kd.cL | apply Kd.cM | apply Kd.bS));exact aP.out,af.L⟩
 ·replace c3:=Bool.eq_false_iff.mpr c3
  subst c3
  replace H:(some (([]:List Int))) = some r:=by rw [if_neg (show ¬ (false = true) by decide)] at H;exact H
  obtain ⟨b2,a8⟩:∃ y_:List Int,y_ = (([]:List Int)):=⟨_,rfl⟩
  replace H:(some b2) = some r:=by (try rw [a8]);exact af.Z
  have ar:=ae.mk a8
  clear a8
  obtain rfl:=Option.some.inj H
  go_enter Tryz.func62,Tryz.ntmps62
  go_wp2_with (first | (refine af.bx 1 #[.int .i64 Y,.slice a4 X.length a5] 30 ?_;intro aF hg d1 hbox hb;have j:=ae.mk hbox;have aL:=af.gw hg HB;have aO:=af.gw hg HB;replace HB:=af.lb HB hb;clear hb hbox hg;obtain ⟨cc,cd,ce,cf⟩:=af.bR j.out) | (refine af.gl (some 5) Tryz.func26 #[.agg #[.int .i64 Y,.slice a4 X.length a5]] ?_;(with_reducible refine (bf.calls k Y _ _ X false _ ?side1 ?side2 A2.out).mono ?_);(case side1=>exact af.Cw (Kd.bG aa.out HB.out));(case side2=>exact ab.out);rintro e d2 ⟨rfl,hb⟩;refine ⟨_,rfl,?_⟩;replace j:=af.bb j hb;replace HB:=af.lb HB hb;(try clear hb);(try clear bi);(try clear hk);(try clear hi)) | (refine af.lt (Kd.int .i64) 3 7 ?_;intro cx d3 a9 hb b1 al;clear b1 al;(first | rw [← ar.out] at a9 | (simp only [Int.reduceToNat] at a9;rw [← ar.out] at a9));have aR:=ae.mk (Kd.b9 a9 (aj (af.Lw HB.out)));replace j:=af.bb j hb;replace HB:=af.lb HB hb;clear hb a9))
  go_ret
  exact ⟨_,af.E,by (with_reducible repeat (first | apply Kd.cL | apply Kd.cM | apply Kd.bS));exact aR.out,af.L⟩
mutual
def aN.j0:Nat→Int→List Int→List Int→Bool→Option (List Int)
 | 0,_,_,_,_=>none
 | k+1,X,M,z,a0=>if a0 = true then (some z) else (aN.l0 k X M z 0)
def aN.l0:Nat→Int→List Int→List Int→Int→Option (List Int)
 | 0,_,_,_,_=>none
 | k+1,X,M,z,Y=>if Y < (M.length:Int) then ((br.f X).bind fun j=>(if 0≤Y then (if z.length < 17592186044416 then (aN.l0 k X M (z ++ [wrap64 (j - (rd M Y))]) (wrap64 (Y+1))) else (none)) else (none))) else ((aC.f k z).bind fun y=>(some y))
end
def aN.f (k:Nat) (a0:Int) (l1:List Int):Option (List Int):=(some (([]:List Int):List Int)).bind fun j=>((bH.f a0 0 8).bind fun y=>(if y = true then ((bX.f k a0 l1).bind fun z=>(aN.j0 k a0 l1 j (!z))) else (aN.j0 k a0 l1 j true)))
def aN.T7:Bool×List (List Nat×List Nat):=(true,[([],[]),([],[]),([1],[1]),([],[]),([],[]),([3,4],[3,4]),([5],[5]),([2,6],[2,6]),([7],[7]),([0,8,2],[0,8]),([9,9,0,1,2,3,4,5,6,7,8,9],[0,9])])
def aN.B7:List Nat:=[0,0,2,0,0,24,56,126,254,511,1023]
theorem aN.wT:gr .any (opsOf Tryz.f124 7) = aN.T7:=by kernel_rfl
theorem aN.wu:eL aN.T7.2 aN.B7 = true:=by kernel_rfl
set_option maxHeartbeats 8000000 in
set_option maxRecDepth 100000 in
theorem aN.calls (k:Nat) (a0:Int) (A1:Option Addr) (c1:Nat) (l1:List Int) (r:List Int) (w:World) (bc:Kd.C (Kd.int .i64) w A1 l1.length l1) (bd:l1.length≤c1) (h:aN.f k a0 l1 = some r) :
  Calls Tryz.prog 124 #[.int .i64 a0,.slice A1 l1.length c1] w fun e w'=>∃ bi:Value,e = .returned (bi)∧Kd.R (Kd.int .i64) 3 w' w.heap.size (fun _=>True) bi r∧Below w.heap.size w w':=by
 have bm:=ae.mk bc
 have ci:=ae.mk bd
 clear bc bd
 have HB:=ae.mk (Below.refl w.heap.size w)
 unfold aN.f at h
 have H:=h
 clear h
 obtain ⟨X,a3⟩:∃ y_:List Int,y_ = (([]:List Int)):=⟨_,rfl⟩
 replace H:((bH.f a0 0 8).bind fun a7=>(if a7 = true then ((bX.f k a0 l1).bind fun Y=>(aN.j0 k a0 l1 X (!Y))) else (aN.j0 k a0 l1 X true))) = some r:=by (try rw [a3]);exact af.Z
 have a8:=ae.mk a3
 clear a3
 have ar:=ae.mk H
 clear H
 go_enter Tryz.func124,Tryz.ntmps124
 go_upto_region 2 with (first | (refine af.lt (Kd.int .i64) 3 7 ?_;intro aw w4 aa hb cp aR;clear cp aR;(first | rw [← a8.out] at aa | (simp only [Int.reduceToNat] at aa;rw [← a8.out] at aa));have a9:=ae.mk (Kd.b9 aa (aj (af.Lw HB.out)));replace HB:=af.lb HB hb;clear hb aa))
 (try simp only [Act.put,List.setIfInBounds_toArray,List.set_cons_zero,List.set_cons_succ])
 go_cut [16] (fun cx wc=>∃ (kq:Nat) (a4:Bool),cx = .bool a4∧ae (aN.j0 kq a0 l1 X a4 = some r)∧ae (kq≤k)∧ae (Kd.R (Kd.int .i64) 3 wc w.heap.size (fun _=>True) aw X)∧ae (Below w.heap.size w wc))
 case first =>
  have H:=ar.out
  clear ar
  obtain ⟨a7,A6,H⟩:=af.be H
  (try dsimp only at H)
  by_cases c7:a7 = true
  ·subst c7
   replace H:((bX.f k a0 l1).bind fun Y=>(aN.j0 k a0 l1 X (!Y))) = some r:=by rw [if_pos rfl] at H;exact H
   obtain ⟨Y,A8,H⟩:=af.be H
   (try dsimp only at H)
   have H':=ae.mk H
   clear H
   go_wp2_with (first | ((with_reducible refine ax (f:=94) rfl ?_);refine af.gl (some 9) Tryz.func94 #[.int .i64 a0,.int .i64 0,.int .i64 8] ?_;(with_reducible refine (bH.calls a0 0 8 true _ A6.out).mono ?_);rintro e w' ⟨rfl,⟨nd,rfl⟩⟩;refine ⟨_,rfl,?_⟩) | (go_at_call 136;(with_reducible refine (bX.calls k a0 _ _ l1 Y _ ?side1 ?side2 A8.out).mono ?_);(case side1=>exact af.Cw (Kd.bG bm.out HB.out));(case side2=>exact ci.out);rintro e w' ⟨rfl,⟨nd,rfl⟩⟩))
   go_meet
   case rel=>exact ⟨_,(!Y),af.F,H',⟨by first | omega | exact Nat.le_refl _⟩,⟨af.Rw a9.out⟩,⟨af.Lw HB.out⟩⟩
  ·replace c7:=Bool.eq_false_iff.mpr c7
   subst c7
   replace H:(aN.j0 k a0 l1 X true) = some r:=by rw [if_neg (show ¬ (false = true) by decide)] at H;exact H
   have H':=ae.mk H
   clear H
   go_wp2_with (first | ((with_reducible refine ax (f:=94) rfl ?_);refine af.gl (some 9) Tryz.func94 #[.int .i64 a0,.int .i64 0,.int .i64 8] ?_;(with_reducible refine (bH.calls a0 0 8 false _ A6.out).mono ?_);rintro e w' ⟨rfl,⟨nd,rfl⟩⟩;refine ⟨_,rfl,?_⟩))
   go_meet
   case rel=>exact ⟨_,(true),af.F,H',⟨by first | omega | exact Nat.le_refl _⟩,⟨af.Rw a9.out⟩,⟨af.Lw HB.out⟩⟩
 case rest =>
  clear ar
  obtain ⟨kq,a4,rfl,HA,bo,y,HB⟩:=hcut
  cases kq with
  | zero=>exact absurd HA.out (by simp [aN.j0])
  | succ b0 =>
   have H:=HA.out
   clear HA
   simp only [aN.j0] at H
   by_cases c9:a4 = true
   ·subst c9
    replace H:(some X) = some r:=by rw [if_pos rfl] at H;exact H
    obtain rfl:=Option.some.inj H
    go_wp2
    go_ret
    exact ⟨_,af.E,by (with_reducible repeat (first | apply Kd.cL | apply Kd.cM | apply Kd.bS));exact y.out,af.L⟩
   ·replace c9:=Bool.eq_false_iff.mpr c9
    subst c9
    replace H:(aN.l0 b0 a0 l1 X 0) = some r:=by rw [if_neg (show ¬ (false = true) by decide)] at H;exact H
    have H':=ae.mk H
    clear H
    go_wp2
    go_loopg [5,6] b0 (fun kq v5 v6 w'=>∃ (a2:List Int) (z:Int),v6 = .int .i64 z∧ae (aN.l0 kq a0 l1 a2 z = some r)∧ae (kq≤b0)∧ae (Kd.R (Kd.int .i64) 3 w' w.heap.size (fun _=>True) v5 a2)∧ae (Below w.heap.size w w'))
    case atStart=>exact ⟨(X),(0),af.F,H',⟨Nat.le_refl _⟩,⟨af.Rw y.out⟩,⟨af.Lw HB.out⟩⟩
    case round =>
     clear H'
     obtain ⟨a2,z,rfl,HA,bs,y,HB⟩:=hrel
     cases gk with
     | zero=>exact absurd HA.out (by simp [aN.l0])
     | succ k2 =>
      have H:=HA.out
      clear HA
      simp only [aN.l0] at H
      by_cases gz:z < (l1.length:Int)
      ·rw [if_pos gz] at H
       have b1:=decide_eq_true gz
       clear gz
       obtain ⟨a5,cy,H⟩:=af.be H
       (try dsimp only at H)
       obtain ⟨bv,H⟩:=af.ip H
       have cX:=decide_eq_true bv
       clear bv
       obtain ⟨ca,H⟩:=af.ip H
       have b2:=ae.mk ca
       clear ca
       obtain ⟨ab,a6⟩:∃ y_:List Int,y_ = (a2 ++ [wrap64 (a5 - (rd l1 z))]):=⟨_,rfl⟩
       replace H:(aN.l0 k2 a0 l1 ab (wrap64 (z+1))) = some r:=by (try rw [a6]);exact af.Z
       have al:=ae.mk a6
       clear a6
       have H':=ae.mk H
       clear H
       try go_wp2
       replace y:=ae.mk (Kd.bS y.out)
       replace HB:=ae.mk (bU HB.out)
       obtain ⟨am,b3,M,cY,d0⟩:=af.ai bm.out z
       have j:=M
       cases b3
       try replace M:=(HB.out.cell (World.block_lt_of_cell? w _ M)).trans M
       refine eS (n:=11) (S:=fun w'=>w'.cell? (am.add (z).toNat) = some (.int .i64 (rd l1 z))) (ds:=[]) #[false,false,false,false,false,false,false,false,false,false,false] (by kernel_rfl) rfl rfl (((HB.out.cell (World.block_lt_of_cell? w _ j)).trans j)) (fun hHeld=>?_);refine dn aN.wT aN.wu (fun a1 d1=>?_)
       generalize wr.drew = d5 at y HB M hHeld ⊢
       refine af.pu 0 24 a1 ?_
       refine af.pu 1 25 a1 ?_
       refine af.pu 3 27 a1 ?_
       refine af.pu 4 28 a1 ?_
       refine af.pu 5 29 a1 ?_
       refine mD (i:=6) (N:=some 30) (v:=?_) (a':=?_) #[true,true,false,true,true,true,true,false,false,false,false] rfl rfl (jY a1.out d1.out (by kernel_rfl)) (fun _ _ _ h=>h) (Or.inl ⟨by rfl,?_⟩) hHeld ?_ ?_
       rotate_left
       ·intro w' s0
        go_simp
        with_reducible rfl
       rotate_left
       ·simp only [Act.put,List.setIfInBounds_toArray,List.set_cons_zero,List.set_cons_succ,bw,bW]
        rfl
       refine gA (i:=2) (N:=some 26) #[true,true,true,true,true,true,true,false,false,false,false] rfl rfl (dD a1.out (by kernel_rfl)) (by decide) (fun K hK=>?_)
       refine iZ Tryz.func24 (by kernel_rfl) rfl #[.int .i64 a0] (by rfl) rfl rfl (by (try simp only [List.map_toArray,List.map_cons,List.map_nil]);first | done | rfl) ?_
       with_reducible refine (br.calls a0 a5 _ cy.out).mono ?_
       rintro e w' ⟨rfl,⟨nd,rfl⟩⟩
       refine ⟨_,rfl,?_⟩
       refine hK.out _ _ (((HB.out.cell (World.block_lt_of_cell? w _ j)).trans j)) (fun hHeld=>?_)
       clear hK K
       refine eV (a':=?_) ?_ ?_
       rotate_left
       ·show Act.put _ (some 26) _ = _
        simp only [Act.put,List.setIfInBounds_toArray,List.set_cons_zero,List.set_cons_succ,bw,bW]
        rfl
       refine af.pu 7 31 a1 ?_
       refine gA (i:=8) (N:=some 32) #[true,true,true,true,true,true,true,true,true,false,false] rfl rfl (dD a1.out (by kernel_rfl)) (by decide) (fun K hK=>?_)
       refine kK (w1:=?_) (v:=?_) (by rfl) rfl ?_ ?_
       rotate_left 2
       ·go_simp
        constructor
        ·rfl
        ·rfl
       refine hK.out _ _ ((World.cell?_alloc_lt _ _ _ (World.block_lt_of_cell? _ _ (((HB.out.cell (World.block_lt_of_cell? w _ j)).trans j)))).trans (((HB.out.cell (World.block_lt_of_cell? w _ j)).trans j))) (fun hHeld=>?_)
       clear hK K
       refine eV (a':=?_) ?_ ?_
       rotate_left
       ·show Act.put _ (some 32) _ = _
        simp only [Act.put,List.setIfInBounds_toArray,List.set_cons_zero,List.set_cons_succ,bw,bW]
        rfl
       refine gA (i:=9) (N:=some 33) #[true,true,true,true,true,true,true,true,true,true,false] rfl rfl (dD a1.out (by kernel_rfl)) (by decide) (fun K hK=>?_)
       refine Kd.fS (Kd.int .i64) (w0:=w) w.heap.size (by rfl) (.tmp 24) (.tmp 32) 28 3 (.int .i64 0) 8 rfl Tryz.underlying28 eJ rfl (by decide) (by omega) u5 a2 (wrap64 (a5 - (rd l1 z))) [.int .i64 (wrap64 (a5 - (rd l1 z)))] (fun _=>True) (fun _=>False) rfl rfl ?aP (fun _ hk=>hk.elim) ?aF ?aO ?aB ?aS ?aL ?_
       (case aP=>exact rfl)
       (case aB=>exact (af.Lw HB.out))
       (case aF=>exact (fun _ _=>trivial))
       (case aO=>exact (af.Rw y.out))
       (case aS=>exact (aj (af.Lw HB.out)))
       (case aL=>have:=b2.out;omega)
       intro d2 d6 ho hb hg hat
       rw [← al.out] at ho
       have cb:=ae.mk hb
       have cc:=ae.mk ho
       clear HB
       clear y
       have HB:=cb
       have ao:=cc
       clear cb cc
       clear ho hb hg hat
       refine hK.out _ _ (((HB.out.cell (World.block_lt_of_cell? w _ j)).trans j)) (fun hHeld=>?_)
       clear hK K
       refine eV (a':=?_) ?_ ?_
       rotate_left
       ·show Act.put _ (some 33) _ = _
        simp only [Act.put,List.setIfInBounds_toArray,List.set_cons_zero,List.set_cons_succ,bw,bW]
        rfl
       refine af.pu 10 5 a1 ?_
       refine gh (er a1.out (by kernel_rfl)) ?_
       try go_wp2
       go_roundg k2
       case measure=>have:=bo.out;have:=bs.out;omega
       case rel=>exact ⟨(ab),(wrap64 (z+1)),af.F,H',⟨by have:=bo.out;have:=bs.out;omega⟩,⟨af.Rw ao.out⟩,⟨af.Lw HB.out⟩⟩
      ·rw [if_neg gz] at H
       have b1:decide (z < (l1.length:Int)) = false:=decide_eq_false gz
       clear gz
       obtain ⟨b4,d3,H⟩:=af.be H
       (try dsimp only at H)
       obtain rfl:=Option.some.inj H
       obtain ⟨cd,ce,cf⟩:=Kd.aY y.out
       subst cf
       go_wp2_with (first | ((with_reducible refine ax (f:=137) rfl ?_);refine af.gl (some 35) Tryz.func137 #[.slice cd a2.length ce] ?_;(with_reducible refine (aC.calls k2 _ _ a2 b4 _ ?side1 ?side2 d3.out).mono ?_);(case side1=>exact af.Cw ((Kd.au y.out).2.2));(case side2=>exact (Kd.au y.out).2.1);rintro e d7 ⟨d4,rfl,ba,hb⟩;refine ⟨_,rfl,?_⟩;have ap:=ae.mk (Kd.b9 (Kd.dc ba (Kd.cD (af.Rw y.out))) (aj (af.Lw HB.out)));replace y:=ae.mk (Kd.cm (af.Rw y.out) (Kd.bF ba) hb);replace HB:=af.lb HB hb;(try clear hb);(try clear d8);(try clear hk);(try clear hi);(try clear ba)))
       go_ret
       exact ⟨_,af.E,by (with_reducible repeat (first | apply Kd.cL | apply Kd.cM | apply Kd.bS));exact Kd.aX ap.out (fun _ hk=>trivial),af.L⟩
def dx.f (k:Nat) (j:Int) (y:List Int):Option (Int×List Int):=(bf.f k j y).bind fun z=>(if z = true then ((aN.f k j y).bind fun M=>(some (j,M))) else (some (0,([]:List Int))))
def dx.T3:Bool×List (List Nat×List Nat):=(true,[([],[]),([0],[0]),([],[]),([2],[2]),([],[]),([4],[4]),([3,5],[3,5]),([1,6],[1,6]),([7,6,0,1,2,3,4,5,6,7],[7])])
def dx.B3:List Nat:=[0,1,0,4,0,16,60,127,255]
theorem dx.vw:gr .any (opsOf Tryz.f63 3) = dx.T3:=by kernel_rfl
theorem dx.sK:eL dx.T3.2 dx.B3 = true:=by kernel_rfl
set_option maxHeartbeats 8000000 in
set_option maxRecDepth 100000 in
theorem dx.calls (k:Nat) (Y:Int) (a1:Option Addr) (a2:Nat) (a0:List Int) (r1:Int) (r2:List Int) (w:World) (a9:Kd.C (Kd.int .i64) w a1 a0.length a0) (aa:a0.length≤a2) (h:dx.f k Y a0 = some (r1,r2)) :
  Calls Tryz.prog 63 #[.agg #[.int .i64 Y,.slice a1 a0.length a2]] w fun e w'=>∃ aL:Value,e = .returned (.agg #[.int .i64 r1,aL])∧Kd.R (Kd.int .i64) 3 w' w.heap.size (fun _=>True) aL r2∧Below w.heap.size w w':=by
 have d0:=Tryz.underlying30
 have a6:=ae.mk a9
 have a7:=ae.mk aa
 clear a9 aa
 have HB:=ae.mk (Below.refl w.heap.size w)
 unfold dx.f at h
 have H:=h
 clear h
 obtain ⟨aB,A2,H⟩:=af.be H
 (try dsimp only at H)
 by_cases c3:aB = true
 ·subst c3
  replace H:((aN.f k Y a0).bind fun a3=>(some (Y,a3))) = some (r1,r2):=by rw [if_pos rfl] at H;exact H
  obtain ⟨a3,A4,H⟩:=af.be H
  (try dsimp only at H)
  simp only [Option.some.injEq,Prod.mk.injEq] at H
  obtain ⟨rfl,rfl⟩:=H
  go_enter Tryz.func63,Tryz.ntmps63
  try go_wp2_with (first | (refine af.bx 1 #[.int .i64 Y,.slice a1 a0.length a2] 30 ?_;intro a5 hg w5 hbox hb;have j:=ae.mk hbox;have ab:=af.gw hg HB;have al:=af.gw hg HB;replace HB:=af.lb HB hb;clear hb hbox hg) | (refine af.bx 2 #[.int .i64 0,.slice none 0 0] 30 ?_;intro M hg w6 hbox hb;have z:=ae.mk hbox;have am:=af.gw hg HB;have ao:=af.gw hg HB;replace HB:=af.lb HB hb;have y:=af.nl hg j;have X:=af.ng hg j;replace j:=af.bb j hb;clear hb hbox hg;have d1:=y.out;have d2:=X.out;obtain ⟨ca,cb,cc,cd⟩:=af.bR j.out) | (refine af.gl (some 4) Tryz.func26 #[.agg #[.int .i64 Y,.slice a1 a0.length a2]] ?_;(with_reducible refine (bf.calls k Y _ _ a0 true _ ?side1 ?side2 A2.out).mono ?_);(case side1=>exact af.Cw (Kd.bG a6.out HB.out));(case side2=>exact a7.out);rintro e w9 ⟨rfl,hb⟩;refine ⟨_,rfl,?_⟩;replace j:=af.bb j hb;replace z:=af.bb z hb;replace HB:=af.lb HB hb;(try clear hb);(try clear aO);(try clear hk);(try clear hi)))
  replace j:=ae.mk (dZ j.out)
  replace z:=ae.mk (dZ z.out)
  replace HB:=ae.mk (bU HB.out)
  refine eS (n:=9) (S:=fun w'=>w'.cell? ⟨a5,0,none⟩ = some (.int .i64 Y)∧w'.cell? ⟨a5,1,none⟩ = some (.slice a1 a0.length a2)) (ds:=[]) #[false,false,false,false,false,false,false,false,false] (by kernel_rfl) rfl rfl ⟨(ak j.out 0).trans rfl,(ak j.out 1).trans rfl⟩ (fun hHeld=>?_);refine dn dx.vw dx.sK (fun a4 aF=>?_)
  generalize w9.drew = d5 at j z HB hHeld ⊢
  refine af.pu 0 7 a4 ?_
  refine af.pu 2 9 a4 ?_
  refine af.pu 4 11 a4 ?_
  refine af.tk 1 8 a4 aF hHeld ?_
  refine af.tk 3 10 a4 aF hHeld ?_
  refine af.tk 5 12 a4 aF hHeld ?_
  refine gA (i:=6) (N:=some 13) #[true,true,true,true,true,true,true,false,false] rfl rfl (dD a4.out (by kernel_rfl)) (by decide) (fun K hK=>?_)
  refine iZ Tryz.func124 (by kernel_rfl) rfl #[.int .i64 Y,.slice a1 a0.length a2] (by rfl) rfl rfl (by (try simp only [List.map_toArray,List.map_cons,List.map_nil]);first | done | rfl) ?_
  with_reducible refine (aN.calls k Y _ _ a0 a3 _ ?side1 ?side2 A4.out).mono ?_
  (case side1=>exact af.Cw (Kd.bG a6.out HB.out))
  (case side2=>exact a7.out)
  rintro e aP ⟨ce,rfl,aR,hb⟩
  refine ⟨_,rfl,?_⟩
  have a8:=ae.mk (Kd.b9 aR (aj (af.Lw HB.out)))
  replace j:=af.bb j hb
  replace z:=af.bb z hb
  replace HB:=af.lb HB hb
  (try clear hb)
  (try clear aO)
  (try clear hk)
  (try clear hi)
  (try clear aR)
  obtain ⟨ap,ar,aw⟩:=Kd.aY a8.out
  (first | subst aw | (injection aw with aS cf b0;have ci:=aS.symm;have cp:=b0.symm;clear aS cf b0;subst ci;subst cp))
  refine hK.out _ _ ⟨(ak j.out 0).trans rfl,(ak j.out 1).trans rfl⟩ (fun hHeld=>?_)
  clear hK K
  refine eV (a':=?_) ?_ ?_
  rotate_left
  ·show Act.put _ (some 13) _ = _
   simp only [Act.put,List.setIfInBounds_toArray,List.set_cons_zero,List.set_cons_succ,bw,bW]
   rfl
  refine af.pu 7 14 a4 ?_
  refine gA (i:=8) (N:=none) #[true,true,true,true,true,true,true,true,true] rfl rfl (dD a4.out (by kernel_rfl)) (by decide) (fun K hK=>?_)
  have d3:aP.cell? ⟨M,0,none⟩ = some (.int .i64 0):=(ak z.out 0).trans rfl
  have cx:=an z.out 0
  have b1:=y.out
  have b2:=X.out
  have d4:aP.cell? ⟨M,1,none⟩ = some (.slice none 0 0):=(ak z.out 1).trans rfl
  have cy:=an z.out 1
  have b3:=y.out
  have b4:=X.out
  refine mL (w1:=?_) (by rfl) rfl ?_ ?_
  rotate_left
  ·go_simp
   rfl
  refine hK.out _ _ ⟨((cell_far (p:=⟨M,_,none⟩) y.out _).trans (((cell_far (p:=⟨M,_,none⟩) y.out _).trans (hHeld.1)))),((cell_far (p:=⟨M,_,none⟩) y.out _).trans (((cell_far (p:=⟨M,_,none⟩) y.out _).trans (hHeld.2))))⟩ (fun hHeld=>?_)
  clear hK K
  refine gh (er a4.out (by kernel_rfl)) ?_
  try go_wp2
  refine bodyPost_ret (results_cell_row rfl _ _ M 30 #[.int .i64 Y,.slice ap a3.length ar] (0,0) _ rfl af.B Tryz.underlying30 rfl (by kernel_rfl)) rfl ?_
  exact ⟨_,af.E,by (with_reducible repeat (first | apply Kd.cL | apply Kd.cM | apply Kd.bS));exact Kd.aX (Kd.cI (p:=⟨M,1,none⟩) (Kd.cI (p:=⟨M,0,none⟩) (Kd.cR a8.out z.out (by decide)) (fun _ hk=>hk.2) (.int .i64 Y)) (fun _ hk=>hk.2) (.slice ap a3.length ar)) (fun _ hk=>trivial),af.L⟩
 ·replace c3:=Bool.eq_false_iff.mpr c3
  subst c3
  replace H:(some (0,([]:List Int))) = some (r1,r2):=by rw [if_neg (show ¬ (false = true) by decide)] at H;exact H
  simp only [Option.some.injEq,Prod.mk.injEq] at H
  obtain ⟨rfl,rfl⟩:=H
  go_enter Tryz.func63,Tryz.ntmps63
  go_wp2_with (first | (refine af.bx 1 #[.int .i64 Y,.slice a1 a0.length a2] 30 ?_;intro a5 hg d6 hbox hb;have j:=ae.mk hbox;have ab:=af.gw hg HB;have al:=af.gw hg HB;replace HB:=af.lb HB hb;clear hb hbox hg) | (refine af.bx 2 #[.int .i64 0,.slice none 0 0] 30 ?_;intro M hg d7 hbox hb;have z:=ae.mk hbox;have am:=af.gw hg HB;have ao:=af.gw hg HB;replace HB:=af.lb HB hb;have y:=af.nl hg j;have X:=af.ng hg j;replace j:=af.bb j hb;clear hb hbox hg;have cX:=y.out;have cY:=X.out;obtain ⟨ba,bc,bd,bi⟩:=af.bR j.out) | (refine af.gl (some 4) Tryz.func26 #[.agg #[.int .i64 Y,.slice a1 a0.length a2]] ?_;(with_reducible refine (bf.calls k Y _ _ a0 false _ ?side1 ?side2 A2.out).mono ?_);(case side1=>exact af.Cw (Kd.bG a6.out HB.out));(case side2=>exact a7.out);rintro e d8 ⟨rfl,hb⟩;refine ⟨_,rfl,?_⟩;replace j:=af.bb j hb;replace z:=af.bb z hb;replace HB:=af.lb HB hb;(try clear hb);(try clear aO);(try clear hk);(try clear hi);obtain ⟨bm,bo,bs,bv⟩:=af.bR z.out))
  refine bodyPost_ret (results_cell_row rfl _ _ M 30 #[.int .i64 0,.slice none 0 0] (0,0) _ rfl af.B Tryz.underlying30 rfl (by kernel_rfl)) rfl ?_
  exact ⟨_,af.E,af.N,af.L⟩
def ey.f (l0:List (List Int)) (j:Int) (a2:Int):Option (Int):=if j < 0 then (some 0) else (if j≥(l0.length:Int) then (some 0) else (if a2 < 0 then (some 0) else (if 0≤j then (if j < (l0.length:Int) then (if a2≥((cw l0 j).length:Int) then (some 0) else (if 0≤a2 then (if a2 < ((cw l0 j).length:Int) then (some (rd (cw l0 j) a2)) else (none)) else (none))) else (none)) else (none))))
set_option maxHeartbeats 8000000 in
set_option maxRecDepth 100000 in
theorem ey.calls (A0:Option Addr) (c0:Nat) (l0:List (List Int)) (a1:Int) (a2:Int) (r:Int) (w:World) (aL:Kd.C (Kd.slice 3 (Kd.int .i64)) w A0 l0.length l0) (aO:l0.length≤c0) (h:ey.f l0 a1 a2 = some r) :
  Calls Tryz.prog 64 #[.slice A0 l0.length c0,.int .i64 a1,.int .i64 a2] w fun e w'=>e = .returned (.int .i64 r)∧cQ w w':=by
 have ao:=ae.mk aL
 have ca:=ae.mk aO
 clear aL aO
 unfold ey.f at h
 have H:=h
 clear h
 by_cases c4:a1 < 0
 ·rw [if_pos c4] at H
  have aP:=decide_eq_true c4
  clear c4
  obtain rfl:=Option.some.inj H
  go_enter Tryz.func64,Tryz.ntmps64
  go_wp2
  go_ret
  exact ⟨af.F,af.G⟩
 ·rw [if_neg c4] at H
  have aP:decide (a1 < 0) = false:=decide_eq_false c4
  clear c4
  by_cases c5:a1≥(l0.length:Int)
  ·rw [if_pos c5] at H
   have aR:=decide_eq_true c5
   clear c5
   obtain rfl:=Option.some.inj H
   go_enter Tryz.func64,Tryz.ntmps64
   go_wp2
   go_ret
   exact ⟨af.F,af.G⟩
  ·rw [if_neg c5] at H
   have aR:decide ((l0.length:Int)≤a1) = false:=decide_eq_false c5
   clear c5
   by_cases c6:a2 < 0
   ·rw [if_pos c6] at H
    have aS:=decide_eq_true c6
    clear c6
    obtain rfl:=Option.some.inj H
    go_enter Tryz.func64,Tryz.ntmps64
    go_wp2
    go_ret
    exact ⟨af.F,af.G⟩
   ·rw [if_neg c6] at H
    have aS:decide (a2 < 0) = false:=decide_eq_false c6
    clear c6
    obtain ⟨c7,H⟩:=af.ip H
    have bs:=decide_eq_true c7
    clear c7
    obtain ⟨c8,H⟩:=af.ip H
    have bv:=decide_eq_true c8
    clear c8
    by_cases c9:a2≥((cw l0 a1).length:Int)
    ·rw [if_pos c9] at H
     have b0:=decide_eq_true c9
     clear c9
     obtain rfl:=Option.some.inj H
     have z:0≤(a1:Int):=af.D
     have M:a1 < (l0.length:Int):=af.D
     obtain ⟨a6,ab,al,a3,X,j,y⟩:=gM ao.out a1 z M
     cases a3
     have a7:=ae.mk y
     have a8:=ae.mk j
     clear y j
     replace z:=eq_true z
     replace M:=eq_true M
     go_enter Tryz.func64,Tryz.ntmps64
     go_wp2
     go_ret
     exact ⟨af.F,af.G⟩
    ·rw [if_neg c9] at H
     have b0:decide (((cw l0 a1).length:Int)≤a2) = false:=decide_eq_false c9
     clear c9
     obtain ⟨gz,H⟩:=af.ip H
     have ba:=decide_eq_true gz
     clear gz
     obtain ⟨b1,H⟩:=af.ip H
     have bc:=decide_eq_true b1
     clear b1
     obtain rfl:=Option.some.inj H
     have z:0≤(a1:Int):=af.D
     have M:a1 < (l0.length:Int):=af.D
     obtain ⟨a6,ab,al,a3,X,j,y⟩:=gM ao.out a1 z M
     cases a3
     have a7:=ae.mk y
     have a8:=ae.mk j
     clear y j
     replace z:=eq_true z
     replace M:=eq_true M
     have a4:0≤(a1:Int):=af.D
     have a5:a1 < (l0.length:Int):=af.D
     obtain ⟨am,b2,b3,ap,a9,Y,a0⟩:=gM ao.out a1 a4 a5
     obtain rfl:a6 = am:=(by injection ap)
     have aa:=ae.mk a0
     have aB:=ae.mk Y
     clear a0 Y
     replace a4:=eq_true a4
     replace a5:=eq_true a5
     have ar:=Option.some.inj (X.symm.trans a9)
     injection ar with ar bd bi
     subst ar
     subst bi
     clear bd
     obtain ⟨b4,aw,aF,bm,bo⟩:=af.ai aa.out a2
     cases aw
     go_enter Tryz.func64,Tryz.ntmps64
     go_wp2
     go_ret
     exact ⟨af.F,af.G⟩
def b7.l0:Nat→List Int→Int→Int→List Int→Option (List Int)
 | 0,_,_,_,_=>none
 | k+1,x3,Y,j,y=>(br.f j).bind fun z=>(if Y≤z then ((cO.f k j y Y).bind fun M=>((b6.f k Y).bind fun X=>(if M = X then (if x3.length < 17592186044416 then (b7.l0 k (x3 ++ [Y]) (wrap64 (Y+1)) j y) else (none)) else (b7.l0 k x3 (wrap64 (Y+1)) j y)))) else (some x3))
def b7.f (k:Nat) (y:Int) (z:List Int):Option (List Int):=(some (([]:List Int):List Int)).bind fun j=>((bf.f k y z).bind fun M=>(if M = true then (b7.l0 k j 0 y z) else (some j)))
set_option maxHeartbeats 8000000 in
set_option maxRecDepth 100000 in
theorem b7.calls (k:Nat) (y:Int) (Y:Option Addr) (a0:Nat) (z:List Int) (r:List Int) (w:World) (aw:Kd.C (Kd.int .i64) w Y z.length z) (aB:z.length≤a0) (h:b7.f k y z = some r) :
  Calls Tryz.prog 65 #[.agg #[.int .i64 y,.slice Y z.length a0]] w fun e w'=>∃ bi:Value,e = .returned (bi)∧Kd.R (Kd.int .i64) 3 w' w.heap.size (fun _=>True) bi r∧Below w.heap.size w w':=by
 have dd:=Tryz.underlying30
 have a8:=ae.mk aw
 have a9:=ae.mk aB
 clear aw aB
 have HB:=ae.mk (Below.refl w.heap.size w)
 unfold b7.f at h
 have H:=h
 clear h
 obtain ⟨a5,aa⟩:∃ y_:List Int,y_ = (([]:List Int)):=⟨_,rfl⟩
 replace H:((bf.f k y z).bind fun ao=>(if ao = true then (b7.l0 k a5 0 y z) else (some a5))) = some r:=by (try rw [aa]);exact af.Z
 have a4:=ae.mk aa
 clear aa
 obtain ⟨ao,A2,H⟩:=af.be H
 (try dsimp only at H)
 by_cases c3:ao = true
 ·subst c3
  replace H:(b7.l0 k a5 0 y z) = some r:=by rw [if_pos rfl] at H;exact H
  have H':=ae.mk H
  clear H
  go_enter Tryz.func65,Tryz.ntmps65
  go_wp2_with (first | (refine af.bx 1 #[.int .i64 y,.slice Y z.length a0] 30 ?_;intro ab hg w4 hbox hb;have j:=ae.mk hbox;have aO:=af.gw hg HB;have aP:=af.gw hg HB;replace HB:=af.lb HB hb;clear hb hbox hg) | (refine af.lt (Kd.int .i64) 3 5 ?_;intro b1 w5 aF hb b2 ap;clear b2 ap;(first | rw [← a4.out] at aF | (simp only [Int.reduceToNat] at aF;rw [← a4.out] at aF));have X:=ae.mk (Kd.b9 aF (aj (af.Lw HB.out)));replace j:=af.bb j hb;replace HB:=af.lb HB hb;clear hb aF;obtain ⟨d6,d7,d8,d9⟩:=af.bR j.out) | (refine af.gl (some 7) Tryz.func26 #[.agg #[.int .i64 y,.slice Y z.length a0]] ?_;(with_reducible refine (bf.calls k y _ _ z true _ ?side1 ?side2 A2.out).mono ?_);(case side1=>exact af.Cw (Kd.bG a8.out HB.out));(case side2=>exact a9.out);rintro e w8 ⟨rfl,hb⟩;refine ⟨_,rfl,?_⟩;replace X:=af.rb X hb;replace j:=af.bb j hb;replace HB:=af.lb HB hb;(try clear hb);(try clear b3);(try clear hk);(try clear hi)))
  go_loopg [3,4] k (fun kq v3 v4 w'=>∃ (a7:List Int) (M:Int),v4 = .int .i64 M∧ae (b7.l0 kq a7 M y z = some r)∧ae (kq≤k)∧ae (Kd.R (Kd.int .i64) 3 w' w.heap.size (fun _=>True) v3 a7)∧ae (w'.heap[ab]? = some (.cells #[.int .i64 y,(.slice Y z.length a0)] 30 (0,0)))∧ae (Below w.heap.size w w'))
  case atStart=>exact ⟨(a5),(0),af.F,H',⟨Nat.le_refl _⟩,⟨af.Rw X.out⟩,⟨af.Bw j.out⟩,⟨af.Lw HB.out⟩⟩
  case round =>
   clear H'
   obtain ⟨a7,M,rfl,HA,aR,a3,j,HB⟩:=hrel
   cases gk with
   | zero=>exact absurd HA.out (by simp [b7.l0])
   | succ k1 =>
    have H:=HA.out
    clear HA
    simp only [b7.l0] at H
    obtain ⟨a6,A9,H⟩:=af.be H
    (try dsimp only at H)
    by_cases gz:M≤a6
    ·rw [if_pos gz] at H
     have b4:=decide_eq_true gz
     clear gz
     obtain ⟨a1,bm,H⟩:=af.be H
     (try dsimp only at H)
     obtain ⟨a2,bo,H⟩:=af.be H
     (try dsimp only at H)
     by_cases ar:a1 = a2
     ·rw [if_pos ar] at H
      have ba:(a1 == a2) = true:=beq_iff_eq.mpr ar
      have bc:(a1 != a2) = false:=bne_eq_false_iff_eq.mpr ar
      clear ar
      obtain ⟨bs,H⟩:=af.ip H
      have bd:=ae.mk bs
      clear bs
      obtain ⟨aL,al⟩:∃ y_:List Int,y_ = (a7 ++ [M]):=⟨_,rfl⟩
      replace H:(b7.l0 k1 aL (wrap64 (M+1)) y z) = some r:=by (try rw [al]);exact af.Z
      have aS:=ae.mk al
      clear al
      have H':=ae.mk H
      clear H
      obtain ⟨bv,ca,cb,cc⟩:=af.bR j.out
      go_wp2_with (first | (refine af.gl (some 13) Tryz.func24 #[.int .i64 y] ?_;(with_reducible refine (br.calls y a6 _ A9.out).mono ?_);rintro e w' ⟨rfl,⟨nd,rfl⟩⟩;refine ⟨_,rfl,?_⟩) | (refine af.gl (some 19) Tryz.func109 #[.agg #[.int .i64 y,.slice Y z.length a0],.int .i64 M] ?_;(with_reducible refine (cO.calls k1 y _ _ z M a1 _ ?side1 ?side2 bm.out).mono ?_);(case side1=>exact af.Cw (Kd.bG a8.out HB.out));(case side2=>exact a9.out);rintro e df ⟨rfl,hb⟩;refine ⟨_,rfl,?_⟩;replace a3:=af.rb a3 hb;replace j:=af.bb j hb;replace HB:=af.lb HB hb;(try clear hb);(try clear b3);(try clear hk);(try clear hi)) | (refine af.gl (some 21) Tryz.func25 #[.int .i64 M] ?_;(with_reducible refine (b6.calls k1 M a2 _ bo.out).mono ?_);rintro e w' ⟨rfl,⟨nd,rfl⟩⟩;refine ⟨_,rfl,?_⟩) | ((with_reducible refine cB (b:=.append) (xs:=#[.tmp 23,.tmp 25]) rfl ?_);at_builtin;refine Kd.fg (Kd.int .i64) (w0:=w) w.heap.size rfl (.tmp 23) (.tmp 25) 28 3 (.int .i64 0) 8 rfl Tryz.underlying28 eJ rfl (by decide) (by omega) u3 a7 M [.int .i64 M] (fun _=>True) (fun _=>False) rfl rfl (by exact rfl) (fun _ hk=>hk.elim) (by exact fun _ _=>trivial) (by exact af.Rw a3.out) (by exact af.Lw HB.out) (by exact aj (af.Lw HB.out)) (by have:=bd.out;omega) ?_;intro db dk ho hb hg hat;rw [← aS.out] at ho;have cd:=ae.mk (ep (g:=ab) (o:=.cells #[.int .i64 y,.slice Y z.length a0] 30 (0,0)) (af.Bw j.out) hg (Kd.jr a3.out j.out (by decide)));have ce:=ae.mk hb;have cf:=ae.mk ho;clear j;clear HB;clear a3;have j:=cd;have HB:=ce;have b0:=cf;clear cd ce cf;clear ho hb hg hat))
      go_roundg k1
      case measure=>have:=aR.out;omega
      case rel=>exact ⟨(aL),(wrap64 (M+1)),af.F,H',⟨by have:=aR.out;omega⟩,⟨af.Rw b0.out⟩,⟨af.Bw j.out⟩,⟨af.Lw HB.out⟩⟩
     ·rw [if_neg ar] at H
      have ba:(a1 == a2) = false:=beq_eq_false_iff_ne.mpr ar
      have bc:(a1 != a2) = true:=bne_iff_ne.mpr ar
      have H':=ae.mk H
      clear H
      obtain ⟨ci,cp,cx,cy⟩:=af.bR j.out
      go_wp2_with (first | (refine af.gl (some 13) Tryz.func24 #[.int .i64 y] ?_;(with_reducible refine (br.calls y a6 _ A9.out).mono ?_);rintro e w' ⟨rfl,⟨nd,rfl⟩⟩;refine ⟨_,rfl,?_⟩) | (refine af.gl (some 19) Tryz.func109 #[.agg #[.int .i64 y,.slice Y z.length a0],.int .i64 M] ?_;(with_reducible refine (cO.calls k1 y _ _ z M a1 _ ?side1 ?side2 bm.out).mono ?_);(case side1=>exact af.Cw (Kd.bG a8.out HB.out));(case side2=>exact a9.out);rintro e dl ⟨rfl,hb⟩;refine ⟨_,rfl,?_⟩;replace a3:=af.rb a3 hb;replace j:=af.bb j hb;replace HB:=af.lb HB hb;(try clear hb);(try clear b3);(try clear hk);(try clear hi)) | (refine af.gl (some 21) Tryz.func25 #[.int .i64 M] ?_;(with_reducible refine (b6.calls k1 M a2 _ bo.out).mono ?_);rintro e w' ⟨rfl,⟨nd,rfl⟩⟩;refine ⟨_,rfl,?_⟩))
      go_roundg k1
      case measure=>have:=aR.out;omega
      case rel=>exact ⟨(a7),(wrap64 (M+1)),af.F,H',⟨by have:=aR.out;omega⟩,⟨af.Rw a3.out⟩,⟨af.Bw j.out⟩,⟨af.Lw HB.out⟩⟩
    ·rw [if_neg gz] at H
     have b4:decide (M≤a6) = false:=decide_eq_false gz
     clear gz
     obtain rfl:=Option.some.inj H
     obtain ⟨cX,cY,d0,d1⟩:=af.bR j.out
     go_wp2_with (first | (refine af.gl (some 13) Tryz.func24 #[.int .i64 y] ?_;(with_reducible refine (br.calls y a6 _ A9.out).mono ?_);rintro e w' ⟨rfl,⟨nd,rfl⟩⟩;refine ⟨_,rfl,?_⟩))
     go_ret
     exact ⟨_,af.E,by (with_reducible repeat (first | apply Kd.cL | apply Kd.cM | apply Kd.bS));exact a3.out,af.L⟩
 ·replace c3:=Bool.eq_false_iff.mpr c3
  subst c3
  replace H:(some a5) = some r:=by rw [if_neg (show ¬ (false = true) by decide)] at H;exact H
  obtain rfl:=Option.some.inj H
  go_enter Tryz.func65,Tryz.ntmps65
  go_wp2_with (first | (refine af.bx 1 #[.int .i64 y,.slice Y z.length a0] 30 ?_;intro ab hg dp hbox hb;have j:=ae.mk hbox;have aO:=af.gw hg HB;have aP:=af.gw hg HB;replace HB:=af.lb HB hb;clear hb hbox hg) | (refine af.lt (Kd.int .i64) 3 5 ?_;intro b1 dq am hb b2 ap;clear b2 ap;(first | rw [← a4.out] at am | (simp only [Int.reduceToNat] at am;rw [← a4.out] at am));have X:=ae.mk (Kd.b9 am (aj (af.Lw HB.out)));replace j:=af.bb j hb;replace HB:=af.lb HB hb;clear hb am;obtain ⟨d2,d3,d4,d5⟩:=af.bR j.out) | (refine af.gl (some 7) Tryz.func26 #[.agg #[.int .i64 y,.slice Y z.length a0]] ?_;(with_reducible refine (bf.calls k y _ _ z false _ ?side1 ?side2 A2.out).mono ?_);(case side1=>exact af.Cw (Kd.bG a8.out HB.out));(case side2=>exact a9.out);rintro e dt ⟨rfl,hb⟩;refine ⟨_,rfl,?_⟩;replace X:=af.rb X hb;replace j:=af.bb j hb;replace HB:=af.lb HB hb;(try clear hb);(try clear b3);(try clear hk);(try clear hi)))
  go_ret
  exact ⟨_,af.E,by (with_reducible repeat (first | apply Kd.cL | apply Kd.cM | apply Kd.bS));exact X.out,af.L⟩
def ek.f (k:Nat) (j:Int) (y:List Int) (Y:Int):Option (Int):=(bf.f k j y).bind fun z=>(if z = true then ((bu.f j Y).bind fun M=>(if M = true then ((cO.f k j y Y).bind fun X=>(some X)) else (some (-1)))) else (some (-1)))
set_option maxHeartbeats 8000000 in
set_option maxRecDepth 100000 in
theorem ek.calls (k:Nat) (y:Int) (M:Option Addr) (X:Nat) (z:List Int) (a1:Int) (r:Int) (w:World) (a7:Kd.C (Kd.int .i64) w M z.length z) (a8:z.length≤X) (h:ek.f k y z a1 = some r) :
  Calls Tryz.prog 45 #[.agg #[.int .i64 y,.slice M z.length X],.int .i64 a1] w fun e w'=>e = .returned (.int .i64 r)∧Below w.heap.size w w':=by
 have bc:=Tryz.underlying30
 have a0:=ae.mk a7
 have a2:=ae.mk a8
 clear a7 a8
 have HB:=ae.mk (Below.refl w.heap.size w)
 unfold ek.f at h
 have H:=h
 clear h
 obtain ⟨a9,A3,H⟩:=af.be H
 (try dsimp only at H)
 by_cases c4:a9 = true
 ·subst c4
  replace H:((bu.f y a1).bind fun a3=>(if a3 = true then ((cO.f k y z a1).bind fun Y=>(some Y)) else (some (-1)))) = some r:=by rw [if_pos rfl] at H;exact H
  obtain ⟨a3,A5,H⟩:=af.be H
  (try dsimp only at H)
  by_cases c6:a3 = true
  ·subst c6
   replace H:((cO.f k y z a1).bind fun Y=>(some Y)) = some r:=by rw [if_pos rfl] at H;exact H
   obtain ⟨Y,A7,H⟩:=af.be H
   (try dsimp only at H)
   obtain rfl:=Option.some.inj H
   go_enter Tryz.func45,Tryz.ntmps45
   go_wp2_with (first | ((with_reducible refine bJ (N:=2) rfl ?_);refine af.bx 2 #[.int .i64 y,.slice M z.length X] 30 ?_;intro a4 hg w8 hbox hb;have j:=ae.mk hbox;have a5:=af.gw hg HB;have a6:=af.gw hg HB;replace HB:=af.lb HB hb;clear hb hbox hg;obtain ⟨b2,b3,b4,ba⟩:=af.bR j.out) | ((with_reducible refine ax (f:=26) rfl ?_);refine af.gl (some 6) Tryz.func26 #[.agg #[.int .i64 y,.slice M z.length X]] ?_;(with_reducible refine (bf.calls k y _ _ z true _ ?side1 ?side2 A3.out).mono ?_);(case side1=>exact af.Cw (Kd.bG a0.out HB.out));(case side2=>exact a2.out);rintro e bd ⟨rfl,hb⟩;refine ⟨_,rfl,?_⟩;replace j:=af.bb j hb;replace HB:=af.lb HB hb;(try clear hb);(try clear aa);(try clear hk);(try clear hi);obtain ⟨ab,al,am,ao⟩:=af.bR j.out) | (go_at_call 87;(with_reducible refine (bu.calls y a1 true _ A5.out).mono ?_);rintro e w' ⟨rfl,⟨nd,rfl⟩⟩) | ((with_reducible refine ax (f:=109) rfl ?_);refine af.gl (some 17) Tryz.func109 #[.agg #[.int .i64 y,.slice M z.length X],.int .i64 a1] ?_;(with_reducible refine (cO.calls k y _ _ z a1 Y _ ?side1 ?side2 A7.out).mono ?_);(case side1=>exact af.Cw (Kd.bG a0.out HB.out));(case side2=>exact a2.out);rintro e bi ⟨rfl,hb⟩;refine ⟨_,rfl,?_⟩;replace j:=af.bb j hb;replace HB:=af.lb HB hb;(try clear hb);(try clear aa);(try clear hk);(try clear hi)))
   go_ret
   exact ⟨af.E,af.L⟩
  ·replace c6:=Bool.eq_false_iff.mpr c6
   subst c6
   replace H:(some (-1)) = some r:=by rw [if_neg (show ¬ (false = true) by decide)] at H;exact H
   obtain rfl:=Option.some.inj H
   go_enter Tryz.func45,Tryz.ntmps45
   go_wp2_with (first | ((with_reducible refine bJ (N:=2) rfl ?_);refine af.bx 2 #[.int .i64 y,.slice M z.length X] 30 ?_;intro a4 hg bm hbox hb;have j:=ae.mk hbox;have a5:=af.gw hg HB;have a6:=af.gw hg HB;replace HB:=af.lb HB hb;clear hb hbox hg;obtain ⟨ap,ar,aw,aB⟩:=af.bR j.out) | ((with_reducible refine ax (f:=26) rfl ?_);refine af.gl (some 6) Tryz.func26 #[.agg #[.int .i64 y,.slice M z.length X]] ?_;(with_reducible refine (bf.calls k y _ _ z true _ ?side1 ?side2 A3.out).mono ?_);(case side1=>exact af.Cw (Kd.bG a0.out HB.out));(case side2=>exact a2.out);rintro e bo ⟨rfl,hb⟩;refine ⟨_,rfl,?_⟩;replace j:=af.bb j hb;replace HB:=af.lb HB hb;(try clear hb);(try clear aa);(try clear hk);(try clear hi);obtain ⟨aF,aL,aO,aP⟩:=af.bR j.out) | (go_at_call 87;(with_reducible refine (bu.calls y a1 false _ A5.out).mono ?_);rintro e w' ⟨rfl,⟨nd,rfl⟩⟩))
   go_ret
   exact ⟨af.E,af.L⟩
 ·replace c4:=Bool.eq_false_iff.mpr c4
  subst c4
  replace H:(some (-1)) = some r:=by rw [if_neg (show ¬ (false = true) by decide)] at H;exact H
  obtain rfl:=Option.some.inj H
  go_enter Tryz.func45,Tryz.ntmps45
  go_wp2_with (first | ((with_reducible refine bJ (N:=2) rfl ?_);refine af.bx 2 #[.int .i64 y,.slice M z.length X] 30 ?_;intro a4 hg bs hbox hb;have j:=ae.mk hbox;have a5:=af.gw hg HB;have a6:=af.gw hg HB;replace HB:=af.lb HB hb;clear hb hbox hg;obtain ⟨aR,aS,b0,b1⟩:=af.bR j.out) | ((with_reducible refine ax (f:=26) rfl ?_);refine af.gl (some 6) Tryz.func26 #[.agg #[.int .i64 y,.slice M z.length X]] ?_;(with_reducible refine (bf.calls k y _ _ z false _ ?side1 ?side2 A3.out).mono ?_);(case side1=>exact af.Cw (Kd.bG a0.out HB.out));(case side2=>exact a2.out);rintro e bv ⟨rfl,hb⟩;refine ⟨_,rfl,?_⟩;replace j:=af.bb j hb;replace HB:=af.lb HB hb;(try clear hb);(try clear aa);(try clear hk);(try clear hi)))
  go_ret
  exact ⟨af.E,af.L⟩
def cU.l0:Nat→Int→Int→List Int→Int→Option (Int)
 | 0,_,_,_,_=>none
 | k+1,M,X,z,j=>if j < (z.length:Int) then (if 0≤j then ((dJ.f M (rd z j)).bind fun y=>(if y = true then (if 0≤(IntKind.u64.wrap (j)) then (cU.l0 k M (wrap64 (X+(shl .i64 1 (IntKind.u64.wrap (j))))) z (wrap64 (j+1))) else (none)) else (cU.l0 k M X z (wrap64 (j+1))))) else (none)) else (some X)
def cU.f (k:Nat) (a0:Int) (y:Int):Option (Int):=(bk.f k y).bind fun j=>(cU.l0 k a0 0 j 0)
set_option maxHeartbeats 8000000 in
set_option maxRecDepth 100000 in
theorem cU.calls (k:Nat) (a0:Int) (a1:Int) (r:Int) (w:World) (h:cU.f k a0 a1 = some r) :
  Calls Tryz.prog 151 #[.int .i64 a0,.int .i64 a1] w fun e w'=>e = .returned (.int .i64 r)∧Below w.heap.size w w':=by
 have HB:=ae.mk (Below.refl w.heap.size w)
 unfold cU.f at h
 have H:=h
 clear h
 obtain ⟨y,A3,H⟩:=af.be H
 (try dsimp only at H)
 have H':=ae.mk H
 clear H
 go_enter Tryz.func151,Tryz.ntmps151
 go_wp2_with (first | (refine af.gl (some 9) Tryz.func170 #[.int .i64 a1] ?_;(with_reducible refine (bk.calls k a1 y _ A3.out).mono ?_);rintro e w4 ⟨ab,rfl,ap,hb⟩;refine ⟨_,rfl,?_⟩;have a8:=ae.mk (Kd.b9 ap (aj (af.Lw HB.out)));replace HB:=af.lb HB hb;(try clear hb);(try clear bm);(try clear hk);(try clear hi);(try clear ap)))
 go_loopg [5,7] k (fun kq v5 v7 w'=>∃ (z:Int) (j:Int),v5 = .int .i64 z∧v7 = .int .i64 j∧ae (cU.l0 kq a0 z y j = some r)∧ae (kq≤k)∧ae (Kd.R (Kd.int .i64) 3 w' w.heap.size (fun _=>True) ab y)∧ae (Below w.heap.size w w'))
 case atStart=>exact ⟨(0),(0),af.F,af.F,H',⟨Nat.le_refl _⟩,⟨af.Rw a8.out⟩,⟨af.Lw HB.out⟩⟩
 case round =>
  clear H'
  obtain ⟨z,j,rfl,rfl,HA,a9,a2,HB⟩:=hrel
  cases gk with
  | zero=>exact absurd HA.out (by simp [cU.l0])
  | succ k1 =>
   have H:=HA.out
   clear HA
   simp only [cU.l0] at H
   by_cases c5:j < (y.length:Int)
   ·rw [if_pos c5] at H
    have ar:=decide_eq_true c5
    clear c5
    obtain ⟨c6,H⟩:=af.ip H
    have b2:=decide_eq_true c6
    clear c6
    obtain ⟨al,A7,H⟩:=af.be H
    (try dsimp only at H)
    by_cases c8:al = true
    ·subst c8
     replace H:(if 0≤(IntKind.u64.wrap (j)) then (cU.l0 k1 a0 (wrap64 (z+(shl .i64 1 (IntKind.u64.wrap (j))))) y (wrap64 (j+1))) else (none)) = some r:=by rw [if_pos rfl] at H;exact H
     obtain ⟨M,a7⟩:∃ j_:Int,(IntKind.u64.wrap (j)) = j_:=⟨_,rfl⟩
     replace H:(if 0≤(M) then (cU.l0 k1 a0 (wrap64 (z+(shl .i64 1 (M)))) y (wrap64 (j+1))) else (none)) = some r:=by first | (rw [a7] at H;exact H) | (simp only [a7] at H ⊢;exact H)
     (try rw [a7] at A7)
     obtain ⟨gz,H⟩:=af.ip H
     have b0:=eq_true gz
     have b1:decide (0≤(M)) = true:=decide_eq_true gz
     clear gz
     obtain ⟨Y,X⟩:∃ j_:Int,(shl .i64 1 (M)) = j_:=⟨_,rfl⟩
     replace H:(cU.l0 k1 a0 (wrap64 (z+(Y))) y (wrap64 (j+1))) = some r:=by first | (rw [X] at H;exact H) | (simp only [X] at H ⊢;exact H)
     (try rw [X] at A7)
     have a4:(IntKind.i64.wrap (1 * 2 ^ min (M).toNat 64)) = Y:=X
     have a5:(M)≤64→(IntKind.i64.wrap (1 * 2 ^ (M).toNat)) = Y:=gi X
     have aO:(IntKind.i64.wrap (2 ^ min (M).toNat 64)) = Y:=by have h_:=a4;rw [Int.one_mul] at h_;exact h_
     have aP:(M)≤64→(IntKind.i64.wrap (2 ^ (M).toNat)) = Y:=fun aw=>by have h_:=a5 aw;rw [Int.one_mul] at h_;exact h_
     have aR:(wrap64 (1 * 2 ^ min (M).toNat 64)) = Y:=(bw _).symm.trans a4
     have aS:(M)≤64→(wrap64 (1 * 2 ^ (M).toNat)) = Y:=fun h_=>(bw _).symm.trans (a5 h_)
     have H':=ae.mk H
     clear H
     obtain ⟨b3,b4,aB⟩:=Kd.aY a2.out
     subst aB
     obtain ⟨aa,a3,a6,am,ao⟩:=af.ai (Kd.au a2.out).2.2 j
     cases a3
     go_wp2_with (first | (refine af.gl (some 21) Tryz.func92 #[.int .i64 a0,.int .i64 (rd y j)] ?_;(with_reducible refine (dJ.calls a0 (rd y j) true _ A7.out).mono ?_);rintro e w' ⟨rfl,⟨nd,rfl⟩⟩;refine ⟨_,rfl,?_⟩))
     go_roundg k1
     case measure=>have:=a9.out;omega
     case rel=>exact ⟨(wrap64 (z+(Y))),(wrap64 (j+1)),(by first | rfl | (simp;done) | (simp only [← X] <;> (first | rfl | simp)) | (simp [*];done)),af.F,H',⟨by have:=a9.out;omega⟩,⟨af.Rw a2.out⟩,⟨af.Lw HB.out⟩⟩
    ·replace c8:=Bool.eq_false_iff.mpr c8
     subst c8
     replace H:(cU.l0 k1 a0 z y (wrap64 (j+1))) = some r:=by rw [if_neg (show ¬ (false = true) by decide)] at H;exact H
     have H':=ae.mk H
     clear H
     obtain ⟨ba,bc,aF⟩:=Kd.aY a2.out
     subst aF
     obtain ⟨aa,a3,a6,am,ao⟩:=af.ai (Kd.au a2.out).2.2 j
     cases a3
     go_wp2_with (first | (refine af.gl (some 21) Tryz.func92 #[.int .i64 a0,.int .i64 (rd y j)] ?_;(with_reducible refine (dJ.calls a0 (rd y j) false _ A7.out).mono ?_);rintro e w' ⟨rfl,⟨nd,rfl⟩⟩;refine ⟨_,rfl,?_⟩))
     go_roundg k1
     case measure=>have:=a9.out;omega
     case rel=>exact ⟨(z),(wrap64 (j+1)),af.F,af.F,H',⟨by have:=a9.out;omega⟩,⟨af.Rw a2.out⟩,⟨af.Lw HB.out⟩⟩
   ·rw [if_neg c5] at H
    have ar:decide (j < (y.length:Int)) = false:=decide_eq_false c5
    clear c5
    obtain rfl:=Option.some.inj H
    obtain ⟨bd,bi,aL⟩:=Kd.aY a2.out
    subst aL
    go_wp2
    go_ret
    exact ⟨af.E,af.L⟩
def cV.l0:Nat→Int→List Int→List Int→Int→Option (Int×List Int)
 | 0,_,_,_,_=>none
 | k+1,X,Y,x5,M=>if M < (Y.length:Int) then (if 0≤M then ((cU.f k (rd Y M) X).bind fun j=>(if x5.length < 17592186044416 then (cV.l0 k X Y (x5 ++ [j]) (wrap64 (M+1))) else (none))) else (none)) else ((b6.f k X).bind fun y=>((aC.f k x5).bind fun z=>(some (y,z))))
def cV.f (k:Nat) (a0:Int) (l1:List Int):Option (Int×List Int):=cV.l0 k a0 l1 (([]:List Int)) 0
set_option maxHeartbeats 8000000 in
set_option maxRecDepth 100000 in
theorem cV.calls (k:Nat) (a0:Int) (A1:Option Addr) (c1:Nat) (l1:List Int) (r1:Int) (r2:List Int) (w:World) (b2:Kd.C (Kd.int .i64) w A1 l1.length l1) (b3:l1.length≤c1) (h:cV.f k a0 l1 = some (r1,r2)) :
  Calls Tryz.prog 125 #[.int .i64 a0,.slice A1 l1.length c1] w fun e w'=>∃ b4:Value,e = .returned (.agg #[.int .i64 r1,b4])∧Kd.R (Kd.int .i64) 3 w' w.heap.size (fun _=>True) b4 r2∧Below w.heap.size w w':=by
 have d4:=Tryz.underlying30
 have ci:=ae.mk b2
 have d6:=ae.mk b3
 clear b2 b3
 have HB:=ae.mk (Below.refl w.heap.size w)
 unfold cV.f at h
 have H:=h
 clear h
 obtain ⟨a8,a1⟩:∃ y_:List Int,y_ = (([]:List Int)):=⟨_,rfl⟩
 replace H:(cV.l0 k a0 l1 a8 0) = some (r1,r2):=by (try rw [a1]);exact af.Z
 have a6:=ae.mk a1
 clear a1
 have H':=ae.mk H
 clear H
 go_enter Tryz.func125,Tryz.ntmps125
 go_wp2_with (first | (refine af.bx 4 #[.int .i64 0,.slice none 0 0] 30 ?_;intro y hg w3 hbox hb;have j:=ae.mk hbox;have cd:=af.gw hg HB;have ce:=af.gw hg HB;replace HB:=af.lb HB hb;clear hb hbox hg) | (refine af.lt (Kd.int .i64) 3 7 ?_;intro cp w4 a9 hb cx aL;clear cx aL;(first | rw [← a6.out] at a9 | (simp only [Int.reduceToNat] at a9;rw [← a6.out] at a9));have ao:=ae.mk (Kd.b9 a9 (aj (af.Lw HB.out)));replace j:=af.bb j hb;replace HB:=af.lb HB hb;clear hb a9))
 go_loopg [5,6] k (fun kq v5 v6 w'=>∃ (Y:List Int) (M:Int),v6 = .int .i64 M∧ae (cV.l0 kq a0 l1 Y M = some (r1,r2))∧ae (kq≤k)∧ae (Kd.R (Kd.int .i64) 3 w' w.heap.size (fun _=>True) v5 Y)∧ae (w'.heap[y]? = some (.cells #[.int .i64 0,(.slice none 0 0)] 30 (0,0)))∧ae (Below w.heap.size w w'))
 case atStart=>exact ⟨(a8),(0),af.F,H',⟨Nat.le_refl _⟩,⟨af.Rw ao.out⟩,⟨af.Bw j.out⟩,⟨af.Lw HB.out⟩⟩
 case round =>
  clear H'
  obtain ⟨Y,M,rfl,HA,ba,z,j,HB⟩:=hrel
  cases gk with
  | zero=>exact absurd HA.out (by simp [cV.l0])
  | succ k1 =>
   have H:=HA.out
   clear HA
   simp only [cV.l0] at H
   by_cases c6:M < (l1.length:Int)
   ·rw [if_pos c6] at H
    have bc:=decide_eq_true c6
    clear c6
    obtain ⟨c7,H⟩:=af.ip H
    have d5:=decide_eq_true c7
    clear c7
    obtain ⟨a2,A8,H⟩:=af.be H
    (try dsimp only at H)
    obtain ⟨c9,H⟩:=af.ip H
    have bd:=ae.mk c9
    clear c9
    obtain ⟨aa,a3⟩:∃ y_:List Int,y_ = (Y ++ [a2]):=⟨_,rfl⟩
    replace H:(cV.l0 k1 a0 l1 aa (wrap64 (M+1))) = some (r1,r2):=by (try rw [a3]);exact af.Z
    have ap:=ae.mk a3
    clear a3
    have H':=ae.mk H
    clear H
    obtain ⟨cf,aO,X,cy,cX⟩:=af.ai ci.out M
    cases aO
    try replace X:=(HB.out.cell (World.block_lt_of_cell? w _ X)).trans X
    go_wp2_with (first | (refine af.gl (some 20) Tryz.func151 #[.int .i64 (rd l1 M),.int .i64 a0] ?_;(with_reducible refine (cU.calls k1 (rd l1 M) a0 a2 _ A8.out).mono ?_);rintro e d7 ⟨rfl,hb⟩;refine ⟨_,rfl,?_⟩;replace z:=af.rb z hb;replace j:=af.bb j hb;replace HB:=af.lb HB hb;(try clear hb);(try clear cY);(try clear hk);(try clear hi)) | ((with_reducible refine cB (b:=.append) (xs:=#[.tmp 14,.tmp 21]) rfl ?_);at_builtin;refine Kd.fg (Kd.int .i64) (w0:=w) w.heap.size rfl (.tmp 14) (.tmp 21) 28 3 (.int .i64 0) 8 rfl Tryz.underlying28 eJ rfl (by decide) (by omega) u5 Y a2 [.int .i64 a2] (fun _=>True) (fun _=>False) rfl rfl (by exact rfl) (fun _ hk=>hk.elim) (by exact fun _ _=>trivial) (by exact af.Rw z.out) (by exact af.Lw HB.out) (by exact aj (af.Lw HB.out)) (by have:=bd.out;omega) ?_;intro d0 d8 ho hb hg hat;rw [← ap.out] at ho;have ab:=ae.mk (ep (g:=y) (o:=.cells #[.int .i64 0,.slice none 0 0] 30 (0,0)) (af.Bw j.out) hg (Kd.jr z.out j.out (by decide)));have al:=ae.mk hb;have am:=ae.mk ho;clear j;clear HB;clear z;have j:=ab;have HB:=al;have ar:=am;clear ab al am;clear ho hb hg hat))
    go_roundg k1
    case measure=>have:=ba.out;omega
    case rel=>exact ⟨(aa),(wrap64 (M+1)),af.F,H',⟨by have:=ba.out;omega⟩,⟨af.Rw ar.out⟩,⟨af.Bw j.out⟩,⟨af.Lw HB.out⟩⟩
   ·rw [if_neg c6] at H
    have bc:decide (M < (l1.length:Int)) = false:=decide_eq_false c6
    clear c6
    obtain ⟨a4,d1,H⟩:=af.be H
    (try dsimp only at H)
    obtain ⟨a5,d2,H⟩:=af.be H
    (try dsimp only at H)
    simp only [Option.some.injEq,Prod.mk.injEq] at H
    obtain ⟨rfl,rfl⟩:=H
    go_wp2_with (first | (refine af.gl (some 24) Tryz.func25 #[.int .i64 a0] ?_;(with_reducible refine (b6.calls k1 a0 a4 _ d1.out).mono ?_);rintro e w' ⟨rfl,⟨nd,rfl⟩⟩;refine ⟨_,rfl,?_⟩;(try (rw [eA wr];generalize aw:World.drewN wr _ = wr;have ab:ae (Kd.R (Kd.int .i64) 3 wr w.heap.size (fun _=>True) u5 Y):=⟨by rw [← aw];exact (af.Rw z.out)⟩;have al:ae (wr.heap[y]? = some (.cells #[.int .i64 0,.slice none 0 0] 30 (0,0))):=⟨by rw [← aw];exact (af.Bw j.out)⟩;have am:ae (Below w.heap.size w wr):=⟨by rw [← aw];exact (af.Lw HB.out)⟩;clear z j HB aw;have z:=ab;have j:=al;have HB:=am;clear ab al am;have aP:wr.cell? ⟨y,0,none⟩ = some (.int .i64 0):=(ak j.out 0).trans rfl;have aR:=an j.out 0;have aS:wr.cell? ⟨y,1,none⟩ = some (.slice none 0 0):=(ak j.out 1).trans rfl;have b0:=an j.out 1));obtain ⟨bi,bm,bo⟩:=Kd.aY z.out;subst bo) | (refine af.gl (some 26) Tryz.func137 #[.slice bi Y.length bm] ?_;(with_reducible refine (aC.calls k1 _ _ Y a5 _ ?side1 ?side2 d2.out).mono ?_);(case side1=>exact af.Cw ((Kd.au z.out).2.2));(case side2=>exact (Kd.au z.out).2.1);rintro e d9 ⟨d3,rfl,b1,hb⟩;refine ⟨_,rfl,?_⟩;have a7:=ae.mk (Kd.b9 (Kd.dc b1 (Kd.cD (af.Rw z.out))) (aj (af.Lw HB.out)));replace z:=ae.mk (Kd.cm (af.Rw z.out) (Kd.bF b1) hb);replace j:=af.bb j hb;replace HB:=af.lb HB hb;(try clear hb);(try clear cY);(try clear hk);(try clear hi);(try clear b1);obtain ⟨aB,aF,bs⟩:=Kd.aY a7.out;subst bs;obtain ⟨bv,ca,cb,cc⟩:=af.bR j.out))
    refine bodyPost_ret (results_cell_row rfl _ _ y 30 #[.int .i64 a4,.slice aB a5.length aF] (0,0) _ rfl af.B Tryz.underlying30 rfl (by kernel_rfl)) rfl ?_
    exact ⟨_,af.E,by (with_reducible repeat (first | apply Kd.cL | apply Kd.cM | apply Kd.bS));exact Kd.aX (Kd.cI (p:=⟨y,1,none⟩) (Kd.cI (p:=⟨y,0,none⟩) (Kd.cR a7.out j.out (by decide)) (fun _ hk=>hk.2) (.int .i64 a4)) (fun _ hk=>hk.2) (.slice aB a5.length aF)) (fun _ hk=>trivial),af.L⟩
def cZ.l0:Nat→Int→List Int→Int→Int→Int→List Int→Option (List Int)
 | 0,_,_,_,_,_,_=>none
 | k+1,Y,x5,x6,X,y,j=>if X < (j.length:Int) then (if 0≤X then ((b6.f k (Go.bits .and .i64 (rd j X) Y)).bind fun z=>(if z = x6 then (if x5.length < 17592186044416 then (cZ.l0 k Y (x5 ++ [Go.bits .and .i64 (rd j X) Y]) x6 (wrap64 (X+1)) y j) else (none)) else (cZ.l0 k Y x5 x6 (wrap64 (X+1)) y j))) else (none)) else ((aC.f k x5).bind fun M=>(some M))
def cZ.f (k:Nat) (z:Int) (M:List Int) (X:Int):Option (List Int):=(some (([]:List Int):List Int)).bind fun j=>((ek.f k z M X).bind fun y=>(if y < 0 then (some j) else (cZ.l0 k X j y 0 z M)))
set_option maxHeartbeats 8000000 in
set_option maxRecDepth 100000 in
theorem cZ.calls (k:Nat) (Y:Int) (a8:Option Addr) (a5:Nat) (y:List Int) (a1:Int) (r:List Int) (w:World) (aP:Kd.C (Kd.int .i64) w a8 y.length y) (aR:y.length≤a5) (h:cZ.f k Y y a1 = some r) :
  Calls Tryz.prog 126 #[.agg #[.int .i64 Y,.slice a8 y.length a5],.int .i64 a1] w fun e w'=>∃ cp:Value,e = .returned (cp)∧Kd.R (Kd.int .i64) 3 w' w.heap.size (fun _=>True) cp r∧Below w.heap.size w w':=by
 have ec:=Tryz.underlying30
 have a9:=ae.mk aP
 have aS:=ae.mk aR
 clear aP aR
 have HB:=ae.mk (Below.refl w.heap.size w)
 unfold cZ.f at h
 have H:=h
 clear h
 obtain ⟨ap,aa⟩:∃ y_:List Int,y_ = (([]:List Int)):=⟨_,rfl⟩
 replace H:((ek.f k Y y a1).bind fun M=>(if M < 0 then (some ap) else (cZ.l0 k a1 ap M 0 Y y))) = some r:=by (try rw [aa]);exact af.Z
 have a7:=ae.mk aa
 clear aa
 obtain ⟨M,A3,H⟩:=af.be H
 (try dsimp only at H)
 by_cases c4:M < 0
 ·rw [if_pos c4] at H
  have cx:=decide_eq_true c4
  clear c4
  obtain rfl:=Option.some.inj H
  go_enter Tryz.func126,Tryz.ntmps126
  go_wp2_with (first | (refine af.bx 2 #[.int .i64 Y,.slice a8 y.length a5] 30 ?_;intro ab hg w5 hbox hb;have j:=ae.mk hbox;have b2:=af.gw hg HB;have b3:=af.gw hg HB;replace HB:=af.lb HB hb;clear hb hbox hg) | (refine af.lt (Kd.int .i64) 3 8 ?_;intro bm w6 b0 hb bo ar;clear bo ar;(first | rw [← a7.out] at b0 | (simp only [Int.reduceToNat] at b0;rw [← a7.out] at b0));have a0:=ae.mk (Kd.b9 b0 (aj (af.Lw HB.out)));replace j:=af.bb j hb;replace HB:=af.lb HB hb;clear hb b0;obtain ⟨e0,e1,e2,e3⟩:=af.bR j.out) | (refine af.gl (some 11) Tryz.func45 #[.agg #[.int .i64 Y,.slice a8 y.length a5],.int .i64 a1] ?_;(with_reducible refine (ek.calls k Y _ _ y a1 M _ ?side1 ?side2 A3.out).mono ?_);(case side1=>exact af.Cw (Kd.bG a9.out HB.out));(case side2=>exact aS.out);rintro e w9 ⟨rfl,hb⟩;refine ⟨_,rfl,?_⟩;replace a0:=af.rb a0 hb;replace j:=af.bb j hb;replace HB:=af.lb HB hb;(try clear hb);(try clear cy);(try clear hk);(try clear hi)))
  go_ret
  exact ⟨_,af.E,by (with_reducible repeat (first | apply Kd.cL | apply Kd.cM | apply Kd.bS));exact a0.out,af.L⟩
 ·rw [if_neg c4] at H
  have cx:decide (M < 0) = false:=decide_eq_false c4
  clear c4
  have H':=ae.mk H
  clear H
  go_enter Tryz.func126,Tryz.ntmps126
  go_wp2_with (first | (refine af.bx 2 #[.int .i64 Y,.slice a8 y.length a5] 30 ?_;intro ab hg ed hbox hb;have j:=ae.mk hbox;have b2:=af.gw hg HB;have b3:=af.gw hg HB;replace HB:=af.lb HB hb;clear hb hbox hg) | (refine af.lt (Kd.int .i64) 3 8 ?_;intro bm ee ao hb bo ar;clear bo ar;(first | rw [← a7.out] at ao | (simp only [Int.reduceToNat] at ao;rw [← a7.out] at ao));have a0:=ae.mk (Kd.b9 ao (aj (af.Lw HB.out)));replace j:=af.bb j hb;replace HB:=af.lb HB hb;clear hb ao;obtain ⟨cX,cY,d0,d1⟩:=af.bR j.out) | (refine af.gl (some 11) Tryz.func45 #[.agg #[.int .i64 Y,.slice a8 y.length a5],.int .i64 a1] ?_;(with_reducible refine (ek.calls k Y _ _ y a1 M _ ?side1 ?side2 A3.out).mono ?_);(case side1=>exact af.Cw (Kd.bG a9.out HB.out));(case side2=>exact aS.out);rintro e ef ⟨rfl,hb⟩;refine ⟨_,rfl,?_⟩;replace a0:=af.rb a0 hb;replace j:=af.bb j hb;replace HB:=af.lb HB hb;(try clear hb);(try clear cy);(try clear hk);(try clear hi)))
  go_loopg [5,7] k (fun kq v5 v7 w'=>∃ (a6:List Int) (z:Int),v7 = .int .i64 z∧ae (cZ.l0 kq a1 a6 M z Y y = some r)∧ae (kq≤k)∧ae (Kd.R (Kd.int .i64) 3 w' w.heap.size (fun _=>True) v5 a6)∧ae (w'.heap[ab]? = some (.cells #[.int .i64 Y,(.slice a8 y.length a5)] 30 (0,0)))∧ae (Below w.heap.size w w'))
  case atStart=>exact ⟨(ap),(0),af.F,H',⟨Nat.le_refl _⟩,⟨af.Rw a0.out⟩,⟨af.Bw j.out⟩,⟨af.Lw HB.out⟩⟩
  case round =>
   clear H'
   obtain ⟨a6,z,rfl,HA,b4,a2,j,HB⟩:=hrel
   cases gk with
   | zero=>exact absurd HA.out (by simp [cZ.l0])
   | succ k1 =>
    have H:=HA.out
    clear HA
    simp only [cZ.l0] at H
    by_cases aO:z < (y.length:Int)
    ·rw [if_pos aO] at H
     have bs:=decide_eq_true aO
     clear aO
     obtain ⟨d2,H⟩:=af.ip H
     have e4:=decide_eq_true d2
     clear d2
     obtain ⟨a3,d3,H⟩:=af.be H
     (try dsimp only at H)
     by_cases aw:a3 = M
     ·rw [if_pos aw] at H
      have bv:(a3 == M) = true:=beq_iff_eq.mpr aw
      have ca:(a3 != M) = false:=bne_eq_false_iff_eq.mpr aw
      clear aw
      obtain ⟨d4,H⟩:=af.ip H
      have cb:=ae.mk d4
      clear d4
      obtain ⟨b1,al⟩:∃ y_:List Int,y_ = (a6 ++ [Go.bits .and .i64 (rd y z) a1]):=⟨_,rfl⟩
      replace H:(cZ.l0 k1 a1 b1 M (wrap64 (z+1)) Y y) = some r:=by (try rw [al]);exact af.Z
      have ba:=ae.mk al
      clear al
      have H':=ae.mk H
      clear H
      obtain ⟨d5,d6,d7,d8⟩:=af.bR j.out
      obtain ⟨am,aB,X,cc,cd⟩:=af.ai a9.out z
      cases aB
      try replace X:=(HB.out.cell (World.block_lt_of_cell? w _ X)).trans X
      go_wp2_with (first | (refine af.gl (some 29) Tryz.func25 #[.int .i64 (Go.bits .and .i64 (rd y z) a1)] ?_;(with_reducible refine (b6.calls k1 (Go.bits .and .i64 (rd y z) a1) a3 _ d3.out).mono ?_);rintro e w' ⟨rfl,⟨nd,rfl⟩⟩;refine ⟨_,rfl,?_⟩;have aF:0≤(z:Int):=af.D;have aL:z < (y.length:Int):=af.D;obtain ⟨bc,ce,a4⟩:=Kd.dS a9.out z aF aL;obtain rfl:am = bc:=(by injection ce);replace a4:=(HB.out.cell (World.block_lt_of_cell? w _ a4)).trans a4;replace aF:=eq_true aF;replace aL:=eq_true aL) | ((with_reducible refine cB (b:=.append) (xs:=#[.tmp 32,.tmp 40]) rfl ?_);at_builtin;refine Kd.fg (Kd.int .i64) (w0:=w) w.heap.size rfl (.tmp 32) (.tmp 40) 28 3 (.int .i64 0) 8 rfl Tryz.underlying28 eJ rfl (by decide) (by omega) u5 a6 (Go.bits .and .i64 (rd y z) a1) [.int .i64 (Go.bits .and .i64 (rd y z) a1)] (fun _=>True) (fun _=>False) rfl rfl (by exact rfl) (fun _ hk=>hk.elim) (by exact fun _ _=>trivial) (by exact af.Rw a2.out) (by exact af.Lw HB.out) (by exact aj (af.Lw HB.out)) (by have:=cb.out;omega) ?_;intro e8 eg ho hb hg hat;rw [← ba.out] at ho;have d9:=ae.mk (ep (g:=ab) (o:=.cells #[.int .i64 Y,.slice (some am) y.length a5] 30 (0,0)) (af.Bw j.out) hg (Kd.jr a2.out j.out (by decide)));have db:=ae.mk hb;have dd:=ae.mk ho;clear j;clear HB;clear a2;have j:=d9;have HB:=db;have bd:=dd;clear d9 db dd;clear ho hb hg hat))
      go_roundg k1
      case measure=>have:=b4.out;omega
      case rel=>exact ⟨(b1),(wrap64 (z+1)),af.F,H',⟨by have:=b4.out;omega⟩,⟨af.Rw bd.out⟩,⟨af.Bw j.out⟩,⟨af.Lw HB.out⟩⟩
     ·rw [if_neg aw] at H
      have bv:(a3 == M) = false:=beq_eq_false_iff_ne.mpr aw
      have ca:(a3 != M) = true:=bne_iff_ne.mpr aw
      have H':=ae.mk H
      clear H
      obtain ⟨df,dk,dl,dp⟩:=af.bR j.out
      obtain ⟨am,aB,X,cc,cd⟩:=af.ai a9.out z
      cases aB
      try replace X:=(HB.out.cell (World.block_lt_of_cell? w _ X)).trans X
      go_wp2_with (first | (refine af.gl (some 29) Tryz.func25 #[.int .i64 (Go.bits .and .i64 (rd y z) a1)] ?_;(with_reducible refine (b6.calls k1 (Go.bits .and .i64 (rd y z) a1) a3 _ d3.out).mono ?_);rintro e w' ⟨rfl,⟨nd,rfl⟩⟩;refine ⟨_,rfl,?_⟩))
      go_roundg k1
      case measure=>have:=b4.out;omega
      case rel=>exact ⟨(a6),(wrap64 (z+1)),af.F,H',⟨by have:=b4.out;omega⟩,⟨af.Rw a2.out⟩,⟨af.Bw j.out⟩,⟨af.Lw HB.out⟩⟩
    ·rw [if_neg aO] at H
     have bs:decide (z < (y.length:Int)) = false:=decide_eq_false aO
     clear aO
     obtain ⟨cf,ea,H⟩:=af.be H
     (try dsimp only at H)
     obtain rfl:=Option.some.inj H
     obtain ⟨dq,dt,du,dv⟩:=af.bR j.out
     obtain ⟨dC,dE,dT⟩:=Kd.aY a2.out
     subst dT
     go_wp2_with (first | (refine af.gl (some 43) Tryz.func137 #[.slice dC a6.length dE] ?_;(with_reducible refine (aC.calls k1 _ _ a6 cf _ ?side1 ?side2 ea.out).mono ?_);(case side1=>exact af.Cw ((Kd.au a2.out).2.2));(case side2=>exact (Kd.au a2.out).2.1);rintro e eh ⟨eb,rfl,ci,hb⟩;refine ⟨_,rfl,?_⟩;have bi:=ae.mk (Kd.b9 (Kd.dc ci (Kd.cD (af.Rw a2.out))) (aj (af.Lw HB.out)));replace a2:=ae.mk (Kd.cm (af.Rw a2.out) (Kd.bF ci) hb);replace j:=af.bb j hb;replace HB:=af.lb HB hb;(try clear hb);(try clear cy);(try clear hk);(try clear hi);(try clear ci)))
     go_ret
     exact ⟨_,af.E,by (with_reducible repeat (first | apply Kd.cL | apply Kd.cM | apply Kd.bS));exact Kd.aX bi.out (fun _ hk=>trivial),af.L⟩
def en.f (k:Nat) (y:Int) (M:List Int) (a1:Int):Option (Int×List Int):=(ek.f k y M a1).bind fun X=>(if X < 0 then (some (0,([]:List Int))) else ((br.f y).bind fun z=>((cZ.f k y M (wrap64 (z - a1))).bind fun Y=>((cV.f k (wrap64 (z - a1)) Y).bind fun j=>(some (j.1,j.2))))))
set_option maxHeartbeats 8000000 in
set_option maxRecDepth 100000 in
theorem en.calls (k:Nat) (M:Int) (a3:Option Addr) (a4:Nat) (z:List Int) (a1:Int) (r1:Int) (r2:List Int) (w:World) (ar:Kd.C (Kd.int .i64) w a3 z.length z) (aw:z.length≤a4) (h:en.f k M z a1 = some (r1,r2)) :
  Calls Tryz.prog 67 #[.agg #[.int .i64 M,.slice a3 z.length a4],.int .i64 a1] w fun e w'=>∃ bm:Value,e = .returned (.agg #[.int .i64 r1,bm])∧Kd.R (Kd.int .i64) 3 w' w.heap.size (fun _=>True) bm r2∧Below w.heap.size w w':=by
 have dC:=Tryz.underlying30
 have a9:=ae.mk ar
 have aa:=ae.mk aw
 clear ar aw
 have HB:=ae.mk (Below.refl w.heap.size w)
 unfold en.f at h
 have H:=h
 clear h
 obtain ⟨a8,A3,H⟩:=af.be H
 (try dsimp only at H)
 by_cases c4:a8 < 0
 ·rw [if_pos c4] at H
  have bo:=decide_eq_true c4
  clear c4
  simp only [Option.some.injEq,Prod.mk.injEq] at H
  obtain ⟨rfl,rfl⟩:=H
  go_enter Tryz.func67,Tryz.ntmps67
  go_wp2_with (first | (refine af.bx 2 #[.int .i64 M,.slice a3 z.length a4] 30 ?_;intro a5 hg w5 hbox hb;have j:=ae.mk hbox;have aB:=af.gw hg HB;have aF:=af.gw hg HB;replace HB:=af.lb HB hb;clear hb hbox hg) | (refine af.bx 4 #[.int .i64 0,.slice none 0 0] 30 ?_;intro X hg w6 hbox hb;have y:=ae.mk hbox;have aL:=af.gw hg HB;have aO:=af.gw hg HB;replace HB:=af.lb HB hb;have Y:=af.nl hg j;have a0:=af.ng hg j;replace j:=af.bb j hb;clear hb hbox hg;have dE:=Y.out;have dT:=a0.out;obtain ⟨d9,db,dd,df⟩:=af.bR j.out) | (refine af.gl (some 8) Tryz.func45 #[.agg #[.int .i64 M,.slice a3 z.length a4],.int .i64 a1] ?_;(with_reducible refine (ek.calls k M _ _ z a1 a8 _ ?side1 ?side2 A3.out).mono ?_);(case side1=>exact af.Cw (Kd.bG a9.out HB.out));(case side2=>exact aa.out);rintro e w9 ⟨rfl,hb⟩;refine ⟨_,rfl,?_⟩;replace j:=af.bb j hb;replace y:=af.bb y hb;replace HB:=af.lb HB hb;(try clear hb);(try clear b0);(try clear hk);(try clear hi);obtain ⟨bs,bv,ca,cb⟩:=af.bR y.out))
  refine bodyPost_ret (results_cell_row rfl _ _ X 30 #[.int .i64 0,.slice none 0 0] (0,0) _ rfl af.B Tryz.underlying30 rfl (by kernel_rfl)) rfl ?_
  exact ⟨_,af.E,af.N,af.L⟩
 ·rw [if_neg c4] at H
  have bo:decide (a8 < 0) = false:=decide_eq_false c4
  clear c4
  obtain ⟨a6,dk,H⟩:=af.be H
  (try dsimp only at H)
  obtain ⟨ab,dl,H⟩:=af.be H
  (try dsimp only at H)
  obtain ⟨⟨al,am⟩,dp,H⟩:=af.be H
  (try dsimp only at H)
  simp only [Option.some.injEq,Prod.mk.injEq] at H
  obtain ⟨rfl,rfl⟩:=H
  go_enter Tryz.func67,Tryz.ntmps67
  go_wp2_with (first | (refine af.bx 2 #[.int .i64 M,.slice a3 z.length a4] 30 ?_;intro a5 hg e0 hbox hb;have j:=ae.mk hbox;have aB:=af.gw hg HB;have aF:=af.gw hg HB;replace HB:=af.lb HB hb;clear hb hbox hg) | (refine af.bx 4 #[.int .i64 0,.slice none 0 0] 30 ?_;intro X hg e1 hbox hb;have y:=ae.mk hbox;have aL:=af.gw hg HB;have aO:=af.gw hg HB;replace HB:=af.lb HB hb;have Y:=af.nl hg j;have a0:=af.ng hg j;replace j:=af.bb j hb;clear hb hbox hg;have dq:=Y.out;have dt:=a0.out;obtain ⟨cc,cd,ce,cf⟩:=af.bR j.out) | (refine af.gl (some 8) Tryz.func45 #[.agg #[.int .i64 M,.slice a3 z.length a4],.int .i64 a1] ?_;(with_reducible refine (ek.calls k M _ _ z a1 a8 _ ?side1 ?side2 A3.out).mono ?_);(case side1=>exact af.Cw (Kd.bG a9.out HB.out));(case side2=>exact aa.out);rintro e a7 ⟨rfl,hb⟩;refine ⟨_,rfl,?_⟩;replace j:=af.bb j hb;replace y:=af.bb y hb;replace HB:=af.lb HB hb;(try clear hb);(try clear b0);(try clear hk);(try clear hi);obtain ⟨ci,cp,cx,cy⟩:=af.bR j.out) | (refine af.gl (some 13) Tryz.func24 #[.int .i64 M] ?_;(with_reducible refine (br.calls M a6 _ dk.out).mono ?_);rintro e w' ⟨rfl,⟨nd,rfl⟩⟩;refine ⟨_,rfl,?_⟩;(try (rw [eA a7];generalize aP:World.drewN a7 _ = a7;have cX:ae (a7.heap[a5]? = some (.cells #[.int .i64 M,.slice a3 z.length a4] 30 (0,0))):=⟨by rw [← aP];exact (af.Bw j.out)⟩;have cY:ae (a7.heap[X]? = some (.cells #[.int .i64 0,.slice none 0 0] 30 (0,0))):=⟨by rw [← aP];exact (af.Bw y.out)⟩;have d0:ae (Below w.heap.size w a7):=⟨by rw [← aP];exact (af.Lw HB.out)⟩;clear j y HB aP;have j:=cX;have y:=cY;have HB:=d0;clear cX cY d0;have b1:a7.cell? ⟨a5,0,none⟩ = some (.int .i64 M):=(ak j.out 0).trans rfl;have b2:=an j.out 0;have b3:a7.cell? ⟨a5,1,none⟩ = some (.slice a3 z.length a4):=(ak j.out 1).trans rfl;have b4:=an j.out 1;have ba:a7.cell? ⟨X,0,none⟩ = some (.int .i64 0):=(ak y.out 0).trans rfl;have bc:=an y.out 0;have bd:a7.cell? ⟨X,1,none⟩ = some (.slice none 0 0):=(ak y.out 1).trans rfl;have bi:=an y.out 1))) | (refine af.gl (some 19) Tryz.func126 #[.agg #[.int .i64 M,.slice a3 z.length a4],.int .i64 (wrap64 (a6 - a1))] ?_;(with_reducible refine (cZ.calls k M _ _ z (wrap64 (a6 - a1)) ab _ ?side1 ?side2 dl.out).mono ?_);(case side1=>exact af.Cw (Kd.bG a9.out HB.out));(case side2=>exact aa.out);rintro e e2 ⟨du,rfl,ap,hb⟩;refine ⟨_,rfl,?_⟩;have a2:=ae.mk (Kd.b9 ap (aj (af.Lw HB.out)));replace j:=af.bb j hb;replace y:=af.bb y hb;replace HB:=af.lb HB hb;(try clear hb);(try clear b0);(try clear hk);(try clear hi);(try clear ap);obtain ⟨d1,d2,d3⟩:=Kd.aY a2.out;subst d3) | (refine af.gl (some 20) Tryz.func125 #[.int .i64 (wrap64 (a6 - a1)),.slice d1 ab.length d2] ?_;(with_reducible refine (cV.calls k (wrap64 (a6 - a1)) _ _ ab al am _ ?side1 ?side2 dp.out).mono ?_);(case side1=>exact af.Cw ((Kd.au a2.out).2.2));(case side2=>exact (Kd.au a2.out).2.1);rintro e e3 ⟨dv,rfl,ap,hb⟩;refine ⟨_,rfl,?_⟩;have ao:=ae.mk (Kd.b9 (Kd.dc ap (Kd.cD (af.Rw a2.out))) (aj (af.Lw HB.out)));replace a2:=ae.mk (Kd.cm (af.Rw a2.out) (Kd.bF ap) hb);replace j:=af.bb j hb;replace y:=af.bb y hb;replace HB:=af.lb HB hb;(try clear hb);(try clear b0);(try clear hk);(try clear hi);(try clear ap);obtain ⟨d4,d5,d6,d7⟩:=af.bR y.out;obtain ⟨aR,aS,d8⟩:=Kd.aY ao.out;subst d8))
  refine bodyPost_ret (results_cell_row rfl _ _ X 30 #[.int .i64 al,.slice aR am.length aS] (0,0) _ rfl af.B Tryz.underlying30 rfl (by kernel_rfl)) rfl ?_
  exact ⟨_,af.E,by (with_reducible repeat (first | apply Kd.cL | apply Kd.cM | apply Kd.bS));exact Kd.aX (Kd.cI (p:=⟨X,1,none⟩) (Kd.cI (p:=⟨X,0,none⟩) (Kd.cR ao.out y.out (by decide)) (fun _ hk=>hk.2) (.int .i64 al)) (fun _ hk=>hk.2) (.slice aR am.length aS)) (fun _ hk=>trivial),af.L⟩
def bn.l0:Nat→Int→Int→List Int→Int→Int→List Int→Option (Int×List Int)
 | 0,_,_,_,_,_,_=>none
 | k+1,x1,x5,x6,M,y,j=>if M < (j.length:Int) then (if 0≤M then ((b6.f k (Go.bits .and .i64 (rd j M) x1)).bind fun X=>(if X = x5 then (if x6.length < 17592186044416 then (bn.l0 k x1 x5 (x6 ++ [wrap64 ((rd j M) - (Go.bits .and .i64 (rd j M) x1))]) (wrap64 (M+1)) y j) else (none)) else (bn.l0 k x1 x5 x6 (wrap64 (M+1)) y j))) else (none)) else ((br.f y).bind fun Y=>((cV.f k (wrap64 (Y - x1)) x6).bind fun z=>(some (z.1,z.2))))
def bn.f (k:Nat) (y:Int) (z:List Int) (M:Int):Option (Int×List Int):=(ek.f k y z M).bind fun j=>(if j < 0 then (some (0,([]:List Int))) else (bn.l0 k M j (([]:List Int)) 0 y z))
def bn.T9:Bool×List (List Nat×List Nat):=(true,[([],[]),([],[]),([1],[1]),([],[]),([2,3],[2,3]),([4],[4]),([],[]),([6],[6]),([],[]),([7,8],[7,8]),([9],[9]),([],[]),([10,11],[10,11]),([5,12],[5,12]),([13],[13]),([0,14],[0,14]),([15,15,0,1,2,3,4,5,6,7,8,9,10,11,12,13,14,15],[0,15])])
def bn.B9:List Nat:=[0,0,2,0,14,30,0,64,0,448,960,0,4032,8190,16382,32767,65535]
theorem bn.vv:gr .any (opsOf Tryz.f68 9) = bn.T9:=by kernel_rfl
theorem bn.sH:eL bn.T9.2 bn.B9 = true:=by kernel_rfl
set_option maxHeartbeats 8000000 in
set_option maxRecDepth 100000 in
theorem bn.calls (k:Nat) (a2:Int) (ar:Option Addr) (aa:Nat) (z:List Int) (a1:Int) (r1:Int) (r2:List Int) (w:World) (cX:Kd.C (Kd.int .i64) w ar z.length z) (cY:z.length≤aa) (h:bn.f k a2 z a1 = some (r1,r2)) :
  Calls Tryz.prog 68 #[.agg #[.int .i64 a2,.slice ar z.length aa],.int .i64 a1] w fun e w'=>∃ e3:Value,e = .returned (.agg #[.int .i64 r1,e3])∧Kd.R (Kd.int .i64) 3 w' w.heap.size (fun _=>True) e3 r2∧Below w.heap.size w w':=by
 have gs:=Tryz.underlying30
 have aw:=ae.mk cX
 have d0:=ae.mk cY
 clear cX cY
 have HB:=ae.mk (Below.refl w.heap.size w)
 unfold bn.f at h
 have H:=h
 clear h
 obtain ⟨a8,A3,H⟩:=af.be H
 (try dsimp only at H)
 by_cases c4:a8 < 0
 ·rw [if_pos c4] at H
  have e4:=decide_eq_true c4
  clear c4
  simp only [Option.some.injEq,Prod.mk.injEq] at H
  obtain ⟨rfl,rfl⟩:=H
  go_enter Tryz.func68,Tryz.ntmps68
  go_wp2_with (first | (refine af.bx 2 #[.int .i64 a2,.slice ar z.length aa] 30 ?_;intro a6 hg w5 hbox hb;have j:=ae.mk hbox;have d3:=af.gw hg HB;have d4:=af.gw hg HB;replace HB:=af.lb HB hb;clear hb hbox hg) | (refine af.bx 4 #[.int .i64 0,.slice none 0 0] 30 ?_;intro X hg w6 hbox hb;have y:=ae.mk hbox;have d5:=af.gw hg HB;have d6:=af.gw hg HB;replace HB:=af.lb HB hb;have Y:=af.nl hg j;have a0:=af.ng hg j;replace j:=af.bb j hb;clear hb hbox hg;have gt:=Y.out;have h0:=a0.out;obtain ⟨fi,fj,fl,fp⟩:=af.bR j.out) | (refine af.gl (some 10) Tryz.func45 #[.agg #[.int .i64 a2,.slice ar z.length aa],.int .i64 a1] ?_;(with_reducible refine (ek.calls k a2 _ _ z a1 a8 _ ?side1 ?side2 A3.out).mono ?_);(case side1=>exact af.Cw (Kd.bG aw.out HB.out));(case side2=>exact d0.out);rintro e w9 ⟨rfl,hb⟩;refine ⟨_,rfl,?_⟩;replace j:=af.bb j hb;replace y:=af.bb y hb;replace HB:=af.lb HB hb;(try clear hb);(try clear e8);(try clear hk);(try clear hi);obtain ⟨ea,eb,ec,ed⟩:=af.bR y.out))
  refine bodyPost_ret (results_cell_row rfl _ _ X 30 #[.int .i64 0,.slice none 0 0] (0,0) _ rfl af.B Tryz.underlying30 rfl (by kernel_rfl)) rfl ?_
  exact ⟨_,af.E,af.N,af.L⟩
 ·rw [if_neg c4] at H
  have e4:decide (a8 < 0) = false:=decide_eq_false c4
  clear c4
  obtain ⟨d1,b0⟩:∃ y_:List Int,y_ = (([]:List Int)):=⟨_,rfl⟩
  replace H:(bn.l0 k a1 a8 d1 0 a2 z) = some (r1,r2):=by (try rw [b0]);exact af.Z
  have cp:=ae.mk b0
  clear b0
  have H':=ae.mk H
  clear H
  go_enter Tryz.func68,Tryz.ntmps68
  go_wp2_with (first | (refine af.bx 2 #[.int .i64 a2,.slice ar z.length aa] 30 ?_;intro a6 hg h6 hbox hb;have j:=ae.mk hbox;have d3:=af.gw hg HB;have d4:=af.gw hg HB;replace HB:=af.lb HB hb;clear hb hbox hg) | (refine af.bx 4 #[.int .i64 0,.slice none 0 0] 30 ?_;intro X hg h7 hbox hb;have y:=ae.mk hbox;have d5:=af.gw hg HB;have d6:=af.gw hg HB;replace HB:=af.lb HB hb;have Y:=af.nl hg j;have a0:=af.ng hg j;replace j:=af.bb j hb;clear hb hbox hg;have fs:=Y.out;have ft:=a0.out;obtain ⟨ee,ef,eg,eh⟩:=af.bR j.out) | (refine af.gl (some 10) Tryz.func45 #[.agg #[.int .i64 a2,.slice ar z.length aa],.int .i64 a1] ?_;(with_reducible refine (ek.calls k a2 _ _ z a1 a8 _ ?side1 ?side2 A3.out).mono ?_);(case side1=>exact af.Cw (Kd.bG aw.out HB.out));(case side2=>exact d0.out);rintro e h8 ⟨rfl,hb⟩;refine ⟨_,rfl,?_⟩;replace j:=af.bb j hb;replace y:=af.bb y hb;replace HB:=af.lb HB hb;(try clear hb);(try clear e8);(try clear hk);(try clear hi)) | (refine af.lt (Kd.int .i64) 3 14 ?_;intro fw h9 b2 hb fx dq;clear fx dq;(first | rw [← cp.out] at b2 | (simp only [Int.reduceToNat] at b2;rw [← cp.out] at b2));have d7:=ae.mk (Kd.b9 b2 (aj (af.Lw HB.out)));replace j:=af.bb j hb;replace y:=af.bb y hb;replace HB:=af.lb HB hb;clear hb b2))
  go_loopg [6,7] k (fun kq v6 v7 w'=>∃ (ao:List Int) (M:Int),v7 = .int .i64 M∧ae (bn.l0 kq a1 a8 ao M a2 z = some (r1,r2))∧ae (kq≤k)∧ae (Kd.R (Kd.int .i64) 3 w' w.heap.size (fun _=>True) v6 ao)∧ae (w'.heap[a6]? = some (.cells #[.int .i64 a2,(.slice ar z.length aa)] 30 (0,0)))∧ae (w'.heap[X]? = some (.cells #[.int .i64 0,(.slice none 0 0)] 30 (0,0)))∧ae (Below w.heap.size w w'))
  case atStart=>exact ⟨(d1),(0),af.F,H',⟨Nat.le_refl _⟩,⟨af.Rw d7.out⟩,⟨af.Bw j.out⟩,⟨af.Bw y.out⟩,⟨af.Lw HB.out⟩⟩
  case round =>
   clear H'
   obtain ⟨ao,M,rfl,HA,d8,a3,j,y,HB⟩:=hrel
   cases gk with
   | zero=>exact absurd HA.out (by simp [bn.l0])
   | succ k1 =>
    have H:=HA.out
    clear HA
    simp only [bn.l0] at H
    by_cases cy:M < (z.length:Int)
    ·rw [if_pos cy] at H
     have dt:=decide_eq_true cy
     clear cy
     obtain ⟨ej,H⟩:=af.ip H
     have fy:=decide_eq_true ej
     clear ej
     obtain ⟨ap,el,H⟩:=af.be H
     (try dsimp only at H)
     by_cases bd:ap = a8
     ·rw [if_pos bd] at H
      have du:(ap == a8) = true:=beq_iff_eq.mpr bd
      have dv:(ap != a8) = false:=bne_eq_false_iff_eq.mpr bd
      clear bd
      obtain ⟨em,H⟩:=af.ip H
      have dC:=ae.mk em
      clear em
      obtain ⟨d2,b1⟩:∃ y_:List Int,y_ = (ao ++ [wrap64 ((rd z M) - (Go.bits .and .i64 (rd z M) a1))]):=⟨_,rfl⟩
      replace H:(bn.l0 k1 a1 a8 d2 (wrap64 (M+1)) a2 z) = some (r1,r2):=by (try rw [b1]);exact af.Z
      have d9:=ae.mk b1
      clear b1
      have H':=ae.mk H
      clear H
      have fX:=Y.out
      have fY:=a0.out
      obtain ⟨eo,eq,es,et⟩:=af.bR j.out
      obtain ⟨a9,bi,a7,dE,dT⟩:=af.ai aw.out M
      cases bi
      try replace a7:=(HB.out.cell (World.block_lt_of_cell? w _ a7)).trans a7
      try go_wp2_with (first | (refine af.gl (some 29) Tryz.func25 #[.int .i64 (Go.bits .and .i64 (rd z M) a1)] ?_;(with_reducible refine (b6.calls k1 (Go.bits .and .i64 (rd z M) a1) ap _ el.out).mono ?_);rintro e w' ⟨rfl,⟨nd,rfl⟩⟩;refine ⟨_,rfl,?_⟩))
      (try (rw [eA wr];generalize aR:World.drewN wr _ = wr;have b3:ae (Kd.R (Kd.int .i64) 3 wr w.heap.size (fun _=>True) u6 ao):=⟨by rw [← aR];exact (af.Rw a3.out)⟩;have b4:ae (wr.heap[a6]? = some (.cells #[.int .i64 a2,.slice (some a9) z.length aa] 30 (0,0))):=⟨by rw [← aR];exact (af.Bw j.out)⟩;have ba:ae (wr.heap[X]? = some (.cells #[.int .i64 0,.slice none 0 0] 30 (0,0))):=⟨by rw [← aR];exact (af.Bw y.out)⟩;have bc:ae (Below w.heap.size w wr):=⟨by rw [← aR];exact (af.Lw HB.out)⟩;clear a3 j y HB aR;have a3:=b3;have j:=b4;have y:=ba;have HB:=bc;clear b3 b4 ba bc;have bm:wr.cell? ⟨a6,0,none⟩ = some (.int .i64 a2):=(ak j.out 0).trans rfl;have bo:=an j.out 0;have bs:wr.cell? ⟨a6,1,none⟩ = some (.slice (some a9) z.length aa):=(ak j.out 1).trans rfl;have bv:=an j.out 1;have ca:wr.cell? ⟨X,0,none⟩ = some (.int .i64 0):=(ak y.out 0).trans rfl;have cb:=an y.out 0;have cc:wr.cell? ⟨X,1,none⟩ = some (.slice none 0 0):=(ak y.out 1).trans rfl;have cd:=an y.out 1))
      replace a3:=ae.mk (Kd.bS a3.out)
      replace j:=ae.mk (dZ j.out)
      replace y:=ae.mk (dZ y.out)
      replace HB:=ae.mk (bU HB.out)
      obtain ⟨db,e0,ab,g0,g1⟩:=af.ai aw.out M
      have a4:=ab
      obtain rfl:a9 = db:=(by injection e0)
      try replace ab:=(HB.out.cell (World.block_lt_of_cell? w _ ab)).trans ab
      obtain ⟨dd,e1,al,g2,g3⟩:=af.ai aw.out M
      have a5:=al
      obtain rfl:a9 = dd:=(by injection e1)
      try replace al:=(HB.out.cell (World.block_lt_of_cell? w _ al)).trans al
      refine eS (n:=17) (S:=fun w'=>w'.cell? ⟨a6,0,none⟩ = some (.int .i64 a2)∧w'.cell? ⟨a6,1,none⟩ = some (.slice (some a9) z.length aa)∧w'.cell? (a9.add (M).toNat) = some (.int .i64 (rd z M))∧w'.cell? (a9.add (M).toNat) = some (.int .i64 (rd z M))) (ds:=[]) #[false,false,false,false,false,false,false,false,false,false,false,false,false,false,false,false,false] (by kernel_rfl) rfl rfl ⟨(ak j.out 0).trans rfl,(ak j.out 1).trans rfl,((HB.out.cell (World.block_lt_of_cell? w _ a4)).trans a4),((HB.out.cell (World.block_lt_of_cell? w _ a5)).trans a5)⟩ (fun hHeld=>?_);refine dn bn.vv bn.sH (fun am df=>?_)
      generalize wr.drew = hj at a3 j y HB ab al hHeld ⊢
      refine af.pu 0 32 am ?_
      refine af.pu 1 33 am ?_
      refine af.pu 3 35 am ?_
      refine af.pu 6 38 am ?_
      refine af.pu 8 40 am ?_
      refine af.pu 11 43 am ?_
      refine af.tk 2 34 am df hHeld ?_
      refine af.pu 4 36 am ?_
      refine af.tk 5 37 am df hHeld ?_
      refine af.tk 7 39 am df hHeld ?_
      refine af.pu 9 41 am ?_
      refine af.tk 10 42 am df hHeld ?_
      refine af.pu 12 44 am ?_
      refine af.pu 13 45 am ?_
      refine gA (i:=14) (N:=some 46) #[true,true,true,true,true,true,true,true,true,true,true,true,true,true,true,false,false] rfl rfl (dD am.out (by kernel_rfl)) (by decide) (fun K hK=>?_)
      refine kK (w1:=?_) (v:=?_) (by rfl) rfl ?_ ?_
      rotate_left 2
      ·go_simp
       constructor
       ·rfl
       ·rfl
      refine hK.out _ _ ⟨(ak (gg j.out _) 0).trans rfl,(ak (gg j.out _) 1).trans rfl,(World.cell?_alloc_lt _ _ _ (World.block_lt_of_cell? _ _ (((HB.out.cell (World.block_lt_of_cell? w _ a4)).trans a4)))).trans (((HB.out.cell (World.block_lt_of_cell? w _ a4)).trans a4)),(World.cell?_alloc_lt _ _ _ (World.block_lt_of_cell? _ _ (((HB.out.cell (World.block_lt_of_cell? w _ a5)).trans a5)))).trans (((HB.out.cell (World.block_lt_of_cell? w _ a5)).trans a5))⟩ (fun hHeld=>?_)
      clear hK K
      refine eV (a':=?_) ?_ ?_
      rotate_left
      ·show Act.put _ (some 46) _ = _
       simp only [Act.put,List.setIfInBounds_toArray,List.set_cons_zero,List.set_cons_succ,bw,bW]
       rfl
      refine gA (i:=15) (N:=some 47) #[true,true,true,true,true,true,true,true,true,true,true,true,true,true,true,true,false] rfl rfl (dD am.out (by kernel_rfl)) (by decide) (fun K hK=>?_)
      refine Kd.fS (Kd.int .i64) (w0:=w) w.heap.size (by rfl) (.tmp 32) (.tmp 46) 28 3 (.int .i64 0) 8 rfl Tryz.underlying28 eJ rfl (by decide) (by omega) u6 ao (wrap64 ((rd z M) - (Go.bits .and .i64 (rd z M) a1))) [.int .i64 (wrap64 ((rd z M) - (Go.bits .and .i64 (rd z M) a1)))] (fun _=>True) (fun _=>False) rfl rfl ?aP (fun _ hk=>hk.elim) ?aF ?aO ?aB ?aS ?aL ?_
      (case aP=>exact rfl)
      (case aB=>exact (af.Lw HB.out))
      (case aF=>exact (fun _ _=>trivial))
      (case aO=>exact (af.Rw a3.out))
      (case aS=>exact (aj (af.Lw HB.out)))
      (case aL=>have:=dC.out;omega)
      intro g4 hl ho hb hg hat
      rw [← d9.out] at ho
      have b3:=ae.mk (ep (g:=a6) (o:=.cells #[.int .i64 a2,.slice (some a9) z.length aa] 30 (0,0)) (af.Bw j.out) hg (Kd.jr a3.out j.out (by decide)))
      have b4:=ae.mk (ep (g:=X) (o:=.cells #[.int .i64 0,.slice none 0 0] 30 (0,0)) (af.Bw y.out) hg (Kd.jr a3.out y.out (by decide)))
      have ba:=ae.mk hb
      have bc:=ae.mk ho
      clear j
      clear y
      clear HB
      clear a3
      have j:=b3
      have y:=b4
      have HB:=ba
      have dk:=bc
      clear b3 b4 ba bc
      clear ho hb hg hat
      refine hK.out _ _ ⟨(ak j.out 0).trans rfl,(ak j.out 1).trans rfl,((HB.out.cell (World.block_lt_of_cell? w _ a4)).trans a4),((HB.out.cell (World.block_lt_of_cell? w _ a5)).trans a5)⟩ (fun hHeld=>?_)
      clear hK K
      refine eV (a':=?_) ?_ ?_
      rotate_left
      ·show Act.put _ (some 47) _ = _
       simp only [Act.put,List.setIfInBounds_toArray,List.set_cons_zero,List.set_cons_succ,bw,bW]
       rfl
      refine af.pu 16 6 am ?_
      refine gh (er am.out (by kernel_rfl)) ?_
      try go_wp2
      go_roundg k1
      case measure=>have:=d8.out;omega
      case rel=>exact ⟨(d2),(wrap64 (M+1)),af.F,H',⟨by have:=d8.out;omega⟩,⟨af.Rw dk.out⟩,⟨af.Bw j.out⟩,⟨af.Bw y.out⟩,⟨af.Lw HB.out⟩⟩
     ·rw [if_neg bd] at H
      have du:(ap == a8) = false:=beq_eq_false_iff_ne.mpr bd
      have dv:(ap != a8) = true:=bne_iff_ne.mpr bd
      have H':=ae.mk H
      clear H
      have g5:=Y.out
      have g6:=a0.out
      obtain ⟨ev,ew,ex,eQ⟩:=af.bR j.out
      obtain ⟨a9,bi,a7,dE,dT⟩:=af.ai aw.out M
      cases bi
      try replace a7:=(HB.out.cell (World.block_lt_of_cell? w _ a7)).trans a7
      go_wp2_with (first | (refine af.gl (some 29) Tryz.func25 #[.int .i64 (Go.bits .and .i64 (rd z M) a1)] ?_;(with_reducible refine (b6.calls k1 (Go.bits .and .i64 (rd z M) a1) ap _ el.out).mono ?_);rintro e w' ⟨rfl,⟨nd,rfl⟩⟩;refine ⟨_,rfl,?_⟩))
      go_roundg k1
      case measure=>have:=d8.out;omega
      case rel=>exact ⟨(ao),(wrap64 (M+1)),af.F,H',⟨by have:=d8.out;omega⟩,⟨af.Rw a3.out⟩,⟨af.Bw j.out⟩,⟨af.Bw y.out⟩,⟨af.Lw HB.out⟩⟩
    ·rw [if_neg cy] at H
     have dt:decide (M < (z.length:Int)) = false:=decide_eq_false cy
     clear cy
     obtain ⟨ce,g7,H⟩:=af.be H
     (try dsimp only at H)
     obtain ⟨⟨cf,ci⟩,g8,H⟩:=af.be H
     (try dsimp only at H)
     simp only [Option.some.injEq,Prod.mk.injEq] at H
     obtain ⟨rfl,rfl⟩:=H
     have g9:=Y.out
     have gc:=a0.out
     obtain ⟨f0,f1,f2,f3⟩:=af.bR j.out
     go_wp2_with (first | (refine af.gl (some 50) Tryz.func24 #[.int .i64 a2] ?_;(with_reducible refine (br.calls a2 ce _ g7.out).mono ?_);rintro e w' ⟨rfl,⟨nd,rfl⟩⟩;refine ⟨_,rfl,?_⟩;(try (rw [eA wr];generalize aR:World.drewN wr _ = wr;have b3:ae (Kd.R (Kd.int .i64) 3 wr w.heap.size (fun _=>True) u6 ao):=⟨by rw [← aR];exact (af.Rw a3.out)⟩;have b4:ae (wr.heap[a6]? = some (.cells #[.int .i64 a2,.slice ar z.length aa] 30 (0,0))):=⟨by rw [← aR];exact (af.Bw j.out)⟩;have ba:ae (wr.heap[X]? = some (.cells #[.int .i64 0,.slice none 0 0] 30 (0,0))):=⟨by rw [← aR];exact (af.Bw y.out)⟩;have bc:ae (Below w.heap.size w wr):=⟨by rw [← aR];exact (af.Lw HB.out)⟩;clear a3 j y HB aR;have a3:=b3;have j:=b4;have y:=ba;have HB:=bc;clear b3 b4 ba bc;have bm:wr.cell? ⟨a6,0,none⟩ = some (.int .i64 a2):=(ak j.out 0).trans rfl;have bo:=an j.out 0;have bs:wr.cell? ⟨a6,1,none⟩ = some (.slice ar z.length aa):=(ak j.out 1).trans rfl;have bv:=an j.out 1;have ca:wr.cell? ⟨X,0,none⟩ = some (.int .i64 0):=(ak y.out 0).trans rfl;have cb:=an y.out 0;have cc:wr.cell? ⟨X,1,none⟩ = some (.slice none 0 0):=(ak y.out 1).trans rfl;have cd:=an y.out 1));obtain ⟨f4,f5,f6⟩:=Kd.aY a3.out;subst f6) | (refine af.gl (some 54) Tryz.func125 #[.int .i64 (wrap64 (ce - a1)),.slice f4 ao.length f5] ?_;(with_reducible refine (cV.calls k1 (wrap64 (ce - a1)) _ _ ao cf ci _ ?side1 ?side2 g8.out).mono ?_);(case side1=>exact af.Cw ((Kd.au a3.out).2.2));(case side2=>exact (Kd.au a3.out).2.1);rintro e hm ⟨go,rfl,e2,hb⟩;refine ⟨_,rfl,?_⟩;have cx:=ae.mk (Kd.b9 (Kd.dc e2 (Kd.cD (af.Rw a3.out))) (aj (af.Lw HB.out)));replace a3:=ae.mk (Kd.cm (af.Rw a3.out) (Kd.bF e2) hb);replace j:=af.bb j hb;replace y:=af.bb y hb;replace HB:=af.lb HB hb;(try clear hb);(try clear e8);(try clear hk);(try clear hi);(try clear e2);obtain ⟨f7,f8,f9,fa⟩:=af.bR y.out;obtain ⟨dl,dp,fd⟩:=Kd.aY cx.out;subst fd))
     refine bodyPost_ret (results_cell_row rfl _ _ X 30 #[.int .i64 cf,.slice dl ci.length dp] (0,0) _ rfl af.B Tryz.underlying30 rfl (by kernel_rfl)) rfl ?_
     exact ⟨_,af.E,by (with_reducible repeat (first | apply Kd.cL | apply Kd.cM | apply Kd.bS));exact Kd.aX (Kd.cI (p:=⟨X,1,none⟩) (Kd.cI (p:=⟨X,0,none⟩) (Kd.cR cx.out y.out (by decide)) (fun _ hk=>hk.2) (.int .i64 cf)) (fun _ hk=>hk.2) (.slice dl ci.length dp)) (fun _ hk=>trivial),af.L⟩
def dy.f (a0:Int) (z:Int):Option (Bool):=(bu.f 8 a0).bind fun j=>(if j = true then ((bu.f 8 z).bind fun y=>(if y = true then (some ((Go.bits .and .i64 a0 z) == a0)) else (some false))) else (some false))
set_option maxHeartbeats 8000000 in
set_option maxRecDepth 100000 in
theorem dy.calls (a0:Int) (y:Int) (r:Bool) (w:World) (h:dy.f a0 y = some r) :
  Calls Tryz.prog 69 #[.int .i64 a0,.int .i64 y] w fun e w'=>e = .returned (.bool r)∧cQ w w':=by
 unfold dy.f at h
 have H:=h
 clear h
 obtain ⟨z,M,H⟩:=af.be H
 (try dsimp only at H)
 by_cases c4:z = true
 ·subst c4
  replace H:((bu.f 8 y).bind fun j=>(if j = true then (some ((Go.bits .and .i64 a0 y) == a0)) else (some false))) = some r:=by rw [if_pos rfl] at H;exact H
  obtain ⟨j,X,H⟩:=af.be H
  (try dsimp only at H)
  by_cases c6:j = true
  ·subst c6
   replace H:(some ((Go.bits .and .i64 a0 y) == a0)) = some r:=by rw [if_pos rfl] at H;exact H
   obtain rfl:=Option.some.inj H
   go_enter Tryz.func69,Tryz.ntmps69
   go_wp2_with (first | ((with_reducible refine ax (f:=87) rfl ?_);refine af.gl (some 6) Tryz.func87 #[.int .i64 8,.int .i64 a0] ?_;(with_reducible refine (bu.calls 8 a0 true _ M.out).mono ?_);rintro e w' ⟨rfl,⟨nd,rfl⟩⟩;refine ⟨_,rfl,?_⟩) | (go_at_call 87;(with_reducible refine (bu.calls 8 y true _ X.out).mono ?_);rintro e w' ⟨rfl,⟨nd,rfl⟩⟩))
   go_ret
   exact ⟨af.F,af.G⟩
  ·replace c6:=Bool.eq_false_iff.mpr c6
   subst c6
   replace H:(some false) = some r:=by rw [if_neg (show ¬ (false = true) by decide)] at H;exact H
   obtain rfl:=Option.some.inj H
   go_enter Tryz.func69,Tryz.ntmps69
   go_wp2_with (first | ((with_reducible refine ax (f:=87) rfl ?_);refine af.gl (some 6) Tryz.func87 #[.int .i64 8,.int .i64 a0] ?_;(with_reducible refine (bu.calls 8 a0 true _ M.out).mono ?_);rintro e w' ⟨rfl,⟨nd,rfl⟩⟩;refine ⟨_,rfl,?_⟩) | (go_at_call 87;(with_reducible refine (bu.calls 8 y false _ X.out).mono ?_);rintro e w' ⟨rfl,⟨nd,rfl⟩⟩))
   go_ret
   exact ⟨af.F,af.G⟩
 ·replace c4:=Bool.eq_false_iff.mpr c4
  subst c4
  replace H:(some false) = some r:=by rw [if_neg (show ¬ (false = true) by decide)] at H;exact H
  obtain rfl:=Option.some.inj H
  go_enter Tryz.func69,Tryz.ntmps69
  go_wp2_with (first | ((with_reducible refine ax (f:=87) rfl ?_);refine af.gl (some 6) Tryz.func87 #[.int .i64 8,.int .i64 a0] ?_;(with_reducible refine (bu.calls 8 a0 false _ M.out).mono ?_);rintro e w' ⟨rfl,⟨nd,rfl⟩⟩;refine ⟨_,rfl,?_⟩))
  go_ret
  exact ⟨af.F,af.G⟩
def da.l0:Nat→Int→Int→Int→List Int→Option (Int)
 | 0,_,_,_,_=>none
 | k+1,M,z,y,j=>if z < (j.length:Int) then (if 0≤z then (da.l0 k (wrap64 (M - (Go.bits .and .i64 M (rd j z)))) (wrap64 (z+1)) y j) else (none)) else (some M)
def da.f (k:Nat) (j:Int) (y:List Int):Option (Int):=(bf.f k j y).bind fun z=>(if z = true then ((br.f j).bind fun M=>(da.l0 k M 0 j y)) else (some 0))
set_option maxHeartbeats 8000000 in
set_option maxRecDepth 100000 in
theorem da.calls (k:Nat) (z:Int) (Y:Option Addr) (a0:Nat) (y:List Int) (r:Int) (w:World) (a5:Kd.C (Kd.int .i64) w Y y.length y) (a6:y.length≤a0) (h:da.f k z y = some r) :
  Calls Tryz.prog 70 #[.agg #[.int .i64 z,.slice Y y.length a0]] w fun e w'=>e = .returned (.int .i64 r)∧Below w.heap.size w w':=by
 have cb:=Tryz.underlying30
 have a3:=ae.mk a5
 have a7:=ae.mk a6
 clear a5 a6
 have HB:=ae.mk (Below.refl w.heap.size w)
 unfold da.f at h
 have H:=h
 clear h
 obtain ⟨aa,A2,H⟩:=af.be H
 (try dsimp only at H)
 by_cases c3:aa = true
 ·subst c3
  replace H:((br.f z).bind fun a1=>(da.l0 k a1 0 z y)) = some r:=by rw [if_pos rfl] at H;exact H
  obtain ⟨a1,A4,H⟩:=af.be H
  (try dsimp only at H)
  have H':=ae.mk H
  clear H
  go_enter Tryz.func70,Tryz.ntmps70
  go_wp2_with (first | (refine af.bx 1 #[.int .i64 z,.slice Y y.length a0] 30 ?_;intro a4 hg w5 hbox hb;have j:=ae.mk hbox;have a8:=af.gw hg HB;have a9:=af.gw hg HB;replace HB:=af.lb HB hb;clear hb hbox hg;obtain ⟨b1,b2,b3,b4⟩:=af.bR j.out) | (refine af.gl (some 6) Tryz.func26 #[.agg #[.int .i64 z,.slice Y y.length a0]] ?_;(with_reducible refine (bf.calls k z _ _ y true _ ?side1 ?side2 A2.out).mono ?_);(case side1=>exact af.Cw (Kd.bG a3.out HB.out));(case side2=>exact a7.out);rintro e w7 ⟨rfl,hb⟩;refine ⟨_,rfl,?_⟩;replace j:=af.bb j hb;replace HB:=af.lb HB hb;(try clear hb);(try clear bo);(try clear hk);(try clear hi);obtain ⟨ba,bc,bd,bi⟩:=af.bR j.out) | (refine af.gl (some 10) Tryz.func24 #[.int .i64 z] ?_;(with_reducible refine (br.calls z a1 _ A4.out).mono ?_);rintro e w' ⟨rfl,⟨nd,rfl⟩⟩;refine ⟨_,rfl,?_⟩))
  go_loopg [3,4] k (fun kq v3 v4 w'=>∃ (a2:Int) (X:Int),v3 = .int .i64 a2∧v4 = .int .i64 X∧ae (da.l0 kq a2 X z y = some r)∧ae (kq≤k)∧ae (w'.heap[a4]? = some (.cells #[.int .i64 z,(.slice Y y.length a0)] 30 (0,0)))∧ae (Below w.heap.size w w'))
  case atStart=>exact ⟨(a1),(0),af.F,af.F,H',⟨Nat.le_refl _⟩,⟨af.Bw j.out⟩,⟨af.Lw HB.out⟩⟩
  case round =>
   clear H'
   obtain ⟨a2,X,rfl,rfl,HA,al,j,HB⟩:=hrel
   cases gk with
   | zero=>exact absurd HA.out (by simp [da.l0])
   | succ k1 =>
    have H:=HA.out
    clear HA
    simp only [da.l0] at H
    by_cases c9:X < (y.length:Int)
    ·rw [if_pos c9] at H
     have am:=decide_eq_true c9
     clear c9
     obtain ⟨gz,H⟩:=af.ip H
     have bs:=decide_eq_true gz
     clear gz
     have H':=ae.mk H
     clear H
     obtain ⟨ao,ap,ar,aw⟩:=af.bR j.out
     obtain ⟨bm,ab,M,bv,ca⟩:=af.ai a3.out X
     cases ab
     try replace M:=(HB.out.cell (World.block_lt_of_cell? w _ M)).trans M
     go_wp2
     go_roundg k1
     case measure=>have:=al.out;omega
     case rel=>exact ⟨(wrap64 (a2 - (Go.bits .and .i64 a2 (rd y X)))),(wrap64 (X+1)),af.F,af.F,H',⟨by have:=al.out;omega⟩,⟨af.Bw j.out⟩,⟨af.Lw HB.out⟩⟩
    ·rw [if_neg c9] at H
     have am:decide (X < (y.length:Int)) = false:=decide_eq_false c9
     clear c9
     obtain rfl:=Option.some.inj H
     obtain ⟨aB,aF,aL,aO⟩:=af.bR j.out
     go_wp2
     go_ret
     exact ⟨af.E,af.L⟩
 ·replace c3:=Bool.eq_false_iff.mpr c3
  subst c3
  replace H:(some 0) = some r:=by rw [if_neg (show ¬ (false = true) by decide)] at H;exact H
  obtain rfl:=Option.some.inj H
  go_enter Tryz.func70,Tryz.ntmps70
  go_wp2_with (first | (refine af.bx 1 #[.int .i64 z,.slice Y y.length a0] 30 ?_;intro a4 hg cc hbox hb;have j:=ae.mk hbox;have a8:=af.gw hg HB;have a9:=af.gw hg HB;replace HB:=af.lb HB hb;clear hb hbox hg;obtain ⟨aP,aR,aS,b0⟩:=af.bR j.out) | (refine af.gl (some 6) Tryz.func26 #[.agg #[.int .i64 z,.slice Y y.length a0]] ?_;(with_reducible refine (bf.calls k z _ _ y false _ ?side1 ?side2 A2.out).mono ?_);(case side1=>exact af.Cw (Kd.bG a3.out HB.out));(case side2=>exact a7.out);rintro e cd ⟨rfl,hb⟩;refine ⟨_,rfl,?_⟩;replace j:=af.bb j hb;replace HB:=af.lb HB hb;(try clear hb);(try clear bo);(try clear hk);(try clear hi)))
  go_ret
  exact ⟨af.E,af.L⟩
mutual
def bg.l0:Nat→List (List Int)→List (List Int)→Int→Option (Bool)
 | 0,_,_,_=>none
 | k+1,M,X,j=>if j < 12 then (bg.l1 k M X j 0) else (some true)
def bg.l1:Nat→List (List Int)→List (List Int)→Int→Int→Option (Bool)
 | 0,_,_,_,_=>none
 | k+1,M,X,j,Y=>if Y < 12 then ((ey.f M j Y).bind fun y=>((ey.f X j Y).bind fun z=>(if y = z then (bg.l1 k M X j (wrap64 (Y+1))) else (some false)))) else (bg.l0 k M X (wrap64 (j+1)))
end
def bg.f (k:Nat) (l0:List (List Int)) (l1:List (List Int)):Option (Bool):=bg.l0 k l0 l1 0
set_option maxHeartbeats 8000000 in
set_option maxRecDepth 100000 in
theorem bg.calls (k:Nat) (A0:Option Addr) (c0:Nat) (l0:List (List Int)) (A1:Option Addr) (c1:Nat) (l1:List (List Int)) (r:Bool) (w:World) (a0:Kd.C (Kd.slice 3 (Kd.int .i64)) w A0 l0.length l0) (a1:l0.length≤c0) (a2:Kd.C (Kd.slice 3 (Kd.int .i64)) w A1 l1.length l1) (a3:l1.length≤c1) (h:bg.f k l0 l1 = some r) :
  Calls Tryz.prog 71 #[.slice A0 l0.length c0,.slice A1 l1.length c1] w fun e w'=>e = .returned (.bool r)∧cQ w w':=by
 have a4:=ae.mk a0
 have a5:=ae.mk a1
 clear a0 a1
 have a6:=ae.mk a2
 have a7:=ae.mk a3
 clear a2 a3
 unfold bg.f at h
 have H:=h
 clear h
 have H':=ae.mk H
 clear H
 go_enter Tryz.func71,Tryz.ntmps71
 go_wp2
 go_loopg [5] k (fun kq v5 w'=>∃ (j:Int),v5 = .int .i64 j∧ae (bg.l0 kq l0 l1 j = some r)∧ae (kq≤k)∧cQ w w')
 case atStart=>exact ⟨(0),af.F,H',⟨Nat.le_refl _⟩,af.G⟩
 case round =>
  clear H'
  obtain ⟨j,rfl,HA,X,⟨m1,rfl⟩⟩:=hrel
  cases gk with
  | zero=>exact absurd HA.out (by simp [bg.l0])
  | succ k1 =>
   have H:=HA.out
   clear HA
   simp only [bg.l0] at H
   by_cases c3:j < 12
   ·rw [if_pos c3] at H
    have a8:=decide_eq_true c3
    clear c3
    have H':=ae.mk H
    clear H
    go_wp2
    go_loopg [6] k1 (fun kq v6 w'=>∃ (y:Int),v6 = .int .i64 y∧ae (bg.l1 kq l0 l1 j y = some r)∧ae (kq≤k1)∧cQ w w')
    case atStart=>exact ⟨(0),af.F,H',⟨Nat.le_refl _⟩,af.G⟩
    case round =>
     clear H'
     obtain ⟨y,rfl,HA,Y,⟨m2,rfl⟩⟩:=hrel
     cases gk with
     | zero=>exact absurd HA.out (by simp [bg.l1])
     | succ k2 =>
      have H:=HA.out
      clear HA
      simp only [bg.l1] at H
      by_cases c4:y < 12
      ·rw [if_pos c4] at H
       have a9:=decide_eq_true c4
       clear c4
       obtain ⟨z,A5,H⟩:=af.be H
       (try dsimp only at H)
       obtain ⟨M,A6,H⟩:=af.be H
       (try dsimp only at H)
       by_cases c7:z = M
       ·rw [if_pos c7] at H
        have aa:(z == M) = true:=beq_iff_eq.mpr c7
        have ab:(z != M) = false:=bne_eq_false_iff_eq.mpr c7
        clear c7
        have H':=ae.mk H
        clear H
        go_wp2_with (first | (refine af.gl (some 18) Tryz.func64 #[.slice A0 l0.length c0,.int .i64 j,.int .i64 y] ?_;(with_reducible refine (ey.calls _ _ l0 j y z _ ?side1 ?side2 A5.out).mono ?_);(case side1=>exact af.Cw a4.out);(case side2=>exact a5.out);rintro e w' ⟨rfl,⟨nd,rfl⟩⟩;refine ⟨_,rfl,?_⟩) | (refine af.gl (some 22) Tryz.func64 #[.slice A1 l1.length c1,.int .i64 j,.int .i64 y] ?_;(with_reducible refine (ey.calls _ _ l1 j y M _ ?side1 ?side2 A6.out).mono ?_);(case side1=>exact af.Cw a6.out);(case side2=>exact a7.out);rintro e w' ⟨rfl,⟨nd,rfl⟩⟩;refine ⟨_,rfl,?_⟩))
        go_roundg k2
        case measure=>have:=X.out;have:=Y.out;omega
        case rel=>exact ⟨(wrap64 (y+1)),af.F,H',⟨by have:=X.out;have:=Y.out;omega⟩,af.G⟩
       ·rw [if_neg c7] at H
        have aa:(z == M) = false:=beq_eq_false_iff_ne.mpr c7
        have ab:(z != M) = true:=bne_iff_ne.mpr c7
        obtain rfl:=Option.some.inj H
        go_wp2_with (first | (refine af.gl (some 18) Tryz.func64 #[.slice A0 l0.length c0,.int .i64 j,.int .i64 y] ?_;(with_reducible refine (ey.calls _ _ l0 j y z _ ?side1 ?side2 A5.out).mono ?_);(case side1=>exact af.Cw a4.out);(case side2=>exact a5.out);rintro e w' ⟨rfl,⟨nd,rfl⟩⟩;refine ⟨_,rfl,?_⟩) | (refine af.gl (some 22) Tryz.func64 #[.slice A1 l1.length c1,.int .i64 j,.int .i64 y] ?_;(with_reducible refine (ey.calls _ _ l1 j y M _ ?side1 ?side2 A6.out).mono ?_);(case side1=>exact af.Cw a6.out);(case side2=>exact a7.out);rintro e w' ⟨rfl,⟨nd,rfl⟩⟩;refine ⟨_,rfl,?_⟩))
        go_ret
        exact ⟨af.F,af.G⟩
      ·rw [if_neg c4] at H
       have a9:decide (y < 12) = false:=decide_eq_false c4
       clear c4
       have H':=ae.mk H
       clear H
       go_wp2
       go_roundg k2
       case measure=>have:=X.out;have:=Y.out;omega
       case rel=>exact ⟨(wrap64 (j+1)),af.F,H',⟨by have:=X.out;have:=Y.out;omega⟩,af.G⟩
   ·rw [if_neg c3] at H
    have a8:decide (j < 12) = false:=decide_eq_false c3
    clear c3
    obtain rfl:=Option.some.inj H
    go_wp2
    go_ret
    exact ⟨af.F,af.G⟩
def cG.l0:Nat→Int→Int→Int→List Int→Option (Int)
 | 0,_,_,_,_=>none
 | k+1,M,z,y,j=>if z < (j.length:Int) then (if 0≤z then (cG.l0 k (Go.bits .and .i64 M (rd j z)) (wrap64 (z+1)) y j) else (none)) else (some M)
def cG.f (k:Nat) (j:Int) (y:List Int):Option (Int):=(bf.f k j y).bind fun z=>(if z = true then ((br.f j).bind fun M=>(cG.l0 k M 0 j y)) else (some 0))
set_option maxHeartbeats 8000000 in
set_option maxRecDepth 100000 in
theorem cG.calls (k:Nat) (z:Int) (Y:Option Addr) (a0:Nat) (y:List Int) (r:Int) (w:World) (a5:Kd.C (Kd.int .i64) w Y y.length y) (a6:y.length≤a0) (h:cG.f k z y = some r) :
  Calls Tryz.prog 72 #[.agg #[.int .i64 z,.slice Y y.length a0]] w fun e w'=>e = .returned (.int .i64 r)∧Below w.heap.size w w':=by
 have cb:=Tryz.underlying30
 have a2:=ae.mk a5
 have a7:=ae.mk a6
 clear a5 a6
 have HB:=ae.mk (Below.refl w.heap.size w)
 unfold cG.f at h
 have H:=h
 clear h
 obtain ⟨aa,A2,H⟩:=af.be H
 (try dsimp only at H)
 by_cases c3:aa = true
 ·subst c3
  replace H:((br.f z).bind fun a1=>(cG.l0 k a1 0 z y)) = some r:=by rw [if_pos rfl] at H;exact H
  obtain ⟨a1,A4,H⟩:=af.be H
  (try dsimp only at H)
  have H':=ae.mk H
  clear H
  go_enter Tryz.func72,Tryz.ntmps72
  go_wp2_with (first | (refine af.bx 1 #[.int .i64 z,.slice Y y.length a0] 30 ?_;intro a3 hg w5 hbox hb;have j:=ae.mk hbox;have a8:=af.gw hg HB;have a9:=af.gw hg HB;replace HB:=af.lb HB hb;clear hb hbox hg;obtain ⟨b1,b2,b3,b4⟩:=af.bR j.out) | (refine af.gl (some 6) Tryz.func26 #[.agg #[.int .i64 z,.slice Y y.length a0]] ?_;(with_reducible refine (bf.calls k z _ _ y true _ ?side1 ?side2 A2.out).mono ?_);(case side1=>exact af.Cw (Kd.bG a2.out HB.out));(case side2=>exact a7.out);rintro e w7 ⟨rfl,hb⟩;refine ⟨_,rfl,?_⟩;replace j:=af.bb j hb;replace HB:=af.lb HB hb;(try clear hb);(try clear bo);(try clear hk);(try clear hi);obtain ⟨ba,bc,bd,bi⟩:=af.bR j.out) | (refine af.gl (some 10) Tryz.func24 #[.int .i64 z] ?_;(with_reducible refine (br.calls z a1 _ A4.out).mono ?_);rintro e w' ⟨rfl,⟨nd,rfl⟩⟩;refine ⟨_,rfl,?_⟩))
  go_loopg [3,4] k (fun kq v3 v4 w'=>∃ (a4:Int) (X:Int),v3 = .int .i64 a4∧v4 = .int .i64 X∧ae (cG.l0 kq a4 X z y = some r)∧ae (kq≤k)∧ae (w'.heap[a3]? = some (.cells #[.int .i64 z,(.slice Y y.length a0)] 30 (0,0)))∧ae (Below w.heap.size w w'))
  case atStart=>exact ⟨(a1),(0),af.F,af.F,H',⟨Nat.le_refl _⟩,⟨af.Bw j.out⟩,⟨af.Lw HB.out⟩⟩
  case round =>
   clear H'
   obtain ⟨a4,X,rfl,rfl,HA,al,j,HB⟩:=hrel
   cases gk with
   | zero=>exact absurd HA.out (by simp [cG.l0])
   | succ k1 =>
    have H:=HA.out
    clear HA
    simp only [cG.l0] at H
    by_cases c9:X < (y.length:Int)
    ·rw [if_pos c9] at H
     have am:=decide_eq_true c9
     clear c9
     obtain ⟨gz,H⟩:=af.ip H
     have bs:=decide_eq_true gz
     clear gz
     have H':=ae.mk H
     clear H
     obtain ⟨ao,ap,ar,aw⟩:=af.bR j.out
     obtain ⟨bm,ab,M,bv,ca⟩:=af.ai a2.out X
     cases ab
     try replace M:=(HB.out.cell (World.block_lt_of_cell? w _ M)).trans M
     go_wp2
     go_roundg k1
     case measure=>have:=al.out;omega
     case rel=>exact ⟨(Go.bits .and .i64 a4 (rd y X)),(wrap64 (X+1)),af.F,af.F,H',⟨by have:=al.out;omega⟩,⟨af.Bw j.out⟩,⟨af.Lw HB.out⟩⟩
    ·rw [if_neg c9] at H
     have am:decide (X < (y.length:Int)) = false:=decide_eq_false c9
     clear c9
     obtain rfl:=Option.some.inj H
     obtain ⟨aB,aF,aL,aO⟩:=af.bR j.out
     go_wp2
     go_ret
     exact ⟨af.E,af.L⟩
 ·replace c3:=Bool.eq_false_iff.mpr c3
  subst c3
  replace H:(some 0) = some r:=by rw [if_neg (show ¬ (false = true) by decide)] at H;exact H
  obtain rfl:=Option.some.inj H
  go_enter Tryz.func72,Tryz.ntmps72
  go_wp2_with (first | (refine af.bx 1 #[.int .i64 z,.slice Y y.length a0] 30 ?_;intro a3 hg cc hbox hb;have j:=ae.mk hbox;have a8:=af.gw hg HB;have a9:=af.gw hg HB;replace HB:=af.lb HB hb;clear hb hbox hg;obtain ⟨aP,aR,aS,b0⟩:=af.bR j.out) | (refine af.gl (some 6) Tryz.func26 #[.agg #[.int .i64 z,.slice Y y.length a0]] ?_;(with_reducible refine (bf.calls k z _ _ y false _ ?side1 ?side2 A2.out).mono ?_);(case side1=>exact af.Cw (Kd.bG a2.out HB.out));(case side2=>exact a7.out);rintro e cd ⟨rfl,hb⟩;refine ⟨_,rfl,?_⟩;replace j:=af.bb j hb;replace HB:=af.lb HB hb;(try clear hb);(try clear bo);(try clear hk);(try clear hi)))
  go_ret
  exact ⟨af.E,af.L⟩
end Go.Proofs.YtmpodackojmojaaGreat.Pr
end
