/- The claim FnPolynomial: every text that its row comes to, laid together by slim.py (the words of the kit's print, the printed walks, the pure law, the row). -/
import Derived.Test.YtmpodackojmojaaGreatYFnPolynomial0
section
namespace Go.Proofs.YtmpodackojmojaaGreat.Pr
open Go.RowKit Go.Proofs.ag.bl Go.Proofs.ag.cj Go.Proofs.ag.ck
attribute [local go_sem] j5 j6 jG jH iy iz j7 j8
set_option linter.unusedVariables false
set_option linter.unusedSimpArgs false
def bZ.l0:Nat→List Int→List Int→Int→Option (Bool)
 | 0,_,_,_=>none
 | k+1,y,z,j=>if j < (y.length:Int) then (if 0≤j then (if j < (z.length:Int) then (if (rd y j) = (rd z j) then (bZ.l0 k y z (wrap64 (j+1))) else (some false)) else (none)) else (none)) else (some true)
def bZ.f (k:Nat) (l0:List Int) (l1:List Int):Option (Bool):=if (l0.length:Int) = (l1.length:Int) then (bZ.l0 k l0 l1 0) else (some false)
set_option maxHeartbeats 8000000 in
set_option maxRecDepth 100000 in
theorem bZ.calls (k:Nat) (A0:Option Addr) (c0:Nat) (l0:List Int) (A1:Option Addr) (c1:Nat) (l1:List Int) (r:Bool) (w:World) (a1:Kd.C (Kd.int .i64) w A0 l0.length l0) (a2:l0.length≤c0) (a3:Kd.C (Kd.int .i64) w A1 l1.length l1) (a4:l1.length≤c1) (h:bZ.f k l0 l1 = some r) :
  Calls Tryz.prog 17 #[.slice A0 l0.length c0,.slice A1 l1.length c1] w fun e w'=>e = .returned (.bool r)∧cQ w w':=by
 have a5:=ae.mk a1
 have aL:=ae.mk a2
 clear a1 a2
 have a6:=ae.mk a3
 have aO:=ae.mk a4
 clear a3 a4
 unfold bZ.f at h
 have H:=h
 clear h
 by_cases c3:(l0.length:Int) = (l1.length:Int)
 ·rw [if_pos c3] at H
  have a7:((l0.length:Int) == (l1.length:Int)) = true:=beq_iff_eq.mpr c3
  have a8:((l0.length:Int) != (l1.length:Int)) = false:=bne_eq_false_iff_eq.mpr c3
  have a9:(l0.length == l1.length) = true:=by first | simpa using c3 | (simp at c3 ⊢;omega)
  clear c3
  have H':=ae.mk H
  clear H
  go_enter Tryz.func17,Tryz.ntmps17
  go_wp2
  repeat (go_quiet (fail);try go_wp2)
  go_loopg [5] k (fun kq v5 w'=>∃ (j:Int),v5 = .int .i64 j∧ae (bZ.l0 kq l0 l1 j = some r)∧ae (kq≤k)∧cQ w w')
  case atStart=>exact ⟨(0),af.F,H',⟨Nat.le_refl _⟩,af.G⟩
  case round =>
   clear H'
   obtain ⟨j,rfl,HA,aa,⟨m1,rfl⟩⟩:=hrel
   cases gk with
   | zero=>exact absurd HA.out (by simp [bZ.l0])
   | succ k1 =>
    have H:=HA.out
    clear HA
    simp only [bZ.l0] at H
    by_cases c4:j < (l0.length:Int)
    ·rw [if_pos c4] at H
     have ab:=decide_eq_true c4
     clear c4
     obtain ⟨c5,H⟩:=af.ip H
     have aB:=decide_eq_true c5
     clear c5
     obtain ⟨c6,H⟩:=af.ip H
     have aF:=decide_eq_true c6
     clear c6
     by_cases c7:(rd l0 j) = (rd l1 j)
     ·rw [if_pos c7] at H
      have al:((rd l0 j) == (rd l1 j)) = true:=beq_iff_eq.mpr c7
      have am:((rd l0 j) != (rd l1 j)) = false:=bne_eq_false_iff_eq.mpr c7
      clear c7
      have H':=ae.mk H
      clear H
      obtain ⟨Y,y,z,ao,ap⟩:=af.ai a5.out j
      cases y
      obtain ⟨a0,M,X,ar,aw⟩:=af.ai a6.out j
      cases M
      go_wp2
      repeat (go_quiet (fail);try go_wp2)
      go_roundg k1
      case measure=>have:=aa.out;omega
      case rel=>exact ⟨(wrap64 (j+1)),af.F,H',⟨by have:=aa.out;omega⟩,af.G⟩
     ·rw [if_neg c7] at H
      have al:((rd l0 j) == (rd l1 j)) = false:=beq_eq_false_iff_ne.mpr c7
      have am:((rd l0 j) != (rd l1 j)) = true:=bne_iff_ne.mpr c7
      obtain rfl:=Option.some.inj H
      obtain ⟨Y,y,z,ao,ap⟩:=af.ai a5.out j
      cases y
      obtain ⟨a0,M,X,ar,aw⟩:=af.ai a6.out j
      cases M
      go_wp2
      repeat (go_quiet (fail);try go_wp2)
      go_ret
      exact ⟨af.F,af.G⟩
    ·rw [if_neg c4] at H
     have ab:decide (j < (l0.length:Int)) = false:=decide_eq_false c4
     clear c4
     obtain rfl:=Option.some.inj H
     go_wp2
     repeat (go_quiet (fail);try go_wp2)
     go_ret
     exact ⟨af.F,af.G⟩
 ·rw [if_neg c3] at H
  have a7:((l0.length:Int) == (l1.length:Int)) = false:=beq_eq_false_iff_ne.mpr c3
  have a8:((l0.length:Int) != (l1.length:Int)) = true:=bne_iff_ne.mpr c3
  have a9:(l0.length == l1.length) = false:=by first | simpa using c3 | (simp at c3 ⊢;omega)
  obtain rfl:=Option.some.inj H
  go_enter Tryz.func17,Tryz.ntmps17
  go_wp2
  repeat (go_quiet (fail);try go_wp2)
  go_ret
  exact ⟨af.F,af.G⟩
def b6.l0:Nat→Int→Int→Option (Int)
 | 0,_,_=>none
 | k+1,j,y=>if j > 0 then (b6.l0 k (j / 2) (wrap64 (y+(Go.bits .and .i64 j 1)))) else (some y)
def b6.f (k:Nat) (a0:Int):Option (Int):=(bu.f 8 a0).bind fun j=>(if j = true then (b6.l0 k a0 0) else (some 0))
theorem b6.di:∀ k,af.S2 b6.l0 k
 | 0=>by and_intros <;> (repeat intro _) <;> exact af.mz rfl
 | k+1=>by
  have j:=b6.di k
  and_intros <;> (repeat intro _) <;> unfold b6.l0 <;> exact ⟨af.mt⟩
theorem b6.mono:∀ a0 k,iN (b6.f k a0) (b6.f (k+1) a0):=by
 intro a0 k
 have j:=b6.di k
 unfold b6.f
 exact af.mt
set_option maxHeartbeats 8000000 in
set_option maxRecDepth 100000 in
theorem b6.calls (k:Nat) (a0:Int) (r:Int) (w:World) (h:b6.f k a0 = some r) :
  Calls Tryz.prog 25 #[.int .i64 a0] w fun e w'=>e = .returned (.int .i64 r)∧cQ w w':=by
 unfold b6.f at h
 have H:=h
 clear h
 obtain ⟨z,Y,H⟩:=af.be H
 (try dsimp only at H)
 by_cases c3:z = true
 ·subst c3
  replace H:(b6.l0 k a0 0) = some r:=by rw [if_pos rfl] at H;exact H
  have H':=ae.mk H
  clear H
  go_enter Tryz.func25,Tryz.ntmps25
  go_wp2_with (first | (refine af.gl (some 5) Tryz.func87 #[.int .i64 8,.int .i64 a0] ?_;(with_reducible refine (bu.calls 8 a0 true _ Y.out).mono ?_);rintro e w' ⟨rfl,⟨nd,rfl⟩⟩;refine ⟨_,rfl,?_⟩))
  go_loopg [0,3] k (fun kq v0 v3 w'=>∃ (j:Int) (y:Int),v0 = .int .i64 j∧v3 = .int .i64 y∧ae (b6.l0 kq j y = some r)∧ae (kq≤k)∧cQ w w')
  case atStart=>exact ⟨(a0),(0),af.F,af.F,H',⟨Nat.le_refl _⟩,af.G⟩
  case round =>
   clear H'
   obtain ⟨j,y,rfl,rfl,HA,M,⟨m1,rfl⟩⟩:=hrel
   cases gk with
   | zero=>exact absurd HA.out (by simp [b6.l0])
   | succ k1 =>
    have H:=HA.out
    clear HA
    simp only [b6.l0] at H
    by_cases c4:j > 0
    ·rw [if_pos c4] at H
     have X:=decide_eq_true c4
     clear c4
     have H':=ae.mk H
     clear H
     go_wp2
     go_roundg k1
     case measure=>have:=M.out;omega
     case rel=>exact ⟨(j / 2),(wrap64 (y+(Go.bits .and .i64 j 1))),af.F,af.F,H',⟨by have:=M.out;omega⟩,af.G⟩
    ·rw [if_neg c4] at H
     have X:decide (0 < j) = false:=decide_eq_false c4
     clear c4
     obtain rfl:=Option.some.inj H
     go_wp2
     go_ret
     exact ⟨af.F,af.G⟩
 ·replace c3:=Bool.eq_false_iff.mpr c3
  subst c3
  replace H:(some 0) = some r:=by rw [if_neg (show ¬ (false = true) by decide)] at H;exact H
  obtain rfl:=Option.some.inj H
  go_enter Tryz.func25,Tryz.ntmps25
  go_wp2_with (first | (refine af.gl (some 5) Tryz.func87 #[.int .i64 8,.int .i64 a0] ?_;(with_reducible refine (bu.calls 8 a0 false _ Y.out).mono ?_);rintro e w' ⟨rfl,⟨nd,rfl⟩⟩;refine ⟨_,rfl,?_⟩))
  go_ret
  exact ⟨af.F,af.G⟩
def dN.f (k:Nat) (y:Int) (j:List Int):Option (Int):=(bf.f k y j).bind fun z=>(if z = true then (if 0 < (j.length:Int) then ((b6.f k (rd j 0)).bind fun M=>(some M)) else (none)) else (some (-1)))
set_option maxHeartbeats 8000000 in
set_option maxRecDepth 100000 in
theorem dN.calls (k:Nat) (M:Int) (X:Option Addr) (Y:Nat) (j:List Int) (r:Int) (w:World) (a1:Kd.C (Kd.int .i64) w X j.length j) (a2:j.length≤Y) (h:dN.f k M j = some r) :
  Calls Tryz.prog 47 #[.agg #[.int .i64 M,.slice X j.length Y]] w fun e w'=>e = .returned (.int .i64 r)∧Below w.heap.size w w':=by
 have b2:=Tryz.underlying30
 have a0:=ae.mk a1
 have a3:=ae.mk a2
 clear a1 a2
 have HB:=ae.mk (Below.refl w.heap.size w)
 unfold dN.f at h
 have H:=h
 clear h
 obtain ⟨aa,A2,H⟩:=af.be H
 (try dsimp only at H)
 by_cases c3:aa = true
 ·subst c3
  replace H:(if 0 < (j.length:Int) then ((b6.f k (rd j 0)).bind fun a4=>(some a4)) else (none)) = some r:=by rw [if_pos rfl] at H;exact H
  obtain ⟨c4,H⟩:=af.ip H
  have b3:=decide_eq_true c4
  have b4:decide (0 < j.length) = true:=decide_eq_true (by omega)
  clear c4
  obtain ⟨a4,A5,H⟩:=af.be H
  (try dsimp only at H)
  obtain rfl:=Option.some.inj H
  go_enter Tryz.func47,Tryz.ntmps47
  go_wp2_with (first | (refine af.bx 1 #[.int .i64 M,.slice X j.length Y] 30 ?_;intro a7 hg w6 hbox hb;have y:=ae.mk hbox;have a8:=af.gw hg HB;have a9:=af.gw hg HB;replace HB:=af.lb HB hb;clear hb hbox hg;obtain ⟨ar,aw,aB,aF⟩:=af.bR y.out) | (refine af.gl (some 4) Tryz.func26 #[.agg #[.int .i64 M,.slice X j.length Y]] ?_;(with_reducible refine (bf.calls k M _ _ j true _ ?side1 ?side2 A2.out).mono ?_);(case side1=>exact af.Cw (Kd.bG a0.out HB.out));(case side2=>exact a3.out);rintro e w8 ⟨rfl,hb⟩;refine ⟨_,rfl,?_⟩;replace y:=af.bb y hb;replace HB:=af.lb HB hb;(try clear hb);(try clear aS);(try clear hk);(try clear hi);obtain ⟨aL,aO,aP,aR⟩:=af.bR y.out;have a5:0≤(0:Int):=(by omega);have a6:0 < (j.length:Int):=af.D;obtain ⟨b0,ab,z⟩:=Kd.dS a0.out 0 a5 a6;cases ab;have b1:(0 < j.length) = True:=eq_true (by omega);(try rw [show ((0:Int)).toNat = 0 from rfl] at z);(try rw [Addr.add_zero'] at z);replace z:=(HB.out.cell (World.block_lt_of_cell? w _ z)).trans z;replace a5:=eq_true a5;replace a6:=eq_true a6) | (refine af.gl (some 10) Tryz.func25 #[.int .i64 (rd j 0)] ?_;(with_reducible refine (b6.calls k (rd j 0) a4 _ A5.out).mono ?_);rintro e w' ⟨rfl,⟨nd,rfl⟩⟩;refine ⟨_,rfl,?_⟩))
  go_ret
  exact ⟨af.E,af.L⟩
 ·replace c3:=Bool.eq_false_iff.mpr c3
  subst c3
  replace H:(some (-1)) = some r:=by rw [if_neg (show ¬ (false = true) by decide)] at H;exact H
  obtain rfl:=Option.some.inj H
  go_enter Tryz.func47,Tryz.ntmps47
  go_wp2_with (first | (refine af.bx 1 #[.int .i64 M,.slice X j.length Y] 30 ?_;intro a7 hg ba hbox hb;have y:=ae.mk hbox;have a8:=af.gw hg HB;have a9:=af.gw hg HB;replace HB:=af.lb HB hb;clear hb hbox hg;obtain ⟨al,am,ao,ap⟩:=af.bR y.out) | (refine af.gl (some 4) Tryz.func26 #[.agg #[.int .i64 M,.slice X j.length Y]] ?_;(with_reducible refine (bf.calls k M _ _ j false _ ?side1 ?side2 A2.out).mono ?_);(case side1=>exact af.Cw (Kd.bG a0.out HB.out));(case side2=>exact a3.out);rintro e bc ⟨rfl,hb⟩;refine ⟨_,rfl,?_⟩;replace y:=af.bb y hb;replace HB:=af.lb HB hb;(try clear hb);(try clear aS);(try clear hk);(try clear hi)))
  go_ret
  exact ⟨af.E,af.L⟩
def dO.f (a0:Int) (j:Int):Option (Int):=if a0 > j then (some a0) else (some j)
set_option maxHeartbeats 8000000 in
set_option maxRecDepth 100000 in
theorem dO.calls (a0:Int) (y:Int) (r:Int) (w:World) (h:dO.f a0 y = some r) :
  Calls Tryz.prog 121 #[.int .i64 a0,.int .i64 y] w fun e w'=>e = .returned (.int .i64 r)∧cQ w w':=by
 unfold dO.f at h
 have H:=h
 clear h
 by_cases c3:a0 > y
 ·rw [if_pos c3] at H
  have j:=decide_eq_true c3
  clear c3
  obtain rfl:=Option.some.inj H
  go_enter Tryz.func121,Tryz.ntmps121
  go_wp2
  go_ret
  exact ⟨af.F,af.G⟩
 ·rw [if_neg c3] at H
  have j:decide (y < a0) = false:=decide_eq_false c3
  clear c3
  obtain rfl:=Option.some.inj H
  go_enter Tryz.func121,Tryz.ntmps121
  go_wp2
  go_ret
  exact ⟨af.F,af.G⟩
def cO.l0:Nat→Int→Int→Int→Int→List Int→Option (Int)
 | 0,_,_,_,_,_=>none
 | k+1,Y,x5,X,y,j=>if X < (j.length:Int) then (if 0≤X then ((b6.f k (Go.bits .and .i64 (rd j X) Y)).bind fun z=>((dO.f x5 z).bind fun M=>(cO.l0 k Y M (wrap64 (X+1)) y j))) else (none)) else (some x5)
def cO.f (k:Nat) (j:Int) (y:List Int) (z:Int):Option (Int):=cO.l0 k z 0 0 j y
set_option maxHeartbeats 8000000 in
set_option maxRecDepth 100000 in
theorem cO.calls (k:Nat) (X:Int) (a0:Option Addr) (a2:Nat) (j:List Int) (a1:Int) (r:Int) (w:World) (a3:Kd.C (Kd.int .i64) w a0 j.length j) (a4:j.length≤a2) (h:cO.f k X j a1 = some r) :
  Calls Tryz.prog 109 #[.agg #[.int .i64 X,.slice a0 j.length a2],.int .i64 a1] w fun e w'=>e = .returned (.int .i64 r)∧Below w.heap.size w w':=by
 have aS:=Tryz.underlying30
 have a7:=ae.mk a3
 have aL:=ae.mk a4
 clear a3 a4
 have HB:=ae.mk (Below.refl w.heap.size w)
 unfold cO.f at h
 have H:=h
 clear h
 have H':=ae.mk H
 clear H
 go_enter Tryz.func109,Tryz.ntmps109
 go_wp2_with (first | (refine af.bx 2 #[.int .i64 X,.slice a0 j.length a2] 30 ?_;intro a8 hg w3 hbox hb;have z:=ae.mk hbox;have aO:=af.gw hg HB;have aP:=af.gw hg HB;replace HB:=af.lb HB hb;clear hb hbox hg))
 go_loopg [5,6] k (fun kq v5 v6 w'=>∃ (Y:Int) (y:Int),v5 = .int .i64 Y∧v6 = .int .i64 y∧ae (cO.l0 kq a1 Y y X j = some r)∧ae (kq≤k)∧ae (w'.heap[a8]? = some (.cells #[.int .i64 X,(.slice a0 j.length a2)] 30 (0,0)))∧ae (Below w.heap.size w w'))
 case atStart=>exact ⟨(0),(0),af.F,af.F,H',⟨Nat.le_refl _⟩,⟨af.Bw z.out⟩,⟨af.Lw HB.out⟩⟩
 case round =>
  clear H'
  obtain ⟨Y,y,rfl,rfl,HA,a9,z,HB⟩:=hrel
  cases gk with
  | zero=>exact absurd HA.out (by simp [cO.l0])
  | succ k1 =>
   have H:=HA.out
   clear HA
   simp only [cO.l0] at H
   by_cases c4:y < (j.length:Int)
   ·rw [if_pos c4] at H
    have aa:=decide_eq_true c4
    clear c4
    obtain ⟨c5,H⟩:=af.ip H
    have b0:=decide_eq_true c5
    clear c5
    obtain ⟨a5,A6,H⟩:=af.be H
    (try dsimp only at H)
    obtain ⟨a6,A7,H⟩:=af.be H
    (try dsimp only at H)
    have H':=ae.mk H
    clear H
    obtain ⟨al,am,ao,ap⟩:=af.bR z.out
    obtain ⟨aR,ab,M,b1,b2⟩:=af.ai a7.out y
    cases ab
    try replace M:=(HB.out.cell (World.block_lt_of_cell? w _ M)).trans M
    go_wp2_with (first | (refine af.gl (some 22) Tryz.func25 #[.int .i64 (Go.bits .and .i64 (rd j y) a1)] ?_;(with_reducible refine (b6.calls k1 (Go.bits .and .i64 (rd j y) a1) a5 _ A6.out).mono ?_);rintro e w' ⟨rfl,⟨nd,rfl⟩⟩;refine ⟨_,rfl,?_⟩) | (refine af.gl (some 23) Tryz.func121 #[.int .i64 Y,.int .i64 a5] ?_;(with_reducible refine (dO.calls Y a5 a6 _ A7.out).mono ?_);rintro e w' ⟨rfl,⟨nd,rfl⟩⟩;refine ⟨_,rfl,?_⟩))
    go_roundg k1
    case measure=>have:=a9.out;omega
    case rel=>exact ⟨(a6),(wrap64 (y+1)),af.F,af.F,H',⟨by have:=a9.out;omega⟩,⟨af.Bw z.out⟩,⟨af.Lw HB.out⟩⟩
   ·rw [if_neg c4] at H
    have aa:decide (y < (j.length:Int)) = false:=decide_eq_false c4
    clear c4
    obtain rfl:=Option.some.inj H
    obtain ⟨ar,aw,aB,aF⟩:=af.bR z.out
    go_wp2
    go_ret
    exact ⟨af.E,af.L⟩
def cg.l0:Nat→Int→Int→List (List Int)→Int→Option ((List (List Int)))
 | 0,_,_,_,_=>none
 | k+1,z,j,y,M=>if M < z then (if 0≤j then (if (j:Int).toNat≤35184372088832 then (if y.length < 5864062014805 then (cg.l0 k z j (y ++ [(List.replicate (j:Int).toNat 0)]) (wrap64 (M+1))) else (none)) else (none)) else (none)) else (some y)
def cg.f (k:Nat) (a0:Int) (j:Int):Option ((List (List Int))):=cg.l0 k a0 j (([]:List (List Int))) 0
set_option maxHeartbeats 8000000 in
set_option maxRecDepth 100000 in
theorem cg.calls (k:Nat) (a0:Int) (a1:Int) (r:List (List Int)) (w:World) (h:cg.f k a0 a1 = some r) :
  Calls Tryz.prog 114 #[.int .i64 a0,.int .i64 a1] w fun e w'=>∃ aw:Value,e = .returned (aw)∧Kd.S (Kd.slice 3 (Kd.int .i64)) 28 w' w.heap.size (fun _=>True) aw r∧Below w.heap.size w w':=by
 have HB:=ae.mk (Below.refl w.heap.size w)
 unfold cg.f at h
 have H:=h
 clear h
 obtain ⟨a9,a2⟩:∃ y_:List (List Int),y_ = (([]:List (List Int))):=⟨_,rfl⟩
 replace H:(cg.l0 k a0 a1 a9 0) = some r:=by (try rw [a2]);exact af.Z
 have a6:=ae.mk a2
 clear a2
 have H':=ae.mk H
 clear H
 go_enter Tryz.func114,Tryz.ntmps114
 go_wp2_with (first | ((with_reducible refine bJ (N:=7) rfl ?_);refine Kd.mM (Kd.slice 3 (Kd.int .i64)) _ 28 ?hg (N:=7) ?hd (xs:=([]:List (List Int))) (inner:=[]) (ok:=fun _=>True) (okp:=fun _=>True) ?hr ?hp (fun _ hk=>hk) trivial (Below.refl _ _) (Nat.le_refl _) (by simp) ?_;(case hd=>rfl);(case hg=>rfl);(case hr=>first | (go_simp;done) | (go_simp;rfl));(case hp=>exact (cE.none _ _));intro bc w3 a7 hb am a3;clear am a3;(first | rw [← a6.out] at a7 | (simp only [Int.reduceToNat] at a7;rw [← a6.out] at a7));have ao:=ae.mk (Kd.cT a7 (aj (af.Lw HB.out)));replace HB:=af.lb HB hb;clear hb a7))
 go_loopg [5,6] k (fun kq v5 v6 w'=>∃ (y:List (List Int)) (j:Int),v6 = .int .i64 j∧ae (cg.l0 kq a0 a1 y j = some r)∧ae (kq≤k)∧ae (Kd.S (Kd.slice 3 (Kd.int .i64)) 28 w' w.heap.size (fun _=>True) v5 y)∧ae (Below w.heap.size w w'))
 case atStart=>exact ⟨(a9),(0),af.F,H',⟨Nat.le_refl _⟩,⟨af.Sw ao.out⟩,⟨af.Lw HB.out⟩⟩
 case round =>
  clear H'
  obtain ⟨y,j,rfl,HA,aR,z,HB⟩:=hrel
  cases gk with
  | zero=>exact absurd HA.out (by simp [cg.l0])
  | succ k1 =>
   have H:=HA.out
   clear HA
   simp only [cg.l0] at H
   by_cases c5:j < a0
   ·rw [if_pos c5] at H
    have b0:=decide_eq_true c5
    clear c5
    obtain ⟨c6,H⟩:=af.ip H
    have bd:=eq_true c6
    have bi:decide (0≤a1) = true:=decide_eq_true c6
    clear c6
    obtain ⟨c7,H⟩:=af.ip H
    have bm:=eq_true c7
    have bo:decide ((a1:Int).toNat≤35184372088832) = true:=decide_eq_true c7
    clear c7
    obtain ⟨Y,a4⟩:∃ y_:List Int,y_ = (List.replicate (a1:Int).toNat 0):=⟨_,rfl⟩
    replace H:(if y.length < 5864062014805 then (cg.l0 k1 a0 a1 (y ++ [Y]) (wrap64 (j+1))) else (none)) = some r:=by (try rw [a4]);exact af.Z
    have a8:=ae.mk a4
    clear a4
    obtain ⟨c8,H⟩:=af.ip H
    have b1:=ae.mk c8
    clear c8
    obtain ⟨aa,a5⟩:∃ y_:List (List Int),y_ = (y ++ [Y]):=⟨_,rfl⟩
    replace H:(cg.l0 k1 a0 a1 aa (wrap64 (j+1))) = some r:=by (try rw [a5]);exact af.Z
    have ap:=ae.mk a5
    clear a5
    have H':=ae.mk H
    clear H
    go_wp2_with (first | ((with_reducible refine bJ (N:=15) rfl ?_);refine Kd.lD (Kd.int .i64) _ 3 rfl (N:=15) rfl 28 _ _ rfl a1 rfl rfl Tryz.underlying28 (.int .i64 0) 8 eJ rfl (by decide) (by omega) 0 (ok:=fun _=>True) (okp:=fun _=>True) rfl (fun _ hk=>hk) trivial (af.D) (Nat.le_trans (Nat.mul_le_mul_right _ (af.D:a1.toNat≤35184372088832)) (by omega)) (Below.refl _ _) (Nat.le_refl _) ?_;intro bs w9 M hb am a3;clear am a3;(first | rw [← a8.out] at M | (simp only [Int.reduceToNat] at M;rw [← a8.out] at M));replace z:=ae.mk (Kd.aA (af.Sw z.out) (Kd.bF M) hb);have X:=ae.mk (Kd.b9 M (aj (af.Lw HB.out)));replace HB:=af.lb HB hb;clear hb M;obtain ⟨ab,al,b2⟩:=Kd.aY X.out;subst b2) | ((with_reducible refine cB (b:=.append) (xs:=#[.tmp 13,.tmp 16]) rfl ?_);at_builtin;refine Kd.j4 (Kd.slice 3 (Kd.int .i64)) (w0:=w) w.heap.size rfl (.tmp 13) (.tmp 16) 57 28 (.slice none 0 0) 24 rfl Tryz.underlying57 jZ rfl (by decide) (by omega) u5 y Y [.slice ab Y.length al] (fun _=>True) (fun k_=>some k_ = (.slice ab Y.length al:Value).ownBlock) rfl rfl ?aP (fun k_ ba=>((Kd.aX (ok':=fun k_=>((fun _=>True)) k_∧some k_≠(u5:Value).ownBlock) (Kd.fh (X.out) (Kd.gb z.out) (by decide)) (fun k_ hk=>⟨trivial,hk.2⟩))).1 k_ ba.symm) ?aF ?aO ?aB ?aS ?aL ?_;(case aP=>exact Kd.kC (Kd.aX (Kd.iF rfl (Kd.aX (ok':=fun k_=>((fun _=>True)) k_∧some k_≠(u5:Value).ownBlock) (Kd.fh (X.out) (Kd.gb z.out) (by decide)) (fun k_ hk=>⟨trivial,hk.2⟩))) (fun _ h_=>h_)));(case aB=>exact (af.Lw HB.out));(case aF=>exact (fun _ _=>trivial));(case aO=>exact (af.Sw (Kd.dh z.out (fun k_ hk=>⟨trivial,fun e_=>hk.2 e_⟩))));(case aS=>exact (aj (af.Lw HB.out)));(case aL=>have:=b1.out;omega);intro bv ca ho hb hg hat;rw [← ap.out] at ho;have b3:=ae.mk hb;have b4:=ae.mk ho;clear HB;clear z;clear X;have HB:=b3;have ar:=b4;clear b3 b4;clear ho hb hg hat))
    go_roundg k1
    case measure=>have:=aR.out;omega
    case rel=>exact ⟨(aa),(wrap64 (j+1)),af.F,H',⟨by have:=aR.out;omega⟩,⟨af.Sw ar.out⟩,⟨af.Lw HB.out⟩⟩
   ·rw [if_neg c5] at H
    have b0:decide (j < a0) = false:=decide_eq_false c5
    clear c5
    obtain rfl:=Option.some.inj H
    go_wp2
    go_ret
    exact ⟨_,af.E,by (with_reducible repeat (first | apply Kd.fE | apply Kd.fF | apply Kd.ez));exact z.out,af.L⟩
mutual
def b5.l0:Nat→Int→List Int→Int→Option (List Int)
 | 0,_,_,_=>none
 | k+1,M,j,z=>if z≤M then (b5.l1 k M j z (([1]:List Int)) 1) else (some j)
def b5.l1:Nat→Int→List Int→Int→List Int→Int→Option (List Int)
 | 0,_,_,_,_,_=>none
 | k+1,M,j,z,X,y=>if y < z then (if 0≤(wrap64 (y - 1)) then (if (wrap64 (y - 1)) < (j.length:Int) then (if 0≤y then (if y < (j.length:Int) then (if X.length < 17592186044416 then (b5.l1 k M j z (X ++ [wrap64 ((rd j (wrap64 (y - 1)))+(rd j y))]) (wrap64 (y+1))) else (none)) else (none)) else (none)) else (none)) else (none)) else (if X.length < 17592186044416 then (b5.l0 k M (X ++ [1]) (wrap64 (z+1))) else (none))
end
def b5.f (k:Nat) (a0:Int):Option (List Int):=b5.l0 k a0 (([1]:List Int)) 1
theorem b5.di:∀ k,af.S3 b5.l0 k∧af.S5 b5.l1 k
 | 0=>by and_intros <;> (repeat intro _) <;> exact af.mz rfl
 | k+1=>by
  obtain ⟨j,y⟩:=b5.di k
  and_intros <;> (repeat intro _) <;> (first | unfold b5.l0 | unfold b5.l1) <;> exact ⟨af.mt⟩
theorem b5.mono:∀ a0 k,iN (b5.f k a0) (b5.f (k+1) a0):=by
 intro a0 k
 obtain ⟨j,y⟩:=b5.di k
 unfold b5.f
 exact af.mt
def b5.T9:Bool×List (List Nat×List Nat):=(true,[([],[]),([],[]),([],[]),([2],[2]),([1,3],[1,3]),([4],[4]),([],[]),([],[]),([6,7],[6,7]),([8],[8]),([5,9],[5,9]),([10],[10]),([0,11],[0,11]),([12,12,0,1,2,3,4,5,6,7,8,9,10,11,12],[0,12])])
def b5.B9:List Nat:=[0,0,0,4,14,30,0,0,192,448,1022,2046,4095,8191]
theorem b5.vv:gr .any (opsOf Tryz.f145 9) = b5.T9:=by kernel_rfl
theorem b5.sH:eL b5.T9.2 b5.B9 = true:=by kernel_rfl
set_option maxHeartbeats 8000000 in
set_option maxRecDepth 100000 in
theorem b5.calls (k:Nat) (a0:Int) (r:List Int) (w:World) (h:b5.f k a0 = some r) :
  Calls Tryz.prog 145 #[.int .i64 a0] w fun e w'=>∃ cf:Value,e = .returned (cf)∧Kd.R (Kd.int .i64) 3 w' w.heap.size (fun _=>True) cf r∧Below w.heap.size w w':=by
 have HB:=ae.mk (Below.refl w.heap.size w)
 unfold b5.f at h
 have H:=h
 clear h
 obtain ⟨b3,a7⟩:∃ y_:List Int,y_ = (([1]:List Int)):=⟨_,rfl⟩
 replace H:(b5.l0 k a0 b3 1) = some r:=by (try rw [a7]);exact af.Z
 have am:=ae.mk a7
 clear a7
 have H':=ae.mk H
 clear H
 go_enter Tryz.func145,Tryz.ntmps145
 go_wp2_with (first | ((with_reducible refine bJ (N:=7) rfl ?_);refine Kd.iY (Kd.int .i64) _ 3 ?hg (N:=7) ?hd (xs:=([1]:List Int)) (inner:=[.int .i64 1]) (ok:=fun _=>True) (okp:=fun _=>True) ?hr ?hp (fun _ hk=>hk) trivial (Below.refl _ _) (Nat.le_refl _) (by simp) ?_;(case hd=>rfl);(case hg=>rfl);(case hr=>first | (go_simp;done) | (go_simp;rfl));(case hp=>exact (cE.one (show Kd.M (Kd.int .i64) _ _ _ 1 [.int .i64 1] from rfl) (cE.none _ _)));intro dk w2 ao hb bi a8;clear bi a8;(first | rw [← am.out] at ao | (simp only [Int.reduceToNat] at ao;rw [← am.out] at ao));have bm:=ae.mk (Kd.b9 ao (aj (af.Lw HB.out)));replace HB:=af.lb HB hb;clear hb ao))
 go_loopg [3,4] k (fun kq v3 v4 w'=>∃ (j:List Int) (X:Int),v4 = .int .i64 X∧ae (b5.l0 kq a0 j X = some r)∧ae (kq≤k)∧ae (Kd.R (Kd.int .i64) 3 w' w.heap.size (fun _=>True) v3 j)∧ae (Below w.heap.size w w'))
 case atStart=>exact ⟨(b3),(1),af.F,H',⟨Nat.le_refl _⟩,⟨af.Rw bm.out⟩,⟨af.Lw HB.out⟩⟩
 case round =>
  clear H'
  obtain ⟨j,X,rfl,HA,b1,y,HB⟩:=hrel
  cases gk with
  | zero=>exact absurd HA.out (by simp [b5.l0])
  | succ k1 =>
   have H:=HA.out
   clear HA
   simp only [b5.l0] at H
   by_cases c4:X≤a0
   ·rw [if_pos c4] at H
    have ci:=decide_eq_true c4
    clear c4
    obtain ⟨b4,a9⟩:∃ y_:List Int,y_ = (([1]:List Int)):=⟨_,rfl⟩
    replace H:(b5.l1 k1 a0 j X b4 1) = some r:=by (try rw [a9]);exact af.Z
    have ap:=ae.mk a9
    clear a9
    have H':=ae.mk H
    clear H
    go_wp2_with (first | ((with_reducible refine bJ (N:=13) rfl ?_);refine Kd.iY (Kd.int .i64) _ 3 ?hg (N:=13) ?hd (xs:=([1]:List Int)) (inner:=[.int .i64 1]) (ok:=fun _=>True) (okp:=fun _=>True) ?hr ?hp (fun _ hk=>hk) trivial (Below.refl _ _) (Nat.le_refl _) (by simp) ?_;(case hd=>rfl);(case hg=>rfl);(case hr=>first | (go_simp;done) | (go_simp;rfl));(case hp=>exact (cE.one (show Kd.M (Kd.int .i64) _ _ _ 1 [.int .i64 1] from rfl) (cE.none _ _)));intro dl w5 al hb bi a8;clear bi a8;(first | rw [← ap.out] at al | (simp only [Int.reduceToNat] at al;rw [← ap.out] at al));have bo:=ae.mk (Kd.b9 (Kd.dc al (Kd.cD (af.Rw y.out))) (aj (af.Lw HB.out)));replace y:=ae.mk (Kd.cm (af.Rw y.out) (Kd.bF al) hb);replace HB:=af.lb HB hb;clear hb al))
    go_loopg [5,6] k1 (fun kq v5 v6 w'=>∃ (a1:List Int) (z:Int),v6 = .int .i64 z∧ae (b5.l1 kq a0 j X a1 z = some r)∧ae (kq≤k1)∧ae (Kd.R (Kd.int .i64) 3 w' w.heap.size (fun k_=>some k_≠(v5:Value).ownBlock) u3 j)∧ae (Kd.R (Kd.int .i64) 3 w' w.heap.size (fun k_=>some k_≠(u3:Value).ownBlock) v5 a1)∧ae (Below w.heap.size w w'))
    case atStart=>exact ⟨(b4),(1),af.F,H',⟨Nat.le_refl _⟩,⟨af.Rw (Kd.aX y.out (fun _ hk=>hk.2))⟩,⟨af.Rw (Kd.aX bo.out (fun _ hk=>hk.2))⟩,⟨af.Lw HB.out⟩⟩
    case round =>
     clear H'
     obtain ⟨a1,z,rfl,HA,b2,y,a2,HB⟩:=hrel
     cases gk with
     | zero=>exact absurd HA.out (by simp [b5.l1])
     | succ k2 =>
      have H:=HA.out
      clear HA
      simp only [b5.l1] at H
      by_cases c7:z < X
      ·rw [if_pos c7] at H
       have cp:=decide_eq_true c7
       clear c7
       obtain ⟨a3,ar⟩:∃ j_:Int,(wrap64 (z - 1)) = j_:=⟨_,rfl⟩
       replace H:(if 0≤(a3) then (if (a3) < (j.length:Int) then (if 0≤z then (if z < (j.length:Int) then (if a1.length < 17592186044416 then (b5.l1 k2 a0 j X (a1 ++ [wrap64 ((rd j (a3))+(rd j z))]) (wrap64 (z+1))) else (none)) else (none)) else (none)) else (none)) else (none)) = some r:=by first | (rw [ar] at H;exact H) | (simp only [ar] at H ⊢;exact H)
       have d6:(IntKind.i64.wrap (z - 1)) = a3:=(bw _).trans ar
       obtain ⟨c9,H⟩:=af.ip H
       have dp:=decide_eq_true c9
       clear c9
       obtain ⟨gz,H⟩:=af.ip H
       have d7:=decide_eq_true gz
       clear gz
       obtain ⟨cx,H⟩:=af.ip H
       have d8:=decide_eq_true cx
       clear cx
       obtain ⟨cy,H⟩:=af.ip H
       have d9:=decide_eq_true cy
       clear cy
       obtain ⟨cX,H⟩:=af.ip H
       have bs:=ae.mk cX
       clear cX
       obtain ⟨ba,aa⟩:∃ y_:List Int,y_ = (a1 ++ [wrap64 ((rd j (a3))+(rd j z))]):=⟨_,rfl⟩
       replace H:(b5.l1 k2 a0 j X ba (wrap64 (z+1))) = some r:=by (try rw [aa]);exact af.Z
       have bv:=ae.mk aa
       clear aa
       have H':=ae.mk H
       clear H
       try go_wp2
       replace y:=ae.mk (Kd.bS y.out)
       replace a2:=ae.mk (Kd.bS a2.out)
       replace HB:=ae.mk (bU HB.out)
       obtain ⟨dq,cY,bc⟩:=Kd.aY y.out
       (first | subst bc | (injection bc with d0 db d1;have dd:=d0.symm;have df:=d1.symm;clear d0 db d1;subst dd;subst df))
       obtain ⟨a4,d2,a5,dt,du⟩:=af.ai (Kd.au y.out).2.2 (a3)
       cases d2
       obtain ⟨ca,d3,a6,dv,dC⟩:=af.ai (Kd.au y.out).2.2 z
       obtain rfl:a4 = ca:=(by injection d3)
       refine eS (n:=14) (S:=fun w'=>w'.cell? (a4.add ((a3)).toNat) = some (.int .i64 (rd j (a3)))∧w'.cell? (a4.add (z).toNat) = some (.int .i64 (rd j z))) (ds:=[11,12]) #[false,false,false,false,false,false,false,false,false,false,false,false,false,false] (by kernel_rfl) rfl rfl ⟨a5,a6⟩ (fun hHeld=>?_);refine dn b5.vv b5.sH (fun Y d4=>?_)
       generalize wr.drew = e0 at y a2 HB a5 a6 hHeld ⊢
       refine af.pu 0 19 Y ?_
       refine af.pu 1 20 Y ?_
       refine af.pu 2 21 Y ?_
       refine af.pu 3 22 Y ?_
       refine af.pu 4 23 Y ?_
       refine af.pu 6 25 Y ?_
       refine af.pu 7 26 Y ?_
       refine af.pu 8 27 Y ?_
       refine af.tk 5 24 Y d4 hHeld ?_
       refine af.tk 9 28 Y d4 hHeld ?_
       refine af.pu 10 29 Y ?_
       refine lY (i:=11) (N:=some 30) #[true,true,true,true,true,true,true,true,true,true,true,true,false,false] rfl rfl (dD Y.out (by kernel_rfl)) (by decide) (fun K hK=>?_)
       refine kK (w1:=?_) (v:=?_) (by rfl) rfl ?_ ?_
       rotate_left 2
       ·go_simp
        constructor
        ·rfl
        ·rfl
       refine hK.out _ _ ?_
       clear hK K
       refine eV (a':=?_) ?_ ?_
       rotate_left
       ·show Act.put _ (some 30) _ = _
        simp only [Act.put,List.setIfInBounds_toArray,List.set_cons_zero,List.set_cons_succ,bw,bW]
        rfl
       refine lY (i:=12) (N:=some 31) #[true,true,true,true,true,true,true,true,true,true,true,true,true,false] rfl rfl (dD Y.out (by kernel_rfl)) (by decide) (fun K hK=>?_)
       refine Kd.fS (Kd.int .i64) (w0:=w) w.heap.size (by rfl) (.tmp 19) (.tmp 30) 28 3 (.int .i64 0) 8 rfl Tryz.underlying28 eJ rfl (by decide) (by omega) u5 a1 (wrap64 ((rd j (a3))+(rd j z))) [.int .i64 (wrap64 ((rd j (a3))+(rd j z)))] (fun k_=>some k_≠(.slice (some a4) j.length cY:Value).ownBlock) (fun _=>False) rfl rfl ?aP (fun _ hk=>hk.elim) ?aF ?aO ?aB ?aS ?aL ?_
       (case aP=>exact rfl)
       (case aB=>exact (af.Lw HB.out))
       (case aF=>exact (fun k_ hk=>Kd.fresh' (Kd.cD (af.Rw y.out)) k_ hk))
       (case aO=>exact (af.Rw a2.out))
       (case aS=>exact (aj (af.Lw HB.out)))
       (case aL=>have:=bs.out;omega)
       intro dE e1 ho hb hg hat
       rw [← bv.out] at ho
       have aw:=ae.mk (Kd.eK (ok:=(fun _=>True)) (af.Rw (Kd.aX y.out (fun _ hk=>⟨trivial,hk⟩))) hg hat)
       have aR:=ae.mk hb
       have b0:=ae.mk ho
       clear y
       clear HB
       clear a2
       have y:=aw
       have HB:=aR
       have cb:=b0
       clear aw aR b0
       clear ho hb hg hat
       refine hK.out _ _ ?_
       clear hK K
       refine eV (a':=?_) ?_ ?_
       rotate_left
       ·show Act.put _ (some 31) _ = _
        simp only [Act.put,List.setIfInBounds_toArray,List.set_cons_zero,List.set_cons_succ,bw,bW]
        rfl
       refine af.pu 13 5 Y ?_
       refine gh (er Y.out (by kernel_rfl)) ?_
       try go_wp2
       go_roundg k2
       case measure=>have:=b1.out;have:=b2.out;omega
       case rel=>exact ⟨(ba),(wrap64 (z+1)),af.F,H',⟨by have:=b1.out;have:=b2.out;omega⟩,⟨af.Rw (Kd.aX y.out (fun _ hk=>hk.2))⟩,⟨af.Rw cb.out⟩,⟨af.Lw HB.out⟩⟩
      ·rw [if_neg c7] at H
       have cp:decide (z < X) = false:=decide_eq_false c7
       clear c7
       obtain ⟨d5,H⟩:=af.ip H
       have cc:=ae.mk d5
       clear d5
       obtain ⟨bd,ab⟩:∃ y_:List Int,y_ = (a1 ++ [1]):=⟨_,rfl⟩
       replace H:(b5.l0 k2 a0 bd (wrap64 (X+1))) = some r:=by (try rw [ab]);exact af.Z
       have cd:=ae.mk ab
       clear ab
       have H':=ae.mk H
       clear H
       go_wp2_with (first | ((with_reducible refine cB (b:=.append) (xs:=#[.tmp 32,.tmp 33]) rfl ?_);at_builtin;refine Kd.fg (Kd.int .i64) (w0:=w) w.heap.size rfl (.tmp 32) (.tmp 33) 28 3 (.int .i64 0) 8 rfl Tryz.underlying28 eJ rfl (by decide) (by omega) u5 a1 1 [.int .i64 1] (fun k_=>some k_≠(u3:Value).ownBlock) (fun _=>False) rfl rfl (by exact rfl) (fun _ hk=>hk.elim) (by exact fun k_ hk=>Kd.fresh' (Kd.cD (af.Rw y.out)) k_ hk) (by exact af.Rw a2.out) (by exact af.Lw HB.out) (by exact aj (af.Lw HB.out)) (by have:=cc.out;omega) ?_;intro dT e2 ho hb hg hat;rw [← cd.out] at ho;have aw:=ae.mk (Kd.eK (ok:=(fun _=>True)) (af.Rw (Kd.aX y.out (fun _ hk=>⟨trivial,hk⟩))) hg hat);have aR:=ae.mk hb;have b0:=ae.mk ho;clear y;clear HB;clear a2;have y:=aw;have HB:=aR;have ce:=b0;clear aw aR b0;clear ho hb hg hat))
       go_roundg k2
       case measure=>have:=b1.out;have:=b2.out;omega
       case rel=>exact ⟨(bd),(wrap64 (X+1)),af.F,H',⟨by have:=b1.out;have:=b2.out;omega⟩,⟨af.Rw (Kd.aX ce.out (fun _ hk=>trivial))⟩,⟨af.Lw HB.out⟩⟩
   ·rw [if_neg c4] at H
    have ci:decide (X≤a0) = false:=decide_eq_false c4
    clear c4
    obtain rfl:=Option.some.inj H
    go_wp2
    go_ret
    exact ⟨_,af.E,by (with_reducible repeat (first | apply Kd.cL | apply Kd.cM | apply Kd.bS));exact y.out,af.L⟩
def fL.f (a0:Int):Option (Int):=some (wrap64 (1 - (wrap64 (2 * (Int.tmod a0 2)))))
set_option maxHeartbeats 8000000 in
set_option maxRecDepth 100000 in
theorem fL.calls (a0:Int) (r:Int) (w:World) (h:fL.f a0 = some r) :
  Calls Tryz.prog 146 #[.int .i64 a0] w fun e w'=>e = .returned (.int .i64 r)∧cQ w w':=by
 unfold fL.f at h
 have H:=h
 clear h
 obtain rfl:=Option.some.inj H
 go_enter Tryz.func146,Tryz.ntmps146
 go_wp2
 go_ret
 exact ⟨af.F,af.G⟩
mutual
def bO.l0:Nat→Int→Int→Int→List (List Int)→List Int→List Int→Int→Option ((List (List Int)))
 | 0,_,_,_,_,_,_,_=>none
 | k+1,M,X,x3,z,Y,x9,j=>if j≤M then (bO.l1 k M X x3 z Y x9 j 0) else (some z)
def bO.l1:Nat→Int→Int→Int→List (List Int)→List Int→List Int→Int→Int→Option ((List (List Int)))
 | 0,_,_,_,_,_,_,_,_=>none
 | k+1,M,X,x3,z,Y,x9,j,y=>if y≤X then (if 0≤j then (if j < (z.length:Int) then (if 0≤y then (if y < ((cw z j).length:Int) then (if j < (Y.length:Int) then (if y < (x9.length:Int) then ((fL.f (wrap64 (M - j))).bind fun a0=>((fL.f (wrap64 (X - y))).bind fun a1=>(bO.l1 k M X x3 (z.set (j:Int).toNat ((cw z j).set (y:Int).toNat (wrap64 ((rd (cw z j) y)+(wrap64 ((wrap64 ((wrap64 ((wrap64 (x3 * (rd Y j))) * (rd x9 y))) * a0)) * a1)))))) Y x9 j (wrap64 (y+1))))) else (none)) else (none)) else (none)) else (none)) else (none)) else (none)) else (bO.l0 k M X x3 z Y x9 (wrap64 (j+1)))
end
def bO.f (k:Nat) (j:List (List Int)) (M:Int) (a2:Int) (a3:Int):Option ((List (List Int))):=(b5.f k M).bind fun y=>((b5.f k a2).bind fun z=>(bO.l0 k M a2 a3 j y z 0))
def bO.T8:Bool×List (List Nat×List Nat):=(true,[([],[]),([],[]),([0,1],[0,1]),([2],[2]),([],[]),([],[]),([],[]),([5,6],[5,6]),([7],[7]),([],[]),([8,9],[8,9]),([10],[10]),([],[]),([],[]),([],[]),([13,14],[13,14]),([15],[15]),([12,16],[12,16]),([],[]),([],[]),([18,19],[18,19]),([20],[20]),([17,21],[17,21]),([],[]),([],[]),([23,24],[23,24]),([25],[25]),([22,26],[22,26]),([],[]),([],[]),([28,29],[28,29]),([30,26],[30]),([27,31],[27,31]),([11,32],[11,32]),([3,4,0,1,2,3,4,5,6,7,8,9,10,11,12,13,14,15,16,17,18,19,20,21,22,23,24,25,26,27,28,29,30,31,32,33],[3,4]),([34,33,31,0,1,2,3,4,5,6,7,8,9,10,11,12,13,14,15,16,17,18,19,20,21,22,23,24,25,26,27,28,29,30,31,32,33],[33,34])])
def bO.B8:List Nat:=[0,0,3,7,0,0,0,96,224,0,992,2016,0,0,0,24576,57344,126976,0,0,786432,1835008,4190208,0,0,25165824,58720256,134213632,0,0,805306368,2004877312,4294963200,8589934560,17179869183,34359738367]
theorem bO.sI:gr .any (opsOf Tryz.f113 8) = bO.T8:=by kernel_rfl
theorem bO.oJ:eL bO.T8.2 bO.B8 = true:=by kernel_rfl
set_option maxHeartbeats 8000000 in
set_option maxRecDepth 100000 in
theorem bO.calls (k:Nat) (aR:Value) (d8:List (List Int)) (a1:Int) (a2:Int) (a3:Int) (r:List (List Int)) (am:Nat) (cc:Int) (cd:Option Addr) (ce:Nat) (cf:List Int) (w wi:World) (f3:Below w.heap.size w wi) (ao:Kd.S (Kd.slice 3 (Kd.int .i64)) 28 wi w.heap.size (fun _=>True) aR d8) (hbk:wi.heap[am]? = some (.cells #[.int .i64 cc,.slice cd cf.length ce] 30 (0,0))) (hge:w.heap.size≤am) (h:bO.f k d8 a1 a2 a3 = some r) :
  Calls Tryz.prog 113 #[aR,.int .i64 a1,.int .i64 a2,.int .i64 a3] wi fun e w'=>e = .returned (.tuple #[])∧Kd.S (Kd.slice 3 (Kd.int .i64)) 28 w' w.heap.size (fun _=>True) aR r∧w'.heap[am]? = some (.cells #[.int .i64 cc,.slice cd cf.length ce] 30 (0,0))∧Below w.heap.size w w':=by
 have HB:=ae.mk f3
 have ap:=ae.mk ao
 have X:=ae.mk hbk
 have eh:=ae.mk hge
 have g7:=ae.mk hge
 clear f3 ao hbk hge
 unfold bO.f at h
 have H:=h
 clear h
 obtain ⟨e3,A6,H⟩:=af.be H
 (try dsimp only at H)
 obtain ⟨e4,A7,H⟩:=af.be H
 (try dsimp only at H)
 have H':=ae.mk H
 clear H
 go_enter Tryz.func113,Tryz.ntmps113
 go_wp2_with (first | (refine af.gl (some 13) Tryz.func145 #[.int .i64 a1] ?_;(with_reducible refine (b5.calls k a1 e3 _ A6.out).mono ?_);rintro e hI ⟨aL,rfl,ao,hb⟩;refine ⟨_,rfl,?_⟩;replace ap:=ae.mk (Kd.aA (af.Sw ap.out) (Kd.bF ao) hb);have aP:=ae.mk (Kd.b9 ao (aj (af.Lw HB.out)));replace X:=af.bb X hb;replace HB:=af.lb HB hb;(try clear hb);(try clear g8);(try clear hk);(try clear hi);(try clear ao)) | (refine af.gl (some 15) Tryz.func145 #[.int .i64 a2] ?_;(with_reducible refine (b5.calls k a2 e4 _ A7.out).mono ?_);rintro e hL ⟨aO,rfl,ao,hb⟩;refine ⟨_,rfl,?_⟩;replace ap:=ae.mk (Kd.aA (af.Sw ap.out) (Kd.bF ao) hb);have ej:=ae.mk (Kd.b9 (Kd.dc ao (Kd.cD (af.Rw aP.out))) (aj (af.Lw HB.out)));replace aP:=ae.mk (Kd.cm (af.Rw aP.out) (Kd.bF ao) hb);replace X:=af.bb X hb;replace HB:=af.lb HB hb;(try clear hb);(try clear g8);(try clear hk);(try clear hi);(try clear ao)))
 go_loopg [10] k (fun kq v10 w'=>∃ (ci:List (List Int)) (cp:List Int) (cx:List Int) (j:Int),v10 = .int .i64 j∧ae (bO.l0 kq a1 a2 a3 ci cp cx j = some r)∧ae (kq≤k)∧ae (Kd.S (Kd.slice 3 (Kd.int .i64)) 28 w' w.heap.size (fun k_=>some k_≠(aL:Value).ownBlock∧some k_≠(aO:Value).ownBlock) aR ci)∧ae (Kd.R (Kd.int .i64) 3 w' w.heap.size (fun k_=>some k_≠(aO:Value).ownBlock) aL cp)∧ae (Kd.R (Kd.int .i64) 3 w' w.heap.size (fun k_=>some k_≠(aL:Value).ownBlock) aO cx)∧ae (w'.heap[am]? = some (.cells #[.int .i64 cc,(.slice cd cf.length ce)] 30 (0,0)))∧ae (Below w.heap.size w w'))
 case atStart=>exact ⟨(d8),(e3),(e4),(0),af.F,H',⟨Nat.le_refl _⟩,⟨af.Sw (Kd.dh ap.out (fun _ hk=>(by first | exact ⟨hk.1.2,hk.2⟩ | (simp_all;done))))⟩,⟨af.Rw (Kd.aX aP.out (fun _ hk=>hk.2))⟩,⟨af.Rw (Kd.aX ej.out (fun _ hk=>hk.2))⟩,⟨af.Bw X.out⟩,⟨af.Lw HB.out⟩⟩
 case round =>
  clear H'
  obtain ⟨ci,cp,cx,j,rfl,HA,dC,Y,aa,ab,X,HB⟩:=hrel
  cases gk with
  | zero=>exact absurd HA.out (by simp [bO.l0])
  | succ k1 =>
   have H:=HA.out
   clear HA
   simp only [bO.l0] at H
   by_cases d6:j≤a1
   ·rw [if_pos d6] at H
    have el:=decide_eq_true d6
    clear d6
    have H':=ae.mk H
    clear H
    go_wp2
    go_loopg [11] k1 (fun kq v11 w'=>∃ (M:List (List Int)) (a4:List Int) (a5:List Int) (y:Int),v11 = .int .i64 y∧ae (bO.l1 kq a1 a2 a3 M a4 a5 j y = some r)∧ae (kq≤k1)∧ae (Kd.S (Kd.slice 3 (Kd.int .i64)) 28 w' w.heap.size (fun k_=>some k_≠(aL:Value).ownBlock∧some k_≠(aO:Value).ownBlock) aR M)∧ae (Kd.R (Kd.int .i64) 3 w' w.heap.size (fun k_=>some k_≠(aO:Value).ownBlock) aL a4)∧ae (Kd.R (Kd.int .i64) 3 w' w.heap.size (fun k_=>some k_≠(aL:Value).ownBlock) aO a5)∧ae (w'.heap[am]? = some (.cells #[.int .i64 cc,(.slice cd cf.length ce)] 30 (0,0)))∧ae (Below w.heap.size w w'))
    case atStart=>exact ⟨(ci),(cp),(cx),(0),af.F,H',⟨Nat.le_refl _⟩,⟨af.Sw Y.out⟩,⟨af.Rw aa.out⟩,⟨af.Rw ab.out⟩,⟨af.Bw X.out⟩,⟨af.Lw HB.out⟩⟩
    case round =>
     clear H'
     obtain ⟨M,a4,a5,y,rfl,HA,dE,Y,aa,ab,X,HB⟩:=hrel
     cases gk with
     | zero=>exact absurd HA.out (by simp [bO.l1])
     | succ k2 =>
      have H:=HA.out
      clear HA
      simp only [bO.l1] at H
      by_cases d7:y≤a2
      ·rw [if_pos d7] at H
       have em:=decide_eq_true d7
       clear d7
       obtain ⟨f4,H⟩:=af.ip H
       have g9:=decide_eq_true f4
       clear f4
       obtain ⟨f5,H⟩:=af.ip H
       have gc:=decide_eq_true f5
       clear f5
       obtain ⟨f6,H⟩:=af.ip H
       have go:=decide_eq_true f6
       clear f6
       obtain ⟨f7,H⟩:=af.ip H
       have gs:=decide_eq_true f7
       clear f7
       obtain ⟨f8,H⟩:=af.ip H
       have gt:=decide_eq_true f8
       clear f8
       obtain ⟨f9,H⟩:=af.ip H
       have h0:=decide_eq_true f9
       clear f9
       obtain ⟨aS,h6,H⟩:=af.be H
       (try dsimp only at H)
       obtain ⟨b0,h7,H⟩:=af.be H
       (try dsimp only at H)
       obtain ⟨d9,bs⟩:∃ y_:List Int,y_ = ((cw M j).set (y:Int).toNat (wrap64 ((rd (cw M j) y)+(wrap64 ((wrap64 ((wrap64 ((wrap64 (a3 * (rd a4 j))) * (rd a5 y))) * aS)) * b0))))):=⟨_,rfl⟩
       replace H:(bO.l1 k2 a1 a2 a3 (M.set (j:Int).toNat d9) a4 a5 j (wrap64 (y+1))) = some r:=by (try rw [bs]);exact af.Z
       have eo:=ae.mk bs
       clear bs
       obtain ⟨e8,bv⟩:∃ y_:List (List Int),y_ = (M.set (j:Int).toNat d9):=⟨_,rfl⟩
       replace H:(bO.l1 k2 a1 a2 a3 e8 a4 a5 j (wrap64 (y+1))) = some r:=by (try rw [bv]);exact af.Z
       have eq:=ae.mk bv
       clear bv
       have H':=ae.mk H
       clear H
       try go_wp2
       replace Y:=ae.mk (Kd.ez Y.out)
       replace aa:=ae.mk (Kd.bS aa.out)
       replace ab:=ae.mk (Kd.bS ab.out)
       replace X:=ae.mk (dZ X.out)
       replace HB:=ae.mk (bU HB.out)
       obtain ⟨hl,hm,ea⟩:=Kd.cP Y.out
       (first | subst ea | (injection ea with b1 db b2;have dd:=b1.symm;have df:=b2.symm;clear b1 db b2;subst dd;subst df))
       have cy:0≤(j:Int):=af.D
       have cX:j < (M.length:Int):=af.D
       obtain ⟨ca,g1,cY,fa,a6,b3,b4⟩:=gM (Kd.aE Y.out).2.2 j cy cX
       cases fa
       obtain ⟨h8,dT,e0,d0⟩:=Kd.nC Y.out [] j cy (by first | exact cX | exact af.D | (have e_:=(Kd.aE Y.out).1;omega))
       obtain ⟨fd,rfl,ar⟩:=e0
       have a7:=d0 0 _ rfl
       rw [Nat.add_zero,show ((Kd.slice 3 (Kd.int .i64))).sz = 1 from rfl,Nat.mul_one] at a7
       replace a7:=Option.some.inj (a7.symm.trans a6)
       rw [a7] at ar
       have a0:=ae.mk (show Kd.R (Kd.int .i64) 3 _ _ _ _ (cw M j) from ar)
       clear a7 ar
       have ba:=ae.mk a6
       clear d0 dT
       have dk:=ae.mk b4
       have fi:=ae.mk b3
       clear b4 b3
       replace cy:=eq_true cy
       replace cX:=eq_true cX
       have d1:0≤(j:Int):=af.D
       have d2:j < (M.length:Int):=af.D
       obtain ⟨es,g2,g3,fj,a8,bc,bd⟩:=gM (Kd.aE Y.out).2.2 j d1 d2
       obtain rfl:ca = es:=(by injection fj)
       obtain ⟨h9,e1,e2,d3⟩:=Kd.nC Y.out [] j d1 (by first | exact d2 | exact af.D | (have e_:=(Kd.aE Y.out).1;omega))
       obtain ⟨fl,rfl,aw⟩:=e2
       have a9:=d3 0 _ rfl
       rw [Nat.add_zero,show ((Kd.slice 3 (Kd.int .i64))).sz = 1 from rfl,Nat.mul_one] at a9
       replace a9:=Option.some.inj (a9.symm.trans a8)
       rw [a9] at aw
       have dl:=ae.mk (show Kd.R (Kd.int .i64) 3 _ _ _ _ (cw M j) from aw)
       clear a9 aw
       have dp:=ae.mk a8
       clear d3 e1
       have aB:=ae.mk bd
       have fp:=ae.mk bc
       clear bd bc
       replace d1:=eq_true d1
       replace d2:=eq_true d2
       have bi:=Option.some.inj (a6.symm.trans a8)
       injection bi with bi et ev
       subst bi
       subst ev
       clear et
       obtain ⟨cb,fs,aF,hn,ho⟩:=af.ai (by repeat (first | (with_reducible exact aB.out) | (with_reducible refine Kd.fk ?_ _) | (with_reducible refine Kd.fm ?_ _) | (with_reducible refine Kd.fJ ?_) | exact aB.out)) y
       cases fs
       obtain ⟨hq,hr,eb⟩:=Kd.aY aa.out
       (first | subst eb | (injection eb with b1 db b2;have dd:=b1.symm;have df:=b2.symm;clear b1 db b2;subst dd;subst df))
       obtain ⟨ew,ft,bm,ht,hu⟩:=af.ai (Kd.au aa.out).2.2 j
       cases ft
       obtain ⟨hx,hz,ec⟩:=Kd.aY ab.out
       (first | subst ec | (injection ec with b1 db b2;have dd:=b1.symm;have df:=b2.symm;clear b1 db b2;subst dd;subst df))
       obtain ⟨ex,fw,bo,hA,hC⟩:=af.ai (Kd.au ab.out).2.2 y
       cases fw
       refine eS (n:=36) (S:=fun w'=>w'.cell? (ca.add (j).toNat) = some (.slice (some cb) (cw M j).length cY)∧w'.cell? (ca.add (j).toNat) = some (.slice (some cb) (cw M j).length cY)∧w'.cell? (cb.add (y).toNat) = some (.int .i64 (rd (cw M j) y))∧w'.cell? (ew.add (j).toNat) = some (.int .i64 (rd a4 j))∧w'.cell? (ex.add (y).toNat) = some (.int .i64 (rd a5 y))) (ds:=[35]) #[false,false,false,false,false,false,false,false,false,false,false,false,false,false,false,false,false,false,false,false,false,false,false,false,false,false,false,false,false,false,false,false,false,false,false,false] (by kernel_rfl) rfl rfl ⟨a6,a8,aF,bm,bo⟩ (fun hHeld=>?_);refine dn bO.sI bO.oJ (fun z dq=>?_)
       generalize wr.drew = hM at Y aa ab X HB a0 dl dk aB ba dp a6 a8 aF bm bo hHeld ⊢
       refine af.pu 0 26 z ?_
       refine af.pu 1 27 z ?_
       refine af.pu 2 28 z ?_
       refine af.pu 4 30 z ?_
       refine af.pu 5 31 z ?_
       refine af.pu 6 32 z ?_
       refine af.pu 7 33 z ?_
       refine af.pu 9 35 z ?_
       refine af.pu 12 38 z ?_
       refine af.pu 13 39 z ?_
       refine af.pu 14 40 z ?_
       refine af.pu 15 41 z ?_
       refine af.pu 18 44 z ?_
       refine af.pu 19 45 z ?_
       refine af.pu 20 46 z ?_
       refine af.pu 23 49 z ?_
       refine af.pu 24 50 z ?_
       refine af.pu 25 51 z ?_
       refine af.pu 28 54 z ?_
       refine af.pu 29 55 z ?_
       refine af.pu 30 56 z ?_
       refine af.tk 3 29 z dq hHeld ?_
       refine af.tk 8 34 z dq hHeld ?_
       refine af.pu 10 36 z ?_
       refine af.tk 11 37 z dq hHeld ?_
       refine af.tk 16 42 z dq hHeld ?_
       refine af.pu 17 43 z ?_
       refine af.tk 21 47 z dq hHeld ?_
       refine af.pu 22 48 z ?_
       refine gA (i:=26) (N:=some 52) #[true,true,true,true,true,true,true,true,true,true,true,true,true,true,true,true,true,true,true,true,true,true,true,true,true,true,true,false,true,true,true,false,false,false,false,false] rfl rfl (dD z.out (by kernel_rfl)) (by decide) (fun K hK=>?_)
       refine iZ Tryz.func146 (by kernel_rfl) rfl #[.int .i64 (wrap64 (a1 - j))] (by rfl) rfl rfl (by (try simp only [List.map_toArray,List.map_cons,List.map_nil]);first | done | rfl) ?_
       with_reducible refine (fL.calls (wrap64 (a1 - j)) aS _ h6.out).mono ?_
       rintro e w' ⟨rfl,⟨nd,rfl⟩⟩
       refine ⟨_,rfl,?_⟩
       refine hK.out _ _ ⟨hHeld.1,hHeld.2.1,hHeld.2.2.1,hHeld.2.2.2.1,hHeld.2.2.2.2⟩ (fun hHeld=>?_)
       clear hK K
       refine eV (a':=?_) ?_ ?_
       rotate_left
       ·show Act.put _ (some 52) _ = _
        simp only [Act.put,List.setIfInBounds_toArray,List.set_cons_zero,List.set_cons_succ,bw,bW]
        rfl
       refine af.pu 27 53 z ?_
       refine gA (i:=31) (N:=some 57) #[true,true,true,true,true,true,true,true,true,true,true,true,true,true,true,true,true,true,true,true,true,true,true,true,true,true,true,true,true,true,true,true,false,false,false,false] rfl rfl (dD z.out (by kernel_rfl)) (by decide) (fun K hK=>?_)
       refine iZ Tryz.func146 (by kernel_rfl) rfl #[.int .i64 (wrap64 (a2 - y))] (by rfl) rfl rfl (by (try simp only [List.map_toArray,List.map_cons,List.map_nil]);first | done | rfl) ?_
       with_reducible refine (fL.calls (wrap64 (a2 - y)) b0 _ h7.out).mono ?_
       rintro e w' ⟨rfl,⟨nd,rfl⟩⟩
       refine ⟨_,rfl,?_⟩
       have eQ:0≤(y:Int):=af.D
       have f0:(y:Int) < (((cw M j).length:Int):Int):=af.D
       obtain ⟨ed,hD,ee,ef,fx,hE,eg⟩:=Kd.jm a0.out (by omega)
       (first | cases ee | (injection ee with bi et ev;(first | subst bi | (injection bi with bi;subst bi));subst ev;clear et))
       have fy:=ae.mk ef
       have hG:=ae.mk eg
       clear ef fx eg
       (first | simp only [add_plain] at aF | skip)
       obtain ⟨g4,g5⟩:=Kd.gH 0 a0.out (y:Int) eQ f0
       replace eQ:=eq_true eQ
       replace f0:=eq_true f0
       have fX:(j:Int) < (M.length:Int):=(by have h_:(j:Int) < ((M.length:Int):Int):=af.D;first | exact h_ | (have e_:=(Kd.aE Y.out).1;omega) | simpa only [List.length_set,List.length_set] using h_)
       obtain ⟨hj,hH,f1,fY,dt,f2,du⟩:=Kd.oF Y.out [] (j:Int) (af.D) fX
       obtain ⟨g6,rfl,al⟩:=fY
       have d4:=dt 0 _ rfl
       rw [Nat.add_zero,show ((Kd.slice 3 (Kd.int .i64))).sz = 1 from rfl,Nat.mul_one] at d4
       replace d4:=Option.some.inj (d4.symm.trans ba.out)
       subst d4
       clear dt f1
       replace al:=(show Kd.R (Kd.int .i64) 3 _ _ _ _ (cw M j) from al)
       have d5:=Kd.jV al (y:Int) (wrap64 ((rd (cw M j) y)+(wrap64 ((wrap64 ((wrap64 ((wrap64 (a3 * (rd a4 j))) * (rd a5 y))) * aS)) * b0))))
       rw [← eo.out] at d5
       have dv:=du d5.2 (fun k_ e_=>by injection e_ with e_;subst e_;exact al.1 _ rfl) (x':=d9) (Kd.kC d5.1)
       rw [← eq.out] at dv
       have g0:=ae.mk dv
       clear d5 dv du f2
       refine hK.out _ _ ⟨hHeld.1,hHeld.2.1,hHeld.2.2.1,hHeld.2.2.2.1,hHeld.2.2.2.2⟩ (fun hHeld=>?_)
       clear hK K
       refine eV (a':=?_) ?_ ?_
       rotate_left
       ·show Act.put _ (some 57) _ = _
        simp only [Act.put,List.setIfInBounds_toArray,List.set_cons_zero,List.set_cons_succ,bw,bW]
        rfl
       refine af.pu 32 58 z ?_
       refine af.pu 33 59 z ?_
       refine af.pu 34 60 z ?_
       refine lY (i:=35) (N:=none) #[true,true,true,true,true,true,true,true,true,true,true,true,true,true,true,true,true,true,true,true,true,true,true,true,true,true,true,true,true,true,true,true,true,true,true,true] rfl rfl (dD z.out (by kernel_rfl)) (by decide) (fun K hK=>?_)
       refine mL (w1:=?_) (by rfl) rfl ?_ ?_
       rotate_left
       ·go_simp
        rfl
       refine hK.out _ _ ?_
       clear hK K
       refine gh (er z.out (by kernel_rfl)) ?_
       try go_wp2
       go_roundg k2
       case measure=>have:=dC.out;have:=dE.out;omega
       case rel=>exact ⟨(e8),(a4),(a5),(wrap64 (y+1)),af.F,H',⟨by have:=dC.out;have:=dE.out;omega⟩,⟨g0.out⟩,⟨(Kd.aX (Kd.cI (p:=⟨ed,(y:Int).toNat,none⟩) (Kd.sw aa.out rfl ((a0.out.1 _ rfl).1.1)) (fun _ hk=>hk.2) (.int .i64 (wrap64 ((rd (cw M j) y)+(wrap64 ((wrap64 ((wrap64 ((wrap64 (a3 * (rd a4 j))) * (rd a5 y))) * aS)) * b0)))))) (fun _ hk=>hk.1))⟩,⟨(Kd.aX (Kd.cI (p:=⟨ed,(y:Int).toNat,none⟩) (Kd.sw ab.out rfl ((a0.out.1 _ rfl).1.2)) (fun _ hk=>hk.2) (.int .i64 (wrap64 ((rd (cw M j) y)+(wrap64 ((wrap64 ((wrap64 ((wrap64 (a3 * (rd a4 j))) * (rd a5 y))) * aS)) * b0)))))) (fun _ hk=>hk.1))⟩,⟨by (with_reducible repeat (first | refine iv ?_ _ | refine dZ ?_ | refine gg ?_ _));refine ql ?_ (by have h_:=Kd.jr a0.out X.out (by decide);intro e_;exact h_ (by rw [e_];rfl)) _;(with_reducible repeat (first | refine iv ?_ _ | refine dZ ?_ | refine gg ?_ _));exact X.out⟩,⟨by repeat (first | (with_reducible first | exact HB.out | apply dH | apply dA | apply bU | refine dK ?_ fy.out | refine dK ?_ eh.out) | exact HB.out)⟩⟩
      ·rw [if_neg d7] at H
       have em:decide (y≤a2) = false:=decide_eq_false d7
       clear d7
       have H':=ae.mk H
       clear H
       go_wp2
       go_roundg k2
       case measure=>have:=dC.out;have:=dE.out;omega
       case rel=>exact ⟨(M),(a4),(a5),(wrap64 (j+1)),af.F,H',⟨by have:=dC.out;have:=dE.out;omega⟩,⟨af.Sw Y.out⟩,⟨af.Rw aa.out⟩,⟨af.Rw ab.out⟩,⟨af.Bw X.out⟩,⟨af.Lw HB.out⟩⟩
   ·rw [if_neg d6] at H
    have el:decide (j≤a1) = false:=decide_eq_false d6
    clear d6
    obtain rfl:=Option.some.inj H
    go_wp2
    go_end0
    exact ⟨rfl,af.Sw (Kd.dh Y.out (fun _ hk=>trivial)),af.Bw X.out,af.Lw HB.out⟩
mutual
def aZ.l0:Nat→List (List Int)→Int→Int→Int→List Int→Option ((List (List Int)))
 | 0,_,_,_,_,_=>none
 | k+1,X,z,x5,j,y=>if x5≤z then (if 0≤(wrap64 ((wrap64 (j - z))+1)) then (if (wrap64 ((wrap64 (j - z))+1):Int).toNat≤35184372088832 then (if X.length < 5864062014805 then (aZ.l0 k (X ++ [(List.replicate (wrap64 ((wrap64 (j - z))+1):Int).toNat 0)]) z (wrap64 (x5+1)) j y) else (none)) else (none)) else (none)) else (aZ.l1 k X z 0 j y)
def aZ.l1:Nat→List (List Int)→Int→Int→Int→List Int→Option ((List (List Int)))
 | 0,_,_,_,_,_=>none
 | k+1,X,z,x6,j,y=>(br.f j).bind fun Y=>(if x6≤Y then ((cO.f k j y x6).bind fun M=>((b6.f k x6).bind fun a0=>((bO.f k X (wrap64 (z - M)) (wrap64 (a0 - M)) 1).bind fun a1=>(aZ.l1 k a1 z (wrap64 (x6+1)) j y)))) else (some X))
end
def aZ.f (k:Nat) (j:Int) (y:List Int):Option ((List (List Int))):=(some (([]:List (List Int)):List (List Int))).bind fun z=>((dN.f k j y).bind fun M=>(if M < 0 then (some z) else (aZ.l0 k z M 0 j y)))
set_option maxHeartbeats 8000000 in
set_option maxRecDepth 100000 in
theorem aZ.calls (k:Nat) (y:Int) (Y:Option Addr) (a0:Nat) (z:List Int) (r:List (List Int)) (w:World) (ba:Kd.C (Kd.int .i64) w Y z.length z) (bc:z.length≤a0) (h:aZ.f k y z = some r) :
  Calls Tryz.prog 48 #[.agg #[.int .i64 y,.slice Y z.length a0]] w fun e w'=>∃ d1:Value,e = .returned (d1)∧Kd.S (Kd.slice 3 (Kd.int .i64)) 28 w' w.heap.size (fun _=>True) d1 r∧Below w.heap.size w w':=by
 have f0:=Tryz.underlying30
 have ao:=ae.mk ba
 have ap:=ae.mk bc
 clear ba bc
 have HB:=ae.mk (Below.refl w.heap.size w)
 unfold aZ.f at h
 have H:=h
 clear h
 obtain ⟨bd,ar⟩:∃ y_:List (List Int),y_ = (([]:List (List Int))):=⟨_,rfl⟩
 replace H:((dN.f k y z).bind fun M=>(if M < 0 then (some bd) else (aZ.l0 k bd M 0 y z))) = some r:=by (try rw [ar]);exact af.Z
 have a9:=ae.mk ar
 clear ar
 obtain ⟨M,A2,H⟩:=af.be H
 (try dsimp only at H)
 by_cases c3:M < 0
 ·rw [if_pos c3] at H
  have d2:=decide_eq_true c3
  clear c3
  obtain rfl:=Option.some.inj H
  go_enter Tryz.func48,Tryz.ntmps48
  go_wp2_with (first | (refine af.bx 1 #[.int .i64 y,.slice Y z.length a0] 30 ?_;intro a6 hg w4 hbox hb;have j:=ae.mk hbox;have cf:=af.gw hg HB;have bi:=af.gw hg HB;replace HB:=af.lb HB hb;clear hb hbox hg) | ((with_reducible refine bJ (N:=8) rfl ?_);refine Kd.mM (Kd.slice 3 (Kd.int .i64)) _ 28 ?hg (N:=8) ?hd (xs:=([]:List (List Int))) (inner:=[]) (ok:=fun _=>True) (okp:=fun _=>True) ?hr ?hp (fun _ hk=>hk) trivial (Below.refl _ _) (Nat.le_refl _) (by simp) ?_;(case hd=>rfl);(case hg=>rfl);(case hr=>first | (go_simp;done) | (go_simp;rfl));(case hp=>exact (cE.none _ _));intro d3 w5 bm hb bo a7;clear bo a7;(first | rw [← a9.out] at bm | (simp only [Int.reduceToNat] at bm;rw [← a9.out] at bm));have a3:=ae.mk (Kd.cT bm (aj (af.Lw HB.out)));replace j:=af.bb j hb;replace HB:=af.lb HB hb;clear hb bm;obtain ⟨eg,eh,ej,el⟩:=af.bR j.out) | (refine af.gl (some 10) Tryz.func47 #[.agg #[.int .i64 y,.slice Y z.length a0]] ?_;(with_reducible refine (dN.calls k y _ _ z M _ ?side1 ?side2 A2.out).mono ?_);(case side1=>exact af.Cw (Kd.bG ao.out HB.out));(case side2=>exact ap.out);rintro e w8 ⟨rfl,hb⟩;refine ⟨_,rfl,?_⟩;replace a3:=ae.mk (Kd.dQ (af.Sw a3.out) hb);replace j:=af.bb j hb;replace HB:=af.lb HB hb;(try clear hb);(try clear d4);(try clear hk);(try clear hi)))
  go_ret
  exact ⟨_,af.E,by (with_reducible repeat (first | apply Kd.fE | apply Kd.fF | apply Kd.ez));exact a3.out,af.L⟩
 ·rw [if_neg c3] at H
  have d2:decide (M < 0) = false:=decide_eq_false c3
  clear c3
  have H':=ae.mk H
  clear H
  go_enter Tryz.func48,Tryz.ntmps48
  go_wp2_with (first | (refine af.bx 1 #[.int .i64 y,.slice Y z.length a0] 30 ?_;intro a6 hg w9 hbox hb;have j:=ae.mk hbox;have cf:=af.gw hg HB;have bi:=af.gw hg HB;replace HB:=af.lb HB hb;clear hb hbox hg) | ((with_reducible refine bJ (N:=8) rfl ?_);refine Kd.mM (Kd.slice 3 (Kd.int .i64)) _ 28 ?hg (N:=8) ?hd (xs:=([]:List (List Int))) (inner:=[]) (ok:=fun _=>True) (okp:=fun _=>True) ?hr ?hp (fun _ hk=>hk) trivial (Below.refl _ _) (Nat.le_refl _) (by simp) ?_;(case hd=>rfl);(case hg=>rfl);(case hr=>first | (go_simp;done) | (go_simp;rfl));(case hp=>exact (cE.none _ _));intro d3 f4 ab hb bo a7;clear bo a7;(first | rw [← a9.out] at ab | (simp only [Int.reduceToNat] at ab;rw [← a9.out] at ab));have a3:=ae.mk (Kd.cT ab (aj (af.Lw HB.out)));replace j:=af.bb j hb;replace HB:=af.lb HB hb;clear hb ab;obtain ⟨d5,d6,d7,d8⟩:=af.bR j.out) | (refine af.gl (some 10) Tryz.func47 #[.agg #[.int .i64 y,.slice Y z.length a0]] ?_;(with_reducible refine (dN.calls k y _ _ z M _ ?side1 ?side2 A2.out).mono ?_);(case side1=>exact af.Cw (Kd.bG ao.out HB.out));(case side2=>exact ap.out);rintro e f5 ⟨rfl,hb⟩;refine ⟨_,rfl,?_⟩;replace a3:=ae.mk (Kd.dQ (af.Sw a3.out) hb);replace j:=af.bb j hb;replace HB:=af.lb HB hb;(try clear hb);(try clear d4);(try clear hk);(try clear hi)))
  go_loopg [3,5] k (fun kq v3 v5 w'=>∃ (a1:List (List Int)) (a4:Int),v5 = .int .i64 a4∧ae (aZ.l0 kq a1 M a4 y z = some r)∧ae (kq≤k)∧ae (Kd.S (Kd.slice 3 (Kd.int .i64)) 28 w' w.heap.size (fun _=>True) v3 a1)∧ae (w'.heap[a6]? = some (.cells #[.int .i64 y,(.slice Y z.length a0)] 30 (0,0)))∧ae (Below w.heap.size w w'))
  case atStart=>exact ⟨(bd),(0),af.F,H',⟨Nat.le_refl _⟩,⟨af.Sw a3.out⟩,⟨af.Bw j.out⟩,⟨af.Lw HB.out⟩⟩
  case round =>
   clear H'
   obtain ⟨a1,a4,rfl,HA,ca,X,j,HB⟩:=hrel
   cases gk with
   | zero=>exact absurd HA.out (by simp [aZ.l0])
   | succ k1 =>
    have H:=HA.out
    clear HA
    simp only [aZ.l0] at H
    by_cases b3:a4≤M
    ·rw [if_pos b3] at H
     have ci:=decide_eq_true b3
     clear b3
     obtain ⟨a5,aw⟩:∃ j_:Int,(wrap64 ((wrap64 (y - M))+1)) = j_:=⟨_,rfl⟩
     replace H:(if 0≤(a5) then (if (a5:Int).toNat≤35184372088832 then (if a1.length < 5864062014805 then (aZ.l0 k1 (a1 ++ [(List.replicate (a5:Int).toNat 0)]) M (wrap64 (a4+1)) y z) else (none)) else (none)) else (none)) = some r:=by first | (rw [aw] at H;exact H) | (simp only [aw] at H ⊢;exact H)
     have em:(IntKind.i64.wrap ((wrap64 (y - M))+1)) = a5:=(bw _).trans aw
     obtain ⟨cp,H⟩:=af.ip H
     have eo:=eq_true cp
     have eq:decide (0≤(a5)) = true:=decide_eq_true cp
     clear cp
     obtain ⟨cx,H⟩:=af.ip H
     have es:=eq_true cx
     have et:decide ((a5:Int).toNat≤35184372088832) = true:=decide_eq_true cx
     clear cx
     obtain ⟨al,aR⟩:∃ y_:List Int,y_ = (List.replicate (a5:Int).toNat 0):=⟨_,rfl⟩
     replace H:(if a1.length < 5864062014805 then (aZ.l0 k1 (a1 ++ [al]) M (wrap64 (a4+1)) y z) else (none)) = some r:=by (try rw [aR]);exact af.Z
     have bs:=ae.mk aR
     clear aR
     obtain ⟨d9,H⟩:=af.ip H
     have cy:=ae.mk d9
     clear d9
     obtain ⟨cb,b0⟩:∃ y_:List (List Int),y_ = (a1 ++ [al]):=⟨_,rfl⟩
     replace H:(aZ.l0 k1 cb M (wrap64 (a4+1)) y z) = some r:=by (try rw [b0]);exact af.Z
     have cX:=ae.mk b0
     clear b0
     have H':=ae.mk H
     clear H
     obtain ⟨db,dd,df,dk⟩:=af.bR j.out
     go_wp2_with (first | ((with_reducible refine bJ (N:=25) rfl ?_);refine Kd.lD (Kd.int .i64) _ 3 rfl (N:=25) rfl 28 _ _ rfl a5 rfl rfl Tryz.underlying28 (.int .i64 0) 8 eJ rfl (by decide) (by omega) 0 (ok:=fun _=>True) (okp:=fun _=>True) rfl (fun _ hk=>hk) trivial (af.D) (Nat.le_trans (Nat.mul_le_mul_right _ (af.D:a5.toNat≤35184372088832)) (by omega)) (Below.refl _ _) (Nat.le_refl _) ?_;intro f1 f6 a8 hb bo a7;clear bo a7;(first | rw [← bs.out] at a8 | (simp only [Int.reduceToNat] at a8;rw [← bs.out] at a8));replace X:=ae.mk (Kd.aA (af.Sw X.out) (Kd.bF a8) hb);have aa:=ae.mk (Kd.b9 a8 (aj (af.Lw HB.out)));replace j:=af.bb j hb;replace HB:=af.lb HB hb;clear hb a8;obtain ⟨cc,cd,dl⟩:=Kd.aY aa.out;subst dl) | ((with_reducible refine cB (b:=.append) (xs:=#[.tmp 19,.tmp 26]) rfl ?_);at_builtin;refine Kd.j4 (Kd.slice 3 (Kd.int .i64)) (w0:=w) w.heap.size rfl (.tmp 19) (.tmp 26) 57 28 (.slice none 0 0) 24 rfl Tryz.underlying57 jZ rfl (by decide) (by omega) u3 a1 al [.slice cc al.length cd] (fun _=>True) (fun k_=>some k_ = (.slice cc al.length cd:Value).ownBlock) rfl rfl ?aP (fun k_ ev=>((Kd.aX (ok':=fun k_=>((fun _=>True)) k_∧some k_≠(u3:Value).ownBlock) (Kd.fh (aa.out) (Kd.gb X.out) (by decide)) (fun k_ hk=>⟨trivial,hk.2⟩))).1 k_ ev.symm) ?aF ?aO ?aB ?aS ?aL ?_;(case aP=>exact Kd.kC (Kd.aX (Kd.iF rfl (Kd.aX (ok':=fun k_=>((fun _=>True)) k_∧some k_≠(u3:Value).ownBlock) (Kd.fh (aa.out) (Kd.gb X.out) (by decide)) (fun k_ hk=>⟨trivial,hk.2⟩))) (fun _ h_=>h_)));(case aB=>exact (af.Lw HB.out));(case aF=>exact (fun _ _=>trivial));(case aO=>exact (af.Sw (Kd.dh X.out (fun k_ hk=>⟨trivial,fun e_=>hk.2 e_⟩))));(case aS=>exact (aj (af.Lw HB.out)));(case aL=>have:=cy.out;omega);intro f2 f7 ho hb hg hat;rw [← cX.out] at ho;have dp:=ae.mk (ep (g:=a6) (o:=.cells #[.int .i64 y,.slice Y z.length a0] 30 (0,0)) (af.Bw j.out) hg (Kd.vV X.out j.out (by decide)));have dq:=ae.mk hb;have dt:=ae.mk ho;clear j;clear HB;clear X;clear aa;have j:=dp;have HB:=dq;have cY:=dt;clear dp dq dt;clear ho hb hg hat))
     go_roundg k1
     case measure=>have:=ca.out;omega
     case rel=>exact ⟨(cb),(wrap64 (a4+1)),af.F,H',⟨by have:=ca.out;omega⟩,⟨af.Sw cY.out⟩,⟨af.Bw j.out⟩,⟨af.Lw HB.out⟩⟩
    ·rw [if_neg b3] at H
     have ci:decide (a4≤M) = false:=decide_eq_false b3
     clear b3
     have H':=ae.mk H
     clear H
     go_wp2
     go_loopg [6] k1 (fun kq v6 w'=>∃ (b1:List (List Int)) (a2:Int),v6 = .int .i64 a2∧ae (aZ.l1 kq b1 M a2 y z = some r)∧ae (kq≤k1)∧ae (Kd.S (Kd.slice 3 (Kd.int .i64)) 28 w' w.heap.size (fun _=>True) u3 b1)∧ae (w'.heap[a6]? = some (.cells #[.int .i64 y,(.slice Y z.length a0)] 30 (0,0)))∧ae (Below w.heap.size w w'))
     case atStart=>exact ⟨(a1),(0),af.F,H',⟨Nat.le_refl _⟩,⟨af.Sw X.out⟩,⟨af.Bw j.out⟩,⟨af.Lw HB.out⟩⟩
     case round =>
      clear H'
      obtain ⟨b1,a2,rfl,HA,du,X,j,HB⟩:=hrel
      cases gk with
      | zero=>exact absurd HA.out (by simp [aZ.l1])
      | succ k2 =>
       have H:=HA.out
       clear HA
       simp only [aZ.l1] at H
       obtain ⟨b2,dv,H⟩:=af.be H
       (try dsimp only at H)
       by_cases b4:a2≤b2
       ·rw [if_pos b4] at H
        have d0:=decide_eq_true b4
        clear b4
        obtain ⟨am,ew,H⟩:=af.be H
        (try dsimp only at H)
        obtain ⟨bv,ex,H⟩:=af.be H
        (try dsimp only at H)
        obtain ⟨ce,eQ,H⟩:=af.be H
        (try dsimp only at H)
        have H':=ae.mk H
        clear H
        obtain ⟨dC,dE,dT,e0⟩:=af.bR j.out
        go_wp2_with (first | (refine af.gl (some 31) Tryz.func24 #[.int .i64 y] ?_;(with_reducible refine (br.calls y b2 _ dv.out).mono ?_);rintro e w' ⟨rfl,⟨nd,rfl⟩⟩;refine ⟨_,rfl,?_⟩) | (refine af.gl (some 37) Tryz.func109 #[.agg #[.int .i64 y,.slice Y z.length a0],.int .i64 a2] ?_;(with_reducible refine (cO.calls k2 y _ _ z a2 am _ ?side1 ?side2 ew.out).mono ?_);(case side1=>exact af.Cw (Kd.bG ao.out HB.out));(case side2=>exact ap.out);rintro e f8 ⟨rfl,hb⟩;refine ⟨_,rfl,?_⟩;replace X:=ae.mk (Kd.dQ (af.Sw X.out) hb);replace j:=af.bb j hb;replace HB:=af.lb HB hb;(try clear hb);(try clear d4);(try clear hk);(try clear hi);obtain ⟨e1,e2,e3,e4⟩:=af.bR j.out) | (refine af.gl (some 43) Tryz.func25 #[.int .i64 a2] ?_;(with_reducible refine (b6.calls k2 a2 bv _ ex.out).mono ?_);rintro e w' ⟨rfl,⟨nd,rfl⟩⟩;refine ⟨_,rfl,?_⟩) | (refine af.gl (some 46) Tryz.func113 #[u3,.int .i64 (wrap64 (M - am)),.int .i64 (wrap64 (bv - am)),.int .i64 1] ?_;(with_reducible refine (bO.calls k2 u3 b1 (wrap64 (M - am)) (wrap64 (bv - am)) 1 ce a6 y _ _ z w _ (af.Lw HB.out) (af.Sw X.out) (af.Bw j.out) bi.out eQ.out).mono ?_);rintro e f3 ⟨rfl,e8,ea,eb⟩;refine ⟨_,rfl,?_⟩;replace X:=ae.mk e8;replace j:=ae.mk ea;replace HB:=ae.mk eb;clear e8 ea eb))
        go_roundg k2
        case measure=>have:=ca.out;have:=du.out;omega
        case rel=>exact ⟨(ce),(wrap64 (a2+1)),af.F,H',⟨by have:=ca.out;have:=du.out;omega⟩,⟨af.Sw X.out⟩,⟨af.Bw j.out⟩,⟨af.Lw HB.out⟩⟩
       ·rw [if_neg b4] at H
        have d0:decide (a2≤b2) = false:=decide_eq_false b4
        clear b4
        obtain rfl:=Option.some.inj H
        obtain ⟨ec,ed,ee,ef⟩:=af.bR j.out
        go_wp2_with (first | (refine af.gl (some 31) Tryz.func24 #[.int .i64 y] ?_;(with_reducible refine (br.calls y b2 _ dv.out).mono ?_);rintro e w' ⟨rfl,⟨nd,rfl⟩⟩;refine ⟨_,rfl,?_⟩))
        go_ret
        exact ⟨_,af.E,by (with_reducible repeat (first | apply Kd.fE | apply Kd.fF | apply Kd.ez));exact X.out,af.L⟩
mutual
def aQ.l0:Nat→List (List Int)→Int→Int→Int→Int→Int→Option (Int)
 | 0,_,_,_,_,_,_=>none
 | k+1,z,M,X,Y,x8,j=>if j < (z.length:Int) then (aQ.l1 k z M X Y x8 j x8 0) else (some Y)
def aQ.l1:Nat→List (List Int)→Int→Int→Int→Int→Int→Int→Int→Option (Int)
 | 0,_,_,_,_,_,_,_,_=>none
 | k+1,z,M,X,Y,x8,j,a0,y=>if 0≤j then (if j < (z.length:Int) then (if y < ((cw z j).length:Int) then (if 0≤y then (aQ.l1 k z M X (wrap64 (Y+(wrap64 ((rd (cw z j) y) * a0)))) x8 j (wrap64 (a0 * X)) (wrap64 (y+1))) else (none)) else (aQ.l0 k z M X Y (wrap64 (x8 * M)) (wrap64 (j+1)))) else (none)) else (none)
end
def aQ.f (k:Nat) (l0:List (List Int)) (j:Int) (a2:Int):Option (Int):=aQ.l0 k l0 j a2 0 1 0
set_option maxHeartbeats 8000000 in
set_option maxRecDepth 100000 in
theorem aQ.calls (k:Nat) (A0:Option Addr) (c0:Nat) (l0:List (List Int)) (a1:Int) (a2:Int) (r:Int) (w:World) (aS:Kd.C (Kd.slice 3 (Kd.int .i64)) w A0 l0.length l0) (b0:l0.length≤c0) (h:aQ.f k l0 a1 a2 = some r) :
  Calls Tryz.prog 49 #[.slice A0 l0.length c0,.int .i64 a1,.int .i64 a2] w fun e w'=>e = .returned (.int .i64 r)∧cQ w w':=by
 have aO:=ae.mk aS
 have ce:=ae.mk b0
 clear aS b0
 unfold aQ.f at h
 have H:=h
 clear h
 have H':=ae.mk H
 clear H
 go_enter Tryz.func49,Tryz.ntmps49
 go_wp2
 go_loopg [7,8,9] k (fun kq v7 v8 v9 w'=>∃ (a8:Int) (a3:Int) (j:Int),v7 = .int .i64 a8∧v8 = .int .i64 a3∧v9 = .int .i64 j∧ae (aQ.l0 kq l0 a1 a2 a8 a3 j = some r)∧ae (kq≤k)∧cQ w w')
 case atStart=>exact ⟨(0),(1),(0),af.F,af.F,af.F,H',⟨Nat.le_refl _⟩,af.G⟩
 case round =>
  clear H'
  obtain ⟨a8,a3,j,rfl,rfl,rfl,HA,aw,⟨m1,rfl⟩⟩:=hrel
  cases gk with
  | zero=>exact absurd HA.out (by simp [aQ.l0])
  | succ k1 =>
   have H:=HA.out
   clear HA
   simp only [aQ.l0] at H
   by_cases c4:j < (l0.length:Int)
   ·rw [if_pos c4] at H
    have b1:=decide_eq_true c4
    clear c4
    have H':=ae.mk H
    clear H
    go_wp2
    go_loopg [7,10,11] k1 (fun kq v7 v10 v11 w'=>∃ (a4:Int) (X:Int) (y:Int),v7 = .int .i64 a4∧v10 = .int .i64 X∧v11 = .int .i64 y∧ae (aQ.l1 kq l0 a1 a2 a4 a3 j X y = some r)∧ae (kq≤k1)∧cQ w w')
    case atStart=>exact ⟨(a8),(a3),(0),af.F,af.F,af.F,H',⟨Nat.le_refl _⟩,af.G⟩
    case round =>
     clear H'
     obtain ⟨a4,X,y,rfl,rfl,rfl,HA,aB,⟨m2,rfl⟩⟩:=hrel
     cases gk with
     | zero=>exact absurd HA.out (by simp [aQ.l1])
     | succ k2 =>
      have H:=HA.out
      clear HA
      simp only [aQ.l1] at H
      obtain ⟨c5,H⟩:=af.ip H
      have bv:=decide_eq_true c5
      clear c5
      obtain ⟨c6,H⟩:=af.ip H
      have ca:=decide_eq_true c6
      clear c6
      by_cases c7:y < ((cw l0 j).length:Int)
      ·rw [if_pos c7] at H
       have b2:=decide_eq_true c7
       clear c7
       obtain ⟨c8,H⟩:=af.ip H
       have cb:=decide_eq_true c8
       clear c8
       have H':=ae.mk H
       clear H
       have Y:0≤(j:Int):=af.D
       have a0:j < (l0.length:Int):=af.D
       obtain ⟨a9,aF,aL,aa,a5,z,M⟩:=gM aO.out j Y a0
       cases aa
       have ab:=ae.mk M
       have al:=ae.mk z
       clear M z
       replace Y:=eq_true Y
       replace a0:=eq_true a0
       have am:0≤(j:Int):=af.D
       have ao:j < (l0.length:Int):=af.D
       obtain ⟨aP,bd,bi,b3,ap,a6,a7⟩:=gM aO.out j am ao
       obtain rfl:a9 = aP:=(by injection b3)
       have ar:=ae.mk a7
       have b4:=ae.mk a6
       clear a7 a6
       replace am:=eq_true am
       replace ao:=eq_true ao
       have aR:=Option.some.inj (a5.symm.trans ap)
       injection aR with aR bm bo
       subst aR
       subst bo
       clear bm
       obtain ⟨bs,ba,bc,cc,cd⟩:=af.ai ar.out y
       cases ba
       go_wp2
       go_roundg k2
       case measure=>have:=aw.out;have:=aB.out;omega
       case rel=>exact ⟨(wrap64 (a4+(wrap64 ((rd (cw l0 j) y) * X)))),(wrap64 (X * a2)),(wrap64 (y+1)),af.F,af.F,af.F,H',⟨by have:=aw.out;have:=aB.out;omega⟩,af.G⟩
      ·rw [if_neg c7] at H
       have b2:decide (y < ((cw l0 j).length:Int)) = false:=decide_eq_false c7
       clear c7
       have H':=ae.mk H
       clear H
       have Y:0≤(j:Int):=af.D
       have a0:j < (l0.length:Int):=af.D
       obtain ⟨a9,aF,aL,aa,a5,z,M⟩:=gM aO.out j Y a0
       cases aa
       have ab:=ae.mk M
       have al:=ae.mk z
       clear M z
       replace Y:=eq_true Y
       replace a0:=eq_true a0
       go_wp2
       go_roundg k2
       case measure=>have:=aw.out;have:=aB.out;omega
       case rel=>exact ⟨(a4),(wrap64 (a3 * a1)),(wrap64 (j+1)),af.F,af.F,af.F,H',⟨by have:=aw.out;have:=aB.out;omega⟩,af.G⟩
   ·rw [if_neg c4] at H
    have b1:decide (j < (l0.length:Int)) = false:=decide_eq_false c4
    clear c4
    obtain rfl:=Option.some.inj H
    go_wp2
    go_ret
    exact ⟨af.F,af.G⟩
def dz.f (a0:Int) (z:Int):Option (Int):=(bu.f 8 a0).bind fun j=>(if j = true then ((bH.f z 0 7).bind fun y=>(if y = true then (if 0≤(IntKind.u64.wrap (z)) then (some (Go.bits .or .i64 a0 (shl .i64 1 (IntKind.u64.wrap (z))))) else (none)) else (some a0))) else (some a0))
set_option maxHeartbeats 8000000 in
set_option maxRecDepth 100000 in
theorem dz.calls (a0:Int) (a1:Int) (r:Int) (w:World) (h:dz.f a0 a1 = some r) :
  Calls Tryz.prog 66 #[.int .i64 a0,.int .i64 a1] w fun e w'=>e = .returned (.int .i64 r)∧cQ w w':=by
 unfold dz.f at h
 have H:=h
 clear h
 obtain ⟨a3,A3,H⟩:=af.be H
 (try dsimp only at H)
 by_cases c4:a3 = true
 ·subst c4
  replace H:((bH.f a1 0 7).bind fun X=>(if X = true then (if 0≤(IntKind.u64.wrap (a1)) then (some (Go.bits .or .i64 a0 (shl .i64 1 (IntKind.u64.wrap (a1))))) else (none)) else (some a0))) = some r:=by rw [if_pos rfl] at H;exact H
  obtain ⟨X,A5,H⟩:=af.be H
  (try dsimp only at H)
  by_cases c6:X = true
  ·subst c6
   replace H:(if 0≤(IntKind.u64.wrap (a1)) then (some (Go.bits .or .i64 a0 (shl .i64 1 (IntKind.u64.wrap (a1))))) else (none)) = some r:=by rw [if_pos rfl] at H;exact H
   obtain ⟨j,z⟩:∃ j_:Int,(IntKind.u64.wrap (a1)) = j_:=⟨_,rfl⟩
   replace H:(if 0≤(j) then (some (Go.bits .or .i64 a0 (shl .i64 1 (j)))) else (none)) = some r:=by first | (rw [z] at H;exact H) | (simp only [z] at H ⊢;exact H)
   (try rw [z] at A3)
   (try rw [z] at A5)
   obtain ⟨c8,H⟩:=af.ip H
   have a9:=eq_true c8
   have aa:decide (0≤(j)) = true:=decide_eq_true c8
   clear c8
   obtain ⟨M,y⟩:∃ j_:Int,(shl .i64 1 (j)) = j_:=⟨_,rfl⟩
   replace H:(some (Go.bits .or .i64 a0 (M))) = some r:=by first | (rw [y] at H;exact H) | (simp only [y] at H ⊢;exact H)
   (try rw [y] at A3)
   (try rw [y] at A5)
   have Y:(IntKind.i64.wrap (1 * 2 ^ min (j).toNat 64)) = M:=y
   have a2:(j)≤64→(IntKind.i64.wrap (1 * 2 ^ (j).toNat)) = M:=gi y
   have a5:(IntKind.i64.wrap (2 ^ min (j).toNat 64)) = M:=by have h_:=Y;rw [Int.one_mul] at h_;exact h_
   have a6:(j)≤64→(IntKind.i64.wrap (2 ^ (j).toNat)) = M:=fun a4=>by have h_:=a2 a4;rw [Int.one_mul] at h_;exact h_
   have a7:(wrap64 (1 * 2 ^ min (j).toNat 64)) = M:=(bw _).symm.trans Y
   have a8:(j)≤64→(wrap64 (1 * 2 ^ (j).toNat)) = M:=fun h_=>(bw _).symm.trans (a2 h_)
   obtain rfl:=Option.some.inj H
   go_enter Tryz.func66,Tryz.ntmps66
   go_wp2_with (first | ((with_reducible refine ax (f:=87) rfl ?_);refine af.gl (some 6) Tryz.func87 #[.int .i64 8,.int .i64 a0] ?_;(with_reducible refine (bu.calls 8 a0 true _ A3.out).mono ?_);rintro e w' ⟨rfl,⟨nd,rfl⟩⟩;refine ⟨_,rfl,?_⟩) | (go_at_call 94;(with_reducible refine (bH.calls a1 0 7 true _ A5.out).mono ?_);rintro e w' ⟨rfl,⟨nd,rfl⟩⟩))
   go_ret
   exact ⟨by first | rfl | (simp;done) | (simp only [← z,← y] <;> (first | rfl | simp)) | (simp [*];done),af.G⟩
  ·replace c6:=Bool.eq_false_iff.mpr c6
   subst c6
   replace H:(some a0) = some r:=by rw [if_neg (show ¬ (false = true) by decide)] at H;exact H
   obtain rfl:=Option.some.inj H
   go_enter Tryz.func66,Tryz.ntmps66
   go_wp2_with (first | ((with_reducible refine ax (f:=87) rfl ?_);refine af.gl (some 6) Tryz.func87 #[.int .i64 8,.int .i64 a0] ?_;(with_reducible refine (bu.calls 8 a0 true _ A3.out).mono ?_);rintro e w' ⟨rfl,⟨nd,rfl⟩⟩;refine ⟨_,rfl,?_⟩) | (go_at_call 94;(with_reducible refine (bH.calls a1 0 7 false _ A5.out).mono ?_);rintro e w' ⟨rfl,⟨nd,rfl⟩⟩))
   go_ret
   exact ⟨af.F,af.G⟩
 ·replace c4:=Bool.eq_false_iff.mpr c4
  subst c4
  replace H:(some a0) = some r:=by rw [if_neg (show ¬ (false = true) by decide)] at H;exact H
  obtain rfl:=Option.some.inj H
  go_enter Tryz.func66,Tryz.ntmps66
  go_wp2_with (first | ((with_reducible refine ax (f:=87) rfl ?_);refine af.gl (some 6) Tryz.func87 #[.int .i64 8,.int .i64 a0] ?_;(with_reducible refine (bu.calls 8 a0 false _ A3.out).mono ?_);rintro e w' ⟨rfl,⟨nd,rfl⟩⟩;refine ⟨_,rfl,?_⟩))
  go_ret
  exact ⟨af.F,af.G⟩
def av (w0 W:World) (g:Nat) (f0:List Int) (f1:Int) (f2:Int):Prop:=∃ j c0,W.heap[g]? = some (.cells #[.slice j f0.length c0,.int .i64 f1,.int .i64 f2] 109 (0,0))∧w0.heap.size≤g∧Kd.C (Kd.int .u8) w0 j f0.length f0
theorem av.grown {w0 W:World} {g:Nat} {f0:List Int} {f1:Int} {f2:Int} {W1:World} {row:Option Nat} (h:av w0 W g f0 f1 f2) (hw:W.grownBy W1 row) (hne:some g≠row):av w0 W1 g f0 f1 f2:=by
 obtain ⟨y,c0,hb,hg,j⟩:=h
 exact ⟨y,c0,ep hb hw hne,hg,j⟩
theorem av.kept {w0 W:World} {g:Nat} {f0:List Int} {f1:Int} {f2:Int} {W1:World} {S:Nat→Prop} (h:av w0 W g f0 f1 f2) (hk:Kept W W1 S) (hne:¬ S g):av w0 W1 g f0 f1 f2:=by
 obtain ⟨y,c0,hb,hg,j⟩:=h
 exact ⟨y,c0,sj hb hk hne,hg,j⟩
theorem av.below {w0 W:World} {g:Nat} {f0:List Int} {f1:Int} {f2:Int} {W1:World} (h:av w0 W g f0 f1 f2) (hw:Below W.heap.size W W1):av w0 W1 g f0 f1 f2:=h.grown (jT hw none) (by simp)
theorem av.alloc {w0 W:World} {g:Nat} {f0:List Int} {f1:Int} {f2:Int} (h:av w0 W g f0 f1 f2) (o:Obj):av w0 (W.alloc o) g f0 f1 f2:=h.below (dH (Below.refl _ _) o)
theorem av.drewN {w0 W:World} {g:Nat} {f0:List Int} {f1:Int} {f2:Int} (h:av w0 W g f0 f1 f2) (m:Nat):av w0 (W.drewN m) g f0 f1 f2:=h
theorem av.drew {w0 W:World} {g:Nat} {f0:List Int} {f1:Int} {f2:Int} (h:av w0 W g f0 f1 f2):av w0 W.drew g f0 f1 f2:=h
theorem av.at_ {w0 W:World} {g:Nat} {f0:List Int} {f1:Int} {f2:Int} {w':World} {m:Nat} (hq:W.drewN m = w') (h:av w0 W g f0 f1 f2):av w0 w' g f0 f1 f2:=by subst hq;exact av.drewN h m
theorem av.apart {w0 W:World} {g:Nat} {f0:List Int} {f1:Int} {f2:Int} {α:Type} {d:Kd α} {e:Nat} {base:Nat} {ok:Nat→Prop} {v:Value} {xs:List α} (h:av w0 W g f0 f1 f2) (ho:d.R e W base ok v xs) (ht:∀ q,q∈e :: d.E→q≠109):d.R e W base (fun k=>ok k∧k≠g) v xs:=by
 obtain ⟨y,c0,hb,hg,j⟩:=h
 exact Kd.cR ho hb ht
theorem av.hJ {w0 W:World} {g:Nat} {f0:List Int} {f1:Int} {f2:Int} {α:Type} {d:Kd α} {e:Nat} {base:Nat} {ok:Nat→Prop} {v:Value} {xs:List α} (h:av w0 W g f0 f1 f2) (ho:d.R e W base ok v xs) (ht:e≠109):some g≠v.ownBlock:=by
 obtain ⟨y,c0,hb,hg,j⟩:=h
 exact Kd.jr ho hb ht
theorem av.k6 {w0 W:World} {g:Nat} {f0:List Int} {f1:Int} {f2:Int} {α:Type} {d:Kd α} {e:Nat} {base:Nat} {ok:Nat→Prop} {v:Value} {xs:List α} (h:av w0 W g f0 f1 f2) (ho:d.S e W base ok v xs) (ht:∀ q,q∈e :: d.E→q≠109):d.S e W base (fun k=>ok k∧k≠g) v xs:=by
 obtain ⟨y,c0,hb,hg,j⟩:=h
 exact Kd.tO ho hb ht
theorem av.ua {w0 W:World} {g:Nat} {f0:List Int} {f1:Int} {f2:Int} {α:Type} {d:Kd α} {e:Nat} {base:Nat} {ok:Nat→Prop} {v:Value} {xs:List α} (h:av w0 W g f0 f1 f2) (ho:d.S e W base ok v xs) (ht:e≠109):some g≠v.ownBlock:=by
 obtain ⟨y,c0,hb,hg,j⟩:=h
 exact Kd.vV ho hb ht
theorem av.lt {w0 W:World} {g:Nat} {f0:List Int} {f1:Int} {f2:Int} (h:av w0 W g f0 f1 f2):g < W.heap.size:=by
 obtain ⟨y,c0,hb,hg,j⟩:=h
 exact jU hb
theorem av.ge {w0 W:World} {g:Nat} {f0:List Int} {f1:Int} {f2:Int} (h:av w0 W g f0 f1 f2):w0.heap.size≤g:=by
 obtain ⟨y,c0,hb,hg,j⟩:=h
 exact hg
theorem av.sJ {w0 W:World} {g:Nat} {f0:List Int} {f1:Int} {f2:Int} {a:Nat} {cs:Array Value} {t:TypeId} {fr:Nat×Nat} (h:av w0 W g f0 f1 f2) (j:W.heap[a]? = some (.cells cs t fr)) (ht:t≠109):g≠a:=by
 obtain ⟨M,c0,hb,hg,z⟩:=h
 rintro rfl
 rw [hb] at j
 injection j with j
 injection j with _ y
 exact ht y.symm
theorem av.xw {w0 W:World} {g:Nat} {f0:List Int} {f1:Int} {f2:Int} {p:Addr} (h:av w0 W g f0 f1 f2) (hne:g≠p.block) (u:Value):av w0 (W.setCell p u) g f0 f1 f2:=by
 obtain ⟨y,c0,hb,hg,j⟩:=h
 exact ⟨y,c0,ql hb hne u,hg,j⟩
theorem mR {W:World} {g:Nat} {j:Option Addr} {c0:Nat} {f0:List Int} {f1:Int} {f2:Int} (h:W.heap[g]? = some (.cells #[.slice j f0.length c0,.int .i64 f1,.int .i64 f2] 109 (0,0))):W.cell? ⟨g,0,none⟩ = some (.slice j f0.length c0):=(ak h 0).trans rfl
theorem mS {W:World} {g:Nat} {j:Option Addr} {c0:Nat} {f0:List Int} {f1:Int} {f2:Int} (h:W.heap[g]? = some (.cells #[.slice j f0.length c0,.int .i64 f1,.int .i64 f2] 109 (0,0))):W.cell? ⟨g,1,none⟩ = some (.int .i64 f1):=(ak h 1).trans rfl
theorem av.wg {w0 W:World} {g:Nat} {f0:List Int} {f1:Int} {f2:Int} (h:av w0 W g f0 f1 f2) (x:Int):av w0 (W.setCell ⟨g,1,none⟩ (.int .i64 x)) g f0 x f2:=by
 obtain ⟨y,c0,hb,hg,j⟩:=h
 exact ⟨y,c0,by simpa using nT hb 1 (.int .i64 x),hg,j⟩
theorem mT {W:World} {g:Nat} {j:Option Addr} {c0:Nat} {f0:List Int} {f1:Int} {f2:Int} (h:W.heap[g]? = some (.cells #[.slice j f0.length c0,.int .i64 f1,.int .i64 f2] 109 (0,0))):W.cell? ⟨g,2,none⟩ = some (.int .i64 f2):=(ak h 2).trans rfl
theorem av.wh {w0 W:World} {g:Nat} {f0:List Int} {f1:Int} {f2:Int} (h:av w0 W g f0 f1 f2) (x:Int):av w0 (W.setCell ⟨g,2,none⟩ (.int .i64 x)) g f0 f1 x:=by
 obtain ⟨y,c0,hb,hg,j⟩:=h
 exact ⟨y,c0,by simpa using nT hb 2 (.int .i64 x),hg,j⟩
theorem av.new (w0 W:World) (j:Option Addr) (c0:Nat) (f0:List Int) (f1:Int) (f2:Int) (hB:Below w0.heap.size w0 W) (y:Kd.C (Kd.int .u8) w0 j f0.length f0):av w0 (W.alloc (.cells #[.slice j f0.length c0,.int .i64 f1,.int .i64 f2] 109)) W.heap.size f0 f1 f2:=⟨j,c0,by simpa using heap_alloc_new W _,hB.size,y⟩
def e5.f (z:List Int) (y:Int) (j:Int):Option (Int×Int×Int):=if y < (z.length:Int) then (if 0≤y then (some (Go.bits .and .i64 (wrap64 ((Go.bits .and .i64 (Go.bits .xor .i64 ((wrap64 ((wrap64 (j * 6364136223846793005))+1442695040888963407)) / 8589934592) ((wrap64 ((wrap64 (j * 6364136223846793005))+1442695040888963407)) / 35184372088832)) 255)+(wrap64 (rd z y)))) 255,wrap64 (y+1),wrap64 ((wrap64 (j * 6364136223846793005))+1442695040888963407))) else (none)) else (some (Go.bits .and .i64 (Go.bits .xor .i64 ((wrap64 ((wrap64 (j * 6364136223846793005))+1442695040888963407)) / 8589934592) ((wrap64 ((wrap64 (j * 6364136223846793005))+1442695040888963407)) / 35184372088832)) 255,y,wrap64 ((wrap64 (j * 6364136223846793005))+1442695040888963407)))
set_option maxHeartbeats 8000000 in
set_option maxRecDepth 100000 in
theorem e5.calls (g:Nat) (M:List Int) (z:Int) (a0:Int) (r1:Int) (r2:Int) (r3:Int) (w0 w:World) (hI:av w0 w g M z a0) (hB:Below w0.heap.size w0 w) (h:e5.f M z a0 = some (r1,r2,r3)) :
  Calls Tryz.prog 131 #[.pointer (some ⟨g,0,none⟩)] w fun e w'=>e = .returned (.int .i64 r1)∧av w0 w' g M r2 r3∧Below w0.heap.size w0 w'∧aq w w' g none:=by
 have a4:=ae.mk hI
 have HK:=ae.mk (aq.refl w g none)
 have HL:=ae.mk hB.size
 clear hI
 have b2:=ae.mk hB.size
 have HB:=ae.mk hB
 clear hB
 unfold e5.f at h
 have H:=h
 clear h
 by_cases c2:z < (M.length:Int)
 ·rw [if_pos c2] at H
  have a6:=decide_eq_true c2
  clear c2
  obtain ⟨c3,H⟩:=af.ip H
  have b1:=decide_eq_true c3
  clear c3
  simp only [Option.some.injEq,Prod.mk.injEq] at H
  obtain ⟨rfl,rfl,rfl⟩:=H
  obtain ⟨ab,al,X,a7,a3⟩:=a4.out
  have am:=mR X
  have ao:=mS X
  have ap:=mT X
  have ar:=an X 1
  have aw:=an X 2
  clear X a7
  have a1:0≤(z:Int):=af.D
  have a2:z < (M.length:Int):=af.D
  obtain ⟨a5,a8,j⟩:=Kd.dS a3 z a1 a2
  cases a8
  have y:a5.block≠g:=Nat.ne_of_lt (Nat.lt_of_lt_of_le (by have:=World.block_lt_of_cell? _ _ j;first | rwa [gX] at this | exact this) (av.ge a4.out))
  replace j:=fQ HB.out j
  replace j:=(cell_far (p:=⟨g,2,none⟩) (by first | (rw [gX];exact y) | (show (Addr.add _ _).block≠_;rw [gX];exact y) | exact y) (.int .i64 (wrap64 ((wrap64 (a0 * 6364136223846793005))+1442695040888963407)))).trans j
  (try have a9:=fun (n_:Nat)=>(show (((w.drewN n_).setCell ⟨g,2,none⟩ (.int .i64 (wrap64 ((wrap64 (a0 * 6364136223846793005))+1442695040888963407))))).cell? _ = some _ from j))
  clear y
  replace a1:=eq_true a1
  replace a2:=eq_true a2
  go_enter Tryz.func131,Tryz.ntmps131
  go_wp2
  repeat (go_quiet (fail);try go_wp2)
  go_ret
  exact ⟨af.E,af.I,af.J HB,af.K HK⟩
 ·rw [if_neg c2] at H
  have a6:decide (z < (M.length:Int)) = false:=decide_eq_false c2
  clear c2
  simp only [Option.some.injEq,Prod.mk.injEq] at H
  obtain ⟨rfl,rfl,rfl⟩:=H
  obtain ⟨aB,aF,Y,aa,aL⟩:=a4.out
  have aO:=mR Y
  have aP:=mS Y
  have aR:=mT Y
  have aS:=an Y 1
  have b0:=an Y 2
  clear Y aa
  go_enter Tryz.func131,Tryz.ntmps131
  go_wp2
  repeat (go_quiet (fail);try go_wp2)
  go_ret
  exact ⟨af.E,af.I,af.J HB,af.K HK⟩
def dr.l0:Nat→List Int→Int→Int→Option (List Int×Int×Int)
 | 0,_,_,_=>none
 | k+1,j,z,y=>if y < (j.length:Int) then (if y < 4000 then (if 0≤y then (dr.l0 k j (Go.bits .and .i64 (wrap64 ((wrap64 ((wrap64 (z * 131))+(wrap64 (rd j y))))+7)) 1073741823) (wrap64 (y+1))) else (none)) else (some (j,0,z))) else (some (j,0,z))
def dr.f (k:Nat) (l0:List Int):Option (List Int×Int×Int):=dr.l0 k l0 (wrap64 (26583+(l0.length:Int))) 0
set_option maxHeartbeats 8000000 in
set_option maxRecDepth 100000 in
theorem dr.calls (k:Nat) (A0:Option Addr) (c0:Nat) (l0:List Int) (r1:List Int) (r2:Int) (r3:Int) (w0 w:World) (hB:Below w0.heap.size w0 w) (a5:Kd.C (Kd.int .u8) w0 A0 l0.length l0) (a6:l0.length≤c0) (h:dr.f k l0 = some (r1,r2,r3)) :
  Calls Tryz.prog 74 #[.slice A0 l0.length c0] w fun e w'=>∃ g_:Nat,e = .returned (.pointer (some ⟨g_,0,none⟩))∧av w0 w' g_ r1 r2 r3∧Below w0.heap.size w0 w'∧Below w.heap.size w w':=by
 have al:=Tryz.underlying109
 have a0:=ae.mk a5
 have aF:=ae.mk a6
 clear a5 a6
 have y:=ae.mk (Below.refl w.heap.size w)
 have a7:=ae.mk hB.size
 have HB:=ae.mk hB
 clear hB
 unfold dr.f at h
 have H:=h
 clear h
 have H':=ae.mk H
 clear H
 go_enter Tryz.func74,Tryz.ntmps74
 go_wp2
 go_loopg [3,4] k (fun kq v3 v4 w'=>∃ (z:Int) (j:Int),v3 = .int .i64 z∧v4 = .int .i64 j∧ae (dr.l0 kq l0 z j = some (r1,r2,r3))∧ae (kq≤k)∧ae (Below w0.heap.size w0 w')∧ae (Below w.heap.size w w'))
 case atStart=>exact ⟨(wrap64 (26583+(l0.length:Int))),(0),af.F,af.F,H',⟨Nat.le_refl _⟩,⟨af.Lw HB.out⟩,⟨af.Lw y.out⟩⟩
 case round =>
  clear H'
  obtain ⟨z,j,rfl,rfl,HA,a8,HB,y⟩:=hrel
  cases gk with
  | zero=>exact absurd HA.out (by simp [dr.l0])
  | succ k1 =>
   have H:=HA.out
   clear HA
   simp only [dr.l0] at H
   by_cases c2:j < (l0.length:Int)
   ·rw [if_pos c2] at H
    have a9:=decide_eq_true c2
    clear c2
    by_cases c3:j < 4000
    ·rw [if_pos c3] at H
     have aa:=decide_eq_true c3
     clear c3
     obtain ⟨c4,H⟩:=af.ip H
     have ar:=decide_eq_true c4
     clear c4
     have H':=ae.mk H
     clear H
     obtain ⟨am,ab,Y,aw,aB⟩:=af.ai a0.out j
     cases ab
     replace Y:=fQ HB.out Y
     go_wp2
     go_roundg k1
     case measure=>have:=a8.out;omega
     case rel=>exact ⟨(Go.bits .and .i64 (wrap64 ((wrap64 ((wrap64 (z * 131))+(wrap64 (rd l0 j))))+7)) 1073741823),(wrap64 (j+1)),af.F,af.F,H',⟨by have:=a8.out;omega⟩,⟨af.Lw HB.out⟩,⟨af.Lw y.out⟩⟩
    ·rw [if_neg c3] at H
     have aa:decide (j < 4000) = false:=decide_eq_false c3
     clear c3
     simp only [Option.some.injEq,Prod.mk.injEq] at H
     obtain ⟨rfl,rfl,rfl⟩:=H
     go_wp2_with (first | (refine af.bx 31 #[.slice A0 l0.length c0,.int .i64 0,.int .i64 z] 109 ?_;intro M hg w5 hbox hb;replace HB:=af.lb HB hb;have ao:=ae.mk hbox;have a1:=ae.mk ((by rw [hg];exact (aj (af.Lw y.out)):w.heap.size≤M));have a2:=ae.mk ((Nat.le_trans a7.out (by rw [hg];exact (aj (af.Lw y.out)):w.heap.size≤M):w0.heap.size≤M));replace y:=ae.mk (az y.out hb);clear hb hbox hg))
     go_ret
     exact ⟨_,rfl,(show av w0 _ M l0 0 z from ⟨_,_,af.B,a2.out,a0.out⟩),af.L,by repeat (first | (with_reducible first | exact y.out | apply dH | apply dA | apply bU | refine dK ?_ a1.out) | exact y.out)⟩
   ·rw [if_neg c2] at H
    have a9:decide (j < (l0.length:Int)) = false:=decide_eq_false c2
    clear c2
    simp only [Option.some.injEq,Prod.mk.injEq] at H
    obtain ⟨rfl,rfl,rfl⟩:=H
    go_wp2_with (first | (refine af.bx 31 #[.slice A0 l0.length c0,.int .i64 0,.int .i64 z] 109 ?_;intro X hg w6 hbox hb;replace HB:=af.lb HB hb;have ap:=ae.mk hbox;have a3:=ae.mk ((by rw [hg];exact (aj (af.Lw y.out)):w.heap.size≤X));have a4:=ae.mk ((Nat.le_trans a7.out (by rw [hg];exact (aj (af.Lw y.out)):w.heap.size≤X):w0.heap.size≤X));replace y:=ae.mk (az y.out hb);clear hb hbox hg))
    go_ret
    exact ⟨_,rfl,(show av w0 _ X l0 0 z from ⟨_,_,af.B,a4.out,a0.out⟩),af.L,by repeat (first | (with_reducible first | exact y.out | apply dH | apply dA | apply bU | refine dK ?_ a3.out) | exact y.out)⟩
def aM.f (j:List Int) (a0:Int) (a2:Int) (a1:Int):Option (Int×Int×Int):=if a1≤0 then (some (0,a0,a2)) else (if a1≤256 then ((e5.f j a0 a2).bind fun y=>(if a1 = 0 then (none) else (some (Int.tmod y.1 a1,y.2.1,y.2.2)))) else ((e5.f j a0 a2).bind fun z=>((e5.f j z.2.1 z.2.2).bind fun M=>((e5.f j M.2.1 M.2.2).bind fun X=>((e5.f j X.2.1 X.2.2).bind fun Y=>(if a1 = 0 then (none) else (some (Int.tmod (wrap64 ((wrap64 ((wrap64 ((wrap64 (z.1 * 16777216))+(wrap64 (M.1 * 65536))))+(wrap64 (X.1 * 256))))+Y.1)) a1,Y.2.1,Y.2.2))))))))
set_option maxHeartbeats 8000000 in
set_option maxRecDepth 100000 in
theorem aM.calls (g:Nat) (j:List Int) (y:Int) (z:Int) (M:Int) (r1:Int) (r2:Int) (r3:Int) (w0 w:World) (hI:av w0 w g j y z) (hB:Below w0.heap.size w0 w) (h:aM.f j y z M = some (r1,r2,r3)) :
  Calls Tryz.prog 80 #[.pointer (some ⟨g,0,none⟩),.int .i64 M] w fun e w'=>e = .returned (.int .i64 r1)∧av w0 w' g j r2 r3∧Below w0.heap.size w0 w'∧aq w w' g none:=by
 have X:=ae.mk hI
 have HK:=ae.mk (aq.refl w g none)
 have HL:=ae.mk hB.size
 clear hI
 have aa:=ae.mk hB.size
 have HB:=ae.mk hB
 clear hB
 unfold aM.f at h
 have H:=h
 clear h
 by_cases c3:M≤0
 ·rw [if_pos c3] at H
  have a2:=decide_eq_true c3
  clear c3
  simp only [Option.some.injEq,Prod.mk.injEq] at H
  obtain ⟨rfl,rfl,rfl⟩:=H
  go_enter Tryz.func80,Tryz.ntmps80
  go_wp2
  go_ret
  exact ⟨af.E,af.I,af.J HB,af.K HK⟩
 ·rw [if_neg c3] at H
  have a2:decide (M≤0) = false:=decide_eq_false c3
  clear c3
  by_cases c4:M≤256
  ·rw [if_pos c4] at H
   have a3:=decide_eq_true c4
   clear c4
   obtain ⟨⟨t102,t103,t104⟩,A5,H⟩:=af.be H
   (try dsimp only at H)
   by_cases c6:M = 0
   ·rw [if_pos c6] at H
    exact absurd H (by simp)
   ·rw [if_neg c6] at H
    have a8:(M == 0) = false:=beq_eq_false_iff_ne.mpr c6
    have a9:(M != 0) = true:=bne_iff_ne.mpr c6
    simp only [Option.some.injEq,Prod.mk.injEq] at H
    obtain ⟨rfl,rfl,rfl⟩:=H
    go_enter Tryz.func80,Tryz.ntmps80
    go_wp2_with (first | (refine af.gl (some 14) Tryz.func131 #[.pointer (some ⟨g,0,none⟩)] ?_;(with_reducible refine (e5.calls g j y z t102 t103 t104 w0 _ ?side1 ?side2 A5.out).mono ?_);(case side1=>exact af.I);(case side2=>exact af.J HB);rintro e w7 ⟨rfl,hi,hb,hk⟩;refine ⟨_,rfl,?_⟩;replace HK:=ae.mk (aq.trans (af.K HK) hk (.inl rfl));replace HB:=ae.mk hb;replace X:=ae.mk hi;(try clear hb);(try clear Y);(try clear hk);(try clear hi)))
    go_ret
    exact ⟨af.E,af.I,af.J HB,af.K HK⟩
  ·rw [if_neg c4] at H
   have a3:decide (M≤256) = false:=decide_eq_false c4
   clear c4
   obtain ⟨⟨t105,t106,t107⟩,A8,H⟩:=af.be H
   (try dsimp only at H)
   obtain ⟨⟨t108,t109,t110⟩,A9,H⟩:=af.be H
   (try dsimp only at H)
   obtain ⟨⟨t111,t112,t113⟩,a4,H⟩:=af.be H
   (try dsimp only at H)
   obtain ⟨⟨t114,t115,t116⟩,a5,H⟩:=af.be H
   (try dsimp only at H)
   by_cases a0:M = 0
   ·rw [if_pos a0] at H
    exact absurd H (by simp)
   ·rw [if_neg a0] at H
    have a6:(M == 0) = false:=beq_eq_false_iff_ne.mpr a0
    have a7:(M != 0) = true:=bne_iff_ne.mpr a0
    simp only [Option.some.injEq,Prod.mk.injEq] at H
    obtain ⟨rfl,rfl,rfl⟩:=H
    go_enter Tryz.func80,Tryz.ntmps80
    go_wp2_with (first | (refine af.gl (some 18) Tryz.func131 #[.pointer (some ⟨g,0,none⟩)] ?_;(with_reducible refine (e5.calls g j y z t105 t106 t107 w0 _ ?side1 ?side2 A8.out).mono ?_);(case side1=>exact af.I);(case side2=>exact af.J HB);rintro e ab ⟨rfl,hi,hb,hk⟩;refine ⟨_,rfl,?_⟩;replace HK:=ae.mk (aq.trans (af.K HK) hk (.inl rfl));replace HB:=ae.mk hb;replace X:=ae.mk hi;(try clear hb);(try clear Y);(try clear hk);(try clear hi)) | (refine af.gl (some 20) Tryz.func131 #[.pointer (some ⟨g,0,none⟩)] ?_;(with_reducible refine (e5.calls g j t106 t107 t108 t109 t110 w0 _ ?side1 ?side2 A9.out).mono ?_);(case side1=>exact af.I);(case side2=>exact af.J HB);rintro e al ⟨rfl,hi,hb,hk⟩;refine ⟨_,rfl,?_⟩;replace HK:=ae.mk (aq.trans (af.K HK) hk (.inl rfl));replace HB:=ae.mk hb;replace X:=ae.mk hi;(try clear hb);(try clear Y);(try clear hk);(try clear hi)) | (refine af.gl (some 22) Tryz.func131 #[.pointer (some ⟨g,0,none⟩)] ?_;(with_reducible refine (e5.calls g j t109 t110 t111 t112 t113 w0 _ ?side1 ?side2 a4.out).mono ?_);(case side1=>exact af.I);(case side2=>exact af.J HB);rintro e am ⟨rfl,hi,hb,hk⟩;refine ⟨_,rfl,?_⟩;replace HK:=ae.mk (aq.trans (af.K HK) hk (.inl rfl));replace HB:=ae.mk hb;replace X:=ae.mk hi;(try clear hb);(try clear Y);(try clear hk);(try clear hi)) | (refine af.gl (some 24) Tryz.func131 #[.pointer (some ⟨g,0,none⟩)] ?_;(with_reducible refine (e5.calls g j t112 t113 t114 t115 t116 w0 _ ?side1 ?side2 a5.out).mono ?_);(case side1=>exact af.I);(case side2=>exact af.J HB);rintro e ao ⟨rfl,hi,hb,hk⟩;refine ⟨_,rfl,?_⟩;replace HK:=ae.mk (aq.trans (af.K HK) hk (.inl rfl));replace HB:=ae.mk hb;replace X:=ae.mk hi;(try clear hb);(try clear Y);(try clear hk);(try clear hi)))
    go_ret
    exact ⟨af.E,af.I,af.J HB,af.K HK⟩
def cK.f (y:List Int) (z:Int) (M:Int) (l1:List Int):Option (Int×Int×Int):=(aM.f y z M (l1.length:Int)).bind fun j=>(if 0≤j.1 then (if j.1 < (l1.length:Int) then (some (rd l1 j.1,j.2.1,j.2.2)) else (none)) else (none))
set_option maxHeartbeats 8000000 in
set_option maxRecDepth 100000 in
theorem cK.calls (g:Nat) (y:List Int) (z:Int) (M:Int) (A1:Option Addr) (c1:Nat) (l1:List Int) (r1:Int) (r2:Int) (r3:Int) (w0 w:World) (hI:av w0 w g y z M) (hB:Below w0.heap.size w0 w) (a2:Kd.C (Kd.int .i64) w A1 l1.length l1) (a3:l1.length≤c1) (a0:∀ ad,A1 = some ad→0 < l1.length→ad.block≠g) (h:cK.f y z M l1 = some (r1,r2,r3)) :
  Calls Tryz.prog 119 #[.pointer (some ⟨g,0,none⟩),.slice A1 l1.length c1] w fun e w'=>e = .returned (.int .i64 r1)∧av w0 w' g y r2 r3∧Below w0.heap.size w0 w'∧aq w w' g none:=by
 have a5:=ae.mk a2
 have a9:=ae.mk a3
 clear a2 a3
 have a6:=ae.mk hI
 have HK:=ae.mk (aq.refl w g none)
 have HL:=ae.mk hB.size
 clear hI
 have aa:=ae.mk hB.size
 have HB:=ae.mk hB
 clear hB
 unfold cK.f at h
 have H:=h
 clear h
 obtain ⟨⟨t117,t118,t119⟩,A3,H⟩:=af.be H
 (try dsimp only at H)
 obtain ⟨c4,H⟩:=af.ip H
 have a7:=decide_eq_true c4
 clear c4
 obtain ⟨c5,H⟩:=af.ip H
 have a8:=decide_eq_true c5
 clear c5
 simp only [Option.some.injEq,Prod.mk.injEq] at H
 obtain ⟨rfl,rfl,rfl⟩:=H
 go_enter Tryz.func119,Tryz.ntmps119
 go_wp2_with (first | (refine af.gl (some 9) Tryz.func80 #[.pointer (some ⟨g,0,none⟩),.int .i64 (l1.length:Int)] ?_;(with_reducible refine (aM.calls g y z M (l1.length:Int) t117 t118 t119 w0 _ ?side1 ?side2 A3.out).mono ?_);(case side1=>exact af.I);(case side2=>exact af.J HB);rintro e w6 ⟨rfl,hi,hb,hk⟩;refine ⟨_,rfl,?_⟩;replace HK:=ae.mk (aq.trans (af.K HK) hk (.inl rfl));replace HB:=ae.mk hb;replace a6:=ae.mk hi;(try clear hb);(try clear ab);(try clear hk);(try clear hi);have X:0≤(t117:Int):=af.D;have Y:t117 < (l1.length:Int):=af.D;obtain ⟨a1,a4,j⟩:=Kd.dS a5.out t117 X Y;cases a4;replace j:=nB HK.out j (by first | (rw [gX];exact a0 _ rfl (by omega)) | exact a0 _ rfl (by omega) | exact a0 a1 rfl (by omega));replace X:=eq_true X;replace Y:=eq_true Y))
 go_ret
 exact ⟨af.E,af.I,af.J HB,af.K HK⟩
mutual
def aC.l0:Nat→List Int→List Int→Int→Option (List Int)
 | 0,_,_,_=>none
 | k+1,z,y,j=>if j < (z.length:Int) then (aC.l1 k z y j 0) else (some y)
def aC.l1:Nat→List Int→List Int→Int→Int→Option (List Int)
 | 0,_,_,_,_=>none
 | k+1,z,y,j,M=>if M < (y.length:Int) then (if 0≤M then (if 0≤j then (if j < (z.length:Int) then (if (rd y M) < (rd z j) then (aC.l1 k z y j (wrap64 (M+1))) else (if (rd y M) = (rd z j) then (aC.l0 k z y (wrap64 (j+1))) else ((some (([]:List Int):List Int)).bind fun X=>(if M≤(y.length:Int) then ((some (y.drop (M:Int).toNat:List Int)).bind fun Y=>(if X.length+Y.length < 17592186044416 then ((some (X ++ Y:List Int)).bind fun a0=>((some (y.take (M:Int).toNat:List Int)).bind fun a1=>(if a1.length < 17592186044416 then ((some (a1 ++ [rd z j]:List Int)).bind fun a2=>(if a2.length+a0.length < 17592186044416 then (aC.l0 k z (a2 ++ a0) (wrap64 (j+1))) else (none))) else (none)))) else (none))) else (none))))) else (none)) else (none)) else (none)) else ((some (([]:List Int):List Int)).bind fun a3=>(if 0≤M then (if M≤(y.length:Int) then ((some (y.drop (M:Int).toNat:List Int)).bind fun a4=>(if a3.length+a4.length < 17592186044416 then ((some (a3 ++ a4:List Int)).bind fun a5=>((some (y.take (M:Int).toNat:List Int)).bind fun a6=>(if 0≤j then (if j < (z.length:Int) then (if a6.length < 17592186044416 then ((some (a6 ++ [rd z j]:List Int)).bind fun a7=>(if a7.length+a5.length < 17592186044416 then (aC.l0 k z (a7 ++ a5) (wrap64 (j+1))) else (none))) else (none)) else (none)) else (none)))) else (none))) else (none)) else (none)))
end
def aC.f (k:Nat) (l0:List Int):Option (List Int):=aC.l0 k l0 (([]:List Int)) 0
def aC.T6:Bool×List (List Nat×List Nat):=(true,[([],[]),([],[]),([1],[1]),([0,2],[0,2]),([3],[3]),([4],[4]),([4],[4]),([5,6,4],[4,5,6]),([7,4],[4,7]),([4],[4]),([4],[4]),([9,10,4],[4,9,10]),([11,4],[4,11]),([8,12,4],[4,8,12]),([4,13],[4,13])])
def aC.B6:List Nat:=[0,0,2,7,15,31,31,127,255,31,31,1567,3615,8191,16383]
theorem aC.r7:gr .any (opsOf Tryz.f137 6) = aC.T6:=by kernel_rfl
theorem aC.nG:eL aC.T6.2 aC.B6 = true:=by kernel_rfl
def aC.T8:Bool×List (List Nat×List Nat):=(true,[([],[]),([],[]),([1],[1]),([0,2],[0,2]),([3],[3]),([4],[4]),([4],[4]),([5,6,4],[4,5,6]),([7,4],[4,7]),([4],[4]),([4],[4]),([9,10,4],[4,9,10]),([11,4],[4,11]),([8,12,4],[4,8,12]),([4,13],[4,13])])
def aC.B8:List Nat:=[0,0,2,7,15,31,31,127,255,31,31,1567,3615,8191,16383]
theorem aC.sI:gr .any (opsOf Tryz.f137 8) = aC.T8:=by kernel_rfl
theorem aC.oJ:eL aC.T8.2 aC.B8 = true:=by kernel_rfl
def aC.wj:Bool×List (List Nat×List Nat):=(true,[([],[]),([],[]),([0,1],[0,1]),([],[]),([],[]),([3,4],[3,4]),([5],[5]),([6],[6]),([2,7],[2,7]),([],[]),([8,9,8],[8,9]),([10,10,0,1,2,3,4,5,6,7,8,9,10],[0,10])])
def aC.wR:List Nat:=[0,0,3,0,0,24,56,120,255,0,1023,2047]
theorem aC.qx:gr .any (opsOf Tryz.f137 10) = aC.wj:=by kernel_rfl
theorem aC.o6:eL aC.wj.2 aC.wR = true:=by kernel_rfl
set_option maxHeartbeats 8000000 in
set_option maxRecDepth 100000 in
theorem aC.calls (k:Nat) (A0:Option Addr) (c0:Nat) (l0:List Int) (r:List Int) (w:World) (hM:Kd.C (Kd.int .i64) w A0 l0.length l0) (hO:l0.length≤c0) (h:aC.f k l0 = some r) :
  Calls Tryz.prog 137 #[.slice A0 l0.length c0] w fun e w'=>∃ hP:Value,e = .returned (hP)∧Kd.R (Kd.int .i64) 3 w' w.heap.size (fun _=>True) hP r∧Below w.heap.size w w':=by
 have d5:=ae.mk hM
 have m7:=ae.mk hO
 clear hM hO
 have HB:=ae.mk (Below.refl w.heap.size w)
 unfold aC.f at h
 have H:=h
 clear h
 obtain ⟨fi,d6⟩:∃ y_:List Int,y_ = (([]:List Int)):=⟨_,rfl⟩
 replace H:(aC.l0 k l0 fi 0) = some r:=by (try rw [d6]);exact af.Z
 have ed:=ae.mk d6
 clear d6
 have H':=ae.mk H
 clear H
 go_enter Tryz.func137,Tryz.ntmps137
 go_wp2_with (first | (refine af.lt (Kd.int .i64) 3 7 ?_;intro lm w2 ee hb ef cb;clear ef cb;(first | rw [← ed.out] at ee | (simp only [Int.reduceToNat] at ee;rw [← ed.out] at ee));have g9:=ae.mk (Kd.b9 ee (aj (af.Lw HB.out)));replace HB:=af.lb HB hb;clear hb ee))
 go_loopg [3,4] k (fun kq v3 v4 w'=>∃ (X:List Int) (z:Int),v4 = .int .i64 z∧ae (aC.l0 kq l0 X z = some r)∧ae (kq≤k)∧ae (Kd.R (Kd.int .i64) 3 w' w.heap.size (fun _=>True) v3 X)∧ae (Below w.heap.size w w'))
 case atStart=>exact ⟨(fi),(0),af.F,H',⟨Nat.le_refl _⟩,⟨af.Rw g9.out⟩,⟨af.Lw HB.out⟩⟩
 case round =>
  clear H'
  obtain ⟨X,z,rfl,HA,cY,M,HB⟩:=hrel
  cases gk with
  | zero=>exact absurd HA.out (by simp [aC.l0])
  | succ k1 =>
   have H:=HA.out
   clear HA
   simp only [aC.l0] at H
   by_cases c4:z < (l0.length:Int)
   ·rw [if_pos c4] at H
    have hR:=decide_eq_true c4
    clear c4
    have H':=ae.mk H
    clear H
    go_wp2
    go_loopg [5] k1 (fun kq v5 w'=>∃ (y:Int),v5 = .int .i64 y∧ae (aC.l1 kq l0 X z y = some r)∧ae (kq≤k1)∧ae (Kd.R (Kd.int .i64) 3 w' w.heap.size (fun _=>True) u3 X)∧ae (Below w.heap.size w w'))
    case atStart=>exact ⟨(0),af.F,H',⟨Nat.le_refl _⟩,⟨af.Rw M.out⟩,⟨af.Lw HB.out⟩⟩
    case round =>
     clear H'
     obtain ⟨y,rfl,HA,d0,M,HB⟩:=hrel
     cases gk with
     | zero=>exact absurd HA.out (by simp [aC.l1])
     | succ k2 =>
      have H:=HA.out
      clear HA
      simp only [aC.l1] at H
      by_cases c5:y < (X.length:Int)
      ·rw [if_pos c5] at H
       have hT:=decide_eq_true c5
       clear c5
       obtain ⟨c6,H⟩:=af.ip H
       have ln:=decide_eq_true c6
       clear c6
       obtain ⟨c7,H⟩:=af.ip H
       have lo:=decide_eq_true c7
       clear c7
       obtain ⟨c8,H⟩:=af.ip H
       have lr:=decide_eq_true c8
       clear c8
       by_cases c9:(rd X y) < (rd l0 z)
       ·rw [if_pos c9] at H
        have hU:=decide_eq_true c9
        clear c9
        have H':=ae.mk H
        clear H
        try go_wp2
        replace M:=ae.mk (Kd.bS M.out)
        replace HB:=ae.mk (bU HB.out)
        obtain ⟨fj,ls,fl⟩:=Kd.aY M.out
        (first | subst fl | (injection fl with b0 cc b1;have cd:=b0.symm;have ce:=b1.symm;clear b0 cc b1;subst cd;subst ce))
        obtain ⟨a1,d1,a6,fp,fs⟩:=af.ai (Kd.au M.out).2.2 y
        cases d1
        obtain ⟨aa,d2,Y,ft,fw⟩:=af.ai d5.out z
        have a7:=Y
        cases d2
        try replace Y:=(HB.out.cell (World.block_lt_of_cell? w _ Y)).trans Y
        refine eS (n:=15) (S:=fun w'=>w'.cell? (a1.add (y).toNat) = some (.int .i64 (rd X y))∧w'.cell? (aa.add (z).toNat) = some (.int .i64 (rd l0 z))) (ds:=[]) #[false,false,false,false,false,false,false,false,false,false,false,false,false,false,false] (by kernel_rfl) rfl rfl ⟨a6,((HB.out.cell (World.block_lt_of_cell? w _ a7)).trans a7)⟩ (fun hHeld=>?_);refine dn aC.r7 aC.nG (fun j aw=>?_)
        generalize wr.drew = m8 at M HB a6 Y hHeld ⊢
        refine af.pu 0 14 j ?_
        refine af.pu 1 15 j ?_
        refine af.pu 2 16 j ?_
        refine af.pu 3 17 j ?_
        refine af.pu 4 18 j ?_
        refine af.pu 5 19 j ?_
        refine af.pu 6 20 j ?_
        refine af.pu 7 21 j ?_
        refine af.pu 9 23 j ?_
        refine af.pu 10 24 j ?_
        refine af.pu 11 25 j ?_
        refine af.tk 8 22 j aw hHeld ?_
        refine af.tk 12 26 j aw hHeld ?_
        refine af.pu 13 27 j ?_
        refine af.pu 14 28 j ?_
        refine gh (er j.out (by kernel_rfl)) ?_
        try go_wp2
        go_roundg k2
        case measure=>have:=cY.out;have:=d0.out;omega
        case rel=>exact ⟨(wrap64 (y+1)),af.F,H',⟨by have:=cY.out;have:=d0.out;omega⟩,⟨af.Rw M.out⟩,⟨af.Lw HB.out⟩⟩
       ·rw [if_neg c9] at H
        have hU:decide ((rd X y) < (rd l0 z)) = false:=decide_eq_false c9
        clear c9
        by_cases d7:(rd X y) = (rd l0 z)
        ·rw [if_pos d7] at H
         have gc:((rd X y) == (rd l0 z)) = true:=beq_iff_eq.mpr d7
         have go:((rd X y) != (rd l0 z)) = false:=bne_eq_false_iff_eq.mpr d7
         clear d7
         have H':=ae.mk H
         clear H
         try go_wp2
         replace M:=ae.mk (Kd.bS M.out)
         replace HB:=ae.mk (bU HB.out)
         obtain ⟨fx,lv,fy⟩:=Kd.aY M.out
         (first | subst fy | (injection fy with b0 cc b1;have cd:=b0.symm;have ce:=b1.symm;clear b0 cc b1;subst cd;subst ce))
         obtain ⟨a1,d1,a6,fp,fs⟩:=af.ai (Kd.au M.out).2.2 y
         cases d1
         obtain ⟨aa,d2,Y,ft,fw⟩:=af.ai d5.out z
         have a7:=Y
         cases d2
         try replace Y:=(HB.out.cell (World.block_lt_of_cell? w _ Y)).trans Y
         refine eS (n:=15) (S:=fun w'=>w'.cell? (a1.add (y).toNat) = some (.int .i64 (rd X y))∧w'.cell? (aa.add (z).toNat) = some (.int .i64 (rd l0 z))) (ds:=[]) #[false,false,false,false,false,false,false,false,false,false,false,false,false,false,false] (by kernel_rfl) rfl rfl ⟨a6,((HB.out.cell (World.block_lt_of_cell? w _ a7)).trans a7)⟩ (fun hHeld=>?_);refine dn aC.r7 aC.nG (fun j aw=>?_)
         generalize wr.drew = ke at M HB a6 Y hHeld ⊢
         refine af.pu 0 14 j ?_
         refine af.pu 1 15 j ?_
         refine af.pu 2 16 j ?_
         refine af.pu 3 17 j ?_
         refine af.pu 4 18 j ?_
         refine af.pu 5 19 j ?_
         refine af.pu 6 20 j ?_
         refine af.pu 7 21 j ?_
         refine af.pu 9 23 j ?_
         refine af.pu 10 24 j ?_
         refine af.pu 11 25 j ?_
         refine af.tk 8 22 j aw hHeld ?_
         refine af.tk 12 26 j aw hHeld ?_
         refine af.pu 13 27 j ?_
         refine af.pu 14 28 j ?_
         refine gh (er j.out (by kernel_rfl)) ?_
         try go_wp2
         replace M:=ae.mk (Kd.bS M.out)
         replace HB:=ae.mk (bU HB.out)
         obtain ⟨d8,eg,b2,hV,hW⟩:=af.ai (Kd.au M.out).2.2 y
         obtain rfl:a1 = d8:=(by injection eg)
         obtain ⟨d9,eh,a0,hX,hY⟩:=af.ai d5.out z
         have b3:=a0
         obtain rfl:aa = d9:=(by injection eh)
         try replace a0:=(HB.out.cell (World.block_lt_of_cell? w _ a0)).trans a0
         refine eS (n:=15) (S:=fun w'=>w'.cell? (a1.add (y).toNat) = some (.int .i64 (rd X y))∧w'.cell? (aa.add (z).toNat) = some (.int .i64 (rd l0 z))) (ds:=[]) #[false,false,false,false,false,false,false,false,false,false,false,false,false,false,false] (by kernel_rfl) rfl rfl ⟨b2,((HB.out.cell (World.block_lt_of_cell? w _ b3)).trans b3)⟩ (fun hHeld=>?_);refine dn aC.sI aC.oJ (fun j aw=>?_)
         generalize ke.drew = m9 at M HB b2 a0 hHeld ⊢
         refine af.pu 0 31 j ?_
         refine af.pu 1 32 j ?_
         refine af.pu 2 33 j ?_
         refine af.pu 3 34 j ?_
         refine af.pu 4 35 j ?_
         refine af.pu 5 36 j ?_
         refine af.pu 6 37 j ?_
         refine af.pu 7 38 j ?_
         refine af.pu 9 40 j ?_
         refine af.pu 10 41 j ?_
         refine af.pu 11 42 j ?_
         refine af.tk 8 39 j aw hHeld ?_
         refine af.tk 12 43 j aw hHeld ?_
         refine af.pu 13 44 j ?_
         refine af.pu 14 45 j ?_
         refine gh (er j.out (by kernel_rfl)) ?_
         try go_wp2
         go_roundg k2
         case measure=>have:=cY.out;have:=d0.out;omega
         case rel=>exact ⟨(X),(wrap64 (z+1)),af.F,H',⟨by have:=cY.out;have:=d0.out;omega⟩,⟨af.Rw M.out⟩,⟨af.Lw HB.out⟩⟩
        ·rw [if_neg d7] at H
         have gc:((rd X y) == (rd l0 z)) = false:=beq_eq_false_iff_ne.mpr d7
         have go:((rd X y) != (rd l0 z)) = true:=bne_iff_ne.mpr d7
         obtain ⟨cp,db⟩:∃ y_:List Int,y_ = (([]:List Int)):=⟨_,rfl⟩
         replace H:(if y≤(X.length:Int) then ((some (X.drop (y:Int).toNat:List Int)).bind fun ap=>(if cp.length+ap.length < 17592186044416 then ((some (cp ++ ap:List Int)).bind fun ab=>((some (X.take (y:Int).toNat:List Int)).bind fun al=>(if al.length < 17592186044416 then ((some (al ++ [rd l0 z]:List Int)).bind fun a8=>(if a8.length+ab.length < 17592186044416 then (aC.l0 k2 l0 (a8 ++ ab) (wrap64 (z+1))) else (none))) else (none)))) else (none))) else (none)) = some r:=by (try rw [db]);exact af.Z
         have ej:=ae.mk db
         clear db
         have kh:=eq_true (af.D:0≤y)
         obtain ⟨gs,H⟩:=af.ip H
         have kl:=eq_true gs
         have km:decide (y≤(X.length:Int)) = true:=decide_eq_true gs
         clear gs
         obtain ⟨ap,dd⟩:∃ y_:List Int,y_ = (X.drop (y:Int).toNat):=⟨_,rfl⟩
         replace H:(if cp.length+ap.length < 17592186044416 then ((some (cp ++ ap:List Int)).bind fun ab=>((some (X.take (y:Int).toNat:List Int)).bind fun al=>(if al.length < 17592186044416 then ((some (al ++ [rd l0 z]:List Int)).bind fun a8=>(if a8.length+ab.length < 17592186044416 then (aC.l0 k2 l0 (a8 ++ ab) (wrap64 (z+1))) else (none))) else (none)))) else (none)) = some r:=by (try rw [dd]);exact af.Z
         have df:=ae.mk dd
         clear dd
         obtain ⟨hZ,H⟩:=af.ip H
         have gt:=ae.mk hZ
         clear hZ
         obtain ⟨ab,dk⟩:∃ y_:List Int,y_ = (cp ++ ap):=⟨_,rfl⟩
         replace H:((some (X.take (y:Int).toNat:List Int)).bind fun al=>(if al.length < 17592186044416 then ((some (al ++ [rd l0 z]:List Int)).bind fun a8=>(if a8.length+ab.length < 17592186044416 then (aC.l0 k2 l0 (a8 ++ ab) (wrap64 (z+1))) else (none))) else (none))) = some r:=by (try rw [dk]);exact af.Z
         have h0:=ae.mk dk
         clear dk
         have ks:=eq_true (af.D:y≤(X.length:Int))
         obtain ⟨al,dl⟩:∃ y_:List Int,y_ = (X.take (y:Int).toNat):=⟨_,rfl⟩
         replace H:(if al.length < 17592186044416 then ((some (al ++ [rd l0 z]:List Int)).bind fun a8=>(if a8.length+ab.length < 17592186044416 then (aC.l0 k2 l0 (a8 ++ ab) (wrap64 (z+1))) else (none))) else (none)) = some r:=by (try rw [dl]);exact af.Z
         have el:=ae.mk dl
         clear dl
         obtain ⟨i0,H⟩:=af.ip H
         have h6:=ae.mk i0
         clear i0
         obtain ⟨a8,dp⟩:∃ y_:List Int,y_ = (al ++ [rd l0 z]):=⟨_,rfl⟩
         replace H:(if a8.length+ab.length < 17592186044416 then (aC.l0 k2 l0 (a8 ++ ab) (wrap64 (z+1))) else (none)) = some r:=by (try rw [dp]);exact af.Z
         have h7:=ae.mk dp
         clear dp
         obtain ⟨i1,H⟩:=af.ip H
         have h8:=ae.mk i1
         clear i1
         obtain ⟨fX,dq⟩:∃ y_:List Int,y_ = (a8 ++ ab):=⟨_,rfl⟩
         replace H:(aC.l0 k2 l0 fX (wrap64 (z+1))) = some r:=by (try rw [dq]);exact af.Z
         have h9:=ae.mk dq
         clear dq
         have H':=ae.mk H
         clear H
         try go_wp2
         replace M:=ae.mk (Kd.bS M.out)
         replace HB:=ae.mk (bU HB.out)
         obtain ⟨fY,bs,g0⟩:=Kd.aY M.out
         (first | subst g0 | (injection g0 with b0 cc b1;have cd:=b0.symm;have ce:=b1.symm;clear b0 cc b1;subst cd;subst ce))
         obtain ⟨a1,d1,a6,fp,fs⟩:=af.ai (Kd.au M.out).2.2 y
         cases d1
         obtain ⟨aa,d2,Y,ft,fw⟩:=af.ai d5.out z
         have a7:=Y
         cases d2
         try replace Y:=(HB.out.cell (World.block_lt_of_cell? w _ Y)).trans Y
         refine eS (n:=15) (S:=fun w'=>w'.cell? (a1.add (y).toNat) = some (.int .i64 (rd X y))∧w'.cell? (aa.add (z).toNat) = some (.int .i64 (rd l0 z))) (ds:=[]) #[false,false,false,false,false,false,false,false,false,false,false,false,false,false,false] (by kernel_rfl) rfl rfl ⟨a6,((HB.out.cell (World.block_lt_of_cell? w _ a7)).trans a7)⟩ (fun hHeld=>?_);refine dn aC.r7 aC.nG (fun j aw=>?_)
         generalize wr.drew = kt at M HB a6 Y hHeld ⊢
         refine af.pu 0 14 j ?_
         refine af.pu 1 15 j ?_
         refine af.pu 2 16 j ?_
         refine af.pu 3 17 j ?_
         refine af.pu 4 18 j ?_
         refine af.pu 5 19 j ?_
         refine af.pu 6 20 j ?_
         refine af.pu 7 21 j ?_
         refine af.pu 9 23 j ?_
         refine af.pu 10 24 j ?_
         refine af.pu 11 25 j ?_
         refine af.tk 8 22 j aw hHeld ?_
         refine af.tk 12 26 j aw hHeld ?_
         refine af.pu 13 27 j ?_
         refine af.pu 14 28 j ?_
         refine gh (er j.out (by kernel_rfl)) ?_
         try go_wp2
         replace M:=ae.mk (Kd.bS M.out)
         replace HB:=ae.mk (bU HB.out)
         obtain ⟨d8,eg,b2,hV,hW⟩:=af.ai (Kd.au M.out).2.2 y
         obtain rfl:a1 = d8:=(by injection eg)
         obtain ⟨d9,eh,a0,hX,hY⟩:=af.ai d5.out z
         have b3:=a0
         obtain rfl:aa = d9:=(by injection eh)
         try replace a0:=(HB.out.cell (World.block_lt_of_cell? w _ a0)).trans a0
         refine eS (n:=15) (S:=fun w'=>w'.cell? (a1.add (y).toNat) = some (.int .i64 (rd X y))∧w'.cell? (aa.add (z).toNat) = some (.int .i64 (rd l0 z))) (ds:=[]) #[false,false,false,false,false,false,false,false,false,false,false,false,false,false,false] (by kernel_rfl) rfl rfl ⟨b2,((HB.out.cell (World.block_lt_of_cell? w _ b3)).trans b3)⟩ (fun hHeld=>?_);refine dn aC.sI aC.oJ (fun j aw=>?_)
         generalize kt.drew = ma at M HB b2 a0 hHeld ⊢
         refine af.pu 0 31 j ?_
         refine af.pu 1 32 j ?_
         refine af.pu 2 33 j ?_
         refine af.pu 3 34 j ?_
         refine af.pu 4 35 j ?_
         refine af.pu 5 36 j ?_
         refine af.pu 6 37 j ?_
         refine af.pu 7 38 j ?_
         refine af.pu 9 40 j ?_
         refine af.pu 10 41 j ?_
         refine af.pu 11 42 j ?_
         refine af.tk 8 39 j aw hHeld ?_
         refine af.tk 12 43 j aw hHeld ?_
         refine af.pu 13 44 j ?_
         refine af.pu 14 45 j ?_
         refine gh (er j.out (by kernel_rfl)) ?_
         try go_wp2_with (first | (refine af.lt (Kd.int .i64) 3 46 ?_;intro i2 mf cx hb ef cb;clear ef cb;(first | rw [← ej.out] at cx | (simp only [Int.reduceToNat] at cx;rw [← ej.out] at cx));have em:=ae.mk (Kd.b9 (Kd.dc cx (Kd.cD (af.Rw M.out))) (aj (af.Lw HB.out)));replace M:=ae.mk (Kd.cm (af.Rw M.out) (Kd.bF cx) hb);replace HB:=af.lb HB hb;clear hb cx;have hj:(y:Int)≤((X.length:Int):Int):=af.D;obtain ⟨lw,eo,_,eq,_⟩:=info_parts eJ;have cf:X.length≤bs:=(Kd.au M.out).2.1;have g1:Kd.C (Kd.int .i64) _ (some a1) X.length X:=(Kd.au M.out).2.2;have i3:(0:Int)≤(y:Int):=af.D;have f8:=mG (P:=Tryz.prog) 28 3 .i64 Tryz.underlying28 eo 1 eq (some a1) X.length bs y i3 hj;have d3:=Kd.kJ (m:=(y:Int).toNat) (c:=bs) g1 (by omega) cf;obtain ⟨i4,e3⟩:∃ A1,A1 = (if bs = (y:Int).toNat then (some a1) else ((some a1):Option Addr).map (·.add ((y:Int).toNat * 1))):=⟨_,rfl⟩;obtain ⟨kv,es⟩:∃ c1,c1 = bs - (y:Int).toNat:=⟨_,rfl⟩;have e4:ap.length = X.length - (y:Int).toNat:=(by rw [df.out,List.length_drop] <;> omega);rw [show (X).drop (y:Int).toNat = ap from df.out.symm] at d3;replace d3:Kd.C (Kd.int .i64) _ i4 ap.length ap:=(by rw [e3];exact d3);rw [← e4,← e3,← es] at f8;have bm:=ae.mk d3;have kw:=ae.mk (show ap.length≤kv from by rw [e4,es];exact Nat.sub_le_sub_right cf _);clear d3 g1 cf eo eq es;have lx:=ae.mk e4;have i5:=ae.mk e3;clear e4 e3;have i6:=ae.mk (show (y:Int).toNat≤X.length from by omega);replace hj:=eq_true hj) | ((with_reducible refine cB (b:=.append) (xs:=#[.tmp 46,.tmp 49]) rfl ?_);at_builtin;refine Kd.iE (Kd.int .i64) (w0:=w) w.heap.size rfl (.tmp 46) (.tmp 49) 28 3 (.int .i64 0) 8 rfl Tryz.underlying28 eJ rfl (by decide) (by omega) i2 cp ap _ _ _ (fun k_=>some k_≠(.slice (some a1) X.length bs:Value).ownBlock) (fun _=>False) rfl rfl (by exact af.Rw (Kd.aX em.out (fun _ hk=>hk.2))) (by repeat (first | exact (by repeat (first | (with_reducible exact bm.out) | (with_reducible refine Kd.fk ?_ _) | (with_reducible refine Kd.fm ?_ _) | (with_reducible refine Kd.fJ ?_) | exact bm.out)) | (with_reducible refine Kd.fk ?_ _) | (with_reducible refine Kd.fm ?_ _) | (with_reducible refine Kd.fJ ?_))) (fun _ _ h=>h) (fun _ h=>h.elim) (by exact fun k_ hk=>Kd.fresh' (Kd.cD (af.Rw M.out)) k_ hk) (by exact af.Lw HB.out) (by exact aj (af.Lw HB.out)) (by have:=gt.out;omega) ?_;intro i7 i8 ho hb hg hat;rw [← h0.out] at ho;have b4:=ae.mk (Kd.eK (ok:=(fun _=>True)) (af.Rw M.out) hg hat);have ba:=ae.mk hb;have bc:=ae.mk ((show Kd.C (Kd.int .i64) i8 i4 ap.length ap from by rw [df.out,i5.out];exact Kd.kJ (m:=(y:Int).toNat) (c:=bs) ((Kd.au (Kd.eK (ok:=(fun _=>True)) (af.Rw M.out) hg hat)).2.2) i6.out ((Kd.au (Kd.eK (ok:=(fun _=>True)) (af.Rw M.out) hg hat)).2.1)));have et:=ae.mk ho;clear M;clear HB;clear bm;clear em;have M:=b4;have HB:=ba;have bm:=bc;have a4:=et;clear b4 ba bc et;clear ho hb hg hat))
         replace M:=ae.mk (Kd.bS M.out)
         replace a4:=ae.mk (Kd.bS a4.out)
         replace bm:=ae.mk (Kd.fJ bm.out)
         replace HB:=ae.mk (bU HB.out)
         have hl:(y:Int)≤((X.length:Int):Int):=af.D
         obtain ⟨ly,ev,_,hm,_⟩:=info_parts eJ
         have f9:=pD (P:=Tryz.prog) 28 3 .i64 Tryz.underlying28 ev (some a1) X.length bs y (af.D) hl (Kd.au M.out).2.1
         have e8:=Kd.rZ (m:=(y:Int).toNat) M.out (by omega)
         have g2:al.length = (y:Int).toNat:=(by rw [el.out,List.length_take];omega)
         rw [← el.out] at e8
         rw [← g2] at e8 f9
         clear g2 ev hm M
         have dt:=ae.mk e8
         clear e8
         replace hl:=eq_true hl
         obtain ⟨hn,i9,bd,lL,lN⟩:=af.ai d5.out z
         have a2:=bd
         obtain rfl:aa = hn:=(by injection i9)
         try replace bd:=(HB.out.cell (World.block_lt_of_cell? w _ bd)).trans bd
         refine eS (n:=12) (S:=fun w'=>w'.cell? (aa.add (z).toNat) = some (.int .i64 (rd l0 z))) (ds:=[]) #[false,false,false,false,false,false,false,false,false,false,false,false] (by kernel_rfl) rfl rfl (((HB.out.cell (World.block_lt_of_cell? w _ a2)).trans a2)) (fun hHeld=>?_);refine dn aC.qx aC.o6 (fun j aw=>?_)
         generalize i8.drew = mi at M a4 bm HB dt bd hHeld ⊢
         refine af.pu 0 51 j ?_
         refine af.pu 1 52 j ?_
         refine af.pu 2 53 j ?_
         refine af.pu 3 54 j ?_
         refine af.pu 4 55 j ?_
         refine af.pu 5 56 j ?_
         refine af.pu 9 60 j ?_
         refine mD (i:=6) (N:=some 57) (v:=?_) (a':=?_) #[true,true,true,true,true,true,true,false,false,true,false,false] rfl rfl (jY j.out aw.out (by kernel_rfl)) (fun _ _ _ h=>h) (Or.inl ⟨by rfl,?_⟩) hHeld ?_ ?_
         rotate_left
         ·intro w' s0
          go_simp
          with_reducible rfl
         rotate_left
         ·simp only [Act.put,List.setIfInBounds_toArray,List.set_cons_zero,List.set_cons_succ,bw,bW]
          rfl
         refine gA (i:=7) (N:=some 58) #[true,true,true,true,true,true,true,true,false,true,false,false] rfl rfl (dD j.out (by kernel_rfl)) (by decide) (fun K hK=>?_)
         refine kK (w1:=?_) (v:=?_) (by rfl) rfl ?_ ?_
         rotate_left 2
         ·go_simp
          constructor
          ·rfl
          ·rfl
         refine hK.out _ _ ((World.cell?_alloc_lt _ _ _ (World.block_lt_of_cell? _ _ (((HB.out.cell (World.block_lt_of_cell? w _ a2)).trans a2)))).trans (((HB.out.cell (World.block_lt_of_cell? w _ a2)).trans a2))) (fun hHeld=>?_)
         clear hK K
         refine eV (a':=?_) ?_ ?_
         rotate_left
         ·show Act.put _ (some 58) _ = _
          simp only [Act.put,List.setIfInBounds_toArray,List.set_cons_zero,List.set_cons_succ,bw,bW]
          rfl
         refine gA (i:=8) (N:=some 59) #[true,true,true,true,true,true,true,true,true,true,false,false] rfl rfl (dD j.out (by kernel_rfl)) (by decide) (fun K hK=>?_)
         refine Kd.fS (Kd.int .i64) (w0:=w) w.heap.size (by rfl) (.tmp 53) (.tmp 58) 28 3 (.int .i64 0) 8 rfl Tryz.underlying28 eJ rfl (by decide) (by omega) (.slice (some a1) al.length bs) al (rd l0 z) [.int .i64 (rd l0 z)] (fun k_=>some k_≠(i7:Value).ownBlock) (fun _=>False) rfl rfl ?aP (fun _ hk=>hk.elim) ?aF ?aO ?aB ?aS ?aL ?_
         (case aP=>exact rfl)
         (case aB=>exact (af.Lw HB.out))
         (case aF=>exact (fun k_ hk=>Kd.fresh' (Kd.cD (af.Rw a4.out)) k_ hk))
         (case aO=>exact (af.Rw (Kd.aX dt.out (fun _ hk=>hk.2))))
         (case aS=>exact (aj (af.Lw HB.out)))
         (case aL=>have:=h6.out;omega)
         intro ib ml ho hb hg hat
         rw [← h7.out] at ho
         have b4:=ae.mk (Kd.eK (ok:=(fun _=>True)) (af.Rw (Kd.aX a4.out (fun _ hk=>⟨trivial,(by first | exact hk | (cases fj <;> exact hk) | (cases fx <;> exact hk) | (cases fY <;> exact hk) | (cases ew <;> exact hk) | (cases bv <;> exact hk) | (cases ex <;> exact hk))⟩))) hg hat)
         have ba:=ae.mk hb
         have bc:=ae.mk ho
         clear a4
         clear HB
         clear dt
         have a4:=b4
         have HB:=ba
         have eQ:=bc
         clear b4 ba bc
         clear ho hb hg hat
         obtain ⟨ew,ie,g3⟩:=Kd.aY a4.out
         (first | subst g3 | (injection g3 with b0 cc b1;have cd:=b0.symm;have ce:=b1.symm;clear b0 cc b1;subst cd;subst ce))
         refine hK.out _ _ (((HB.out.cell (World.block_lt_of_cell? w _ a2)).trans a2)) (fun hHeld=>?_)
         clear hK K
         refine eV (a':=?_) ?_ ?_
         rotate_left
         ·show Act.put _ (some 59) _ = _
          simp only [Act.put,List.setIfInBounds_toArray,List.set_cons_zero,List.set_cons_succ,bw,bW]
          rfl
         refine gA (i:=10) (N:=some 61) #[true,true,true,true,true,true,true,true,true,true,true,false] rfl rfl (dD j.out (by kernel_rfl)) (by decide) (fun K hK=>?_)
         refine Kd.fC (Kd.int .i64) (w0:=w) w.heap.size (by rfl) (.tmp 59) (.tmp 60) 28 3 (.int .i64 0) 8 rfl Tryz.underlying28 eJ rfl (by decide) (by omega) ib a8 ab _ _ _ (fun k_=>some k_≠(.slice ew ab.length ie:Value).ownBlock) (fun _=>False) rfl rfl ?aO ?aR (fun _ _ h=>h) (fun _ h=>h.elim) ?aF ?aB ?aS ?aL ?_
         (case aR=>repeat (first | exact (Kd.au a4.out).2.2 | (with_reducible refine Kd.fk ?_ _) | (with_reducible refine Kd.fm ?_ _) | (with_reducible refine Kd.fJ ?_)))
         (case aB=>exact (af.Lw HB.out))
         (case aF=>exact (fun k_ hk=>Kd.fresh' (Kd.cD (af.Rw a4.out)) k_ hk))
         (case aO=>exact (af.Rw eQ.out))
         (case aS=>exact (aj (af.Lw HB.out)))
         (case aL=>have:=h8.out;omega)
         intro m0 mn ho hb hg hat
         rw [← h9.out] at ho
         have b4:=ae.mk (Kd.eK (ok:=(fun _=>True)) (af.Rw a4.out) hg hat)
         have ba:=ae.mk hb
         have bc:=ae.mk ho
         clear a4
         clear HB
         clear eQ
         have a4:=b4
         have HB:=ba
         have hq:=bc
         clear b4 ba bc
         clear ho hb hg hat
         refine hK.out _ _ (((HB.out.cell (World.block_lt_of_cell? w _ a2)).trans a2)) (fun hHeld=>?_)
         clear hK K
         refine eV (a':=?_) ?_ ?_
         rotate_left
         ·show Act.put _ (some 61) _ = _
          simp only [Act.put,List.setIfInBounds_toArray,List.set_cons_zero,List.set_cons_succ,bw,bW]
          rfl
         refine af.pu 11 3 j ?_
         refine gh (er j.out (by kernel_rfl)) ?_
         try go_wp2
         go_roundg k2
         case measure=>have:=cY.out;have:=d0.out;omega
         case rel=>exact ⟨(fX),(wrap64 (z+1)),af.F,H',⟨by have:=cY.out;have:=d0.out;omega⟩,⟨af.Rw (Kd.aX hq.out (fun _ hk=>trivial))⟩,⟨af.Lw HB.out⟩⟩
      ·rw [if_neg c5] at H
       have hT:decide (y < (X.length:Int)) = false:=decide_eq_false c5
       clear c5
       obtain ⟨cy,du⟩:∃ y_:List Int,y_ = (([]:List Int)):=⟨_,rfl⟩
       replace H:(if 0≤y then (if y≤(X.length:Int) then ((some (X.drop (y:Int).toNat:List Int)).bind fun ar=>(if cy.length+ar.length < 17592186044416 then ((some (cy ++ ar:List Int)).bind fun am=>((some (X.take (y:Int).toNat:List Int)).bind fun ao=>(if 0≤z then (if z < (l0.length:Int) then (if ao.length < 17592186044416 then ((some (ao ++ [rd l0 z]:List Int)).bind fun a9=>(if a9.length+am.length < 17592186044416 then (aC.l0 k2 l0 (a9 ++ am) (wrap64 (z+1))) else (none))) else (none)) else (none)) else (none)))) else (none))) else (none)) else (none)) = some r:=by (try rw [du]);exact af.Z
       have f0:=ae.mk du
       clear du
       obtain ⟨hr,H⟩:=af.ip H
       have ky:=eq_true hr
       have la:decide (0≤y) = true:=decide_eq_true hr
       clear hr
       obtain ⟨ht,H⟩:=af.ip H
       have lc:=eq_true ht
       have le:decide (y≤(X.length:Int)) = true:=decide_eq_true ht
       clear ht
       obtain ⟨ar,dv⟩:∃ y_:List Int,y_ = (X.drop (y:Int).toNat):=⟨_,rfl⟩
       replace H:(if cy.length+ar.length < 17592186044416 then ((some (cy ++ ar:List Int)).bind fun am=>((some (X.take (y:Int).toNat:List Int)).bind fun ao=>(if 0≤z then (if z < (l0.length:Int) then (if ao.length < 17592186044416 then ((some (ao ++ [rd l0 z]:List Int)).bind fun a9=>(if a9.length+am.length < 17592186044416 then (aC.l0 k2 l0 (a9 ++ am) (wrap64 (z+1))) else (none))) else (none)) else (none)) else (none)))) else (none)) = some r:=by (try rw [dv]);exact af.Z
       have dC:=ae.mk dv
       clear dv
       obtain ⟨ih,H⟩:=af.ip H
       have hu:=ae.mk ih
       clear ih
       obtain ⟨am,dE⟩:∃ y_:List Int,y_ = (cy ++ ar):=⟨_,rfl⟩
       replace H:((some (X.take (y:Int).toNat:List Int)).bind fun ao=>(if 0≤z then (if z < (l0.length:Int) then (if ao.length < 17592186044416 then ((some (ao ++ [rd l0 z]:List Int)).bind fun a9=>(if a9.length+am.length < 17592186044416 then (aC.l0 k2 l0 (a9 ++ am) (wrap64 (z+1))) else (none))) else (none)) else (none)) else (none))) = some r:=by (try rw [dE]);exact af.Z
       have hx:=ae.mk dE
       clear dE
       have lf:=eq_true (af.D:y≤(X.length:Int))
       obtain ⟨ao,dT⟩:∃ y_:List Int,y_ = (X.take (y:Int).toNat):=⟨_,rfl⟩
       replace H:(if 0≤z then (if z < (l0.length:Int) then (if ao.length < 17592186044416 then ((some (ao ++ [rd l0 z]:List Int)).bind fun a9=>(if a9.length+am.length < 17592186044416 then (aC.l0 k2 l0 (a9 ++ am) (wrap64 (z+1))) else (none))) else (none)) else (none)) else (none)) = some r:=by (try rw [dT]);exact af.Z
       have f1:=ae.mk dT
       clear dT
       obtain ⟨ii,H⟩:=af.ip H
       have lh:=decide_eq_true ii
       clear ii
       obtain ⟨il,H⟩:=af.ip H
       have li:=decide_eq_true il
       clear il
       obtain ⟨im,H⟩:=af.ip H
       have hz:=ae.mk im
       clear im
       obtain ⟨a9,e0⟩:∃ y_:List Int,y_ = (ao ++ [rd l0 z]):=⟨_,rfl⟩
       replace H:(if a9.length+am.length < 17592186044416 then (aC.l0 k2 l0 (a9 ++ am) (wrap64 (z+1))) else (none)) = some r:=by (try rw [e0]);exact af.Z
       have hA:=ae.mk e0
       clear e0
       obtain ⟨io,H⟩:=af.ip H
       have hC:=ae.mk io
       clear io
       obtain ⟨g4,e1⟩:∃ y_:List Int,y_ = (a9 ++ am):=⟨_,rfl⟩
       replace H:(aC.l0 k2 l0 g4 (wrap64 (z+1))) = some r:=by (try rw [e1]);exact af.Z
       have hD:=ae.mk e1
       clear e1
       have H':=ae.mk H
       clear H
       try go_wp2
       replace M:=ae.mk (Kd.bS M.out)
       replace HB:=ae.mk (bU HB.out)
       obtain ⟨bv,ca,g5⟩:=Kd.aY M.out
       (first | subst g5 | (injection g5 with b0 cc b1;have cd:=b0.symm;have ce:=b1.symm;clear b0 cc b1;subst cd;subst ce))
       refine eS (n:=15) (S:=fun w'=>True) (ds:=[]) #[false,false,false,false,false,false,false,false,false,false,false,false,false,false,false] (by kernel_rfl) rfl rfl trivial (fun hHeld=>?_);refine dn aC.r7 aC.nG (fun j aw=>?_)
       generalize wr.drew = lj at M HB hHeld ⊢
       refine af.pu 0 14 j ?_
       refine af.pu 1 15 j ?_
       refine af.pu 2 16 j ?_
       refine af.pu 3 17 j ?_
       refine af.pu 4 18 j ?_
       refine dP (i:=5) (N:=some 19) (v:=undef) (a':=?_) #[true,true,true,true,true,true,false,false,false,false,false,false,false,false,false] rfl rfl (dg j.out (by kernel_rfl)) (fun _ _ _ h=>h) (Or.inr ⟨by rfl,rfl⟩) ?_ ?_
       rotate_left
       ·simp only [Act.put,List.setIfInBounds_toArray,List.set_cons_zero,List.set_cons_succ,bw,bW]
        rfl
       refine dP (i:=6) (N:=some 20) (v:=undef) (a':=?_) #[true,true,true,true,true,true,true,false,false,false,false,false,false,false,false] rfl rfl (dg j.out (by kernel_rfl)) (fun _ _ _ h=>h) (Or.inr ⟨by rfl,rfl⟩) ?_ ?_
       rotate_left
       ·simp only [Act.put,List.setIfInBounds_toArray,List.set_cons_zero,List.set_cons_succ,bw,bW]
        rfl
       refine dP (i:=7) (N:=some 21) (v:=undef) (a':=?_) #[true,true,true,true,true,true,true,true,false,false,false,false,false,false,false] rfl rfl (dg j.out (by kernel_rfl)) (fun _ _ _ h=>h) (Or.inr ⟨by rfl,rfl⟩) ?_ ?_
       rotate_left
       ·simp only [Act.put,List.setIfInBounds_toArray,List.set_cons_zero,List.set_cons_succ,bw,bW]
        rfl
       refine dP (i:=8) (N:=some 22) (v:=undef) (a':=?_) #[true,true,true,true,true,true,true,true,true,false,false,false,false,false,false] rfl rfl (dg j.out (by kernel_rfl)) (fun _ _ _ h=>h) (Or.inr ⟨by rfl,rfl⟩) ?_ ?_
       rotate_left
       ·simp only [Act.put,List.setIfInBounds_toArray,List.set_cons_zero,List.set_cons_succ,bw,bW]
        rfl
       refine dP (i:=9) (N:=some 23) (v:=undef) (a':=?_) #[true,true,true,true,true,true,true,true,true,true,false,false,false,false,false] rfl rfl (dg j.out (by kernel_rfl)) (fun _ _ _ h=>h) (Or.inr ⟨by rfl,rfl⟩) ?_ ?_
       rotate_left
       ·simp only [Act.put,List.setIfInBounds_toArray,List.set_cons_zero,List.set_cons_succ,bw,bW]
        rfl
       refine dP (i:=10) (N:=some 24) (v:=undef) (a':=?_) #[true,true,true,true,true,true,true,true,true,true,true,false,false,false,false] rfl rfl (dg j.out (by kernel_rfl)) (fun _ _ _ h=>h) (Or.inr ⟨by rfl,rfl⟩) ?_ ?_
       rotate_left
       ·simp only [Act.put,List.setIfInBounds_toArray,List.set_cons_zero,List.set_cons_succ,bw,bW]
        rfl
       refine dP (i:=11) (N:=some 25) (v:=undef) (a':=?_) #[true,true,true,true,true,true,true,true,true,true,true,true,false,false,false] rfl rfl (dg j.out (by kernel_rfl)) (fun _ _ _ h=>h) (Or.inr ⟨by rfl,rfl⟩) ?_ ?_
       rotate_left
       ·simp only [Act.put,List.setIfInBounds_toArray,List.set_cons_zero,List.set_cons_succ,bw,bW]
        rfl
       refine dP (i:=12) (N:=some 26) (v:=undef) (a':=?_) #[true,true,true,true,true,true,true,true,true,true,true,true,true,false,false] rfl rfl (dg j.out (by kernel_rfl)) (fun _ _ _ h=>h) (Or.inr ⟨by rfl,rfl⟩) ?_ ?_
       rotate_left
       ·simp only [Act.put,List.setIfInBounds_toArray,List.set_cons_zero,List.set_cons_succ,bw,bW]
        rfl
       refine dP (i:=13) (N:=some 27) (v:=undef) (a':=?_) #[true,true,true,true,true,true,true,true,true,true,true,true,true,true,false] rfl rfl (dg j.out (by kernel_rfl)) (fun _ _ _ h=>h) (Or.inr ⟨by rfl,rfl⟩) ?_ ?_
       rotate_left
       ·simp only [Act.put,List.setIfInBounds_toArray,List.set_cons_zero,List.set_cons_succ,bw,bW]
        rfl
       refine af.pu 14 28 j ?_
       refine gh (er j.out (by kernel_rfl)) ?_
       try go_wp2
       replace M:=ae.mk (Kd.bS M.out)
       replace HB:=ae.mk (bU HB.out)
       refine eS (n:=15) (S:=fun w'=>True) (ds:=[]) #[false,false,false,false,false,false,false,false,false,false,false,false,false,false,false] (by kernel_rfl) rfl rfl trivial (fun hHeld=>?_);refine dn aC.sI aC.oJ (fun j aw=>?_)
       generalize lj.drew = mr at M HB hHeld ⊢
       refine af.pu 0 31 j ?_
       refine af.pu 1 32 j ?_
       refine af.pu 2 33 j ?_
       refine af.pu 3 34 j ?_
       refine af.pu 4 35 j ?_
       refine dP (i:=5) (N:=some 36) (v:=undef) (a':=?_) #[true,true,true,true,true,true,false,false,false,false,false,false,false,false,false] rfl rfl (dg j.out (by kernel_rfl)) (fun _ _ _ h=>h) (Or.inr ⟨by rfl,rfl⟩) ?_ ?_
       rotate_left
       ·simp only [Act.put,List.setIfInBounds_toArray,List.set_cons_zero,List.set_cons_succ,bw,bW]
        rfl
       refine dP (i:=6) (N:=some 37) (v:=undef) (a':=?_) #[true,true,true,true,true,true,true,false,false,false,false,false,false,false,false] rfl rfl (dg j.out (by kernel_rfl)) (fun _ _ _ h=>h) (Or.inr ⟨by rfl,rfl⟩) ?_ ?_
       rotate_left
       ·simp only [Act.put,List.setIfInBounds_toArray,List.set_cons_zero,List.set_cons_succ,bw,bW]
        rfl
       refine dP (i:=7) (N:=some 38) (v:=undef) (a':=?_) #[true,true,true,true,true,true,true,true,false,false,false,false,false,false,false] rfl rfl (dg j.out (by kernel_rfl)) (fun _ _ _ h=>h) (Or.inr ⟨by rfl,rfl⟩) ?_ ?_
       rotate_left
       ·simp only [Act.put,List.setIfInBounds_toArray,List.set_cons_zero,List.set_cons_succ,bw,bW]
        rfl
       refine dP (i:=8) (N:=some 39) (v:=undef) (a':=?_) #[true,true,true,true,true,true,true,true,true,false,false,false,false,false,false] rfl rfl (dg j.out (by kernel_rfl)) (fun _ _ _ h=>h) (Or.inr ⟨by rfl,rfl⟩) ?_ ?_
       rotate_left
       ·simp only [Act.put,List.setIfInBounds_toArray,List.set_cons_zero,List.set_cons_succ,bw,bW]
        rfl
       refine dP (i:=9) (N:=some 40) (v:=undef) (a':=?_) #[true,true,true,true,true,true,true,true,true,true,false,false,false,false,false] rfl rfl (dg j.out (by kernel_rfl)) (fun _ _ _ h=>h) (Or.inr ⟨by rfl,rfl⟩) ?_ ?_
       rotate_left
       ·simp only [Act.put,List.setIfInBounds_toArray,List.set_cons_zero,List.set_cons_succ,bw,bW]
        rfl
       refine dP (i:=10) (N:=some 41) (v:=undef) (a':=?_) #[true,true,true,true,true,true,true,true,true,true,true,false,false,false,false] rfl rfl (dg j.out (by kernel_rfl)) (fun _ _ _ h=>h) (Or.inr ⟨by rfl,rfl⟩) ?_ ?_
       rotate_left
       ·simp only [Act.put,List.setIfInBounds_toArray,List.set_cons_zero,List.set_cons_succ,bw,bW]
        rfl
       refine dP (i:=11) (N:=some 42) (v:=undef) (a':=?_) #[true,true,true,true,true,true,true,true,true,true,true,true,false,false,false] rfl rfl (dg j.out (by kernel_rfl)) (fun _ _ _ h=>h) (Or.inr ⟨by rfl,rfl⟩) ?_ ?_
       rotate_left
       ·simp only [Act.put,List.setIfInBounds_toArray,List.set_cons_zero,List.set_cons_succ,bw,bW]
        rfl
       refine dP (i:=12) (N:=some 43) (v:=undef) (a':=?_) #[true,true,true,true,true,true,true,true,true,true,true,true,true,false,false] rfl rfl (dg j.out (by kernel_rfl)) (fun _ _ _ h=>h) (Or.inr ⟨by rfl,rfl⟩) ?_ ?_
       rotate_left
       ·simp only [Act.put,List.setIfInBounds_toArray,List.set_cons_zero,List.set_cons_succ,bw,bW]
        rfl
       refine dP (i:=13) (N:=some 44) (v:=undef) (a':=?_) #[true,true,true,true,true,true,true,true,true,true,true,true,true,true,false] rfl rfl (dg j.out (by kernel_rfl)) (fun _ _ _ h=>h) (Or.inr ⟨by rfl,rfl⟩) ?_ ?_
       rotate_left
       ·simp only [Act.put,List.setIfInBounds_toArray,List.set_cons_zero,List.set_cons_succ,bw,bW]
        rfl
       refine af.pu 14 45 j ?_
       refine gh (er j.out (by kernel_rfl)) ?_
       try go_wp2_with (first | (refine af.lt (Kd.int .i64) 3 46 ?_;intro it ms cX hb ef cb;clear ef cb;(first | rw [← f0.out] at cX | (simp only [Int.reduceToNat] at cX;rw [← f0.out] at cX));have f2:=ae.mk (Kd.b9 (Kd.dc cX (Kd.cD (af.Rw M.out))) (aj (af.Lw HB.out)));replace M:=ae.mk (Kd.cm (af.Rw M.out) (Kd.bF cX) hb);replace HB:=af.lb HB hb;clear hb cX;have hE:(y:Int)≤((X.length:Int):Int):=af.D;obtain ⟨m1,f3,_,f4,_⟩:=info_parts eJ;have ci:X.length≤ca:=(Kd.au M.out).2.1;have g6:Kd.C (Kd.int .i64) _ bv X.length X:=(Kd.au M.out).2.2;have jp:(0:Int)≤(y:Int):=af.D;have fa:=mG (P:=Tryz.prog) 28 3 .i64 Tryz.underlying28 f3 1 f4 bv X.length ca y jp hE;have d4:=Kd.kJ (m:=(y:Int).toNat) (c:=ca) g6 (by omega) ci;obtain ⟨k0,ea⟩:∃ A1,A1 = (if ca = (y:Int).toNat then bv else (bv:Option Addr).map (·.add ((y:Int).toNat * 1))):=⟨_,rfl⟩;obtain ⟨lk,f5⟩:∃ c1,c1 = ca - (y:Int).toNat:=⟨_,rfl⟩;have eb:ar.length = X.length - (y:Int).toNat:=(by rw [dC.out,List.length_drop] <;> omega);rw [show (X).drop (y:Int).toNat = ar from dC.out.symm] at d4;replace d4:Kd.C (Kd.int .i64) _ k0 ar.length ar:=(by rw [ea];exact d4);rw [← eb,← ea,← f5] at fa;have bo:=ae.mk d4;have ll:=ae.mk (show ar.length≤lk from by rw [eb,f5];exact Nat.sub_le_sub_right ci _);clear d4 g6 ci f3 f4 f5;have m2:=ae.mk eb;have k3:=ae.mk ea;clear eb ea;have k4:=ae.mk (show (y:Int).toNat≤X.length from by omega);replace hE:=eq_true hE) | ((with_reducible refine cB (b:=.append) (xs:=#[.tmp 46,.tmp 49]) rfl ?_);at_builtin;refine Kd.iE (Kd.int .i64) (w0:=w) w.heap.size rfl (.tmp 46) (.tmp 49) 28 3 (.int .i64 0) 8 rfl Tryz.underlying28 eJ rfl (by decide) (by omega) it cy ar _ _ _ (fun k_=>some k_≠(.slice bv X.length ca:Value).ownBlock) (fun _=>False) rfl rfl (by exact af.Rw (Kd.aX f2.out (fun _ hk=>hk.2))) (by repeat (first | exact (by repeat (first | (with_reducible exact bo.out) | (with_reducible refine Kd.fk ?_ _) | (with_reducible refine Kd.fm ?_ _) | (with_reducible refine Kd.fJ ?_) | exact bo.out)) | (with_reducible refine Kd.fk ?_ _) | (with_reducible refine Kd.fm ?_ _) | (with_reducible refine Kd.fJ ?_))) (fun _ _ h=>h) (fun _ h=>h.elim) (by exact fun k_ hk=>Kd.fresh' (Kd.cD (af.Rw M.out)) k_ hk) (by exact af.Lw HB.out) (by exact aj (af.Lw HB.out)) (by have:=hu.out;omega) ?_;intro k5 ka ho hb hg hat;rw [← hx.out] at ho;have b4:=ae.mk (Kd.eK (ok:=(fun _=>True)) (af.Rw M.out) hg hat);have ba:=ae.mk hb;have bc:=ae.mk ((show Kd.C (Kd.int .i64) ka k0 ar.length ar from by rw [dC.out,k3.out];exact Kd.kJ (m:=(y:Int).toNat) (c:=ca) ((Kd.au (Kd.eK (ok:=(fun _=>True)) (af.Rw M.out) hg hat)).2.2) k4.out ((Kd.au (Kd.eK (ok:=(fun _=>True)) (af.Rw M.out) hg hat)).2.1)));have et:=ae.mk ho;clear M;clear HB;clear bo;clear f2;have M:=b4;have HB:=ba;have bo:=bc;have a5:=et;clear b4 ba bc et;clear ho hb hg hat))
       replace M:=ae.mk (Kd.bS M.out)
       replace a5:=ae.mk (Kd.bS a5.out)
       replace bo:=ae.mk (Kd.fJ bo.out)
       replace HB:=ae.mk (bU HB.out)
       have hG:(y:Int)≤((X.length:Int):Int):=af.D
       obtain ⟨m3,f6,_,hH,_⟩:=info_parts eJ
       have fd:=pD (P:=Tryz.prog) 28 3 .i64 Tryz.underlying28 f6 bv X.length ca y (af.D) hG (Kd.au M.out).2.1
       have ec:=Kd.rZ (m:=(y:Int).toNat) M.out (by omega)
       have g7:ao.length = (y:Int).toNat:=(by rw [f1.out,List.length_take];omega)
       rw [← f1.out] at ec
       rw [← g7] at ec fd
       clear g7 f6 hH M
       have e2:=ae.mk ec
       clear ec
       replace hG:=eq_true hG
       obtain ⟨hI,kb,bi,m4,m5⟩:=af.ai d5.out z
       have a3:=bi
       cases kb
       try replace bi:=(HB.out.cell (World.block_lt_of_cell? w _ bi)).trans bi
       refine eS (n:=12) (S:=fun w'=>w'.cell? (hI.add (z).toNat) = some (.int .i64 (rd l0 z))) (ds:=[]) #[false,false,false,false,false,false,false,false,false,false,false,false] (by kernel_rfl) rfl rfl (((HB.out.cell (World.block_lt_of_cell? w _ a3)).trans a3)) (fun hHeld=>?_);refine dn aC.qx aC.o6 (fun j aw=>?_)
       generalize ka.drew = mv at M a5 bo HB e2 bi hHeld ⊢
       refine af.pu 0 51 j ?_
       refine af.pu 1 52 j ?_
       refine af.pu 2 53 j ?_
       refine af.pu 3 54 j ?_
       refine af.pu 4 55 j ?_
       refine af.pu 5 56 j ?_
       refine af.pu 9 60 j ?_
       refine mD (i:=6) (N:=some 57) (v:=?_) (a':=?_) #[true,true,true,true,true,true,true,false,false,true,false,false] rfl rfl (jY j.out aw.out (by kernel_rfl)) (fun _ _ _ h=>h) (Or.inl ⟨by rfl,?_⟩) hHeld ?_ ?_
       rotate_left
       ·intro w' s0
        go_simp
        with_reducible rfl
       rotate_left
       ·simp only [Act.put,List.setIfInBounds_toArray,List.set_cons_zero,List.set_cons_succ,bw,bW]
        rfl
       refine gA (i:=7) (N:=some 58) #[true,true,true,true,true,true,true,true,false,true,false,false] rfl rfl (dD j.out (by kernel_rfl)) (by decide) (fun K hK=>?_)
       refine kK (w1:=?_) (v:=?_) (by rfl) rfl ?_ ?_
       rotate_left 2
       ·go_simp
        constructor
        ·rfl
        ·rfl
       refine hK.out _ _ ((World.cell?_alloc_lt _ _ _ (World.block_lt_of_cell? _ _ (((HB.out.cell (World.block_lt_of_cell? w _ a3)).trans a3)))).trans (((HB.out.cell (World.block_lt_of_cell? w _ a3)).trans a3))) (fun hHeld=>?_)
       clear hK K
       refine eV (a':=?_) ?_ ?_
       rotate_left
       ·show Act.put _ (some 58) _ = _
        simp only [Act.put,List.setIfInBounds_toArray,List.set_cons_zero,List.set_cons_succ,bw,bW]
        rfl
       refine gA (i:=8) (N:=some 59) #[true,true,true,true,true,true,true,true,true,true,false,false] rfl rfl (dD j.out (by kernel_rfl)) (by decide) (fun K hK=>?_)
       refine Kd.fS (Kd.int .i64) (w0:=w) w.heap.size (by rfl) (.tmp 53) (.tmp 58) 28 3 (.int .i64 0) 8 rfl Tryz.underlying28 eJ rfl (by decide) (by omega) (.slice bv ao.length ca) ao (rd l0 z) [.int .i64 (rd l0 z)] (fun k_=>some k_≠(k5:Value).ownBlock) (fun _=>False) rfl rfl ?aP (fun _ hk=>hk.elim) ?aF ?aO ?aB ?aS ?aL ?_
       (case aP=>exact rfl)
       (case aB=>exact (af.Lw HB.out))
       (case aF=>exact (fun k_ hk=>Kd.fresh' (Kd.cD (af.Rw a5.out)) k_ hk))
       (case aO=>exact (af.Rw (Kd.aX e2.out (fun _ hk=>hk.2))))
       (case aS=>exact (aj (af.Lw HB.out)))
       (case aL=>have:=hz.out;omega)
       intro kc n0 ho hb hg hat
       rw [← hA.out] at ho
       have b4:=ae.mk (Kd.eK (ok:=(fun _=>True)) (af.Rw (Kd.aX a5.out (fun _ hk=>⟨trivial,(by first | exact hk | (cases fj <;> exact hk) | (cases fx <;> exact hk) | (cases fY <;> exact hk) | (cases ew <;> exact hk) | (cases bv <;> exact hk) | (cases ex <;> exact hk))⟩))) hg hat)
       have ba:=ae.mk hb
       have bc:=ae.mk ho
       clear a5
       clear HB
       clear e2
       have a5:=b4
       have HB:=ba
       have f7:=bc
       clear b4 ba bc
       clear ho hb hg hat
       obtain ⟨ex,kd,g8⟩:=Kd.aY a5.out
       (first | subst g8 | (injection g8 with b0 cc b1;have cd:=b0.symm;have ce:=b1.symm;clear b0 cc b1;subst cd;subst ce))
       refine hK.out _ _ (((HB.out.cell (World.block_lt_of_cell? w _ a3)).trans a3)) (fun hHeld=>?_)
       clear hK K
       refine eV (a':=?_) ?_ ?_
       rotate_left
       ·show Act.put _ (some 59) _ = _
        simp only [Act.put,List.setIfInBounds_toArray,List.set_cons_zero,List.set_cons_succ,bw,bW]
        rfl
       refine gA (i:=10) (N:=some 61) #[true,true,true,true,true,true,true,true,true,true,true,false] rfl rfl (dD j.out (by kernel_rfl)) (by decide) (fun K hK=>?_)
       refine Kd.fC (Kd.int .i64) (w0:=w) w.heap.size (by rfl) (.tmp 59) (.tmp 60) 28 3 (.int .i64 0) 8 rfl Tryz.underlying28 eJ rfl (by decide) (by omega) kc a9 am _ _ _ (fun k_=>some k_≠(.slice ex am.length kd:Value).ownBlock) (fun _=>False) rfl rfl ?aO ?aR (fun _ _ h=>h) (fun _ h=>h.elim) ?aF ?aB ?aS ?aL ?_
       (case aR=>repeat (first | exact (Kd.au a5.out).2.2 | (with_reducible refine Kd.fk ?_ _) | (with_reducible refine Kd.fm ?_ _) | (with_reducible refine Kd.fJ ?_)))
       (case aB=>exact (af.Lw HB.out))
       (case aF=>exact (fun k_ hk=>Kd.fresh' (Kd.cD (af.Rw a5.out)) k_ hk))
       (case aO=>exact (af.Rw f7.out))
       (case aS=>exact (aj (af.Lw HB.out)))
       (case aL=>have:=hC.out;omega)
       intro m6 n1 ho hb hg hat
       rw [← hD.out] at ho
       have b4:=ae.mk (Kd.eK (ok:=(fun _=>True)) (af.Rw a5.out) hg hat)
       have ba:=ae.mk hb
       have bc:=ae.mk ho
       clear a5
       clear HB
       clear f7
       have a5:=b4
       have HB:=ba
       have hL:=bc
       clear b4 ba bc
       clear ho hb hg hat
       refine hK.out _ _ (((HB.out.cell (World.block_lt_of_cell? w _ a3)).trans a3)) (fun hHeld=>?_)
       clear hK K
       refine eV (a':=?_) ?_ ?_
       rotate_left
       ·show Act.put _ (some 61) _ = _
        simp only [Act.put,List.setIfInBounds_toArray,List.set_cons_zero,List.set_cons_succ,bw,bW]
        rfl
       refine af.pu 11 3 j ?_
       refine gh (er j.out (by kernel_rfl)) ?_
       try go_wp2
       go_roundg k2
       case measure=>have:=cY.out;have:=d0.out;omega
       case rel=>exact ⟨(g4),(wrap64 (z+1)),af.F,H',⟨by have:=cY.out;have:=d0.out;omega⟩,⟨af.Rw (Kd.aX hL.out (fun _ hk=>trivial))⟩,⟨af.Lw HB.out⟩⟩
   ·rw [if_neg c4] at H
    have hR:decide (z < (l0.length:Int)) = false:=decide_eq_false c4
    clear c4
    obtain rfl:=Option.some.inj H
    go_wp2
    go_ret
    exact ⟨_,af.E,by (with_reducible repeat (first | apply Kd.cL | apply Kd.cM | apply Kd.bS));exact M.out,af.L⟩
def gW.f (a0:Int) (j:Int):Option (Int):=if a0 < j then (some a0) else (some j)
set_option maxHeartbeats 8000000 in
set_option maxRecDepth 100000 in
theorem gW.calls (a0:Int) (y:Int) (r:Int) (w:World) (h:gW.f a0 y = some r) :
  Calls Tryz.prog 81 #[.int .i64 a0,.int .i64 y] w fun e w'=>e = .returned (.int .i64 r)∧cQ w w':=by
 unfold gW.f at h
 have H:=h
 clear h
 by_cases c3:a0 < y
 ·rw [if_pos c3] at H
  have j:=decide_eq_true c3
  clear c3
  obtain rfl:=Option.some.inj H
  go_enter Tryz.func81,Tryz.ntmps81
  go_wp2
  go_ret
  exact ⟨af.F,af.G⟩
 ·rw [if_neg c3] at H
  have j:decide (a0 < y) = false:=decide_eq_false c3
  clear c3
  obtain rfl:=Option.some.inj H
  go_enter Tryz.func81,Tryz.ntmps81
  go_wp2
  go_ret
  exact ⟨af.F,af.G⟩
def gB.f (y:List Int) (z:Int) (M:Int) (X:Int):Option (Bool×Int×Int):=(aM.f y z M X).bind fun j=>(some ((j.1 == 0),j.2.1,j.2.2))
set_option maxHeartbeats 8000000 in
set_option maxRecDepth 100000 in
theorem gB.calls (g:Nat) (j:List Int) (y:Int) (z:Int) (a1:Int) (r1:Bool) (r2:Int) (r3:Int) (w0 w:World) (hI:av w0 w g j y z) (hB:Below w0.heap.size w0 w) (h:gB.f j y z a1 = some (r1,r2,r3)) :
  Calls Tryz.prog 134 #[.pointer (some ⟨g,0,none⟩),.int .i64 a1] w fun e w'=>e = .returned (.bool r1)∧av w0 w' g j r2 r3∧Below w0.heap.size w0 w'∧aq w w' g none:=by
 have a0:=ae.mk hI
 have HK:=ae.mk (aq.refl w g none)
 have HL:=ae.mk hB.size
 clear hI
 have a2:=ae.mk hB.size
 have HB:=ae.mk hB
 clear hB
 unfold gB.f at h
 have H:=h
 clear h
 obtain ⟨⟨M,X,Y⟩,A3,H⟩:=af.be H
 (try dsimp only at H)
 simp only [Option.some.injEq,Prod.mk.injEq] at H
 obtain ⟨rfl,rfl,rfl⟩:=H
 go_enter Tryz.func134,Tryz.ntmps134
 go_wp2_with (first | (refine af.gl (some 7) Tryz.func80 #[.pointer (some ⟨g,0,none⟩),.int .i64 a1] ?_;(with_reducible refine (aM.calls g j y z a1 M X Y w0 _ ?side1 ?side2 A3.out).mono ?_);(case side1=>exact af.I);(case side2=>exact af.J HB);rintro e w4 ⟨rfl,hi,hb,hk⟩;refine ⟨_,rfl,?_⟩;replace HK:=ae.mk (aq.trans (af.K HK) hk (.inl rfl));replace HB:=ae.mk hb;replace a0:=ae.mk hi;(try clear hb);(try clear a3);(try clear hk);(try clear hi)))
 go_ret
 exact ⟨af.E,af.I,af.J HB,af.K HK⟩
def gC.f (y:List Int) (z:Int) (M:Int):Option (Int×Int×Int):=(aM.f y z M 256).bind fun j=>(some (j.1,j.2.1,j.2.2))
set_option maxHeartbeats 8000000 in
set_option maxRecDepth 100000 in
theorem gC.calls (g:Nat) (j:List Int) (y:Int) (z:Int) (r1:Int) (r2:Int) (r3:Int) (w0 w:World) (hI:av w0 w g j y z) (hB:Below w0.heap.size w0 w) (h:gC.f j y z = some (r1,r2,r3)) :
  Calls Tryz.prog 135 #[.pointer (some ⟨g,0,none⟩)] w fun e w'=>e = .returned (.int .i64 r1)∧av w0 w' g j r2 r3∧Below w0.heap.size w0 w'∧aq w w' g none:=by
 have a0:=ae.mk hI
 have HK:=ae.mk (aq.refl w g none)
 have HL:=ae.mk hB.size
 clear hI
 have a1:=ae.mk hB.size
 have HB:=ae.mk hB
 clear hB
 unfold gC.f at h
 have H:=h
 clear h
 obtain ⟨⟨M,X,Y⟩,A2,H⟩:=af.be H
 (try dsimp only at H)
 simp only [Option.some.injEq,Prod.mk.injEq] at H
 obtain ⟨rfl,rfl,rfl⟩:=H
 go_enter Tryz.func135,Tryz.ntmps135
 go_wp2_with (first | (refine af.gl (some 4) Tryz.func80 #[.pointer (some ⟨g,0,none⟩),.int .i64 256] ?_;(with_reducible refine (aM.calls g j y z 256 M X Y w0 _ ?side1 ?side2 A2.out).mono ?_);(case side1=>exact af.I);(case side2=>exact af.J HB);rintro e w3 ⟨rfl,hi,hb,hk⟩;refine ⟨_,rfl,?_⟩;replace HK:=ae.mk (aq.trans (af.K HK) hk (.inl rfl));replace HB:=ae.mk hb;replace a0:=ae.mk hi;(try clear hb);(try clear a2);(try clear hk);(try clear hi)))
 go_ret
 exact ⟨af.E,af.I,af.J HB,af.K HK⟩
def gD.f (M:List Int) (X:Int) (Y:Int):Option (Int×Int×Int):=(gB.f M X Y 8).bind fun j=>(if j.1 = true then ((cK.f M j.2.1 j.2.2 (([(-1),256,1000,(-9223372036854775808)]:List Int))).bind fun y=>(some (y.1,y.2.1,y.2.2))) else ((gC.f M j.2.1 j.2.2).bind fun z=>(some (z.1,z.2.1,z.2.2))))
set_option maxHeartbeats 8000000 in
set_option maxRecDepth 100000 in
theorem gD.calls (g:Nat) (j:List Int) (a2:Int) (a3:Int) (r1:Int) (r2:Int) (r3:Int) (w0 w:World) (hI:av w0 w g j a2 a3) (hB:Below w0.heap.size w0 w) (h:gD.f j a2 a3 = some (r1,r2,r3)) :
  Calls Tryz.prog 90 #[.pointer (some ⟨g,0,none⟩)] w fun e w'=>e = .returned (.int .i64 r1)∧av w0 w' g j r2 r3∧Below w0.heap.size w0 w'∧aq w w' g none:=by
 have a4:=ae.mk hI
 have HK:=ae.mk (aq.refl w g none)
 have HL:=ae.mk hB.size
 clear hI
 have aR:=ae.mk hB.size
 have HB:=ae.mk hB
 clear hB
 unfold gD.f at h
 have H:=h
 clear h
 obtain ⟨⟨aa,X,Y⟩,A2,H⟩:=af.be H
 (try dsimp only at H)
 by_cases c3:aa = true
 ·subst c3
  replace H:((cK.f j X Y (([(-1),256,1000,(-9223372036854775808)]:List Int))).bind fun y=>(some (y.1,y.2.1,y.2.2))) = some (r1,r2,r3):=by rw [if_pos rfl] at H;exact H
  obtain ⟨a5,a0⟩:∃ y_:List Int,y_ = (([(-1),256,1000,(-9223372036854775808)]:List Int)):=⟨_,rfl⟩
  replace H:((cK.f j X Y a5).bind fun y=>(some (y.1,y.2.1,y.2.2))) = some (r1,r2,r3):=by (try rw [a0]);exact af.Z
  have a6:=ae.mk a0
  clear a0
  obtain ⟨⟨ab,al,am⟩,A4,H⟩:=af.be H
  (try dsimp only at H)
  simp only [Option.some.injEq,Prod.mk.injEq] at H
  obtain ⟨rfl,rfl,rfl⟩:=H
  go_enter Tryz.func90,Tryz.ntmps90
  go_wp2_with (first | (refine af.gl (some 4) Tryz.func134 #[.pointer (some ⟨g,0,none⟩),.int .i64 8] ?_;(with_reducible refine (gB.calls g j a2 a3 8 true X Y w0 _ ?side1 ?side2 A2.out).mono ?_);(case side1=>exact af.I);(case side2=>exact af.J HB);rintro e w5 ⟨rfl,hi,hb,hk⟩;refine ⟨_,rfl,?_⟩;replace HK:=ae.mk (aq.trans (af.K HK) hk (.inl rfl));replace HB:=ae.mk hb;replace a4:=ae.mk hi;(try clear hb);(try clear a8);(try clear hk);(try clear hi)) | ((with_reducible refine bJ (N:=6) rfl ?_);refine Kd.iY (Kd.int .i64) _ 3 ?hg (N:=6) ?hd (xs:=([(-1),256,1000,(-9223372036854775808)]:List Int)) (inner:=[.int .i64 (-1),.int .i64 256,.int .i64 1000,.int .i64 (-9223372036854775808)]) (ok:=fun _=>True) (okp:=fun _=>True) ?hr ?hp (fun _ hk=>hk) trivial (Below.refl _ _) (Nat.le_refl _) (by simp) ?_;(case hd=>rfl);(case hg=>rfl);(case hr=>first | (go_simp;done) | (go_simp;rfl));(case hp=>exact (cE.one (show Kd.M (Kd.int .i64) _ _ _ (-1) [.int .i64 (-1)] from rfl) (cE.one (show Kd.M (Kd.int .i64) _ _ _ 256 [.int .i64 256] from rfl) (cE.one (show Kd.M (Kd.int .i64) _ _ _ 1000 [.int .i64 1000] from rfl) (cE.one (show Kd.M (Kd.int .i64) _ _ _ (-9223372036854775808) [.int .i64 (-9223372036854775808)] from rfl) (cE.none _ _))))));intro aP w6 a7 hb aw a9;clear aw a9;(first | rw [← a6.out] at a7 | (simp only [Int.reduceToNat] at a7;rw [← a6.out] at a7));have z:=ae.mk (Kd.b9 a7 (bj (w:=w) (g:=g) (row:=none) (af.K HK)));replace HK:=ae.mk (aq.trans (af.K HK) (aq.cW hb g none) (.inl rfl));replace HB:=ae.mk (az (af.J HB) hb);replace a4:=ae.mk (av.below af.I hb);clear hb a7;obtain ⟨aB,aF,aL⟩:=Kd.aY z.out;subst aL) | (refine af.gl (some 7) Tryz.func119 #[.pointer (some ⟨g,0,none⟩),.slice aB a5.length aF] ?_;(with_reducible refine (cK.calls g j X Y _ _ a5 ab al am w0 _ ?side1 ?side2 ?side3 ?side4 ?side5 A4.out).mono ?_);(case side1=>exact af.I);(case side2=>exact af.J HB);(case side3=>exact af.Cw ((Kd.au z.out).2.2));(case side4=>exact (Kd.au z.out).2.1);(case side5=>exact js (av.hJ a4.out z.out (by decide)));rintro e w9 ⟨rfl,hi,hb,hk⟩;refine ⟨_,rfl,?_⟩;replace z:=ae.mk (Kd.aX (Kd.fR (av.apart (show av w0 _ g j X Y from af.I) (af.Rw z.out) (by decide)) hk (fun _ h=>h.2)) (fun _ h=>h.1));replace HK:=ae.mk (aq.trans (af.K HK) hk (.inl rfl));replace HB:=ae.mk hb;replace a4:=ae.mk hi;(try clear hb);(try clear a8);(try clear hk);(try clear hi)))
  go_ret
  exact ⟨af.E,af.I,af.J HB,af.K HK⟩
 ·replace c3:=Bool.eq_false_iff.mpr c3
  subst c3
  replace H:((gC.f j X Y).bind fun a1=>(some (a1.1,a1.2.1,a1.2.2))) = some (r1,r2,r3):=by rw [if_neg (show ¬ (false = true) by decide)] at H;exact H
  obtain ⟨⟨ao,ap,ar⟩,aO,H⟩:=af.be H
  (try dsimp only at H)
  simp only [Option.some.injEq,Prod.mk.injEq] at H
  obtain ⟨rfl,rfl,rfl⟩:=H
  go_enter Tryz.func90,Tryz.ntmps90
  go_wp2_with (first | (refine af.gl (some 4) Tryz.func134 #[.pointer (some ⟨g,0,none⟩),.int .i64 8] ?_;(with_reducible refine (gB.calls g j a2 a3 8 false X Y w0 _ ?side1 ?side2 A2.out).mono ?_);(case side1=>exact af.I);(case side2=>exact af.J HB);rintro e aS ⟨rfl,hi,hb,hk⟩;refine ⟨_,rfl,?_⟩;replace HK:=ae.mk (aq.trans (af.K HK) hk (.inl rfl));replace HB:=ae.mk hb;replace a4:=ae.mk hi;(try clear hb);(try clear a8);(try clear hk);(try clear hi)) | (refine af.gl (some 9) Tryz.func135 #[.pointer (some ⟨g,0,none⟩)] ?_;(with_reducible refine (gC.calls g j X Y ao ap ar w0 _ ?side1 ?side2 aO.out).mono ?_);(case side1=>exact af.I);(case side2=>exact af.J HB);rintro e b0 ⟨rfl,hi,hb,hk⟩;refine ⟨_,rfl,?_⟩;replace HK:=ae.mk (aq.trans (af.K HK) hk (.inl rfl));replace HB:=ae.mk hb;replace a4:=ae.mk hi;(try clear hb);(try clear a8);(try clear hk);(try clear hi)))
  go_ret
  exact ⟨af.E,af.I,af.J HB,af.K HK⟩
mutual
def bT.j0:Nat→Int→Int→Bool→Option (Int×List Int)
 | 0,_,_,_=>none
 | k+1,M,z,a1=>if a1 = true then (some (0,([]:List Int))) else (bT.l0 k M z 0 z ([]:List Int))
def bT.l0:Nat→Int→Int→Int→Int→List Int→Option (Int×List Int)
 | 0,_,_,_,_,_=>none
 | k+1,M,z,X,y,j=>(br.f z).bind fun Y=>(if X≤Y then ((b6.f k X).bind fun a0=>(if a0 = M then (if j.length < 17592186044416 then (bT.l0 k M z (wrap64 (X+1)) y (j ++ [X])) else (none)) else (bT.l0 k M z (wrap64 (X+1)) y j))) else (some (y,j)))
end
def bT.f (k:Nat) (a0:Int) (z:Int):Option (Int×List Int):=(bH.f z 0 8).bind fun j=>(if j = true then ((bH.f a0 0 z).bind fun y=>(bT.j0 k a0 z (!y))) else (bT.j0 k a0 z true))
set_option maxHeartbeats 8000000 in
set_option maxRecDepth 100000 in
theorem bT.calls (k:Nat) (a0:Int) (a1:Int) (r1:Int) (r2:List Int) (w:World) (h:bT.f k a0 a1 = some (r1,r2)) :
  Calls Tryz.prog 163 #[.int .i64 a0,.int .i64 a1] w fun e w'=>∃ ce:Value,e = .returned (.agg #[.int .i64 r1,ce])∧Kd.R (Kd.int .i64) 3 w' w.heap.size (fun _=>True) ce r2∧Below w.heap.size w w':=by
 have ee:=Tryz.underlying30
 have HB:=ae.mk (Below.refl w.heap.size w)
 unfold bT.f at h
 have H:=h
 clear h
 have bm:=ae.mk H
 clear H
 go_enter Tryz.func163,Tryz.ntmps163
 go_upto_region 1 with (first | ((with_reducible refine bJ (N:=4) rfl ?_);refine af.bx 4 #[.int .i64 0,.slice none 0 0] 30 ?_;intro Y hg w4 hbox hb;have j:=ae.mk hbox;have dT:=af.gw hg HB;have e0:=af.gw hg HB;replace HB:=af.lb HB hb;clear hb hbox hg))
 (try simp only [Act.put,List.setIfInBounds_toArray,List.set_cons_zero,List.set_cons_succ])
 go_cut [15] (fun e1 wc=>∃ (kq:Nat) (aL:Bool),e1 = .bool aL∧ae (bT.j0 kq a0 a1 aL = some (r1,r2))∧ae (kq≤k)∧ae (wc.heap[Y]? = some (.cells #[.int .i64 0,(.slice none 0 0)] 30 (0,0)))∧ae (Below w.heap.size w wc))
 case first =>
  have H:=bm.out
  clear bm
  obtain ⟨cf,A5,H⟩:=af.be H
  (try dsimp only at H)
  by_cases c6:cf = true
  ·subst c6
   replace H:((bH.f a0 0 a1).bind fun aS=>(bT.j0 k a0 a1 (!aS))) = some (r1,r2):=by rw [if_pos rfl] at H;exact H
   obtain ⟨aS,A7,H⟩:=af.be H
   (try dsimp only at H)
   have H':=ae.mk H
   clear H
   go_wp2_with (first | ((with_reducible refine ax (f:=94) rfl ?_);refine af.gl (some 8) Tryz.func94 #[.int .i64 a1,.int .i64 0,.int .i64 8] ?_;(with_reducible refine (bH.calls a1 0 8 true _ A5.out).mono ?_);rintro e w' ⟨rfl,⟨nd,rfl⟩⟩;refine ⟨_,rfl,?_⟩) | (go_at_call 94;(with_reducible refine (bH.calls a0 0 a1 aS _ A7.out).mono ?_);rintro e w' ⟨rfl,⟨nd,rfl⟩⟩))
   go_meet
   case rel=>exact ⟨_,(!aS),af.F,H',⟨by first | omega | exact Nat.le_refl _⟩,⟨af.Bw j.out⟩,⟨af.L⟩⟩
  ·replace c6:=Bool.eq_false_iff.mpr c6
   subst c6
   replace H:(bT.j0 k a0 a1 true) = some (r1,r2):=by rw [if_neg (show ¬ (false = true) by decide)] at H;exact H
   have H':=ae.mk H
   clear H
   go_wp2_with (first | ((with_reducible refine ax (f:=94) rfl ?_);refine af.gl (some 8) Tryz.func94 #[.int .i64 a1,.int .i64 0,.int .i64 8] ?_;(with_reducible refine (bH.calls a1 0 8 false _ A5.out).mono ?_);rintro e w' ⟨rfl,⟨nd,rfl⟩⟩;refine ⟨_,rfl,?_⟩))
   go_meet
   case rel=>exact ⟨_,(true),af.F,H',⟨by first | omega | exact Nat.le_refl _⟩,⟨af.Bw j.out⟩,⟨af.L⟩⟩
 case rest =>
  clear bm
  obtain ⟨kq,aL,rfl,HA,b3,j,HB⟩:=hcut
  cases kq with
  | zero=>exact absurd HA.out (by simp [bT.j0])
  | succ bo =>
   have H:=HA.out
   clear HA
   simp only [bT.j0] at H
   by_cases c8:aL = true
   ·subst c8
    replace H:(some (0,([]:List Int))) = some (r1,r2):=by rw [if_pos rfl] at H;exact H
    simp only [Option.some.injEq,Prod.mk.injEq] at H
    obtain ⟨rfl,rfl⟩:=H
    obtain ⟨du,dv,dC,dE⟩:=af.bR j.out
    go_wp2
    refine bodyPost_ret (results_cell_row rfl _ _ Y 30 #[.int .i64 0,.slice none 0 0] (0,0) _ rfl af.B Tryz.underlying30 rfl (by kernel_rfl)) rfl ?_
    exact ⟨_,af.E,af.N,af.L⟩
   ·replace c8:=Bool.eq_false_iff.mpr c8
    subst c8
    replace H:(bT.l0 bo a0 a1 0 a1 ([]:List Int)) = some (r1,r2):=by rw [if_neg (show ¬ (false = true) by decide)] at H;exact H
    have H':=ae.mk H
    clear H
    go_wp2_with (first | ((with_reducible refine bJ (N:=5) rfl ?_);refine af.bx 5 #[.int .i64 0,.slice none 0 0] 30 ?_;intro a2 hg eg hbox hb;have z:=ae.mk hbox;have e2:=af.gL (w:=w) hg af.L;have e3:=af.gL (w:=w) hg af.L;replace HB:=ae.mk (az af.L hb);have a5:=af.nl hg j;have a6:=af.ng hg j;replace j:=af.bb j hb;clear hb hbox hg;have e4:=a6.out;have e8:=a5.out;obtain ⟨ci,cp,cx,cy⟩:=af.bR z.out))
    go_loopg [6] bo (fun kq v6 w'=>∃ (a3:Int) (M:List Int) (X:Value),v6 = .int .i64 a3∧ae (bT.l0 kq a0 a1 a3 a1 M = some (r1,r2))∧ae (kq≤bo)∧ae (Kd.R (Kd.int .i64) 3 w' w.heap.size (fun _=>True) X M)∧ae (w'.heap[Y]? = some (.cells #[.int .i64 0,(.slice none 0 0)] 30 (0,0)))∧ae (w'.heap[a2]? = some (.cells #[.int .i64 a1,X] 30 (0,0)))∧ae (Below w.heap.size w w'))
    case atStart=>exact ⟨(0),(([]:List Int)),(.slice none 0 0),af.F,H',⟨Nat.le_refl _⟩,⟨af.N⟩,⟨af.B⟩,⟨af.B⟩,⟨af.L⟩⟩
    case round =>
     clear H'
     obtain ⟨a3,M,X,rfl,HA,b4,y,j,z,HB⟩:=hrel
     cases gk with
     | zero=>exact absurd HA.out (by simp [bT.l0])
     | succ k2 =>
      have H:=HA.out
      clear HA
      simp only [bT.l0] at H
      obtain ⟨aO,bs,H⟩:=af.be H
      (try dsimp only at H)
      by_cases b1:a3≤aO
      ·rw [if_pos b1] at H
       have bv:=decide_eq_true b1
       clear b1
       obtain ⟨a7,cX,H⟩:=af.be H
       (try dsimp only at H)
       by_cases aP:a7 = a0
       ·rw [if_pos aP] at H
        have ca:(a7 == a0) = true:=beq_iff_eq.mpr aP
        have cb:(a7 != a0) = false:=bne_eq_false_iff_eq.mpr aP
        clear aP
        obtain ⟨cY,H⟩:=af.ip H
        have cc:=ae.mk cY
        clear cY
        obtain ⟨b0,aR⟩:∃ y_:List Int,y_ = (M ++ [a3]):=⟨_,rfl⟩
        replace H:(bT.l0 k2 a0 a1 (wrap64 (a3+1)) a1 b0) = some (r1,r2):=by (try rw [aR]);exact af.Z
        have cd:=ae.mk aR
        clear aR
        have H':=ae.mk H
        clear H
        go_wp2_with (first | ((with_reducible refine ax (f:=24) rfl ?_);refine af.gl (some 21) Tryz.func24 #[.int .i64 a1] ?_;(with_reducible refine (br.calls a1 aO _ bs.out).mono ?_);rintro e w' ⟨rfl,⟨nd,rfl⟩⟩;refine ⟨_,rfl,?_⟩;(try (rw [eA wr];generalize a4:World.drewN wr _ = wr;have a8:ae (Kd.R (Kd.int .i64) 3 wr w.heap.size (fun _=>True) X M):=⟨by rw [← a4];exact (af.Rw y.out)⟩;have a9:ae (wr.heap[Y]? = some (.cells #[.int .i64 0,.slice none 0 0] 30 (0,0))):=⟨by rw [← a4];exact (af.Bw j.out)⟩;have aa:ae (wr.heap[a2]? = some (.cells #[.int .i64 a1,X] 30 (0,0))):=⟨by rw [← a4];exact (af.Bw z.out)⟩;have ab:ae (Below w.heap.size w wr):=⟨by rw [← a4];exact af.L⟩;clear y j z HB a4;have y:=a8;have j:=a9;have z:=aa;have HB:=ab;clear a8 a9 aa ab;have al:wr.cell? ⟨Y,0,none⟩ = some (.int .i64 0):=(ak j.out 0).trans rfl;have am:=an j.out 0;have ao:wr.cell? ⟨Y,1,none⟩ = some (.slice none 0 0):=(ak j.out 1).trans rfl;have ap:=an j.out 1;have ar:wr.cell? ⟨a2,0,none⟩ = some (.int .i64 a1):=(ak z.out 0).trans rfl;have aw:=an z.out 0;have aB:wr.cell? ⟨a2,1,none⟩ = some (X):=(ak z.out 1).trans rfl;have aF:=an z.out 1))) | ((with_reducible refine ax (f:=25) rfl ?_);refine af.gl (some 26) Tryz.func25 #[.int .i64 a3] ?_;(with_reducible refine (b6.calls k2 a3 a7 _ cX.out).mono ?_);rintro e w' ⟨rfl,⟨nd,rfl⟩⟩;refine ⟨_,rfl,?_⟩;(try (rw [eA wr];generalize a4:World.drewN wr _ = wr;have a8:ae (Kd.R (Kd.int .i64) 3 wr w.heap.size (fun _=>True) X M):=⟨by rw [← a4];exact (af.Rw y.out)⟩;have a9:ae (wr.heap[Y]? = some (.cells #[.int .i64 0,.slice none 0 0] 30 (0,0))):=⟨by rw [← a4];exact (af.Bw j.out)⟩;have aa:ae (wr.heap[a2]? = some (.cells #[.int .i64 a1,X] 30 (0,0))):=⟨by rw [← a4];exact (af.Bw z.out)⟩;have ab:ae (Below w.heap.size w wr):=⟨by rw [← a4];exact af.L⟩;clear y j z HB a4;have y:=a8;have j:=a9;have z:=aa;have HB:=ab;clear a8 a9 aa ab;have al:wr.cell? ⟨Y,0,none⟩ = some (.int .i64 0):=(ak j.out 0).trans rfl;have am:=an j.out 0;have ao:wr.cell? ⟨Y,1,none⟩ = some (.slice none 0 0):=(ak j.out 1).trans rfl;have ap:=an j.out 1;have ar:wr.cell? ⟨a2,0,none⟩ = some (.int .i64 a1):=(ak z.out 0).trans rfl;have aw:=an z.out 0;have aB:wr.cell? ⟨a2,1,none⟩ = some (X):=(ak z.out 1).trans rfl;have aF:=an z.out 1));have ea:=a6.out;have eb:=a5.out;obtain ⟨d0,d1,d2,d3⟩:=af.bR z.out) | ((with_reducible refine cB (b:=.append) (xs:=#[.tmp 30,.tmp 32]) rfl ?_);at_builtin;refine Kd.fg (Kd.int .i64) (w0:=w) w.heap.size rfl (.tmp 30) (.tmp 32) 28 3 (.int .i64 0) 8 rfl Tryz.underlying28 eJ rfl (by decide) (by omega) X M a3 [.int .i64 a3] (fun _=>True) (fun _=>False) rfl rfl (by exact rfl) (fun _ hk=>hk.elim) (by exact fun _ _=>trivial) (by exact af.Rw y.out) (by exact af.L) (by exact aj af.L) (by have:=cc.out;omega) ?_;intro ef eh ho hb hg hat;rw [← cd.out] at ho;have a8:=ae.mk (ep (g:=Y) (o:=.cells #[.int .i64 0,.slice none 0 0] 30 (0,0)) (af.Bw j.out) hg (Kd.jr y.out j.out (by decide)));have a9:=ae.mk (ep (g:=a2) (o:=.cells #[.int .i64 a1,X] 30 (0,0)) (af.Bw z.out) hg (Kd.jr y.out z.out (by decide)));have aa:=ae.mk hb;have ab:=ae.mk ho;clear j;clear z;clear HB;clear y;have j:=a8;have z:=a9;have HB:=aa;have b2:=ab;clear a8 a9 aa ab;clear ho hb hg hat;obtain ⟨ba,bc,d4⟩:=Kd.aY b2.out;subst d4;obtain ⟨d5,d6,d7,d8⟩:=af.bR z.out))
        go_roundg k2
        case measure=>have:=b3.out;have:=b4.out;omega
        case rel=>exact ⟨(wrap64 (a3+1)),(b0),(.slice ba b0.length bc),af.F,H',⟨by have:=b3.out;have:=b4.out;omega⟩,⟨af.Rw (Kd.aX (Kd.cI (p:=⟨a2,1,none⟩) (Kd.cR b2.out z.out (by decide)) (fun _ hk=>hk.2) (.slice ba b0.length bc)) (fun _ hk=>trivial))⟩,⟨af.B⟩,⟨af.B⟩,⟨af.L⟩⟩
       ·rw [if_neg aP] at H
        have ca:(a7 == a0) = false:=beq_eq_false_iff_ne.mpr aP
        have cb:(a7 != a0) = true:=bne_iff_ne.mpr aP
        have H':=ae.mk H
        clear H
        go_wp2_with (first | ((with_reducible refine ax (f:=24) rfl ?_);refine af.gl (some 21) Tryz.func24 #[.int .i64 a1] ?_;(with_reducible refine (br.calls a1 aO _ bs.out).mono ?_);rintro e w' ⟨rfl,⟨nd,rfl⟩⟩;refine ⟨_,rfl,?_⟩) | ((with_reducible refine ax (f:=25) rfl ?_);refine af.gl (some 26) Tryz.func25 #[.int .i64 a3] ?_;(with_reducible refine (b6.calls k2 a3 a7 _ cX.out).mono ?_);rintro e w' ⟨rfl,⟨nd,rfl⟩⟩;refine ⟨_,rfl,?_⟩))
        go_roundg k2
        case measure=>have:=b3.out;have:=b4.out;omega
        case rel=>exact ⟨(wrap64 (a3+1)),(M),(X),af.F,H',⟨by have:=b3.out;have:=b4.out;omega⟩,⟨af.Rw y.out⟩,⟨af.Bw j.out⟩,⟨af.Bw z.out⟩,⟨af.L⟩⟩
      ·rw [if_neg b1] at H
       have bv:decide (a3≤aO) = false:=decide_eq_false b1
       clear b1
       simp only [Option.some.injEq,Prod.mk.injEq] at H
       obtain ⟨rfl,rfl⟩:=H
       go_wp2_with (first | ((with_reducible refine ax (f:=24) rfl ?_);refine af.gl (some 21) Tryz.func24 #[.int .i64 a1] ?_;(with_reducible refine (br.calls a1 aO _ bs.out).mono ?_);rintro e w' ⟨rfl,⟨nd,rfl⟩⟩;refine ⟨_,rfl,?_⟩;(try (rw [eA wr];generalize a4:World.drewN wr _ = wr;have a8:ae (Kd.R (Kd.int .i64) 3 wr w.heap.size (fun _=>True) X M):=⟨by rw [← a4];exact (af.Rw y.out)⟩;have a9:ae (wr.heap[Y]? = some (.cells #[.int .i64 0,.slice none 0 0] 30 (0,0))):=⟨by rw [← a4];exact (af.Bw j.out)⟩;have aa:ae (wr.heap[a2]? = some (.cells #[.int .i64 a1,X] 30 (0,0))):=⟨by rw [← a4];exact (af.Bw z.out)⟩;have ab:ae (Below w.heap.size w wr):=⟨by rw [← a4];exact af.L⟩;clear y j z HB a4;have y:=a8;have j:=a9;have z:=aa;have HB:=ab;clear a8 a9 aa ab;have al:wr.cell? ⟨Y,0,none⟩ = some (.int .i64 0):=(ak j.out 0).trans rfl;have am:=an j.out 0;have ao:wr.cell? ⟨Y,1,none⟩ = some (.slice none 0 0):=(ak j.out 1).trans rfl;have ap:=an j.out 1;have ar:wr.cell? ⟨a2,0,none⟩ = some (.int .i64 a1):=(ak z.out 0).trans rfl;have aw:=an z.out 0;have aB:wr.cell? ⟨a2,1,none⟩ = some (X):=(ak z.out 1).trans rfl;have aF:=an z.out 1));have ec:=a6.out;have ed:=a5.out;obtain ⟨d9,db,dd,df⟩:=af.bR z.out;obtain ⟨dk,dl,dp,dq⟩:=af.bR j.out;obtain ⟨bd,bi,dt⟩:=Kd.aY y.out;subst dt))
       refine bodyPost_ret (results_cell_row rfl _ _ Y 30 #[.int .i64 a1,.slice bd M.length bi] (0,0) _ rfl af.B Tryz.underlying30 rfl (by kernel_rfl)) rfl ?_
       exact ⟨_,af.E,by (with_reducible repeat (first | apply Kd.cL | apply Kd.cM | apply Kd.bS));exact Kd.aX (Kd.cI (p:=⟨Y,1,none⟩) (Kd.cI (p:=⟨Y,0,none⟩) (Kd.cR y.out j.out (by decide)) (fun _ hk=>hk.2) (.int .i64 a1)) (fun _ hk=>hk.2) (.slice bd M.length bi)) (fun _ hk=>trivial),af.L⟩
def bz.l0:Nat→ByteArray→Int→List ByteArray→Int→Int→Option (List ByteArray)
 | 0,_,_,_,_,_=>none
 | k+1,y,X,M,z,j=>if j≤(y.size:Int) then (if j = (y.size:Int) then (if 0≤z then (if z≤j then (if M.length < 8796093022208 then (bz.l0 k y X (M ++ [y.extract (z:Int).toNat (j:Int).toNat]) (wrap64 (j+1)) (wrap64 (j+1))) else (none)) else (none)) else (none)) else (if 0≤j then (if j < (y.size:Int) then (if (bt y j) = X then (if 0≤z then (if z≤j then (if M.length < 8796093022208 then (bz.l0 k y X (M ++ [y.extract (z:Int).toNat (j:Int).toNat]) (wrap64 (j+1)) (wrap64 (j+1))) else (none)) else (none)) else (none)) else (bz.l0 k y X M z (wrap64 (j+1)))) else (none)) else (none))) else (some M)
def bz.f (k:Nat) (a0:ByteArray) (j:Int):Option (List ByteArray):=bz.l0 k a0 j (([]:List ByteArray)) 0 0
theorem bz.di:∀ k,af.S5 bz.l0 k
 | 0=>by and_intros <;> (repeat intro _) <;> exact af.mz rfl
 | k+1=>by
  have j:=bz.di k
  and_intros <;> (repeat intro _) <;> unfold bz.l0 <;> exact ⟨af.mt⟩
theorem bz.mono:∀ a0 j k,iN (bz.f k a0 j) (bz.f (k+1) a0 j):=by
 intro a0 j k
 have y:=bz.di k
 unfold bz.f
 exact af.mt
instance bz.m:af.V2 bz.f:=fun _ _ _=>⟨bz.mono _ _ _⟩
set_option maxHeartbeats 8000000 in
set_option maxRecDepth 100000 in
theorem bz.calls (k:Nat) (a0:ByteArray) (a1:Int) (r:List ByteArray) (w:World) (h:bz.f k a0 a1 = some r) :
  Calls Tryz.prog 183 #[.string a0,.int .u8 a1] w fun e w'=>∃ b1:Value,e = .returned (b1)∧Kd.R Kd.string 9 w' w.heap.size (fun _=>True) b1 r∧Below w.heap.size w w':=by
 have HB:=ae.mk (Below.refl w.heap.size w)
 unfold bz.f at h
 have H:=h
 clear h
 obtain ⟨ab,X⟩:∃ y_:List ByteArray,y_ = (([]:List ByteArray)):=⟨_,rfl⟩
 replace H:(bz.l0 k a0 a1 ab 0 0) = some r:=by (try rw [X]);exact af.Z
 have a5:=ae.mk X
 clear X
 have H':=ae.mk H
 clear H
 go_enter Tryz.func183,Tryz.ntmps183
 go_wp2_with (first | (refine af.lt Kd.string 9 8 ?_;intro ce w3 a6 hb bm ao;clear bm ao;(first | rw [← a5.out] at a6 | (simp only [Int.reduceToNat] at a6;rw [← a5.out] at a6));have ap:=ae.mk (Kd.b9 a6 (aj (af.Lw HB.out)));replace HB:=af.lb HB hb;clear hb a6))
 go_loopg [5,6,7] k (fun kq v5 v6 v7 w'=>∃ (z:List ByteArray) (y:Int) (j:Int),v6 = .int .i64 y∧v7 = .int .i64 j∧ae (bz.l0 kq a0 a1 z y j = some r)∧ae (kq≤k)∧ae (Kd.R Kd.string 9 w' w.heap.size (fun _=>True) v5 z)∧ae (Below w.heap.size w w'))
 case atStart=>exact ⟨(ab),(0),(0),af.F,af.F,H',⟨Nat.le_refl _⟩,⟨af.Rw ap.out⟩,⟨af.Lw HB.out⟩⟩
 case round =>
  clear H'
  obtain ⟨z,y,j,rfl,rfl,HA,a4,M,HB⟩:=hrel
  cases gk with
  | zero=>exact absurd HA.out (by simp [bz.l0])
  | succ k1 =>
   have H:=HA.out
   clear HA
   simp only [bz.l0] at H
   by_cases c5:j≤(a0.size:Int)
   ·rw [if_pos c5] at H
    have b2:=decide_eq_true c5
    clear c5
    by_cases c6:j = (a0.size:Int)
    ·rw [if_pos c6] at H
     have b3:(j == (a0.size:Int)) = true:=beq_iff_eq.mpr c6
     have b4:(j != (a0.size:Int)) = false:=bne_eq_false_iff_eq.mpr c6
     clear c6
     obtain ⟨c7,H⟩:=af.ip H
     have cf:=eq_true c7
     have ci:decide (0≤y) = true:=decide_eq_true c7
     clear c7
     obtain ⟨c8,H⟩:=af.ip H
     have cp:=eq_true c8
     have cx:decide (y≤j) = true:=decide_eq_true c8
     clear c8
     have cy:=eq_true (af.D:j≤(a0.size:Int))
     obtain ⟨gz,H⟩:=af.ip H
     have ar:=ae.mk gz
     clear gz
     obtain ⟨al,Y⟩:∃ y_:List ByteArray,y_ = (z ++ [a0.extract (y:Int).toNat (j:Int).toNat]):=⟨_,rfl⟩
     replace H:(bz.l0 k1 a0 a1 al (wrap64 (j+1)) (wrap64 (j+1))) = some r:=by (try rw [Y]);exact af.Z
     have aw:=ae.mk Y
     clear Y
     have H':=ae.mk H
     clear H
     go_wp2_with (first | ((with_reducible refine cB (b:=.append) (xs:=#[.tmp 26,.tmp 31]) rfl ?_);at_builtin;refine Kd.fg Kd.string (w0:=w) w.heap.size rfl (.tmp 26) (.tmp 31) 132 9 (.string ⟨#[]⟩) 16 rfl Tryz.underlying132 sF rfl (by decide) (by omega) u5 z (a0.extract (y:Int).toNat (j:Int).toNat) [.string (a0.extract (y:Int).toNat (j:Int).toNat)] (fun _=>True) (fun _=>False) rfl rfl (by exact rfl) (fun _ hk=>hk.elim) (by exact fun _ _=>trivial) (by exact af.Rw M.out) (by exact af.Lw HB.out) (by exact aj (af.Lw HB.out)) (by have:=ar.out;omega) ?_;intro cX d0 ho hb hg hat;rw [← aw.out] at ho;have a7:=ae.mk hb;have a8:=ae.mk ho;clear HB;clear M;have HB:=a7;have aB:=a8;clear a7 a8;clear ho hb hg hat))
     go_roundg k1
     case measure=>have:=a4.out;omega
     case rel=>exact ⟨(al),(wrap64 (j+1)),(wrap64 (j+1)),af.F,af.F,H',⟨by have:=a4.out;omega⟩,⟨af.Rw aB.out⟩,⟨af.Lw HB.out⟩⟩
    ·rw [if_neg c6] at H
     have b3:(j == (a0.size:Int)) = false:=beq_eq_false_iff_ne.mpr c6
     have b4:(j != (a0.size:Int)) = true:=bne_iff_ne.mpr c6
     obtain ⟨ba,H⟩:=af.ip H
     have bo:=decide_eq_true ba
     clear ba
     obtain ⟨bc,H⟩:=af.ip H
     have bs:=decide_eq_true bc
     clear bc
     by_cases a2:(bt a0 j) = a1
     ·rw [if_pos a2] at H
      have aF:((bt a0 j) == a1) = true:=beq_iff_eq.mpr a2
      have aL:((bt a0 j) != a1) = false:=bne_eq_false_iff_eq.mpr a2
      clear a2
      obtain ⟨aO,H⟩:=af.ip H
      have bv:=eq_true aO
      have ca:decide (0≤y) = true:=decide_eq_true aO
      clear aO
      obtain ⟨aP,H⟩:=af.ip H
      have cb:=eq_true aP
      have cc:decide (y≤j) = true:=decide_eq_true aP
      clear aP
      have cd:=eq_true (af.D:j≤(a0.size:Int))
      obtain ⟨bd,H⟩:=af.ip H
      have aR:=ae.mk bd
      clear bd
      obtain ⟨am,a3⟩:∃ y_:List ByteArray,y_ = (z ++ [a0.extract (y:Int).toNat (j:Int).toNat]):=⟨_,rfl⟩
      replace H:(bz.l0 k1 a0 a1 am (wrap64 (j+1)) (wrap64 (j+1))) = some r:=by (try rw [a3]);exact af.Z
      have aS:=ae.mk a3
      clear a3
      have H':=ae.mk H
      clear H
      have a9:0≤(j:Int):=af.D
      have aa:j < (a0.size:Int):=af.D
      have bi:=iW a0 j
      replace a9:=eq_true a9
      replace aa:=eq_true aa
      go_wp2_with (first | ((with_reducible refine cB (b:=.append) (xs:=#[.tmp 26,.tmp 31]) rfl ?_);at_builtin;refine Kd.fg Kd.string (w0:=w) w.heap.size rfl (.tmp 26) (.tmp 31) 132 9 (.string ⟨#[]⟩) 16 rfl Tryz.underlying132 sF rfl (by decide) (by omega) u5 z (a0.extract (y:Int).toNat (j:Int).toNat) [.string (a0.extract (y:Int).toNat (j:Int).toNat)] (fun _=>True) (fun _=>False) rfl rfl (by exact rfl) (fun _ hk=>hk.elim) (by exact fun _ _=>trivial) (by exact af.Rw M.out) (by exact af.Lw HB.out) (by exact aj (af.Lw HB.out)) (by have:=aR.out;omega) ?_;intro cY d1 ho hb hg hat;rw [← aS.out] at ho;have a7:=ae.mk hb;have a8:=ae.mk ho;clear HB;clear M;have HB:=a7;have b0:=a8;clear a7 a8;clear ho hb hg hat))
      go_roundg k1
      case measure=>have:=a4.out;omega
      case rel=>exact ⟨(am),(wrap64 (j+1)),(wrap64 (j+1)),af.F,af.F,H',⟨by have:=a4.out;omega⟩,⟨af.Rw b0.out⟩,⟨af.Lw HB.out⟩⟩
     ·rw [if_neg a2] at H
      have aF:((bt a0 j) == a1) = false:=beq_eq_false_iff_ne.mpr a2
      have aL:((bt a0 j) != a1) = true:=bne_iff_ne.mpr a2
      have H':=ae.mk H
      clear H
      have a9:0≤(j:Int):=af.D
      have aa:j < (a0.size:Int):=af.D
      have bi:=iW a0 j
      replace a9:=eq_true a9
      replace aa:=eq_true aa
      go_wp2
      go_roundg k1
      case measure=>have:=a4.out;omega
      case rel=>exact ⟨(z),(y),(wrap64 (j+1)),af.F,af.F,H',⟨by have:=a4.out;omega⟩,⟨af.Rw M.out⟩,⟨af.Lw HB.out⟩⟩
   ·rw [if_neg c5] at H
    have b2:decide (j≤(a0.size:Int)) = false:=decide_eq_false c5
    clear c5
    obtain rfl:=Option.some.inj H
    go_wp2
    go_ret
    exact ⟨_,af.E,by (with_reducible repeat (first | apply Kd.cL | apply Kd.cM | apply Kd.bS));exact M.out,af.L⟩
def bA.l0:Nat→Int→Bool→ByteArray→Option (ByteArray)
 | 0,_,_,_=>none
 | k+1,M,X,z=>if M = 0 then (if X = true then (if 1+z.size≤9223372036854775807 then (some ((⟨#[45]⟩:ByteArray) ++ z)) else (none)) else (some z)) else (if (Int.tmod M 10) < 0 then ((some (([(wrap64 (48+(wrap64 (-(Int.tmod M 10))))) % 256]:List Int):List Int)).bind fun j=>(if (strOfNums j).size+z.size≤9223372036854775807 then (bA.l0 k (wrap64 (Int.tdiv M 10)) X ((strOfNums j) ++ z)) else (none))) else ((some (([(wrap64 (48+(Int.tmod M 10))) % 256]:List Int):List Int)).bind fun y=>(if (strOfNums y).size+z.size≤9223372036854775807 then (bA.l0 k (wrap64 (Int.tdiv M 10)) X ((strOfNums y) ++ z)) else (none))))
def bA.f (k:Nat) (a0:Int):Option (ByteArray):=if a0 = 0 then (some (⟨#[48]⟩:ByteArray)) else (bA.l0 k a0 (decide (a0 < 0)) (⟨#[]⟩:ByteArray))
theorem bA.di:∀ k,af.S3 bA.l0 k
 | 0=>by and_intros <;> (repeat intro _) <;> exact af.mz rfl
 | k+1=>by
  have j:=bA.di k
  and_intros <;> (repeat intro _) <;> unfold bA.l0 <;> exact ⟨af.mt⟩
theorem bA.mono:∀ a0 k,iN (bA.f k a0) (bA.f (k+1) a0):=by
 intro a0 k
 have j:=bA.di k
 unfold bA.f
 exact af.mt
instance bA.m:af.V1 bA.f:=fun _ _=>⟨bA.mono _ _⟩
set_option maxHeartbeats 8000000 in
set_option maxRecDepth 100000 in
theorem bA.calls (k:Nat) (a0:Int) (r:ByteArray) (w:World) (h:bA.f k a0 = some r) :
  Calls Tryz.prog 202 #[.int .i64 a0] w fun e w'=>e = .returned (.string r)∧Below w.heap.size w w':=by
 have HB:=ae.mk (Below.refl w.heap.size w)
 unfold bA.f at h
 have H:=h
 clear h
 by_cases c2:a0 = 0
 ·rw [if_pos c2] at H
  have am:(a0 == 0) = true:=beq_iff_eq.mpr c2
  have ao:(a0 != 0) = false:=bne_eq_false_iff_eq.mpr c2
  clear c2
  obtain rfl:=Option.some.inj H
  go_enter Tryz.func202,Tryz.ntmps202
  go_wp2
  go_ret
  exact ⟨af.E,af.L⟩
 ·rw [if_neg c2] at H
  have am:(a0 == 0) = false:=beq_eq_false_iff_ne.mpr c2
  have ao:(a0 != 0) = true:=bne_iff_ne.mpr c2
  have H':=ae.mk H
  clear H
  go_enter Tryz.func202,Tryz.ntmps202
  go_wp2
  go_loopg [0,4] k (fun kq v0 v4 w'=>∃ (j:Int) (y:ByteArray),v0 = .int .i64 j∧v4 = .string y∧ae (bA.l0 kq j (decide (a0 < 0)) y = some r)∧ae (kq≤k)∧ae (Below w.heap.size w w'))
  case atStart=>exact ⟨(a0),((⟨#[]⟩:ByteArray)),af.F,af.F,H',⟨Nat.le_refl _⟩,⟨af.Lw HB.out⟩⟩
  case round =>
   clear H'
   obtain ⟨j,y,rfl,rfl,HA,a8,HB⟩:=hrel
   cases gk with
   | zero=>exact absurd HA.out (by simp [bA.l0])
   | succ k1 =>
    have H:=HA.out
    clear HA
    simp only [bA.l0] at H
    by_cases c3:j = 0
    ·rw [if_pos c3] at H
     have ap:(j == 0) = true:=beq_iff_eq.mpr c3
     have ar:(j != 0) = false:=bne_eq_false_iff_eq.mpr c3
     clear c3
     by_cases c4:(decide (a0 < 0)) = true
     ·rw [if_pos c4] at H
      have a4:(decide (a0 < 0)) = true:=c4
      clear c4
      obtain ⟨c5,H⟩:=af.ip H
      have aR:=eq_true c5
      have aS:decide (1+y.size≤9223372036854775807) = true:=decide_eq_true c5
      try have b0:(9223372036854775807 < 1+y.size) = False:=eq_false (Nat.not_lt.2 c5)
      obtain rfl:=Option.some.inj H
      rw [a4]
      go_wp2
      go_ret
      exact ⟨af.E,af.L⟩
     ·rw [if_neg c4] at H
      have a4:(decide (a0 < 0)) = false:=by simpa using c4
      clear c4
      obtain rfl:=Option.some.inj H
      rw [a4]
      go_wp2
      go_ret
      exact ⟨af.E,af.L⟩
    ·rw [if_neg c3] at H
     have ap:(j == 0) = false:=beq_eq_false_iff_ne.mpr c3
     have ar:(j != 0) = true:=bne_iff_ne.mpr c3
     by_cases c6:(Int.tmod j 10) < 0
     ·rw [if_pos c6] at H
      have aw:=decide_eq_true c6
      clear c6
      obtain ⟨z,a1⟩:∃ y_:List Int,y_ = (([(wrap64 (48+(wrap64 (-(Int.tmod j 10))))) % 256]:List Int)):=⟨_,rfl⟩
      replace H:(if (strOfNums z).size+y.size≤9223372036854775807 then (bA.l0 k1 (wrap64 (Int.tdiv j 10)) (decide (a0 < 0)) ((strOfNums z) ++ y)) else (none)) = some r:=by (try rw [a1]);exact af.Z
      have a5:=ae.mk a1
      clear a1
      obtain ⟨c7,H⟩:=af.ip H
      have b1:=eq_true c7
      have b2:decide ((strOfNums z).size+y.size≤9223372036854775807) = true:=decide_eq_true c7
      try have b3:(9223372036854775807 < (strOfNums z).size+y.size) = False:=eq_false (Nat.not_lt.2 c7)
      have H':=ae.mk H
      clear H
      go_wp2_with (first | ((with_reducible refine bJ (N:=21) rfl ?_);refine Kd.iY (Kd.int .u8) _ 5 ?hg (N:=21) ?hd (xs:=([(wrap64 (48+(wrap64 (-(Int.tmod j 10))))) % 256]:List Int)) (inner:=[.int .u8 ((wrap64 (48+(wrap64 (-(Int.tmod j 10))))) % 256)]) (ok:=fun _=>True) (okp:=fun _=>True) ?hr ?hp (fun _ hk=>hk) trivial (Below.refl _ _) (Nat.le_refl _) (by simp) ?_;(case hd=>rfl);(case hg=>rfl);(case hr=>first | (go_simp;done) | (go_simp;rfl));(case hp=>exact (cE.one (show Kd.M (Kd.int .u8) _ _ _ ((wrap64 (48+(wrap64 (-(Int.tmod j 10))))) % 256) [.int .u8 ((wrap64 (48+(wrap64 (-(Int.tmod j 10))))) % 256)] from rfl) (cE.none _ _)));intro b4 w8 a6 hb a9 a2;clear a9 a2;(first | rw [← a5.out] at a6 | (simp only [Int.reduceToNat] at a6;rw [← a5.out] at a6));have aa:=ae.mk (Kd.b9 a6 (aj (af.Lw HB.out)));replace HB:=af.lb HB hb;clear hb a6;have aB:=kI (P:=Tryz.prog) Tryz.underlying22 Tryz.underlying5 Tryz.underlying9 (Kd.iK aa.out)))
      go_roundg k1
      case measure=>have:=a8.out;omega
      case rel=>exact ⟨(wrap64 (Int.tdiv j 10)),((strOfNums z) ++ y),af.F,af.F,H',⟨by have:=a8.out;omega⟩,⟨af.Lw HB.out⟩⟩
     ·rw [if_neg c6] at H
      have aw:decide ((Int.tmod j 10) < 0) = false:=decide_eq_false c6
      clear c6
      obtain ⟨X,a3⟩:∃ y_:List Int,y_ = (([(wrap64 (48+(Int.tmod j 10))) % 256]:List Int)):=⟨_,rfl⟩
      replace H:(if (strOfNums X).size+y.size≤9223372036854775807 then (bA.l0 k1 (wrap64 (Int.tdiv j 10)) (decide (a0 < 0)) ((strOfNums X) ++ y)) else (none)) = some r:=by (try rw [a3]);exact af.Z
      have a7:=ae.mk a3
      clear a3
      obtain ⟨ab,H⟩:=af.ip H
      have aF:=eq_true ab
      have aL:decide ((strOfNums X).size+y.size≤9223372036854775807) = true:=decide_eq_true ab
      try have aO:(9223372036854775807 < (strOfNums X).size+y.size) = False:=eq_false (Nat.not_lt.2 ab)
      have H':=ae.mk H
      clear H
      go_wp2_with (first | ((with_reducible refine bJ (N:=21) rfl ?_);refine Kd.iY (Kd.int .u8) _ 5 ?hg (N:=21) ?hd (xs:=([(wrap64 (48+(Int.tmod j 10))) % 256]:List Int)) (inner:=[.int .u8 ((wrap64 (48+(Int.tmod j 10))) % 256)]) (ok:=fun _=>True) (okp:=fun _=>True) ?hr ?hp (fun _ hk=>hk) trivial (Below.refl _ _) (Nat.le_refl _) (by simp) ?_;(case hd=>rfl);(case hg=>rfl);(case hr=>first | (go_simp;done) | (go_simp;rfl));(case hp=>exact (cE.one (show Kd.M (Kd.int .u8) _ _ _ ((wrap64 (48+(Int.tmod j 10))) % 256) [.int .u8 ((wrap64 (48+(Int.tmod j 10))) % 256)] from rfl) (cE.none _ _)));intro ba bc Y hb a9 a2;clear a9 a2;(first | rw [← a7.out] at Y | (simp only [Int.reduceToNat] at Y;rw [← a7.out] at Y));have al:=ae.mk (Kd.b9 Y (aj (af.Lw HB.out)));replace HB:=af.lb HB hb;clear hb Y;have aP:=kI (P:=Tryz.prog) Tryz.underlying22 Tryz.underlying5 Tryz.underlying9 (Kd.iK al.out)))
      go_roundg k1
      case measure=>have:=a8.out;omega
      case rel=>exact ⟨(wrap64 (Int.tdiv j 10)),((strOfNums X) ++ y),af.F,af.F,H',⟨by have:=a8.out;omega⟩,⟨af.Lw HB.out⟩⟩
mutual
def bq.j0:Nat→ByteArray→Int→Bool→Option (Int×Bool)
 | 0,_,_,_=>none
 | k+1,j,x1,z=>if z = true then (if 1≤(j.size:Int) then (bq.j1 k j x1 z (j.extract 1 j.size)) else (none)) else (bq.j1 k j x1 z j)
def bq.j1:Nat→ByteArray→Int→Bool→ByteArray→Option (Int×Bool)
 | 0,_,_,_,_=>none
 | k+1,j,x1,z,y=>if (y.size:Int) < 1 then (bq.j2 k j z y true) else (bq.j2 k j z y (decide ((y.size:Int) > x1)))
def bq.j2:Nat→ByteArray→Bool→ByteArray→Bool→Option (Int×Bool)
 | 0,_,_,_,_=>none
 | k+1,j,z,y,a1=>if a1 = true then (some (0,false)) else (bq.l0 k j z y 0 0)
def bq.l0:Nat→ByteArray→Bool→ByteArray→Int→Int→Option (Int×Bool)
 | 0,_,_,_,_,_=>none
 | k+1,j,z,y,X,M=>if M < (y.size:Int) then (if 0≤M then (if (bt y M) < 48 then (some (0,false)) else (if (bt y M) > 57 then (some (0,false)) else (bq.l0 k j z y (wrap64 ((wrap64 (10 * X))+(((bt y M) - 48) % 256))) (wrap64 (M+1))))) else (none)) else (if z = true then ((bA.f k (wrap64 (-X))).bind fun Y=>(if Y.toList = j.toList then (some (wrap64 (-X),true)) else (some (0,false)))) else ((bA.f k X).bind fun a0=>(if a0.toList = j.toList then (some (X,true)) else (some (0,false)))))
end
def bq.f (k:Nat) (a0:ByteArray) (j:Int):Option (Int×Bool):=if (a0.size:Int) > 0 then (if 0 < (a0.size:Int) then (bq.j0 k a0 j ((bt a0 0) == 45)) else (none)) else (bq.j0 k a0 j false)
theorem bq.di:∀ k,af.S3 bq.j0 k∧af.S4 bq.j1 k∧af.S4 bq.j2 k∧af.S5 bq.l0 k
 | 0=>by and_intros <;> (repeat intro _) <;> exact af.mz rfl
 | k+1=>by
  obtain ⟨j,y,z,M⟩:=bq.di k
  and_intros <;> (repeat intro _) <;> (first | unfold bq.j0 | unfold bq.j1 | unfold bq.j2 | unfold bq.l0) <;> exact ⟨af.mt⟩
theorem bq.mono:∀ a0 j k,iN (bq.f k a0 j) (bq.f (k+1) a0 j):=by
 intro a0 j k
 obtain ⟨y,z,M,X⟩:=bq.di k
 unfold bq.f
 exact af.mt
instance bq.m:af.V2 bq.f:=fun _ _ _=>⟨bq.mono _ _ _⟩
set_option maxHeartbeats 8000000 in
set_option maxRecDepth 100000 in
theorem bq.calls (k:Nat) (a0:ByteArray) (a1:Int) (r1:Int) (r2:Bool) (w:World) (h:bq.f k a0 a1 = some (r1,r2)) :
  Calls Tryz.prog 199 #[.string a0,.int .i64 a1] w fun e w'=>e = .returned (.tuple #[.int .i64 r1,.bool r2])∧Below w.heap.size w w':=by
 have HB:=ae.mk (Below.refl w.heap.size w)
 unfold bq.f at h
 have H:=h
 clear h
 have aR:=ae.mk H
 clear H
 go_enter Tryz.func199,Tryz.ntmps199
 go_upto_region 1 with (fail)
 go_cut [6] (fun v6 wc=>∃ (kq:Nat) (M:Bool),v6 = .bool M∧ae (bq.j0 kq a0 a1 M = some (r1,r2))∧ae (kq≤k)∧ae (Below w.heap.size w wc))
 case first =>
  have H:=aR.out
  clear aR
  by_cases c4:(a0.size:Int) > 0
  ·rw [if_pos c4] at H
   have a4:=decide_eq_true c4
   have bs:decide (0 < a0.size) = true:=decide_eq_true (by omega)
   clear c4
   (first | rw [a4] | (simp only [bw,bW];rw [a4]) | skip)
   obtain ⟨c5,H⟩:=af.ip H
   have cy:=decide_eq_true c5
   have cX:decide (0 < a0.size) = true:=decide_eq_true (by omega)
   clear c5
   have H':=ae.mk H
   clear H
   have p6:0≤(0:Int):=(by omega)
   have q6:0 < a0.size:=(by have:(0:Int) < (a0.size:Int):=af.D;omega)
   have aw:∀ h:0 < a0.size,((a0[0]'h).toNat:Int) = bt a0 0:=iW a0 0
   clear p6
   have aB:(0 < (a0.size:Int)) = True:=eq_true (af.D)
   replace q6:=eq_true q6
   go_wp2
   go_meet
   case rel=>exact ⟨_,(((bt a0 0) == 45)),af.F,H',⟨by first | omega | exact Nat.le_refl _⟩,⟨af.Lw HB.out⟩⟩
  ·rw [if_neg c4] at H
   have a4:decide (0 < (a0.size:Int)) = false:=decide_eq_false c4
   have bs:decide (0 < a0.size) = false:=decide_eq_false (by omega)
   clear c4
   (first | rw [a4] | (simp only [bw,bW];rw [a4]) | skip)
   have H':=ae.mk H
   clear H
   go_wp2
   go_meet
   case rel=>exact ⟨_,(false),af.F,H',⟨by first | omega | exact Nat.le_refl _⟩,⟨af.Lw HB.out⟩⟩
 case rest =>
  clear aR
  try clear q6
  try clear aw
  try clear aB
  try clear q6
  obtain ⟨kq,M,rfl,HA,a9,HB⟩:=hcut
  cases kq with
  | zero=>exact absurd HA.out (by simp [bq.j0])
  | succ aS =>
   have H:=HA.out
   clear HA
   simp only [bq.j0] at H
   have b0:=ae.mk H
   clear H
   go_upto_if 19 with (fail)
   go_cut [7] (fun v7 wc=>∃ (kq:Nat) (j:ByteArray),v7 = .string j∧ae (bq.j1 kq a0 a1 M j = some (r1,r2))∧ae (kq≤aS)∧ae (Below w.heap.size w wc))
   case first =>
    have H:=b0.out
    clear b0
    by_cases c8:M = true
    ·subst c8
     replace H:(if 1≤(a0.size:Int) then (bq.j1 aS a0 a1 true (a0.extract 1 a0.size)) else (none)) = some (r1,r2):=by rw [if_pos rfl] at H;exact H
     obtain ⟨c9,H⟩:=af.ip H
     have cY:=eq_true c9
     have d0:decide (1≤(a0.size:Int)) = true:=decide_eq_true c9
     clear c9
     have H':=ae.mk H
     clear H
     go_wp2
     go_meet
     case rel=>exact ⟨_,(a0.extract 1 a0.size),af.F,H',⟨by have:=a9.out;first | omega | exact Nat.le_refl _⟩,⟨af.Lw HB.out⟩⟩
    ·replace c8:=Bool.eq_false_iff.mpr c8
     subst c8
     replace H:(bq.j1 aS a0 a1 false a0) = some (r1,r2):=by rw [if_neg (show ¬ (false = true) by decide)] at H;exact H
     have H':=ae.mk H
     clear H
     go_wp2
     go_meet
     case rel=>exact ⟨_,(a0),af.F,H',⟨by have:=a9.out;first | omega | exact Nat.le_refl _⟩,⟨af.Lw HB.out⟩⟩
   case rest =>
    clear b0
    try clear q6
    try clear aw
    try clear aB
    try clear q6
    obtain ⟨kq,j,rfl,HA,aF,HB⟩:=hcut
    cases kq with
    | zero=>exact absurd HA.out (by simp [bq.j1])
    | succ cp =>
     have H:=HA.out
     clear HA
     simp only [bq.j1] at H
     have ao:=ae.mk H
     clear H
     go_upto_region 5 with (fail)
     go_cut [30] (fun v30 wc=>∃ (kq:Nat) (a3:Bool),v30 = .bool a3∧ae (bq.j2 kq a0 M j a3 = some (r1,r2))∧ae (kq≤cp)∧ae (Below w.heap.size w wc))
     case first =>
      have H:=ao.out
      clear ao
      by_cases aa:(j.size:Int) < 1
      ·rw [if_pos aa] at H
       have a2:=decide_eq_true aa
       have b1:decide (j.size < 1) = true:=decide_eq_true (by omega)
       clear aa
       (first | rw [a2] | (simp only [bw,bW];rw [a2]) | skip)
       have H':=ae.mk H
       clear H
       go_wp2
       go_meet
       case rel=>exact ⟨_,(true),af.F,H',⟨by have:=a9.out;have:=aF.out;first | omega | exact Nat.le_refl _⟩,⟨af.Lw HB.out⟩⟩
      ·rw [if_neg aa] at H
       have a2:decide ((j.size:Int) < 1) = false:=decide_eq_false aa
       have b1:decide (j.size < 1) = false:=decide_eq_false (by omega)
       clear aa
       (first | rw [a2] | (simp only [bw,bW];rw [a2]) | skip)
       have H':=ae.mk H
       clear H
       go_wp2
       go_meet
       case rel=>exact ⟨_,(decide ((j.size:Int) > a1)),af.F,H',⟨by have:=a9.out;have:=aF.out;first | omega | exact Nat.le_refl _⟩,⟨af.Lw HB.out⟩⟩
     case rest =>
      clear ao
      try clear q6
      try clear aw
      try clear aB
      try clear q6
      obtain ⟨kq,a3,rfl,HA,bv,HB⟩:=hcut
      cases kq with
      | zero=>exact absurd HA.out (by simp [bq.j2])
      | succ b2 =>
       have H:=HA.out
       clear HA
       simp only [bq.j2] at H
       by_cases aL:a3 = true
       ·subst aL
        replace H:(some (0,false)) = some (r1,r2):=by rw [if_pos rfl] at H;exact H
        simp only [Option.some.injEq,Prod.mk.injEq] at H
        obtain ⟨rfl,rfl⟩:=H
        go_wp2
        go_ret2
        exact ⟨af.E,af.L⟩
       ·replace aL:=Bool.eq_false_iff.mpr aL
        subst aL
        replace H:(bq.l0 b2 a0 M j 0 0) = some (r1,r2):=by rw [if_neg (show ¬ (false = true) by decide)] at H;exact H
        have H':=ae.mk H
        clear H
        go_wp2
        go_loopg [8,9] b2 (fun kq v8 v9 w'=>∃ (z:Int) (y:Int),v8 = .int .i64 z∧v9 = .int .i64 y∧ae (bq.l0 kq a0 M j z y = some (r1,r2))∧ae (kq≤b2)∧ae (Below w.heap.size w w'))
        case atStart=>exact ⟨(0),(0),af.F,af.F,H',⟨Nat.le_refl _⟩,⟨af.Lw HB.out⟩⟩
        case round =>
         clear H'
         try clear q6
         try clear aw
         try clear aB
         try clear q6
         obtain ⟨z,y,rfl,rfl,HA,ca,HB⟩:=hrel
         cases gk with
         | zero=>exact absurd HA.out (by simp [bq.l0])
         | succ k4 =>
          have H:=HA.out
          clear HA
          simp only [bq.l0] at H
          by_cases ab:y < (j.size:Int)
          ·rw [if_pos ab] at H
           have b3:=decide_eq_true ab
           clear ab
           obtain ⟨cb,H⟩:=af.ip H
           have cx:=decide_eq_true cb
           clear cb
           by_cases al:(bt j y) < 48
           ·rw [if_pos al] at H
            have b4:=decide_eq_true al
            clear al
            simp only [Option.some.injEq,Prod.mk.injEq] at H
            obtain ⟨rfl,rfl⟩:=H
            have a5:0≤(y:Int):=af.D
            have a6:y < (j.size:Int):=af.D
            have aP:=iW j y
            replace a5:=eq_true a5
            replace a6:=eq_true a6
            go_wp2
            go_ret2
            exact ⟨af.E,af.L⟩
           ·rw [if_neg al] at H
            have b4:decide ((bt j y) < 48) = false:=decide_eq_false al
            clear al
            by_cases am:(bt j y) > 57
            ·rw [if_pos am] at H
             have ba:=decide_eq_true am
             clear am
             simp only [Option.some.injEq,Prod.mk.injEq] at H
             obtain ⟨rfl,rfl⟩:=H
             have a5:0≤(y:Int):=af.D
             have a6:y < (j.size:Int):=af.D
             have aP:=iW j y
             replace a5:=eq_true a5
             replace a6:=eq_true a6
             have ap:0≤(y:Int):=af.D
             have ar:y < (j.size:Int):=af.D
             have cc:=iW j y
             replace ap:=eq_true ap
             replace ar:=eq_true ar
             go_wp2
             go_ret2
             exact ⟨af.E,af.L⟩
            ·rw [if_neg am] at H
             have ba:decide (57 < (bt j y)) = false:=decide_eq_false am
             clear am
             have H':=ae.mk H
             clear H
             have a5:0≤(y:Int):=af.D
             have a6:y < (j.size:Int):=af.D
             have aP:=iW j y
             replace a5:=eq_true a5
             replace a6:=eq_true a6
             have ap:0≤(y:Int):=af.D
             have ar:y < (j.size:Int):=af.D
             have cc:=iW j y
             replace ap:=eq_true ap
             replace ar:=eq_true ar
             have cd:0≤(y:Int):=af.D
             have ce:y < (j.size:Int):=af.D
             have d1:=iW j y
             replace cd:=eq_true cd
             replace ce:=eq_true ce
             go_wp2
             go_roundg k4
             case measure=>have:=a9.out;have:=aF.out;have:=bv.out;have:=ca.out;omega
             case rel=>exact ⟨(wrap64 ((wrap64 (10 * z))+(((bt j y) - 48) % 256))),(wrap64 (y+1)),af.F,af.F,H',⟨by have:=a9.out;have:=aF.out;have:=bv.out;have:=ca.out;omega⟩,⟨af.Lw HB.out⟩⟩
          ·rw [if_neg ab] at H
           have b3:decide (y < (j.size:Int)) = false:=decide_eq_false ab
           clear ab
           by_cases aO:M = true
           ·subst aO
            replace H:((bA.f k4 (wrap64 (-z))).bind fun X=>(if X.toList = a0.toList then (some (wrap64 (-z),true)) else (some (0,false)))) = some (r1,r2):=by rw [if_pos rfl] at H;exact H
            obtain ⟨X,cf,H⟩:=af.be H
            (try dsimp only at H)
            by_cases a7:X.toList = a0.toList
            ·rw [if_pos a7] at H
             have bc:(X.toList == a0.toList) = true:=beq_iff_eq.mpr a7
             have bd:(X.toList != a0.toList) = false:=bne_eq_false_iff_eq.mpr a7
             clear a7
             simp only [Option.some.injEq,Prod.mk.injEq] at H
             obtain ⟨rfl,rfl⟩:=H
             go_wp2_with (first | (refine af.gl (some 59) Tryz.func202 #[.int .i64 (wrap64 (-z))] ?_;(with_reducible refine (bA.calls k4 (wrap64 (-z)) X _ cf.out).mono ?_);rintro e d2 ⟨rfl,hb⟩;refine ⟨_,rfl,?_⟩;replace HB:=af.lb HB hb;(try clear hb);(try clear bi);(try clear hk);(try clear hi)))
             go_ret2
             exact ⟨af.E,af.L⟩
            ·rw [if_neg a7] at H
             have bc:(X.toList == a0.toList) = false:=beq_eq_false_iff_ne.mpr a7
             have bd:(X.toList != a0.toList) = true:=bne_iff_ne.mpr a7
             simp only [Option.some.injEq,Prod.mk.injEq] at H
             obtain ⟨rfl,rfl⟩:=H
             go_wp2_with (first | (refine af.gl (some 59) Tryz.func202 #[.int .i64 (wrap64 (-z))] ?_;(with_reducible refine (bA.calls k4 (wrap64 (-z)) X _ cf.out).mono ?_);rintro e d3 ⟨rfl,hb⟩;refine ⟨_,rfl,?_⟩;replace HB:=af.lb HB hb;(try clear hb);(try clear bi);(try clear hk);(try clear hi)))
             go_ret2
             exact ⟨af.E,af.L⟩
           ·replace aO:=Bool.eq_false_iff.mpr aO
            subst aO
            replace H:((bA.f k4 z).bind fun Y=>(if Y.toList = a0.toList then (some (z,true)) else (some (0,false)))) = some (r1,r2):=by rw [if_neg (show ¬ (false = true) by decide)] at H;exact H
            obtain ⟨Y,ci,H⟩:=af.be H
            (try dsimp only at H)
            by_cases a8:Y.toList = a0.toList
            ·rw [if_pos a8] at H
             have bm:(Y.toList == a0.toList) = true:=beq_iff_eq.mpr a8
             have bo:(Y.toList != a0.toList) = false:=bne_eq_false_iff_eq.mpr a8
             clear a8
             simp only [Option.some.injEq,Prod.mk.injEq] at H
             obtain ⟨rfl,rfl⟩:=H
             go_wp2_with (first | (refine af.gl (some 59) Tryz.func202 #[.int .i64 z] ?_;(with_reducible refine (bA.calls k4 z Y _ ci.out).mono ?_);rintro e d4 ⟨rfl,hb⟩;refine ⟨_,rfl,?_⟩;replace HB:=af.lb HB hb;(try clear hb);(try clear bi);(try clear hk);(try clear hi)))
             go_ret2
             exact ⟨af.E,af.L⟩
            ·rw [if_neg a8] at H
             have bm:(Y.toList == a0.toList) = false:=beq_eq_false_iff_ne.mpr a8
             have bo:(Y.toList != a0.toList) = true:=bne_iff_ne.mpr a8
             simp only [Option.some.injEq,Prod.mk.injEq] at H
             obtain ⟨rfl,rfl⟩:=H
             go_wp2_with (first | (refine af.gl (some 59) Tryz.func202 #[.int .i64 z] ?_;(with_reducible refine (bA.calls k4 z Y _ ci.out).mono ?_);rintro e d5 ⟨rfl,hb⟩;refine ⟨_,rfl,?_⟩;replace HB:=af.lb HB hb;(try clear hb);(try clear bi);(try clear hk);(try clear hi)))
             go_ret2
             exact ⟨af.E,af.L⟩
def dF.f (k:Nat) (a0:ByteArray):Option (Int×Bool):=(bq.f k a0 12).bind fun j=>(some (j.1,j.2))
theorem dF.mono:∀ a0 k,iN (dF.f k a0) (dF.f (k+1) a0):=by
 intro a0 k
 unfold dF.f
 exact af.mt
instance dF.m:af.V1 dF.f:=fun _ _=>⟨dF.mono _ _⟩
set_option maxHeartbeats 8000000 in
set_option maxRecDepth 100000 in
theorem dF.calls (k:Nat) (a0:ByteArray) (z:Int) (M:Bool) (w:World) (h:dF.f k a0 = some (z,M)) :
  Calls Tryz.prog 184 #[.string a0] w fun e w'=>e = .returned (.tuple #[.int .i64 z,.bool M])∧Below w.heap.size w w':=by
 have HB:=ae.mk (Below.refl w.heap.size w)
 unfold dF.f at h
 have H:=h
 clear h
 obtain ⟨⟨j,y⟩,X,H⟩:=af.be H
 (try dsimp only at H)
 simp only [Option.some.injEq,Prod.mk.injEq] at H
 obtain ⟨rfl,rfl⟩:=H
 go_enter Tryz.func184,Tryz.ntmps184
 go_wp2_with (first | (refine af.gl (some 5) Tryz.func199 #[.string a0,.int .i64 12] ?_;(with_reducible refine (bq.calls k a0 12 j y _ X.out).mono ?_);rintro e w3 ⟨rfl,hb⟩;refine ⟨_,rfl,?_⟩;replace HB:=af.lb HB hb;(try clear hb);(try clear Y);(try clear hk);(try clear hi)))
 go_ret2
 exact ⟨af.E,af.L⟩
def dJ.f (a0:Int) (M:Int):Option (Bool):=(bu.f 8 a0).bind fun j=>(if j = true then ((bH.f M 0 7).bind fun y=>(if y = true then ((cv.f a0 M).bind fun z=>(some z)) else (some false))) else (some false))
set_option maxHeartbeats 8000000 in
set_option maxRecDepth 100000 in
theorem dJ.calls (a0:Int) (z:Int) (r:Bool) (w:World) (h:dJ.f a0 z = some r) :
  Calls Tryz.prog 92 #[.int .i64 a0,.int .i64 z] w fun e w'=>e = .returned (.bool r)∧cQ w w':=by
 unfold dJ.f at h
 have H:=h
 clear h
 obtain ⟨M,X,H⟩:=af.be H
 (try dsimp only at H)
 by_cases c4:M = true
 ·subst c4
  replace H:((bH.f z 0 7).bind fun y=>(if y = true then ((cv.f a0 z).bind fun j=>(some j)) else (some false))) = some r:=by rw [if_pos rfl] at H;exact H
  obtain ⟨y,Y,H⟩:=af.be H
  (try dsimp only at H)
  by_cases c6:y = true
  ·subst c6
   replace H:((cv.f a0 z).bind fun j=>(some j)) = some r:=by rw [if_pos rfl] at H;exact H
   obtain ⟨j,A7,H⟩:=af.be H
   (try dsimp only at H)
   obtain rfl:=Option.some.inj H
   go_enter Tryz.func92,Tryz.ntmps92
   go_wp2_with (first | ((with_reducible refine ax (f:=87) rfl ?_);refine af.gl (some 6) Tryz.func87 #[.int .i64 8,.int .i64 a0] ?_;(with_reducible refine (bu.calls 8 a0 true _ X.out).mono ?_);rintro e w' ⟨rfl,⟨nd,rfl⟩⟩;refine ⟨_,rfl,?_⟩) | (go_at_call 94;(with_reducible refine (bH.calls z 0 7 true _ Y.out).mono ?_);rintro e w' ⟨rfl,⟨nd,rfl⟩⟩) | (go_at_call 89;(with_reducible refine (cv.calls a0 z j _ A7.out).mono ?_);rintro e w' ⟨rfl,⟨nd,rfl⟩⟩))
   go_ret
   exact ⟨af.F,af.G⟩
  ·replace c6:=Bool.eq_false_iff.mpr c6
   subst c6
   replace H:(some false) = some r:=by rw [if_neg (show ¬ (false = true) by decide)] at H;exact H
   obtain rfl:=Option.some.inj H
   go_enter Tryz.func92,Tryz.ntmps92
   go_wp2_with (first | ((with_reducible refine ax (f:=87) rfl ?_);refine af.gl (some 6) Tryz.func87 #[.int .i64 8,.int .i64 a0] ?_;(with_reducible refine (bu.calls 8 a0 true _ X.out).mono ?_);rintro e w' ⟨rfl,⟨nd,rfl⟩⟩;refine ⟨_,rfl,?_⟩) | (go_at_call 94;(with_reducible refine (bH.calls z 0 7 false _ Y.out).mono ?_);rintro e w' ⟨rfl,⟨nd,rfl⟩⟩))
   go_ret
   exact ⟨af.F,af.G⟩
 ·replace c4:=Bool.eq_false_iff.mpr c4
  subst c4
  replace H:(some false) = some r:=by rw [if_neg (show ¬ (false = true) by decide)] at H;exact H
  obtain rfl:=Option.some.inj H
  go_enter Tryz.func92,Tryz.ntmps92
  go_wp2_with (first | ((with_reducible refine ax (f:=87) rfl ?_);refine af.gl (some 6) Tryz.func87 #[.int .i64 8,.int .i64 a0] ?_;(with_reducible refine (bu.calls 8 a0 false _ X.out).mono ?_);rintro e w' ⟨rfl,⟨nd,rfl⟩⟩;refine ⟨_,rfl,?_⟩))
  go_ret
  exact ⟨af.F,af.G⟩
def bk.l0:Nat→Int→List Int→Int→Option (List Int)
 | 0,_,_,_=>none
 | k+1,M,z,j=>if j < 8 then ((dJ.f M j).bind fun y=>(if y = true then (if z.length < 17592186044416 then (bk.l0 k M (z ++ [j]) (wrap64 (j+1))) else (none)) else (bk.l0 k M z (wrap64 (j+1))))) else (some z)
def bk.f (k:Nat) (a0:Int):Option (List Int):=bk.l0 k a0 (([]:List Int)) 0
theorem bk.di:∀ k,af.S3 bk.l0 k
 | 0=>by and_intros <;> (repeat intro _) <;> exact af.mz rfl
 | k+1=>by
  have j:=bk.di k
  and_intros <;> (repeat intro _) <;> unfold bk.l0 <;> exact ⟨af.mt⟩
theorem bk.mono:∀ a0 k,iN (bk.f k a0) (bk.f (k+1) a0):=by
 intro a0 k
 have j:=bk.di k
 unfold bk.f
 exact af.mt
instance bk.m:af.V1 bk.f:=fun _ _=>⟨bk.mono _ _⟩
set_option maxHeartbeats 8000000 in
set_option maxRecDepth 100000 in
theorem bk.calls (k:Nat) (a0:Int) (r:List Int) (w:World) (h:bk.f k a0 = some r) :
  Calls Tryz.prog 170 #[.int .i64 a0] w fun e w'=>∃ a9:Value,e = .returned (a9)∧Kd.R (Kd.int .i64) 3 w' w.heap.size (fun _=>True) a9 r∧Below w.heap.size w w':=by
 have HB:=ae.mk (Below.refl w.heap.size w)
 unfold bk.f at h
 have H:=h
 clear h
 obtain ⟨a3,z⟩:∃ y_:List Int,y_ = (([]:List Int)):=⟨_,rfl⟩
 replace H:(bk.l0 k a0 a3 0) = some r:=by (try rw [z]);exact af.Z
 have Y:=ae.mk z
 clear z
 have H':=ae.mk H
 clear H
 go_enter Tryz.func170,Tryz.ntmps170
 go_wp2_with (first | (refine af.lt (Kd.int .i64) 3 5 ?_;intro ar w2 a1 hb ap a5;clear ap a5;(first | rw [← Y.out] at a1 | (simp only [Int.reduceToNat] at a1;rw [← Y.out] at a1));have a6:=ae.mk (Kd.b9 a1 (aj (af.Lw HB.out)));replace HB:=af.lb HB hb;clear hb a1))
 go_loopg [3,4] k (fun kq v3 v4 w'=>∃ (y:List Int) (j:Int),v4 = .int .i64 j∧ae (bk.l0 kq a0 y j = some r)∧ae (kq≤k)∧ae (Kd.R (Kd.int .i64) 3 w' w.heap.size (fun _=>True) v3 y)∧ae (Below w.heap.size w w'))
 case atStart=>exact ⟨(a3),(0),af.F,H',⟨Nat.le_refl _⟩,⟨af.Rw a6.out⟩,⟨af.Lw HB.out⟩⟩
 case round =>
  clear H'
  obtain ⟨y,j,rfl,HA,a2,X,HB⟩:=hrel
  cases gk with
  | zero=>exact absurd HA.out (by simp [bk.l0])
  | succ k1 =>
   have H:=HA.out
   clear HA
   simp only [bk.l0] at H
   by_cases c4:j < 8
   ·rw [if_pos c4] at H
    have aa:=decide_eq_true c4
    clear c4
    obtain ⟨ab,A5,H⟩:=af.be H
    (try dsimp only at H)
    by_cases c6:ab = true
    ·subst c6
     replace H:(if y.length < 17592186044416 then (bk.l0 k1 a0 (y ++ [j]) (wrap64 (j+1))) else (none)) = some r:=by rw [if_pos rfl] at H;exact H
     obtain ⟨c7,H⟩:=af.ip H
     have al:=ae.mk c7
     clear c7
     obtain ⟨a4,M⟩:∃ y_:List Int,y_ = (y ++ [j]):=⟨_,rfl⟩
     replace H:(bk.l0 k1 a0 a4 (wrap64 (j+1))) = some r:=by (try rw [M]);exact af.Z
     have a7:=ae.mk M
     clear M
     have H':=ae.mk H
     clear H
     go_wp2_with (first | (refine af.gl (some 12) Tryz.func92 #[.int .i64 a0,.int .i64 j] ?_;(with_reducible refine (dJ.calls a0 j true _ A5.out).mono ?_);rintro e w' ⟨rfl,⟨nd,rfl⟩⟩;refine ⟨_,rfl,?_⟩) | ((with_reducible refine cB (b:=.append) (xs:=#[.tmp 13,.tmp 15]) rfl ?_);at_builtin;refine Kd.fg (Kd.int .i64) (w0:=w) w.heap.size rfl (.tmp 13) (.tmp 15) 28 3 (.int .i64 0) 8 rfl Tryz.underlying28 eJ rfl (by decide) (by omega) u3 y j [.int .i64 j] (fun _=>True) (fun _=>False) rfl rfl (by exact rfl) (fun _ hk=>hk.elim) (by exact fun _ _=>trivial) (by exact af.Rw X.out) (by exact af.Lw HB.out) (by exact aj (af.Lw HB.out)) (by have:=al.out;omega) ?_;intro aw w8 ho hb hg hat;rw [← a7.out] at ho;have am:=ae.mk hb;have ao:=ae.mk ho;clear HB;clear X;have HB:=am;have a8:=ao;clear am ao;clear ho hb hg hat))
     go_roundg k1
     case measure=>have:=a2.out;omega
     case rel=>exact ⟨(a4),(wrap64 (j+1)),af.F,H',⟨by have:=a2.out;omega⟩,⟨af.Rw a8.out⟩,⟨af.Lw HB.out⟩⟩
    ·replace c6:=Bool.eq_false_iff.mpr c6
     subst c6
     replace H:(bk.l0 k1 a0 y (wrap64 (j+1))) = some r:=by rw [if_neg (show ¬ (false = true) by decide)] at H;exact H
     have H':=ae.mk H
     clear H
     go_wp2_with (first | (refine af.gl (some 12) Tryz.func92 #[.int .i64 a0,.int .i64 j] ?_;(with_reducible refine (dJ.calls a0 j false _ A5.out).mono ?_);rintro e w' ⟨rfl,⟨nd,rfl⟩⟩;refine ⟨_,rfl,?_⟩))
     go_roundg k1
     case measure=>have:=a2.out;omega
     case rel=>exact ⟨(y),(wrap64 (j+1)),af.F,H',⟨by have:=a2.out;omega⟩,⟨af.Rw X.out⟩,⟨af.Lw HB.out⟩⟩
   ·rw [if_neg c4] at H
    have aa:decide (j < 8) = false:=decide_eq_false c4
    clear c4
    obtain rfl:=Option.some.inj H
    go_wp2
    go_ret
    exact ⟨_,af.E,by (with_reducible repeat (first | apply Kd.cL | apply Kd.cM | apply Kd.bS));exact X.out,af.L⟩
def cr.l0:Nat→ByteArray→List Int→Int→Option (ByteArray)
 | 0,_,_,_=>none
 | k+1,z,y,j=>if j < (y.length:Int) then (if 0≤j then (if 0≤(rd y j) then (if (rd y j)≤(wrap64 ((rd y j)+1)) then (if (wrap64 ((rd y j)+1))≤8 then (if z.size+((⟨#[97,98,99,100,101,102,103,104]⟩:ByteArray).extract ((rd y j):Int).toNat ((wrap64 ((rd y j)+1)):Int).toNat).size≤9223372036854775807 then (cr.l0 k (z ++ ((⟨#[97,98,99,100,101,102,103,104]⟩:ByteArray).extract ((rd y j):Int).toNat ((wrap64 ((rd y j)+1)):Int).toNat)) y (wrap64 (j+1))) else (none)) else (none)) else (none)) else (none)) else (none)) else (some z)
def cr.f (k:Nat) (a0:Int):Option (ByteArray):=(bu.f 8 a0).bind fun j=>(if j = true then (if a0 = 0 then (some (⟨#[45]⟩:ByteArray)) else ((bk.f k a0).bind fun y=>(cr.l0 k (⟨#[]⟩:ByteArray) y 0))) else (some (⟨#[]⟩:ByteArray)))
theorem cr.di:∀ k,af.S3 cr.l0 k
 | 0=>by and_intros <;> (repeat intro _) <;> exact af.mz rfl
 | k+1=>by
  have j:=cr.di k
  and_intros <;> (repeat intro _) <;> unfold cr.l0 <;> exact ⟨af.mt⟩
theorem cr.mono:∀ a0 k,iN (cr.f k a0) (cr.f (k+1) a0):=by
 intro a0 k
 have j:=cr.di k
 unfold cr.f
 exact af.mt
instance cr.m:af.V1 cr.f:=fun _ _=>⟨cr.mono _ _⟩
set_option maxHeartbeats 8000000 in
set_option maxRecDepth 100000 in
theorem cr.calls (k:Nat) (a0:Int) (r:ByteArray) (w:World) (h:cr.f k a0 = some r) :
  Calls Tryz.prog 209 #[.int .i64 a0] w fun e w'=>e = .returned (.string r)∧Below w.heap.size w w':=by
 have HB:=ae.mk (Below.refl w.heap.size w)
 unfold cr.f at h
 have H:=h
 clear h
 obtain ⟨a5,A2,H⟩:=af.be H
 (try dsimp only at H)
 by_cases c3:a5 = true
 ·subst c3
  replace H:(if a0 = 0 then (some (⟨#[45]⟩:ByteArray)) else ((bk.f k a0).bind fun j=>(cr.l0 k (⟨#[]⟩:ByteArray) j 0))) = some r:=by rw [if_pos rfl] at H;exact H
  by_cases c4:a0 = 0
  ·rw [if_pos c4] at H
   have a6:(a0 == 0) = true:=beq_iff_eq.mpr c4
   have a7:(a0 != 0) = false:=bne_eq_false_iff_eq.mpr c4
   clear c4
   obtain rfl:=Option.some.inj H
   go_enter Tryz.func209,Tryz.ntmps209
   go_wp2_with (first | (go_at_call 87;(with_reducible refine (bu.calls 8 a0 true _ A2.out).mono ?_);rintro e w' ⟨rfl,⟨nd,rfl⟩⟩;(try exact af.W)))
   repeat (go_quiet (first | (go_at_call 87;(with_reducible refine (bu.calls 8 a0 true _ A2.out).mono ?_);rintro e w' ⟨rfl,⟨nd,rfl⟩⟩;(try exact af.W)));try go_wp2_with (first | (go_at_call 87;(with_reducible refine (bu.calls 8 a0 true _ A2.out).mono ?_);rintro e w' ⟨rfl,⟨nd,rfl⟩⟩;(try exact af.W))))
   go_ret
   exact ⟨af.E,af.L⟩
  ·rw [if_neg c4] at H
   have a6:(a0 == 0) = false:=beq_eq_false_iff_ne.mpr c4
   have a7:(a0 != 0) = true:=bne_iff_ne.mpr c4
   obtain ⟨j,A5,H⟩:=af.be H
   (try dsimp only at H)
   have H':=ae.mk H
   clear H
   go_enter Tryz.func209,Tryz.ntmps209
   go_wp2_with (first | (go_at_call 87;(with_reducible refine (bu.calls 8 a0 true _ A2.out).mono ?_);rintro e w' ⟨rfl,⟨nd,rfl⟩⟩;(try exact af.W)) | (go_at_call 170;(with_reducible refine (bk.calls k a0 j _ A5.out).mono ?_);rintro e w6 ⟨a1,rfl,M,hb⟩;have Y:=ae.mk (Kd.b9 M (aj (af.Lw HB.out)));replace HB:=af.lb HB hb;(try clear hb);(try clear a8);(try clear hk);(try clear hi);(try clear M)))
   repeat (go_quiet (first | (go_at_call 87;(with_reducible refine (bu.calls 8 a0 true _ A2.out).mono ?_);rintro e w' ⟨rfl,⟨nd,rfl⟩⟩;(try exact af.W)) | (go_at_call 170;(with_reducible refine (bk.calls k a0 j _ A5.out).mono ?_);rintro e w6 ⟨a1,rfl,M,hb⟩;have Y:=ae.mk (Kd.b9 M (aj (af.Lw HB.out)));replace HB:=af.lb HB hb;(try clear hb);(try clear a8);(try clear hk);(try clear hi);(try clear M)));try go_wp2_with (first | (go_at_call 87;(with_reducible refine (bu.calls 8 a0 true _ A2.out).mono ?_);rintro e w' ⟨rfl,⟨nd,rfl⟩⟩;(try exact af.W)) | (go_at_call 170;(with_reducible refine (bk.calls k a0 j _ A5.out).mono ?_);rintro e w6 ⟨a1,rfl,M,hb⟩;have Y:=ae.mk (Kd.b9 M (aj (af.Lw HB.out)));replace HB:=af.lb HB hb;(try clear hb);(try clear a8);(try clear hk);(try clear hi);(try clear M))))
   go_loopg [3,5] k (fun kq v3 v5 w'=>∃ (z:ByteArray) (y:Int),v3 = .string z∧v5 = .int .i64 y∧ae (cr.l0 kq z j y = some r)∧ae (kq≤k)∧ae (Kd.R (Kd.int .i64) 3 w' w.heap.size (fun _=>True) a1 j)∧ae (Below w.heap.size w w'))
   case atStart=>exact ⟨((⟨#[]⟩:ByteArray)),(0),af.F,af.F,H',⟨Nat.le_refl _⟩,⟨af.Rw Y.out⟩,⟨af.Lw HB.out⟩⟩
   case round =>
    clear H'
    obtain ⟨z,y,rfl,rfl,HA,a9,X,HB⟩:=hrel
    cases gk with
    | zero=>exact absurd HA.out (by simp [cr.l0])
    | succ k1 =>
     have H:=HA.out
     clear HA
     simp only [cr.l0] at H
     by_cases c7:y < (j.length:Int)
     ·rw [if_pos c7] at H
      have aa:=decide_eq_true c7
      clear c7
      obtain ⟨c8,H⟩:=af.ip H
      have b0:=decide_eq_true c8
      clear c8
      obtain ⟨c9,H⟩:=af.ip H
      have b1:=eq_true c9
      have b2:decide (0≤(rd j y)) = true:=decide_eq_true c9
      clear c9
      obtain ⟨gz,H⟩:=af.ip H
      have aB:=eq_true gz
      have aF:decide ((rd j y)≤(wrap64 ((rd j y)+1))) = true:=decide_eq_true gz
      obtain ⟨ab,H⟩:=af.ip H
      have aL:=eq_true ab
      have aO:decide ((wrap64 ((rd j y)+1))≤8) = true:=decide_eq_true ab
      obtain ⟨a2,H⟩:=af.ip H
      have aP:=eq_true a2
      have aR:decide (z.size+((⟨#[97,98,99,100,101,102,103,104]⟩:ByteArray).extract ((rd j y):Int).toNat ((wrap64 ((rd j y)+1)):Int).toNat).size≤9223372036854775807) = true:=decide_eq_true a2
      try have aS:(9223372036854775807 < z.size+((⟨#[97,98,99,100,101,102,103,104]⟩:ByteArray).extract ((rd j y):Int).toNat ((wrap64 ((rd j y)+1)):Int).toNat).size) = False:=eq_false (Nat.not_lt.2 a2)
      have H':=ae.mk H
      clear H
      obtain ⟨b3,b4,al⟩:=Kd.aY X.out
      subst al
      obtain ⟨a3,am,ao,ba,bc⟩:=af.ai (Kd.au X.out).2.2 y
      cases am
      obtain ⟨a4,ap,ar,bd,bi⟩:=af.ai (Kd.au X.out).2.2 y
      obtain rfl:a3 = a4:=(by injection ap)
      go_wp2
      repeat (go_quiet (fail);try go_wp2)
      go_roundg k1
      case measure=>have:=a9.out;omega
      case rel=>exact ⟨(z ++ ((⟨#[97,98,99,100,101,102,103,104]⟩:ByteArray).extract ((rd j y):Int).toNat ((wrap64 ((rd j y)+1)):Int).toNat)),(wrap64 (y+1)),af.F,af.F,H',⟨by have:=a9.out;omega⟩,⟨af.Rw X.out⟩,⟨af.Lw HB.out⟩⟩
     ·rw [if_neg c7] at H
      have aa:decide (y < (j.length:Int)) = false:=decide_eq_false c7
      clear c7
      obtain rfl:=Option.some.inj H
      obtain ⟨bm,bo,aw⟩:=Kd.aY X.out
      subst aw
      go_wp2
      repeat (go_quiet (fail);try go_wp2)
      go_ret
      exact ⟨af.E,af.L⟩
 ·replace c3:=Bool.eq_false_iff.mpr c3
  subst c3
  replace H:(some (⟨#[]⟩:ByteArray)) = some r:=by rw [if_neg (show ¬ (false = true) by decide)] at H;exact H
  obtain rfl:=Option.some.inj H
  go_enter Tryz.func209,Tryz.ntmps209
  go_wp2_with (first | (go_at_call 87;(with_reducible refine (bu.calls 8 a0 false _ A2.out).mono ?_);rintro e w' ⟨rfl,⟨nd,rfl⟩⟩;(try exact af.W)))
  repeat (go_quiet (first | (go_at_call 87;(with_reducible refine (bu.calls 8 a0 false _ A2.out).mono ?_);rintro e w' ⟨rfl,⟨nd,rfl⟩⟩;(try exact af.W)));try go_wp2_with (first | (go_at_call 87;(with_reducible refine (bu.calls 8 a0 false _ A2.out).mono ?_);rintro e w' ⟨rfl,⟨nd,rfl⟩⟩;(try exact af.W))))
  go_ret
  exact ⟨af.E,af.L⟩
mutual
def bK.l0:Nat→ByteArray→Int→Int→Option (Int×Bool)
 | 0,_,_,_=>none
 | k+1,j,z,y=>if y < (j.size:Int) then (bK.j1 k j z y (j.toList != ([45]:List UInt8))) else (bK.j1 k j z y false)
def bK.j1:Nat→ByteArray→Int→Int→Bool→Option (Int×Bool)
 | 0,_,_,_,_=>none
 | k+1,j,z,y,Y=>if Y = true then (if 0≤y then (if y < (j.size:Int) then (if (bt j y) < 97 then (some (0,false)) else (if (bt j y) > 104 then (some (0,false)) else ((dz.f z (((bt j y) - 97) % 256)).bind fun M=>(bK.l0 k j M (wrap64 (y+1)))))) else (none)) else (none)) else ((cr.f k z).bind fun X=>(if X.toList = j.toList then (some (z,true)) else (some (0,false))))
end
def bK.f (k:Nat) (a0:ByteArray):Option (Int×Bool):=bK.l0 k a0 0 0
theorem bK.di:∀ k,af.S3 bK.l0 k∧af.S4 bK.j1 k
 | 0=>by and_intros <;> (repeat intro _) <;> exact af.mz rfl
 | k+1=>by
  obtain ⟨j,y⟩:=bK.di k
  and_intros <;> (repeat intro _) <;> (first | unfold bK.l0 | unfold bK.j1) <;> exact ⟨af.mt⟩
theorem bK.mono:∀ a0 k,iN (bK.f k a0) (bK.f (k+1) a0):=by
 intro a0 k
 obtain ⟨j,y⟩:=bK.di k
 unfold bK.f
 exact af.mt
instance bK.m:af.V1 bK.f:=fun _ _=>⟨bK.mono _ _⟩
set_option maxHeartbeats 8000000 in
set_option maxRecDepth 100000 in
theorem bK.calls (k:Nat) (a0:ByteArray) (r1:Int) (r2:Bool) (w:World) (h:bK.f k a0 = some (r1,r2)) :
  Calls Tryz.prog 200 #[.string a0] w fun e w'=>e = .returned (.tuple #[.int .i64 r1,.bool r2])∧Below w.heap.size w w':=by
 have HB:=ae.mk (Below.refl w.heap.size w)
 unfold bK.f at h
 have H:=h
 clear h
 have H':=ae.mk H
 clear H
 go_enter Tryz.func200,Tryz.ntmps200
 go_wp2
 go_loopg [4,5] k (fun kq v4 v5 w'=>∃ (y:Int) (j:Int),v4 = .int .i64 y∧v5 = .int .i64 j∧ae (bK.l0 kq a0 y j = some (r1,r2))∧ae (kq≤k)∧ae (Below w.heap.size w w'))
 case atStart=>exact ⟨(0),(0),af.F,af.F,H',⟨Nat.le_refl _⟩,⟨af.Lw HB.out⟩⟩
 case round =>
  clear H'
  obtain ⟨y,j,rfl,rfl,HA,a3,HB⟩:=hrel
  cases gk with
  | zero=>exact absurd HA.out (by simp [bK.l0])
  | succ k1 =>
   have H:=HA.out
   clear HA
   simp only [bK.l0] at H
   have a4:=ae.mk H
   clear H
   go_upto_region 3 with (fail)
   go_cut [13] (fun ao wc=>∃ (kq:Nat) (M:Bool),ao = .bool M∧ae (bK.j1 kq a0 y j M = some (r1,r2))∧ae (kq≤k1)∧ae (Below w.heap.size w wc))
   case first =>
    have H:=a4.out
    clear a4
    by_cases c3:j < (a0.size:Int)
    ·rw [if_pos c3] at H
     have X:=decide_eq_true c3
     clear c3
     (first | rw [X] | (simp only [bw,bW];rw [X]) | skip)
     have H':=ae.mk H
     clear H
     go_wp2
     go_meet
     case rel=>exact ⟨_,((a0.toList != ([45]:List UInt8))),af.F,H',⟨by have:=a3.out;first | omega | exact Nat.le_refl _⟩,⟨af.Lw HB.out⟩⟩
    ·rw [if_neg c3] at H
     have X:decide (j < (a0.size:Int)) = false:=decide_eq_false c3
     clear c3
     (first | rw [X] | (simp only [bw,bW];rw [X]) | skip)
     have H':=ae.mk H
     clear H
     go_wp2
     go_meet
     case rel=>exact ⟨_,(false),af.F,H',⟨by have:=a3.out;first | omega | exact Nat.le_refl _⟩,⟨af.Lw HB.out⟩⟩
   case rest =>
    clear a4
    obtain ⟨kq,M,rfl,HA,a8,HB⟩:=hcut
    cases kq with
    | zero=>exact absurd HA.out (by simp [bK.j1])
    | succ a2 =>
     have H:=HA.out
     clear HA
     simp only [bK.j1] at H
     by_cases c4:M = true
     ·subst c4
      replace H:(if 0≤j then (if j < (a0.size:Int) then (if (bt a0 j) < 97 then (some (0,false)) else (if (bt a0 j) > 104 then (some (0,false)) else ((dz.f y (((bt a0 j) - 97) % 256)).bind fun a1=>(bK.l0 a2 a0 a1 (wrap64 (j+1)))))) else (none)) else (none)) = some (r1,r2):=by rw [if_pos rfl] at H;exact H
      obtain ⟨c5,H⟩:=af.ip H
      have aB:=decide_eq_true c5
      clear c5
      obtain ⟨c6,H⟩:=af.ip H
      have aF:=decide_eq_true c6
      clear c6
      by_cases c8:(bt a0 j) < 97
      ·rw [if_pos c8] at H
       have a9:=decide_eq_true c8
       clear c8
       simp only [Option.some.injEq,Prod.mk.injEq] at H
       obtain ⟨rfl,rfl⟩:=H
       have p7:0≤(j:Int):=af.D
       have q7:j < (a0.size:Int):=af.D
       have aa:=iW a0 j
       replace p7:=eq_true p7
       replace q7:=eq_true q7
       go_wp2
       go_ret2
       exact ⟨af.E,af.L⟩
      ·rw [if_neg c8] at H
       have a9:decide ((bt a0 j) < 97) = false:=decide_eq_false c8
       clear c8
       by_cases gz:(bt a0 j) > 104
       ·rw [if_pos gz] at H
        have a5:=decide_eq_true gz
        clear gz
        simp only [Option.some.injEq,Prod.mk.injEq] at H
        obtain ⟨rfl,rfl⟩:=H
        have p7:0≤(j:Int):=af.D
        have q7:j < (a0.size:Int):=af.D
        have aa:=iW a0 j
        replace p7:=eq_true p7
        replace q7:=eq_true q7
        have p9:0≤(j:Int):=af.D
        have q9:j < (a0.size:Int):=af.D
        have ap:=iW a0 j
        replace p9:=eq_true p9
        replace q9:=eq_true q9
        go_wp2
        go_ret2
        exact ⟨af.E,af.L⟩
       ·rw [if_neg gz] at H
        have a5:decide (104 < (bt a0 j)) = false:=decide_eq_false gz
        clear gz
        obtain ⟨a1,ar,H⟩:=af.be H
        (try dsimp only at H)
        have H':=ae.mk H
        clear H
        have p7:0≤(j:Int):=af.D
        have q7:j < (a0.size:Int):=af.D
        have aa:=iW a0 j
        replace p7:=eq_true p7
        replace q7:=eq_true q7
        have p9:0≤(j:Int):=af.D
        have q9:j < (a0.size:Int):=af.D
        have ap:=iW a0 j
        replace p9:=eq_true p9
        replace q9:=eq_true q9
        have ab:0≤(j:Int):=af.D
        have al:j < (a0.size:Int):=af.D
        have aL:=iW a0 j
        replace ab:=eq_true ab
        replace al:=eq_true al
        go_wp2_with (first | (refine af.gl (some 32) Tryz.func66 #[.int .i64 y,.int .i64 (((bt a0 j) - 97) % 256)] ?_;(with_reducible refine (dz.calls y (((bt a0 j) - 97) % 256) a1 _ ar.out).mono ?_);rintro e w' ⟨rfl,⟨nd,rfl⟩⟩;refine ⟨_,rfl,?_⟩))
        go_roundg a2
        case measure=>have:=a3.out;have:=a8.out;omega
        case rel=>exact ⟨(a1),(wrap64 (j+1)),af.F,af.F,H',⟨by have:=a3.out;have:=a8.out;omega⟩,⟨af.Lw HB.out⟩⟩
     ·replace c4:=Bool.eq_false_iff.mpr c4
      subst c4
      replace H:((cr.f a2 y).bind fun z=>(if z.toList = a0.toList then (some (y,true)) else (some (0,false)))) = some (r1,r2):=by rw [if_neg (show ¬ (false = true) by decide)] at H;exact H
      obtain ⟨z,am,H⟩:=af.be H
      (try dsimp only at H)
      by_cases Y:z.toList = a0.toList
      ·rw [if_pos Y] at H
       have a6:(z.toList == a0.toList) = true:=beq_iff_eq.mpr Y
       have a7:(z.toList != a0.toList) = false:=bne_eq_false_iff_eq.mpr Y
       clear Y
       simp only [Option.some.injEq,Prod.mk.injEq] at H
       obtain ⟨rfl,rfl⟩:=H
       go_wp2_with (first | (refine af.gl (some 34) Tryz.func209 #[.int .i64 y] ?_;(with_reducible refine (cr.calls a2 y z _ am.out).mono ?_);rintro e aO ⟨rfl,hb⟩;refine ⟨_,rfl,?_⟩;replace HB:=af.lb HB hb;(try clear hb);(try clear aw);(try clear hk);(try clear hi)))
       go_ret2
       exact ⟨af.E,af.L⟩
      ·rw [if_neg Y] at H
       have a6:(z.toList == a0.toList) = false:=beq_eq_false_iff_ne.mpr Y
       have a7:(z.toList != a0.toList) = true:=bne_iff_ne.mpr Y
       simp only [Option.some.injEq,Prod.mk.injEq] at H
       obtain ⟨rfl,rfl⟩:=H
       go_wp2_with (first | (refine af.gl (some 34) Tryz.func209 #[.int .i64 y] ?_;(with_reducible refine (cr.calls a2 y z _ am.out).mono ?_);rintro e aP ⟨rfl,hb⟩;refine ⟨_,rfl,?_⟩;replace HB:=af.lb HB hb;(try clear hb);(try clear aw);(try clear hk);(try clear hi)))
       go_ret2
       exact ⟨af.E,af.L⟩
end Go.Proofs.YtmpodackojmojaaGreat.Pr
end
