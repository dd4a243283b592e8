/- The claim FnPolynomial: every text that its row comes to, laid together by slim.py (the words of the kit's print, the printed walks, the pure law, the row). -/
import Derived.Test.YtmpodackojmojaaGreatYFnPolynomial1
section
namespace Go.Proofs.YtmpodackojmojaaGreat.Pr
open Go.RowKit Go.Proofs.ag.bl Go.Proofs.ag.cj Go.Proofs.ag.ck
attribute [local go_sem] j5 j6 jG jH iy iz j7 j8
set_option linter.unusedVariables false
set_option linter.unusedSimpArgs false
def bX.l0:Nat→Int→List Int→Int→Option (Bool)
 | 0,_,_,_=>none
 | k+1,M,z,y=>if y < (z.length:Int) then (if 0≤y then ((bu.f M (rd z y)).bind fun j=>(if j = true then (bX.l0 k M z (wrap64 (y+1))) else (some false))) else (none)) else (some true)
def bX.f (k:Nat) (a0:Int) (l1:List Int):Option (Bool):=bX.l0 k a0 l1 0
theorem bX.di:∀ k,af.S3 bX.l0 k
 | 0=>by and_intros <;> (repeat intro _) <;> exact af.mz rfl
 | k+1=>by
  have j:=bX.di k
  and_intros <;> (repeat intro _) <;> unfold bX.l0 <;> exact ⟨af.mt⟩
theorem bX.mono:∀ a0 j k,iN (bX.f k a0 j) (bX.f (k+1) a0 j):=by
 intro a0 j k
 have y:=bX.di k
 unfold bX.f
 exact af.mt
instance bX.m:af.V2 bX.f:=fun _ _ _=>⟨bX.mono _ _ _⟩
set_option maxHeartbeats 8000000 in
set_option maxRecDepth 100000 in
theorem bX.calls (k:Nat) (a0:Int) (A1:Option Addr) (c1:Nat) (l1:List Int) (r:Bool) (w:World) (X:Kd.C (Kd.int .i64) w A1 l1.length l1) (Y:l1.length≤c1) (h:bX.f k a0 l1 = some r) :
  Calls Tryz.prog 136 #[.int .i64 a0,.slice A1 l1.length c1] w fun e w'=>e = .returned (.bool r)∧cQ w w':=by
 have a1:=ae.mk X
 have a8:=ae.mk Y
 clear X Y
 unfold bX.f at h
 have H:=h
 clear h
 have H':=ae.mk H
 clear H
 go_enter Tryz.func136,Tryz.ntmps136
 go_wp2
 go_loopg [5] k (fun kq v5 w'=>∃ (j:Int),v5 = .int .i64 j∧ae (bX.l0 kq a0 l1 j = some r)∧ae (kq≤k)∧cQ w w')
 case atStart=>exact ⟨(0),af.F,H',⟨Nat.le_refl _⟩,af.G⟩
 case round =>
  clear H'
  obtain ⟨j,rfl,HA,a2,⟨m1,rfl⟩⟩:=hrel
  cases gk with
  | zero=>exact absurd HA.out (by simp [bX.l0])
  | succ k1 =>
   have H:=HA.out
   clear HA
   simp only [bX.l0] at H
   by_cases c3:j < (l1.length:Int)
   ·rw [if_pos c3] at H
    have a3:=decide_eq_true c3
    clear c3
    obtain ⟨c4,H⟩:=af.ip H
    have a7:=decide_eq_true c4
    clear c4
    obtain ⟨a4,A5,H⟩:=af.be H
    (try dsimp only at H)
    by_cases c6:a4 = true
    ·subst c6
     replace H:(bX.l0 k1 a0 l1 (wrap64 (j+1))) = some r:=by rw [if_pos rfl] at H;exact H
     have H':=ae.mk H
     clear H
     obtain ⟨M,y,z,a5,a6⟩:=af.ai a1.out j
     cases y
     go_wp2_with (first | (refine af.gl (some 17) Tryz.func87 #[.int .i64 a0,.int .i64 (rd l1 j)] ?_;(with_reducible refine (bu.calls a0 (rd l1 j) true _ A5.out).mono ?_);rintro e w' ⟨rfl,⟨nd,rfl⟩⟩;refine ⟨_,rfl,?_⟩))
     go_roundg k1
     case measure=>have:=a2.out;omega
     case rel=>exact ⟨(wrap64 (j+1)),af.F,H',⟨by have:=a2.out;omega⟩,af.G⟩
    ·replace c6:=Bool.eq_false_iff.mpr c6
     subst c6
     replace H:(some false) = some r:=by rw [if_neg (show ¬ (false = true) by decide)] at H;exact H
     obtain rfl:=Option.some.inj H
     obtain ⟨M,y,z,a5,a6⟩:=af.ai a1.out j
     cases y
     go_wp2_with (first | (refine af.gl (some 17) Tryz.func87 #[.int .i64 a0,.int .i64 (rd l1 j)] ?_;(with_reducible refine (bu.calls a0 (rd l1 j) false _ A5.out).mono ?_);rintro e w' ⟨rfl,⟨nd,rfl⟩⟩;refine ⟨_,rfl,?_⟩))
     go_ret
     exact ⟨af.F,af.G⟩
   ·rw [if_neg c3] at H
    have a3:decide (j < (l1.length:Int)) = false:=decide_eq_false c3
    clear c3
    obtain rfl:=Option.some.inj H
    go_wp2
    go_ret
    exact ⟨af.F,af.G⟩
def dj.l0:Nat→List ByteArray→ByteArray→List Int→Int→Option (ByteArray)
 | 0,_,_,_,_=>none
 | k+1,z,X,M,j=>if j < (z.length:Int) then (if j > 0 then (if M.length+X.size < 140737488355328 then ((some (M ++ bytesOf X:List Int)).bind fun y=>(if 0≤j then (if y.length+(fH ByteArray.empty z j).size < 140737488355328 then (dj.l0 k z X (y ++ bytesOf (fH ByteArray.empty z j)) (wrap64 (j+1))) else (none)) else (none))) else (none)) else (if 0≤j then (if M.length+(fH ByteArray.empty z j).size < 140737488355328 then (dj.l0 k z X (M ++ bytesOf (fH ByteArray.empty z j)) (wrap64 (j+1))) else (none)) else (none))) else (some (strOfNums M))
def dj.f (k:Nat) (l0:List ByteArray) (j:ByteArray):Option (ByteArray):=dj.l0 k l0 j (([]:List Int)) 0
theorem dj.di:∀ k,af.S4 dj.l0 k
 | 0=>by and_intros <;> (repeat intro _) <;> exact af.mz rfl
 | k+1=>by
  have j:=dj.di k
  and_intros <;> (repeat intro _) <;> unfold dj.l0 <;> exact ⟨af.mt⟩
theorem dj.mono:∀ a0 j k,iN (dj.f k a0 j) (dj.f (k+1) a0 j):=by
 intro a0 j k
 have y:=dj.di k
 unfold dj.f
 exact af.mt
instance dj.m:af.V2 dj.f:=fun _ _ _=>⟨dj.mono _ _ _⟩
set_option maxHeartbeats 8000000 in
set_option maxRecDepth 100000 in
theorem dj.calls (k:Nat) (A0:Option Addr) (c0:Nat) (l0:List ByteArray) (a1:ByteArray) (r:ByteArray) (w:World) (bd:Kd.C Kd.string w A0 l0.length l0) (bi:l0.length≤c0) (h:dj.f k l0 a1 = some r) :
  Calls Tryz.prog 210 #[.slice A0 l0.length c0,.string a1] w fun e w'=>e = .returned (.string r)∧Below w.heap.size w w':=by
 have bm:=ae.mk bd
 have d5:=ae.mk bi
 clear bd bi
 have HB:=ae.mk (Below.refl w.heap.size w)
 unfold dj.f at h
 have H:=h
 clear h
 obtain ⟨aF,a4⟩:∃ y_:List Int,y_ = (([]:List Int)):=⟨_,rfl⟩
 replace H:(dj.l0 k l0 a1 aF 0) = some r:=by (try rw [a4]);exact af.Z
 have a8:=ae.mk a4
 clear a4
 have H':=ae.mk H
 clear H
 go_enter Tryz.func210,Tryz.ntmps210
 go_wp2_with (first | (refine af.lt (Kd.int .u8) 5 7 ?_;intro d3 w3 a9 hb cp aR;clear cp aR;(first | rw [← a8.out] at a9 | (simp only [Int.reduceToNat] at a9;rw [← a8.out] at a9));have b0:=ae.mk (Kd.b9 a9 (aj (af.Lw HB.out)));replace HB:=af.lb HB hb;clear hb a9))
 go_loopg [5,6] k (fun kq v5 v6 w'=>∃ (y:List Int) (j:Int),v6 = .int .i64 j∧ae (dj.l0 kq l0 a1 y j = some r)∧ae (kq≤k)∧ae (Kd.R (Kd.int .u8) 5 w' w.heap.size (fun _=>True) v5 y)∧ae (Below w.heap.size w w'))
 case atStart=>exact ⟨(aF),(0),af.F,H',⟨Nat.le_refl _⟩,⟨af.Rw b0.out⟩,⟨af.Lw HB.out⟩⟩
 case round =>
  clear H'
  obtain ⟨y,j,rfl,HA,aw,X,HB⟩:=hrel
  cases gk with
  | zero=>exact absurd HA.out (by simp [dj.l0])
  | succ k1 =>
   have H:=HA.out
   clear HA
   simp only [dj.l0] at H
   by_cases c5:j < (l0.length:Int)
   ·rw [if_pos c5] at H
    have bo:=decide_eq_true c5
    clear c5
    by_cases c6:j > 0
    ·rw [if_pos c6] at H
     have bs:=decide_eq_true c6
     clear c6
     obtain ⟨c7,H⟩:=af.ip H
     have bv:=ae.mk c7
     clear c7
     obtain ⟨Y,a5⟩:∃ y_:List Int,y_ = (y ++ bytesOf a1):=⟨_,rfl⟩
     replace H:(if 0≤j then (if Y.length+(fH ByteArray.empty l0 j).size < 140737488355328 then (dj.l0 k1 l0 a1 (Y ++ bytesOf (fH ByteArray.empty l0 j)) (wrap64 (j+1))) else (none)) else (none)) = some r:=by (try rw [a5]);exact af.Z
     have b1:=ae.mk a5
     clear a5
     obtain ⟨c8,H⟩:=af.ip H
     have d4:=decide_eq_true c8
     clear c8
     obtain ⟨c9,H⟩:=af.ip H
     have ca:=ae.mk c9
     clear c9
     obtain ⟨aa,a6⟩:∃ y_:List Int,y_ = (Y ++ bytesOf (fH ByteArray.empty l0 j)):=⟨_,rfl⟩
     replace H:(dj.l0 k1 l0 a1 aa (wrap64 (j+1))) = some r:=by (try rw [a6]);exact af.Z
     have b2:=ae.mk a6
     clear a6
     have H':=ae.mk H
     clear H
     go_wp2_with (first | (at_builtin;refine iw (w0:=w) w.heap.size rfl (.tmp 16) _ 22 9 5 rfl Tryz.underlying22 Tryz.underlying9 sE u5 y a1 rfl rfl ?aO ?aB ?aS ?aL ?_;(case aB=>exact (af.Lw HB.out));(case aO=>exact (Kd.iK (af.Rw X.out)));(case aS=>exact (aj (af.Lw HB.out)));(case aL=>have:=bv.out;omega);intro aP cx a0 hb hg;have ho:=Kd.kR (h1:=fun _=>rfl) (ok:=fun _=>True) a0 (fun _ _=>trivial);clear a0;have hat:=True.intro;rw [← b1.out] at ho;change Kd.R (Kd.int .u8) 5 cx w.heap.size (fun _=>True) aP Y at ho;have a2:=ae.mk hb;have a3:=ae.mk ho;clear HB;clear X;have HB:=a2;have ab:=a3;clear a2 a3;clear ho hb hg hat;have al:0≤(j:Int):=af.D;have am:j < (l0.length:Int):=af.D;obtain ⟨cy,cb,z⟩:=Kd.fz bm.out j al am;cases cb;replace z:=(HB.out.cell (World.block_lt_of_cell? w _ z)).trans z;replace al:=eq_true al;replace am:=eq_true am) | (at_builtin;refine iw (w0:=w) w.heap.size rfl (.tmp 19) _ 22 9 5 rfl Tryz.underlying22 Tryz.underlying9 sE aP Y (fH ByteArray.empty l0 j) rfl rfl ?aO ?aB ?aS ?aL ?_;(case aB=>exact (af.Lw HB.out));(case aO=>exact (Kd.iK (af.Rw ab.out)));(case aS=>exact (aj (af.Lw HB.out)));(case aL=>have:=ca.out;omega);intro cc cX a0 hb hg;have ho:=Kd.kR (h1:=fun _=>rfl) (ok:=fun _=>True) a0 (fun _ _=>trivial);clear a0;have hat:=True.intro;rw [← b2.out] at ho;change Kd.R (Kd.int .u8) 5 cX w.heap.size (fun _=>True) cc aa at ho;have a2:=ae.mk hb;have a3:=ae.mk ho;clear HB;clear ab;have HB:=a2;have b3:=a3;clear a2 a3;clear ho hb hg hat))
     go_roundg k1
     case measure=>have:=aw.out;omega
     case rel=>exact ⟨(aa),(wrap64 (j+1)),af.F,H',⟨by have:=aw.out;omega⟩,⟨af.Rw b3.out⟩,⟨af.Lw HB.out⟩⟩
    ·rw [if_neg c6] at H
     have bs:decide (0 < j) = false:=decide_eq_false c6
     clear c6
     obtain ⟨cd,H⟩:=af.ip H
     have cY:=decide_eq_true cd
     clear cd
     obtain ⟨ce,H⟩:=af.ip H
     have b4:=ae.mk ce
     clear ce
     obtain ⟨ao,a7⟩:∃ y_:List Int,y_ = (y ++ bytesOf (fH ByteArray.empty l0 j)):=⟨_,rfl⟩
     replace H:(dj.l0 k1 l0 a1 ao (wrap64 (j+1))) = some r:=by (try rw [a7]);exact af.Z
     have ba:=ae.mk a7
     clear a7
     have H':=ae.mk H
     clear H
     have ap:0≤(j:Int):=af.D
     have ar:j < (l0.length:Int):=af.D
     obtain ⟨d0,cf,M⟩:=Kd.fz bm.out j ap ar
     cases cf
     try replace M:=(HB.out.cell (World.block_lt_of_cell? w _ M)).trans M
     replace ap:=eq_true ap
     replace ar:=eq_true ar
     go_wp2_with (first | (at_builtin;refine iw (w0:=w) w.heap.size rfl (.tmp 19) _ 22 9 5 rfl Tryz.underlying22 Tryz.underlying9 sE u5 y (fH ByteArray.empty l0 j) rfl rfl ?aO ?aB ?aS ?aL ?_;(case aB=>exact (af.Lw HB.out));(case aO=>exact (Kd.iK (af.Rw X.out)));(case aS=>exact (aj (af.Lw HB.out)));(case aL=>have:=b4.out;omega);intro ci d1 a0 hb hg;have ho:=Kd.kR (h1:=fun _=>rfl) (ok:=fun _=>True) a0 (fun _ _=>trivial);clear a0;have hat:=True.intro;rw [← ba.out] at ho;change Kd.R (Kd.int .u8) 5 d1 w.heap.size (fun _=>True) ci ao at ho;have a2:=ae.mk hb;have a3:=ae.mk ho;clear HB;clear X;have HB:=a2;have bc:=a3;clear a2 a3;clear ho hb hg hat))
     go_roundg k1
     case measure=>have:=aw.out;omega
     case rel=>exact ⟨(ao),(wrap64 (j+1)),af.F,H',⟨by have:=aw.out;omega⟩,⟨af.Rw bc.out⟩,⟨af.Lw HB.out⟩⟩
   ·rw [if_neg c5] at H
    have bo:decide (j < (l0.length:Int)) = false:=decide_eq_false c5
    clear c5
    obtain rfl:=Option.some.inj H
    have d2:=kI (P:=Tryz.prog) Tryz.underlying22 Tryz.underlying5 Tryz.underlying9 (Kd.iK X.out)
    go_wp2
    go_ret
    exact ⟨af.E,af.L⟩
def bD.l0:Nat→List Int→List ByteArray→Int→Option (ByteArray)
 | 0,_,_,_=>none
 | k+1,M,X,z=>if z < (M.length:Int) then (if 0≤z then ((cr.f k (rd M z)).bind fun j=>(if X.length < 8796093022208 then (bD.l0 k M (X ++ [j]) (wrap64 (z+1))) else (none))) else (none)) else ((dj.f k X (⟨#[44]⟩:ByteArray)).bind fun y=>(some y))
def bD.f (k:Nat) (l0:List Int):Option (ByteArray):=(bX.f k 8 l0).bind fun j=>(if j = true then (if (l0.length:Int) = 0 then (some (⟨#[110,111,110,101]⟩:ByteArray)) else (bD.l0 k l0 (([]:List ByteArray)) 0)) else (some (⟨#[]⟩:ByteArray)))
theorem bD.di:∀ k,af.S3 bD.l0 k
 | 0=>by and_intros <;> (repeat intro _) <;> exact af.mz rfl
 | k+1=>by
  have j:=bD.di k
  and_intros <;> (repeat intro _) <;> unfold bD.l0 <;> exact ⟨af.mt⟩
theorem bD.mono:∀ a0 k,iN (bD.f k a0) (bD.f (k+1) a0):=by
 intro a0 k
 have j:=bD.di k
 unfold bD.f
 exact af.mt
instance bD.m:af.V1 bD.f:=fun _ _=>⟨bD.mono _ _⟩
set_option maxHeartbeats 8000000 in
set_option maxRecDepth 100000 in
theorem bD.calls (k:Nat) (A0:Option Addr) (c0:Nat) (l0:List Int) (r:ByteArray) (w:World) (al:Kd.C (Kd.int .i64) w A0 l0.length l0) (am:l0.length≤c0) (h:bD.f k l0 = some r) :
  Calls Tryz.prog 201 #[.slice A0 l0.length c0] w fun e w'=>e = .returned (.string r)∧Below w.heap.size w w':=by
 have a3:=ae.mk al
 have a6:=ae.mk am
 clear al am
 have HB:=ae.mk (Below.refl w.heap.size w)
 unfold bD.f at h
 have H:=h
 clear h
 obtain ⟨ao,A2,H⟩:=af.be H
 (try dsimp only at H)
 by_cases c3:ao = true
 ·subst c3
  replace H:(if (l0.length:Int) = 0 then (some (⟨#[110,111,110,101]⟩:ByteArray)) else (bD.l0 k l0 (([]:List ByteArray)) 0)) = some r:=by rw [if_pos rfl] at H;exact H
  by_cases c4:(l0.length:Int) = 0
  ·rw [if_pos c4] at H
   have ap:((l0.length:Int) == 0) = true:=beq_iff_eq.mpr c4
   have ar:((l0.length:Int) != 0) = false:=bne_eq_false_iff_eq.mpr c4
   clear c4
   obtain rfl:=Option.some.inj H
   go_enter Tryz.func201,Tryz.ntmps201
   go_wp2_with (first | (refine af.gl (some 6) Tryz.func136 #[.int .i64 8,.slice A0 l0.length c0] ?_;(with_reducible refine (bX.calls k 8 _ _ l0 true _ ?side1 ?side2 A2.out).mono ?_);(case side1=>exact af.Cw a3.out);(case side2=>exact a6.out);rintro e w' ⟨rfl,⟨nd,rfl⟩⟩;refine ⟨_,rfl,?_⟩))
   go_ret
   exact ⟨af.E,af.L⟩
  ·rw [if_neg c4] at H
   have ap:((l0.length:Int) == 0) = false:=beq_eq_false_iff_ne.mpr c4
   have ar:((l0.length:Int) != 0) = true:=bne_iff_ne.mpr c4
   have ba:¬ (l0 = []):=fun h_=>c4 (by rw [h_];rfl)
   obtain ⟨a4,X⟩:∃ y_:List ByteArray,y_ = (([]:List ByteArray)):=⟨_,rfl⟩
   replace H:(bD.l0 k l0 a4 0) = some r:=by (try rw [X]);exact af.Z
   have a1:=ae.mk X
   clear X
   have H':=ae.mk H
   clear H
   go_enter Tryz.func201,Tryz.ntmps201
   go_wp2_with (first | (refine af.gl (some 6) Tryz.func136 #[.int .i64 8,.slice A0 l0.length c0] ?_;(with_reducible refine (bX.calls k 8 _ _ l0 true _ ?side1 ?side2 A2.out).mono ?_);(case side1=>exact af.Cw a3.out);(case side2=>exact a6.out);rintro e w' ⟨rfl,⟨nd,rfl⟩⟩;refine ⟨_,rfl,?_⟩) | (refine af.lt Kd.string 9 11 ?_;intro bc w5 a2 hb b1 a7;clear b1 a7;(first | rw [← a1.out] at a2 | (simp only [Int.reduceToNat] at a2;rw [← a1.out] at a2));have a8:=ae.mk (Kd.b9 a2 (aj (af.Lw HB.out)));replace HB:=af.lb HB hb;clear hb a2))
   go_loopg [3,4] k (fun kq v3 v4 w'=>∃ (z:List ByteArray) (j:Int),v4 = .int .i64 j∧ae (bD.l0 kq l0 z j = some r)∧ae (kq≤k)∧ae (Kd.R Kd.string 9 w' w.heap.size (fun _=>True) v3 z)∧ae (Below w.heap.size w w'))
   case atStart=>exact ⟨(a4),(0),af.F,H',⟨Nat.le_refl _⟩,⟨af.Rw a8.out⟩,⟨af.Lw HB.out⟩⟩
   case round =>
    clear H'
    obtain ⟨z,j,rfl,HA,aw,y,HB⟩:=hrel
    cases gk with
    | zero=>exact absurd HA.out (by simp [bD.l0])
    | succ k1 =>
     have H:=HA.out
     clear HA
     simp only [bD.l0] at H
     by_cases c7:j < (l0.length:Int)
     ·rw [if_pos c7] at H
      have aB:=decide_eq_true c7
      clear c7
      obtain ⟨c8,H⟩:=af.ip H
      have bd:=decide_eq_true c8
      clear c8
      obtain ⟨a0,A9,H⟩:=af.be H
      (try dsimp only at H)
      obtain ⟨gz,H⟩:=af.ip H
      have a9:=ae.mk gz
      clear gz
      obtain ⟨a5,Y⟩:∃ y_:List ByteArray,y_ = (z ++ [a0]):=⟨_,rfl⟩
      replace H:(bD.l0 k1 l0 a5 (wrap64 (j+1))) = some r:=by (try rw [Y]);exact af.Z
      have aa:=ae.mk Y
      clear Y
      have H':=ae.mk H
      clear H
      obtain ⟨b2,aF,M,bi,bm⟩:=af.ai a3.out j
      cases aF
      try replace M:=(HB.out.cell (World.block_lt_of_cell? w _ M)).trans M
      go_wp2_with (first | (refine af.gl (some 23) Tryz.func209 #[.int .i64 (rd l0 j)] ?_;(with_reducible refine (cr.calls k1 (rd l0 j) a0 _ A9.out).mono ?_);rintro e bs ⟨rfl,hb⟩;refine ⟨_,rfl,?_⟩;replace y:=af.rb y hb;replace HB:=af.lb HB hb;(try clear hb);(try clear b3);(try clear hk);(try clear hi)) | ((with_reducible refine cB (b:=.append) (xs:=#[.tmp 18,.tmp 24]) rfl ?_);at_builtin;refine Kd.fg Kd.string (w0:=w) w.heap.size rfl (.tmp 18) (.tmp 24) 132 9 (.string ⟨#[]⟩) 16 rfl Tryz.underlying132 sF rfl (by decide) (by omega) u3 z a0 [.string a0] (fun _=>True) (fun _=>False) rfl rfl (by exact rfl) (fun _ hk=>hk.elim) (by exact fun _ _=>trivial) (by exact af.Rw y.out) (by exact af.Lw HB.out) (by exact aj (af.Lw HB.out)) (by have:=a9.out;omega) ?_;intro bo bv ho hb hg hat;rw [← aa.out] at ho;have aL:=ae.mk hb;have aO:=ae.mk ho;clear HB;clear y;have HB:=aL;have ab:=aO;clear aL aO;clear ho hb hg hat))
      go_roundg k1
      case measure=>have:=aw.out;omega
      case rel=>exact ⟨(a5),(wrap64 (j+1)),af.F,H',⟨by have:=aw.out;omega⟩,⟨af.Rw ab.out⟩,⟨af.Lw HB.out⟩⟩
     ·rw [if_neg c7] at H
      have aB:decide (j < (l0.length:Int)) = false:=decide_eq_false c7
      clear c7
      obtain ⟨aP,b4,H⟩:=af.be H
      (try dsimp only at H)
      obtain rfl:=Option.some.inj H
      obtain ⟨aR,aS,b0⟩:=Kd.aY y.out
      subst b0
      go_wp2_with (first | (refine af.gl (some 27) Tryz.func210 #[.slice aR z.length aS,.string (⟨#[44]⟩:ByteArray)] ?_;(with_reducible refine (dj.calls k1 _ _ z (⟨#[44]⟩:ByteArray) aP _ ?side1 ?side2 b4.out).mono ?_);(case side1=>exact af.Cw ((Kd.au y.out).2.2));(case side2=>exact (Kd.au y.out).2.1);rintro e ca ⟨rfl,hb⟩;refine ⟨_,rfl,?_⟩;replace y:=af.rb y hb;replace HB:=af.lb HB hb;(try clear hb);(try clear b3);(try clear hk);(try clear hi)))
      go_ret
      exact ⟨af.E,af.L⟩
 ·replace c3:=Bool.eq_false_iff.mpr c3
  subst c3
  replace H:(some (⟨#[]⟩:ByteArray)) = some r:=by rw [if_neg (show ¬ (false = true) by decide)] at H;exact H
  obtain rfl:=Option.some.inj H
  go_enter Tryz.func201,Tryz.ntmps201
  go_wp2_with (first | (refine af.gl (some 6) Tryz.func136 #[.int .i64 8,.slice A0 l0.length c0] ?_;(with_reducible refine (bX.calls k 8 _ _ l0 false _ ?side1 ?side2 A2.out).mono ?_);(case side1=>exact af.Cw a3.out);(case side2=>exact a6.out);rintro e w' ⟨rfl,⟨nd,rfl⟩⟩;refine ⟨_,rfl,?_⟩))
  go_ret
  exact ⟨af.E,af.L⟩
mutual
def b8.l0:Nat→Int→ByteArray→List Int→List ByteArray→Int→Option (List Int×Bool)
 | 0,_,_,_,_,_=>none
 | k+1,Y,X,y,M,z=>if z < (M.length:Int) then (b8.j1 k Y X y M z (X.toList != ([110,111,110,101]:List UInt8))) else (b8.j1 k Y X y M z false)
def b8.j1:Nat→Int→ByteArray→List Int→List ByteArray→Int→Bool→Option (List Int×Bool)
 | 0,_,_,_,_,_,_=>none
 | k+1,Y,X,y,M,z,a2=>if a2 = true then (if 0≤z then (if z < (M.length:Int) then ((bK.f k (fH ByteArray.empty M z)).bind fun j=>(if j.2 = true then (if y.length < 17592186044416 then (b8.l0 k Y X (y ++ [j.1]) M (wrap64 (z+1))) else (none)) else (some ((([]:List Int)),false)))) else (none)) else (none)) else ((bp.f k Y y).bind fun a0=>(if a0 = true then ((bD.f k y).bind fun a1=>(if a1.toList = X.toList then (some (y,true)) else (some ((([]:List Int)),false)))) else (some ((([]:List Int)),false))))
end
def b8.f (k:Nat) (a0:Int) (y:ByteArray):Option (List Int×Bool):=(bz.f k y 44).bind fun j=>(b8.l0 k a0 y (([]:List Int)) j 0)
theorem b8.di:∀ k,af.S5 b8.l0 k∧af.S6 b8.j1 k
 | 0=>by and_intros <;> (repeat intro _) <;> exact af.mz rfl
 | k+1=>by
  obtain ⟨j,y⟩:=b8.di k
  and_intros <;> (repeat intro _) <;> (first | unfold b8.l0 | unfold b8.j1) <;> exact ⟨af.mt⟩
theorem b8.mono:∀ a0 j k,iN (b8.f k a0 j) (b8.f (k+1) a0 j):=by
 intro a0 j k
 obtain ⟨y,z⟩:=b8.di k
 unfold b8.f
 exact af.mt
instance b8.m:af.V2 b8.f:=fun _ _ _=>⟨b8.mono _ _ _⟩
set_option maxHeartbeats 8000000 in
set_option maxRecDepth 100000 in
theorem b8.calls (k:Nat) (a0:Int) (a1:ByteArray) (r1:List Int) (r2:Bool) (w:World) (h:b8.f k a0 a1 = some (r1,r2)) :
  Calls Tryz.prog 185 #[.int .i64 a0,.string a1] w fun e w'=>∃ cY:Value,e = .returned (.tuple #[cY,.bool r2])∧Kd.R (Kd.int .i64) 3 w' w.heap.size (fun _=>True) cY r1∧Below w.heap.size w w':=by
 have HB:=ae.mk (Below.refl w.heap.size w)
 unfold b8.f at h
 have H:=h
 clear h
 obtain ⟨bm,al⟩:∃ y_:List Int,y_ = (([]:List Int)):=⟨_,rfl⟩
 replace H:((bz.f k a1 44).bind fun X=>(b8.l0 k a0 a1 bm X 0)) = some (r1,r2):=by (try rw [al]);exact af.Z
 have aL:=ae.mk al
 clear al
 obtain ⟨X,A3,H⟩:=af.be H
 (try dsimp only at H)
 have H':=ae.mk H
 clear H
 go_enter Tryz.func185,Tryz.ntmps185
 go_wp2_with (first | (refine af.lt (Kd.int .i64) 3 11 ?_;intro ea w4 aO hb am a2;clear am a2;(first | rw [← aL.out] at aO | (simp only [Int.reduceToNat] at aO;rw [← aL.out] at aO));have ao:=ae.mk (Kd.b9 aO (aj (af.Lw HB.out)));replace HB:=af.lb HB hb;clear hb aO) | ((with_reducible refine ax (f:=183) rfl ?_);refine af.gl (some 13) Tryz.func183 #[.string a1,.int .u8 44] ?_;(with_reducible refine (bz.calls k a1 44 X _ A3.out).mono ?_);rintro e w6 ⟨bo,rfl,d0,hb⟩;refine ⟨_,rfl,?_⟩;replace ao:=af.rb ao hb;have bv:=ae.mk (Kd.b9 d0 (aj (af.Lw HB.out)));replace HB:=af.lb HB hb;(try clear hb);(try clear b4);(try clear hk);(try clear hi);(try clear d0)))
 go_loopg [6,8] k (fun kq v6 v8 w'=>∃ (z:List Int) (M:Int),v8 = .int .i64 M∧ae (b8.l0 kq a0 a1 z X M = some (r1,r2))∧ae (kq≤k)∧ae (Kd.R (Kd.int .i64) 3 w' w.heap.size (fun _=>True) v6 z)∧ae (Kd.R Kd.string 9 w' w.heap.size (fun _=>True) bo X)∧ae (Below w.heap.size w w'))
 case atStart=>exact ⟨(bm),(0),af.F,H',⟨Nat.le_refl _⟩,⟨af.Rw ao.out⟩,⟨af.Rw bv.out⟩,⟨af.Lw HB.out⟩⟩
 case round =>
  clear H'
  obtain ⟨z,M,rfl,HA,ba,j,y,HB⟩:=hrel
  cases gk with
  | zero=>exact absurd HA.out (by simp [b8.l0])
  | succ k1 =>
   have H:=HA.out
   clear HA
   simp only [b8.l0] at H
   have ca:=ae.mk H
   clear H
   go_upto_region 4 with (fail)
   go_cut [21] (fun v21 wc=>∃ (kq:Nat) (aa:Bool),v21 = .bool aa∧ae (b8.j1 kq a0 a1 z X M aa = some (r1,r2))∧ae (kq≤k1)∧ae (Kd.R (Kd.int .i64) 3 wc w.heap.size (fun _=>True) u6 z)∧ae (Kd.R Kd.string 9 wc w.heap.size (fun _=>True) bo X)∧ae (Below w.heap.size w wc))
   case first =>
    have H:=ca.out
    clear ca
    by_cases c8:M < (X.length:Int)
    ·rw [if_pos c8] at H
     have ab:=decide_eq_true c8
     clear c8
     (first | rw [ab] | (simp only [bw,bW];rw [ab]) | skip)
     have H':=ae.mk H
     clear H
     obtain ⟨eo,eq,e3⟩:=Kd.aY y.out
     subst e3
     go_wp2
     go_meet
     case rel=>exact ⟨_,((a1.toList != ([110,111,110,101]:List UInt8))),af.F,H',⟨by have:=ba.out;first | omega | exact Nat.le_refl _⟩,⟨af.Rw j.out⟩,⟨af.Rw y.out⟩,⟨af.Lw HB.out⟩⟩
    ·rw [if_neg c8] at H
     have ab:decide (M < (X.length:Int)) = false:=decide_eq_false c8
     clear c8
     (first | rw [ab] | (simp only [bw,bW];rw [ab]) | skip)
     have H':=ae.mk H
     clear H
     obtain ⟨eb,ec,d1⟩:=Kd.aY y.out
     subst d1
     go_wp2
     go_meet
     case rel=>exact ⟨_,(false),af.F,H',⟨by have:=ba.out;first | omega | exact Nat.le_refl _⟩,⟨af.Rw j.out⟩,⟨af.Rw y.out⟩,⟨af.Lw HB.out⟩⟩
   case rest =>
    clear ca
    obtain ⟨kq,aa,rfl,HA,d2,j,y,HB⟩:=hcut
    cases kq with
    | zero=>exact absurd HA.out (by simp [b8.j1])
    | succ a3 =>
     have H:=HA.out
     clear HA
     simp only [b8.j1] at H
     by_cases bc:aa = true
     ·subst bc
      replace H:(if 0≤M then (if M < (X.length:Int) then ((bK.f a3 (fH ByteArray.empty X M)).bind fun aP=>(if aP.2 = true then (if z.length < 17592186044416 then (b8.l0 a3 a0 a1 (z ++ [aP.1]) X (wrap64 (M+1))) else (none)) else (some ((([]:List Int)),false)))) else (none)) else (none)) = some (r1,r2):=by rw [if_pos rfl] at H;exact H
      obtain ⟨d3,H⟩:=af.ip H
      have e4:=decide_eq_true d3
      clear d3
      obtain ⟨d4,H⟩:=af.ip H
      have e8:=decide_eq_true d4
      clear d4
      obtain ⟨⟨a6,d5⟩,d6,H⟩:=af.be H
      (try dsimp only at H)
      by_cases bd:d5 = true
      ·subst bd
       replace H:(if z.length < 17592186044416 then (b8.l0 a3 a0 a1 (z ++ [a6]) X (wrap64 (M+1))) else (none)) = some (r1,r2):=by rw [if_pos rfl] at H;exact H
       obtain ⟨d7,H⟩:=af.ip H
       have cb:=ae.mk d7
       clear d7
       obtain ⟨bs,ap⟩:∃ y_:List Int,y_ = (z ++ [a6]):=⟨_,rfl⟩
       replace H:(b8.l0 a3 a0 a1 bs X (wrap64 (M+1))) = some (r1,r2):=by (try rw [ap]);exact af.Z
       have cc:=ae.mk ap
       clear ap
       have H':=ae.mk H
       clear H
       obtain ⟨ed,ee,d8⟩:=Kd.aY y.out
       subst d8
       have a4:0≤(M:Int):=af.D
       have a5:M < (X.length:Int):=af.D
       obtain ⟨cd,aR,aS⟩:=Kd.fz (Kd.au y.out).2.2 M a4 a5
       cases aR
       replace a4:=eq_true a4
       replace a5:=eq_true a5
       go_wp2_with (first | ((with_reducible refine ax (f:=200) rfl ?_);refine af.gl (some 29) Tryz.func200 #[.string (fH ByteArray.empty X M)] ?_;(with_reducible refine (bK.calls a3 (fH ByteArray.empty X M) a6 true _ d6.out).mono ?_);rintro e es ⟨rfl,hb⟩;refine ⟨_,rfl,?_⟩;replace j:=af.rb j hb;replace y:=af.rb y hb;replace HB:=af.lb HB hb;(try clear hb);(try clear b4);(try clear hk);(try clear hi)) | ((with_reducible refine cB (b:=.append) (xs:=#[.tmp 35,.tmp 37]) rfl ?_);at_builtin;refine Kd.fg (Kd.int .i64) (w0:=w) w.heap.size rfl (.tmp 35) (.tmp 37) 28 3 (.int .i64 0) 8 rfl Tryz.underlying28 eJ rfl (by decide) (by omega) u6 z a6 [.int .i64 a6] (fun _=>True) (fun _=>False) rfl rfl (by exact rfl) (fun _ hk=>hk.elim) (by exact fun _ _=>trivial) (by exact af.Rw j.out) (by exact af.Lw HB.out) (by exact aj (af.Lw HB.out)) (by have:=cb.out;omega) ?_;intro ef et ho hb hg hat;rw [← cc.out] at ho;have d9:=ae.mk (Kd.tL (af.Rw y.out) (Kd.qo (af.Rw j.out)) (by decide) hg);have db:=ae.mk hb;have dd:=ae.mk ho;clear y;clear HB;clear j;have y:=d9;have HB:=db;have ce:=dd;clear d9 db dd;clear ho hb hg hat))
       go_roundg a3
       case measure=>have:=ba.out;have:=d2.out;omega
       case rel=>exact ⟨(bs),(wrap64 (M+1)),af.F,H',⟨by have:=ba.out;have:=d2.out;omega⟩,⟨af.Rw ce.out⟩,⟨af.Rw y.out⟩,⟨af.Lw HB.out⟩⟩
      ·replace bd:=Bool.eq_false_iff.mpr bd
       subst bd
       replace H:(some ((([]:List Int)),false)) = some (r1,r2):=by rw [if_neg (show ¬ (false = true) by decide)] at H;exact H
       obtain ⟨df,ar⟩:∃ y_:List Int,y_ = (([]:List Int)):=⟨_,rfl⟩
       replace H:(some (df,false)) = some (r1,r2):=by (try rw [ar]);exact af.Z
       have b0:=ae.mk ar
       clear ar
       simp only [Option.some.injEq,Prod.mk.injEq] at H
       obtain ⟨rfl,rfl⟩:=H
       obtain ⟨eg,eh,dk⟩:=Kd.aY y.out
       subst dk
       have a4:0≤(M:Int):=af.D
       have a5:M < (X.length:Int):=af.D
       obtain ⟨cd,aR,aS⟩:=Kd.fz (Kd.au y.out).2.2 M a4 a5
       cases aR
       replace a4:=eq_true a4
       replace a5:=eq_true a5
       go_wp2_with (first | ((with_reducible refine ax (f:=200) rfl ?_);refine af.gl (some 29) Tryz.func200 #[.string (fH ByteArray.empty X M)] ?_;(with_reducible refine (bK.calls a3 (fH ByteArray.empty X M) a6 false _ d6.out).mono ?_);rintro e ev ⟨rfl,hb⟩;refine ⟨_,rfl,?_⟩;replace j:=af.rb j hb;replace y:=af.rb y hb;replace HB:=af.lb HB hb;(try clear hb);(try clear b4);(try clear hk);(try clear hi)) | (refine af.lt (Kd.int .i64) 3 34 ?_;intro ej ew a7 hb am a2;clear am a2;(first | rw [← b0.out] at a7 | (simp only [Int.reduceToNat] at a7;rw [← b0.out] at a7));replace y:=af.rb y hb;have cf:=ae.mk (Kd.b9 (Kd.dc a7 (Kd.cD (af.Rw j.out))) (aj (af.Lw HB.out)));replace j:=ae.mk (Kd.cm (af.Rw j.out) (Kd.bF a7) hb);replace HB:=af.lb HB hb;clear hb a7))
       go_ret2
       exact ⟨_,af.E,by (with_reducible repeat (first | apply Kd.cL | apply Kd.cM | apply Kd.bS));exact Kd.aX cf.out (fun _ hk=>trivial),af.L⟩
     ·replace bc:=Bool.eq_false_iff.mpr bc
      subst bc
      replace H:((bp.f a3 a0 z).bind fun b1=>(if b1 = true then ((bD.f a3 z).bind fun Y=>(if Y.toList = a1.toList then (some (z,true)) else (some ((([]:List Int)),false)))) else (some ((([]:List Int)),false)))) = some (r1,r2):=by rw [if_neg (show ¬ (false = true) by decide)] at H;exact H
      obtain ⟨b1,ci,H⟩:=af.be H
      (try dsimp only at H)
      by_cases bi:b1 = true
      ·subst bi
       replace H:((bD.f a3 z).bind fun Y=>(if Y.toList = a1.toList then (some (z,true)) else (some ((([]:List Int)),false)))) = some (r1,r2):=by rw [if_pos rfl] at H;exact H
       obtain ⟨Y,dl,H⟩:=af.be H
       (try dsimp only at H)
       by_cases aw:Y.toList = a1.toList
       ·rw [if_pos aw] at H
        have cp:(Y.toList == a1.toList) = true:=beq_iff_eq.mpr aw
        have cx:(Y.toList != a1.toList) = false:=bne_eq_false_iff_eq.mpr aw
        clear aw
        simp only [Option.some.injEq,Prod.mk.injEq] at H
        obtain ⟨rfl,rfl⟩:=H
        obtain ⟨dp,dq,dt⟩:=Kd.aY j.out
        subst dt
        go_wp2_with (first | ((with_reducible refine ax (f:=96) rfl ?_);refine af.gl (some 41) Tryz.func96 #[.int .i64 a0,.slice dp z.length dq] ?_;(with_reducible refine (bp.calls a3 a0 _ _ z true _ ?side1 ?side2 ci.out).mono ?_);(case side1=>exact af.Cw ((Kd.au j.out).2.2));(case side2=>exact (Kd.au j.out).2.1);rintro e w' ⟨rfl,⟨nd,rfl⟩⟩;refine ⟨_,rfl,?_⟩) | (go_at_call 201;(with_reducible refine (bD.calls a3 _ _ z Y _ ?side1 ?side2 dl.out).mono ?_);(case side1=>exact af.Cw ((Kd.au j.out).2.2));(case side2=>exact (Kd.au j.out).2.1);rintro e ex ⟨rfl,hb⟩;replace j:=af.rb j hb;replace y:=af.rb y hb;replace HB:=af.lb HB hb;(try clear hb);(try clear b4);(try clear hk);(try clear hi)))
        go_ret2
        exact ⟨_,af.E,by (with_reducible repeat (first | apply Kd.cL | apply Kd.cM | apply Kd.bS));exact j.out,af.L⟩
       ·rw [if_neg aw] at H
        have cp:(Y.toList == a1.toList) = false:=beq_eq_false_iff_ne.mpr aw
        have cx:(Y.toList != a1.toList) = true:=bne_iff_ne.mpr aw
        obtain ⟨du,aB⟩:∃ y_:List Int,y_ = (([]:List Int)):=⟨_,rfl⟩
        replace H:(some (du,false)) = some (r1,r2):=by (try rw [aB]);exact af.Z
        have b2:=ae.mk aB
        clear aB
        simp only [Option.some.injEq,Prod.mk.injEq] at H
        obtain ⟨rfl,rfl⟩:=H
        obtain ⟨dv,dC,dE⟩:=Kd.aY j.out
        subst dE
        go_wp2_with (first | ((with_reducible refine ax (f:=96) rfl ?_);refine af.gl (some 41) Tryz.func96 #[.int .i64 a0,.slice dv z.length dC] ?_;(with_reducible refine (bp.calls a3 a0 _ _ z true _ ?side1 ?side2 ci.out).mono ?_);(case side1=>exact af.Cw ((Kd.au j.out).2.2));(case side2=>exact (Kd.au j.out).2.1);rintro e w' ⟨rfl,⟨nd,rfl⟩⟩;refine ⟨_,rfl,?_⟩) | (go_at_call 201;(with_reducible refine (bD.calls a3 _ _ z Y _ ?side1 ?side2 dl.out).mono ?_);(case side1=>exact af.Cw ((Kd.au j.out).2.2));(case side2=>exact (Kd.au j.out).2.1);rintro e eQ ⟨rfl,hb⟩;replace j:=af.rb j hb;replace y:=af.rb y hb;replace HB:=af.lb HB hb;(try clear hb);(try clear b4);(try clear hk);(try clear hi)) | (refine af.lt (Kd.int .i64) 3 49 ?_;intro el f0 a8 hb am a2;clear am a2;(first | rw [← b2.out] at a8 | (simp only [Int.reduceToNat] at a8;rw [← b2.out] at a8));replace y:=af.rb y hb;have cy:=ae.mk (Kd.b9 (Kd.dc a8 (Kd.cD (af.Rw j.out))) (aj (af.Lw HB.out)));replace j:=ae.mk (Kd.cm (af.Rw j.out) (Kd.bF a8) hb);replace HB:=af.lb HB hb;clear hb a8))
        go_ret2
        exact ⟨_,af.E,by (with_reducible repeat (first | apply Kd.cL | apply Kd.cM | apply Kd.bS));exact Kd.aX cy.out (fun _ hk=>trivial),af.L⟩
      ·replace bi:=Bool.eq_false_iff.mpr bi
       subst bi
       replace H:(some ((([]:List Int)),false)) = some (r1,r2):=by rw [if_neg (show ¬ (false = true) by decide)] at H;exact H
       obtain ⟨dT,aF⟩:∃ y_:List Int,y_ = (([]:List Int)):=⟨_,rfl⟩
       replace H:(some (dT,false)) = some (r1,r2):=by (try rw [aF]);exact af.Z
       have b3:=ae.mk aF
       clear aF
       simp only [Option.some.injEq,Prod.mk.injEq] at H
       obtain ⟨rfl,rfl⟩:=H
       obtain ⟨e0,e1,e2⟩:=Kd.aY j.out
       subst e2
       go_wp2_with (first | ((with_reducible refine ax (f:=96) rfl ?_);refine af.gl (some 41) Tryz.func96 #[.int .i64 a0,.slice e0 z.length e1] ?_;(with_reducible refine (bp.calls a3 a0 _ _ z false _ ?side1 ?side2 ci.out).mono ?_);(case side1=>exact af.Cw ((Kd.au j.out).2.2));(case side2=>exact (Kd.au j.out).2.1);rintro e w' ⟨rfl,⟨nd,rfl⟩⟩;refine ⟨_,rfl,?_⟩) | (refine af.lt (Kd.int .i64) 3 49 ?_;intro em f1 a9 hb am a2;clear am a2;(first | rw [← b3.out] at a9 | (simp only [Int.reduceToNat] at a9;rw [← b3.out] at a9));replace y:=af.rb y hb;have cX:=ae.mk (Kd.b9 (Kd.dc a9 (Kd.cD (af.Rw j.out))) (aj (af.Lw HB.out)));replace j:=ae.mk (Kd.cm (af.Rw j.out) (Kd.bF a9) hb);replace HB:=af.lb HB hb;clear hb a9))
       go_ret2
       exact ⟨_,af.E,by (with_reducible repeat (first | apply Kd.cL | apply Kd.cM | apply Kd.bS));exact Kd.aX cX.out (fun _ hk=>trivial),af.L⟩
def bP.f (k:Nat) (y:Int) (z:List Int):Option (ByteArray):=(bf.f k y z).bind fun X=>(if X = true then ((bA.f k y).bind fun j=>(if j.size+1≤9223372036854775807 then ((bD.f k z).bind fun M=>(if (j ++ (⟨#[32]⟩:ByteArray)).size+M.size≤9223372036854775807 then (some ((j ++ (⟨#[32]⟩:ByteArray)) ++ M)) else (none))) else (none))) else (some (⟨#[]⟩:ByteArray)))
theorem bP.mono:∀ a0 j k,iN (bP.f k a0 j) (bP.f (k+1) a0 j):=by
 intro a0 j k
 unfold bP.f
 exact af.mt
instance bP.m:af.V2 bP.f:=fun _ _ _=>⟨bP.mono _ _ _⟩
def bP.T3:Bool×List (List Nat×List Nat):=(true,[([],[]),([0],[0]),([1],[1]),([2],[2]),([],[]),([4],[4]),([5,2],[5]),([3,6],[3,6]),([7,6,0,1,2,3,4,5,6,7],[7])])
def bP.B3:List Nat:=[0,1,3,7,0,16,55,127,255]
theorem bP.vw:gr .any (opsOf Tryz.f186 3) = bP.T3:=by kernel_rfl
theorem bP.sK:eL bP.T3.2 bP.B3 = true:=by kernel_rfl
set_option maxHeartbeats 8000000 in
set_option maxRecDepth 100000 in
theorem bP.calls (k:Nat) (z:Int) (X:Option Addr) (Y:Nat) (y:List Int) (r:ByteArray) (w:World) (a5:Kd.C (Kd.int .i64) w X y.length y) (a6:y.length≤Y) (h:bP.f k z y = some r) :
  Calls Tryz.prog 186 #[.agg #[.int .i64 z,.slice X y.length Y]] w fun e w'=>e = .returned (.string r)∧Below w.heap.size w w':=by
 have aP:=Tryz.underlying30
 have a2:=ae.mk a5
 have a3:=ae.mk a6
 clear a5 a6
 have HB:=ae.mk (Below.refl w.heap.size w)
 unfold bP.f at h
 have H:=h
 clear h
 obtain ⟨aa,A2,H⟩:=af.be H
 (try dsimp only at H)
 by_cases c3:aa = true
 ·subst c3
  replace H:((bA.f k z).bind fun M=>(if M.size+1≤9223372036854775807 then ((bD.f k y).bind fun a0=>(if (M ++ (⟨#[32]⟩:ByteArray)).size+a0.size≤9223372036854775807 then (some ((M ++ (⟨#[32]⟩:ByteArray)) ++ a0)) else (none))) else (none))) = some r:=by rw [if_pos rfl] at H;exact H
  obtain ⟨M,A4,H⟩:=af.be H
  (try dsimp only at H)
  obtain ⟨c5,H⟩:=af.ip H
  have aR:=eq_true c5
  have aS:decide (M.size+1≤9223372036854775807) = true:=decide_eq_true c5
  try have b0:(9223372036854775807 < M.size+1) = False:=eq_false (Nat.not_lt.2 c5)
  obtain ⟨a0,A6,H⟩:=af.be H
  (try dsimp only at H)
  obtain ⟨c7,H⟩:=af.ip H
  have b1:=eq_true c7
  have b2:decide ((M ++ (⟨#[32]⟩:ByteArray)).size+a0.size≤9223372036854775807) = true:=decide_eq_true c7
  try have ab:(9223372036854775807 < (M ++ (⟨#[32]⟩:ByteArray)).size+a0.size) = False:=eq_false (Nat.not_lt.2 c7)
  have b3:(9223372036854775807 < M.size+1+a0.size) = False:=by have h_:=ab;rw [ByteArray.size_append] at h_;exact h_
  obtain rfl:=Option.some.inj H
  go_enter Tryz.func186,Tryz.ntmps186
  try go_wp2_with (first | (refine af.bx 1 #[.int .i64 z,.slice X y.length Y] 30 ?_;intro a4 hg w8 hbox hb;have j:=ae.mk hbox;have a7:=af.gw hg HB;have a8:=af.gw hg HB;replace HB:=af.lb HB hb;clear hb hbox hg;obtain ⟨aw,aB,aF,aL⟩:=af.bR j.out) | (refine af.gl (some 4) Tryz.func26 #[.agg #[.int .i64 z,.slice X y.length Y]] ?_;(with_reducible refine (bf.calls k z _ _ y true _ ?side1 ?side2 A2.out).mono ?_);(case side1=>exact af.Cw (Kd.bG a2.out HB.out));(case side2=>exact a3.out);rintro e aO ⟨rfl,hb⟩;refine ⟨_,rfl,?_⟩;replace j:=af.bb j hb;replace HB:=af.lb HB hb;(try clear hb);(try clear a9);(try clear hk);(try clear hi)))
  replace j:=ae.mk (dZ j.out)
  replace HB:=ae.mk (bU HB.out)
  refine eS (n:=9) (S:=fun w'=>w'.cell? ⟨a4,0,none⟩ = some (.int .i64 z)∧w'.cell? ⟨a4,1,none⟩ = some (.slice X y.length Y)) (ds:=[]) #[false,false,false,false,false,false,false,false,false] (by kernel_rfl) rfl rfl ⟨(ak j.out 0).trans rfl,(ak j.out 1).trans rfl⟩ (fun hHeld=>?_);refine dn bP.vw bP.sK (fun a1 al=>?_)
  generalize aO.drew = b4 at j HB hHeld ⊢
  refine af.pu 0 6 a1 ?_
  refine af.pu 4 10 a1 ?_
  refine af.tk 1 7 a1 al hHeld ?_
  refine af.tk 5 11 a1 al hHeld ?_
  refine gA (i:=2) (N:=some 8) #[true,true,true,false,true,true,false,false,false] rfl rfl (dD a1.out (by kernel_rfl)) (by decide) (fun K hK=>?_)
  refine iZ Tryz.func202 (by kernel_rfl) rfl #[.int .i64 z] (by rfl) rfl rfl (by (try simp only [List.map_toArray,List.map_cons,List.map_nil]);first | done | rfl) ?_
  with_reducible refine (bA.calls k z M _ A4.out).mono ?_
  rintro e ba ⟨rfl,hb⟩
  refine ⟨_,rfl,?_⟩
  replace j:=af.bb j hb
  replace HB:=af.lb HB hb
  (try clear hb)
  (try clear a9)
  (try clear hk)
  (try clear hi)
  refine hK.out _ _ ⟨(ak j.out 0).trans rfl,(ak j.out 1).trans rfl⟩ (fun hHeld=>?_)
  clear hK K
  refine eV (a':=?_) ?_ ?_
  rotate_left
  ·show Act.put _ (some 8) _ = _
   simp only [Act.put,List.setIfInBounds_toArray,List.set_cons_zero,List.set_cons_succ,bw,bW]
   rfl
  refine af.pu 3 9 a1 ?_
  refine gA (i:=6) (N:=some 12) #[true,true,true,true,true,true,true,false,false] rfl rfl (dD a1.out (by kernel_rfl)) (by decide) (fun K hK=>?_)
  refine iZ Tryz.func201 (by kernel_rfl) rfl #[.slice X y.length Y] (by rfl) rfl rfl (by (try simp only [List.map_toArray,List.map_cons,List.map_nil]);first | done | rfl) ?_
  with_reducible refine (bD.calls k _ _ y a0 _ ?side1 ?side2 A6.out).mono ?_
  (case side1=>exact af.Cw (Kd.bG a2.out HB.out))
  (case side2=>exact a3.out)
  rintro e bc ⟨rfl,hb⟩
  refine ⟨_,rfl,?_⟩
  replace j:=af.bb j hb
  replace HB:=af.lb HB hb
  (try clear hb)
  (try clear a9)
  (try clear hk)
  (try clear hi)
  refine hK.out _ _ ⟨(ak j.out 0).trans rfl,(ak j.out 1).trans rfl⟩ (fun hHeld=>?_)
  clear hK K
  refine eV (a':=?_) ?_ ?_
  rotate_left
  ·show Act.put _ (some 12) _ = _
   simp only [Act.put,List.setIfInBounds_toArray,List.set_cons_zero,List.set_cons_succ,bw,bW]
   rfl
  refine af.pu 7 13 a1 ?_
  refine af.pu 8 2 a1 ?_
  refine gh (er a1.out (by kernel_rfl)) ?_
  try go_wp2
  go_ret
  exact ⟨af.E,af.L⟩
 ·replace c3:=Bool.eq_false_iff.mpr c3
  subst c3
  replace H:(some (⟨#[]⟩:ByteArray)) = some r:=by rw [if_neg (show ¬ (false = true) by decide)] at H;exact H
  obtain rfl:=Option.some.inj H
  go_enter Tryz.func186,Tryz.ntmps186
  go_wp2_with (first | (refine af.bx 1 #[.int .i64 z,.slice X y.length Y] 30 ?_;intro a4 hg bd hbox hb;have j:=ae.mk hbox;have a7:=af.gw hg HB;have a8:=af.gw hg HB;replace HB:=af.lb HB hb;clear hb hbox hg;obtain ⟨am,ao,ap,ar⟩:=af.bR j.out) | (refine af.gl (some 4) Tryz.func26 #[.agg #[.int .i64 z,.slice X y.length Y]] ?_;(with_reducible refine (bf.calls k z _ _ y false _ ?side1 ?side2 A2.out).mono ?_);(case side1=>exact af.Cw (Kd.bG a2.out HB.out));(case side2=>exact a3.out);rintro e bi ⟨rfl,hb⟩;refine ⟨_,rfl,?_⟩;replace j:=af.bb j hb;replace HB:=af.lb HB hb;(try clear hb);(try clear a9);(try clear hk);(try clear hi)))
  go_ret
  exact ⟨af.E,af.L⟩
def cJ.f (k:Nat) (a0:ByteArray):Option (Int×List Int×Bool):=(bz.f k a0 32).bind fun y=>(if (y.length:Int) = 2 then (if 0 < (y.length:Int) then ((dF.f k (fH ByteArray.empty y 0)).bind fun j=>(if 1 < (y.length:Int) then ((b8.f k j.1 (fH ByteArray.empty y 1)).bind fun z=>(if j.2 = true then (if z.2 = true then ((bP.f k j.1 z.1).bind fun M=>(if M.toList = a0.toList then (some (j.1,z.1,true)) else (some (0,([]:List Int),false)))) else (some (0,([]:List Int),false))) else (some (0,([]:List Int),false)))) else (none))) else (none)) else (some (0,([]:List Int),false)))
theorem cJ.mono:∀ a0 k,iN (cJ.f k a0) (cJ.f (k+1) a0):=by
 intro a0 k
 unfold cJ.f
 exact af.mt
set_option maxHeartbeats 8000000 in
set_option maxRecDepth 100000 in
theorem cJ.calls (k:Nat) (a0:ByteArray) (r1:Int) (r2:List Int) (r3:Bool) (w:World) (h:cJ.f k a0 = some (r1,r2,r3)) :
  Calls Tryz.prog 176 #[.string a0] w fun e w'=>∃ bo:Value,e = .returned (.tuple #[.agg #[.int .i64 r1,bo],.bool r3])∧Kd.R (Kd.int .i64) 3 w' w.heap.size (fun _=>True) bo r2∧Below w.heap.size w w':=by
 have eQ:=Tryz.underlying30
 have HB:=ae.mk (Below.refl w.heap.size w)
 unfold cJ.f at h
 have H:=h
 clear h
 obtain ⟨z,A2,H⟩:=af.be H
 (try dsimp only at H)
 by_cases c3:(z.length:Int) = 2
 ·rw [if_pos c3] at H
  have bs:((z.length:Int) == 2) = true:=beq_iff_eq.mpr c3
  have bv:((z.length:Int) != 2) = false:=bne_eq_false_iff_eq.mpr c3
  clear c3
  obtain ⟨c4,H⟩:=af.ip H
  have f0:=decide_eq_true c4
  have f1:decide (0 < z.length) = true:=decide_eq_true (by omega)
  clear c4
  obtain ⟨⟨X,ca⟩,A5,H⟩:=af.be H
  (try dsimp only at H)
  obtain ⟨c6,H⟩:=af.ip H
  have f2:=decide_eq_true c6
  have f3:decide (1 < z.length) = true:=decide_eq_true (by omega)
  clear c6
  obtain ⟨⟨a3,bc⟩,A7,H⟩:=af.be H
  (try dsimp only at H)
  by_cases c8:ca = true
  ·subst c8
   replace H:(if bc = true then ((bP.f k X a3).bind fun am=>(if am.toList = a0.toList then (some (X,a3,true)) else (some (0,([]:List Int),false)))) else (some (0,([]:List Int),false))) = some (r1,r2,r3):=by rw [if_pos rfl] at H;exact H
   by_cases c9:bc = true
   ·subst c9
    replace H:((bP.f k X a3).bind fun am=>(if am.toList = a0.toList then (some (X,a3,true)) else (some (0,([]:List Int),false)))) = some (r1,r2,r3):=by rw [if_pos rfl] at H;exact H
    obtain ⟨am,cb,H⟩:=af.be H
    (try dsimp only at H)
    by_cases aS:am.toList = a0.toList
    ·rw [if_pos aS] at H
     have bi:(am.toList == a0.toList) = true:=beq_iff_eq.mpr aS
     have bm:(am.toList != a0.toList) = false:=bne_eq_false_iff_eq.mpr aS
     clear aS
     simp only [Option.some.injEq,Prod.mk.injEq] at H
     obtain ⟨rfl,rfl,rfl⟩:=H
     go_enter Tryz.func176,Tryz.ntmps176
     go_wp2_with (first | ((with_reducible refine bJ (N:=2) rfl ?_);refine af.bx 2 #[.int .i64 0,.slice none 0 0] 30 ?_;intro a7 hg fw hbox hb;have j:=ae.mk hbox;have aO:=af.gw hg HB;have aP:=af.gw hg HB;replace HB:=af.lb HB hb;clear hb hbox hg) | ((with_reducible refine ax (f:=183) rfl ?_);refine af.gl (some 11) Tryz.func183 #[.string a0,.int .u8 32] ?_;(with_reducible refine (bz.calls k a0 32 z _ A2.out).mono ?_);rintro e fx ⟨b4,rfl,a8,hb⟩;refine ⟨_,rfl,?_⟩;have y:=ae.mk (Kd.b9 a8 (aj af.L));replace j:=af.bb j hb;replace HB:=ae.mk (az af.L hb);(try clear hb);(try clear ar);(try clear hk);(try clear hi);(try clear a8);obtain ⟨f4,f5,cc⟩:=Kd.aY y.out;subst cc;have a9:0≤(0:Int):=(by omega);have aa:0 < (z.length:Int):=af.D;obtain ⟨ao,aw,Y⟩:=Kd.fz (Kd.au y.out).2.2 0 a9 aa;cases aw;have b0:(0 < z.length) = True:=eq_true (by omega);(try rw [show ((0:Int)).toNat = 0 from rfl] at Y);(try rw [Addr.add_zero'] at Y);replace a9:=eq_true a9;replace aa:=eq_true aa) | ((with_reducible refine ax (f:=184) rfl ?_);refine af.gl (some 20) Tryz.func184 #[.string (fH ByteArray.empty z 0)] ?_;(with_reducible refine (dF.calls k (fH ByteArray.empty z 0) X true _ A5.out).mono ?_);rintro e fy ⟨rfl,hb⟩;refine ⟨_,rfl,?_⟩;replace y:=af.rb y hb;replace j:=af.bb j hb;replace HB:=ae.mk (az af.L hb);(try clear hb);(try clear ar);(try clear hk);(try clear hi);have ab:0≤(1:Int):=(by omega);have al:1 < (z.length:Int):=af.D;obtain ⟨ap,aB,a1⟩:=Kd.fz (Kd.au y.out).2.2 1 ab al;obtain rfl:ao = ap:=(by injection aB);(try simp only [show (1:Int).toNat = 1 from rfl,Nat.reduceMul,Nat.reduceEqDiff,Go.Addr.add,↓reduceIte] at a1);have b1:(1 < z.length) = True:=eq_true (by omega);(try rw [show ((1:Int)).toNat = 1 from rfl] at a1);replace ab:=eq_true ab;replace al:=eq_true al) | ((with_reducible refine ax (f:=185) rfl ?_);refine af.gl (some 28) Tryz.func185 #[.int .i64 X,.string (fH ByteArray.empty z 1)] ?_;(with_reducible refine (b8.calls k X (fH ByteArray.empty z 1) a3 true _ A7.out).mono ?_);rintro e fX ⟨bd,rfl,a8,hb⟩;refine ⟨_,rfl,?_⟩;replace y:=af.rb y hb;have M:=ae.mk (Kd.b9 a8 (aj af.L));replace j:=af.bb j hb;replace HB:=ae.mk (az af.L hb);(try clear hb);(try clear ar);(try clear hk);(try clear hi);(try clear a8);obtain ⟨aL,aF,cd⟩:=Kd.aY M.out;subst cd) | ((with_reducible refine bJ (N:=9) rfl ?_);refine af.bx 9 #[.int .i64 0,.slice none 0 0] 30 ?_;intro a2 hg fY hbox hb;replace y:=af.rb y hb;replace M:=af.rb M hb;have a4:=ae.mk hbox;have b2:=af.gL (w:=w) hg af.L;have b3:=af.gL (w:=w) hg af.L;replace HB:=ae.mk (az af.L hb);have a5:=af.nl hg j;have a6:=af.ng hg j;replace j:=af.bb j hb;clear hb hbox hg;have em:=a6.out;have eo:=a5.out;obtain ⟨ce,cf,ci,cp⟩:=af.bR a4.out) | (go_at_call 186;(with_reducible refine (bP.calls k X _ _ a3 am _ ?side1 ?side2 cb.out).mono ?_);(case side1=>refine (Kd.au (e:=3) (base:=w.heap.size) (ok:=fun k_=>True) (n:=a3.length) (c:=aF) ?_).2.2;exact (af.Rw ((Kd.aX (Kd.cI (p:=⟨a2,1,none⟩) (Kd.cI (p:=⟨a2,0,none⟩) (Kd.cR M.out a4.out (by decide)) (fun _ hk=>hk.2) (.int .i64 X)) (fun _ hk=>hk.2) (.slice aL a3.length aF)) (fun _ h_=>h_.1)))));(case side2=>exact (Kd.au M.out).2.1);rintro e g0 ⟨rfl,hb⟩;replace y:=ae.mk (Kd.ga (af.Rw ((Kd.aX (Kd.cI (p:=⟨a2,1,none⟩) (Kd.cI (p:=⟨a2,0,none⟩) (Kd.cR y.out a4.out (by decide)) (fun _ hk=>hk.2) (.int .i64 X)) (fun _ hk=>hk.2) (.slice aL a3.length aF)) (fun _ h_=>h_.1)))) hb);replace M:=ae.mk (Kd.ga (af.Rw ((Kd.aX (Kd.cI (p:=⟨a2,1,none⟩) (Kd.cI (p:=⟨a2,0,none⟩) (Kd.cR M.out a4.out (by decide)) (fun _ hk=>hk.2) (.int .i64 X)) (fun _ hk=>hk.2) (.slice aL a3.length aF)) (fun _ h_=>h_.1)))) hb);replace j:=ae.mk (bQ (g:=a7) (o:=.cells #[.int .i64 0,.slice none 0 0] 30 (0,0)) af.B hb);replace a4:=ae.mk (bQ (g:=a2) (o:=.cells #[.int .i64 X,.slice aL a3.length aF] 30 (0,0)) af.B hb);replace HB:=ae.mk (az af.L hb);(try clear hb);(try clear ar);(try clear hk);(try clear hi);obtain ⟨cx,cy,cX,cY⟩:=af.bR a4.out;obtain ⟨d0,d1,d2,d3⟩:=af.bR j.out))
     refine bodyPost_ret (fB rfl _ _ a7 30 #[.int .i64 X,.slice aL a3.length aF] (0,0) _ rfl af.B Tryz.underlying30 rfl (by kernel_rfl)) rfl ?_
     exact ⟨_,af.E,by (with_reducible repeat (first | apply Kd.cL | apply Kd.cM | apply Kd.bS));exact Kd.aX (Kd.cI (p:=⟨a7,1,none⟩) (Kd.cI (p:=⟨a7,0,none⟩) (Kd.cR M.out j.out (by decide)) (fun _ hk=>hk.2) (.int .i64 X)) (fun _ hk=>hk.2) (.slice aL a3.length aF)) (fun _ hk=>trivial),af.L⟩
    ·rw [if_neg aS] at H
     have bi:(am.toList == a0.toList) = false:=beq_eq_false_iff_ne.mpr aS
     have bm:(am.toList != a0.toList) = true:=bne_iff_ne.mpr aS
     simp only [Option.some.injEq,Prod.mk.injEq] at H
     obtain ⟨rfl,rfl,rfl⟩:=H
     go_enter Tryz.func176,Tryz.ntmps176
     go_wp2_with (first | ((with_reducible refine bJ (N:=2) rfl ?_);refine af.bx 2 #[.int .i64 0,.slice none 0 0] 30 ?_;intro a7 hg g1 hbox hb;have j:=ae.mk hbox;have aO:=af.gw hg HB;have aP:=af.gw hg HB;replace HB:=af.lb HB hb;clear hb hbox hg) | ((with_reducible refine ax (f:=183) rfl ?_);refine af.gl (some 11) Tryz.func183 #[.string a0,.int .u8 32] ?_;(with_reducible refine (bz.calls k a0 32 z _ A2.out).mono ?_);rintro e g2 ⟨b4,rfl,a8,hb⟩;refine ⟨_,rfl,?_⟩;have y:=ae.mk (Kd.b9 a8 (aj af.L));replace j:=af.bb j hb;replace HB:=ae.mk (az af.L hb);(try clear hb);(try clear ar);(try clear hk);(try clear hi);(try clear a8);obtain ⟨f6,f7,d4⟩:=Kd.aY y.out;subst d4;have a9:0≤(0:Int):=(by omega);have aa:0 < (z.length:Int):=af.D;obtain ⟨ao,aw,Y⟩:=Kd.fz (Kd.au y.out).2.2 0 a9 aa;cases aw;have b0:(0 < z.length) = True:=eq_true (by omega);(try rw [show ((0:Int)).toNat = 0 from rfl] at Y);(try rw [Addr.add_zero'] at Y);replace a9:=eq_true a9;replace aa:=eq_true aa) | ((with_reducible refine ax (f:=184) rfl ?_);refine af.gl (some 20) Tryz.func184 #[.string (fH ByteArray.empty z 0)] ?_;(with_reducible refine (dF.calls k (fH ByteArray.empty z 0) X true _ A5.out).mono ?_);rintro e g3 ⟨rfl,hb⟩;refine ⟨_,rfl,?_⟩;replace y:=af.rb y hb;replace j:=af.bb j hb;replace HB:=ae.mk (az af.L hb);(try clear hb);(try clear ar);(try clear hk);(try clear hi);have ab:0≤(1:Int):=(by omega);have al:1 < (z.length:Int):=af.D;obtain ⟨ap,aB,a1⟩:=Kd.fz (Kd.au y.out).2.2 1 ab al;obtain rfl:ao = ap:=(by injection aB);(try simp only [show (1:Int).toNat = 1 from rfl,Nat.reduceMul,Nat.reduceEqDiff,Go.Addr.add,↓reduceIte] at a1);have b1:(1 < z.length) = True:=eq_true (by omega);(try rw [show ((1:Int)).toNat = 1 from rfl] at a1);replace ab:=eq_true ab;replace al:=eq_true al) | ((with_reducible refine ax (f:=185) rfl ?_);refine af.gl (some 28) Tryz.func185 #[.int .i64 X,.string (fH ByteArray.empty z 1)] ?_;(with_reducible refine (b8.calls k X (fH ByteArray.empty z 1) a3 true _ A7.out).mono ?_);rintro e g4 ⟨bd,rfl,a8,hb⟩;refine ⟨_,rfl,?_⟩;replace y:=af.rb y hb;have M:=ae.mk (Kd.b9 a8 (aj af.L));replace j:=af.bb j hb;replace HB:=ae.mk (az af.L hb);(try clear hb);(try clear ar);(try clear hk);(try clear hi);(try clear a8);obtain ⟨ba,aR,d5⟩:=Kd.aY M.out;subst d5) | ((with_reducible refine bJ (N:=9) rfl ?_);refine af.bx 9 #[.int .i64 0,.slice none 0 0] 30 ?_;intro a2 hg g5 hbox hb;replace y:=af.rb y hb;replace M:=af.rb M hb;have a4:=ae.mk hbox;have b2:=af.gL (w:=w) hg af.L;have b3:=af.gL (w:=w) hg af.L;replace HB:=ae.mk (az af.L hb);have a5:=af.nl hg j;have a6:=af.ng hg j;replace j:=af.bb j hb;clear hb hbox hg;have eq:=a6.out;have es:=a5.out;obtain ⟨d6,d7,d8,d9⟩:=af.bR a4.out) | (go_at_call 186;(with_reducible refine (bP.calls k X _ _ a3 am _ ?side1 ?side2 cb.out).mono ?_);(case side1=>refine (Kd.au (e:=3) (base:=w.heap.size) (ok:=fun k_=>True) (n:=a3.length) (c:=aR) ?_).2.2;exact (af.Rw ((Kd.aX (Kd.cI (p:=⟨a2,1,none⟩) (Kd.cI (p:=⟨a2,0,none⟩) (Kd.cR M.out a4.out (by decide)) (fun _ hk=>hk.2) (.int .i64 X)) (fun _ hk=>hk.2) (.slice ba a3.length aR)) (fun _ h_=>h_.1)))));(case side2=>exact (Kd.au M.out).2.1);rintro e g6 ⟨rfl,hb⟩;replace y:=ae.mk (Kd.ga (af.Rw ((Kd.aX (Kd.cI (p:=⟨a2,1,none⟩) (Kd.cI (p:=⟨a2,0,none⟩) (Kd.cR y.out a4.out (by decide)) (fun _ hk=>hk.2) (.int .i64 X)) (fun _ hk=>hk.2) (.slice ba a3.length aR)) (fun _ h_=>h_.1)))) hb);replace M:=ae.mk (Kd.ga (af.Rw ((Kd.aX (Kd.cI (p:=⟨a2,1,none⟩) (Kd.cI (p:=⟨a2,0,none⟩) (Kd.cR M.out a4.out (by decide)) (fun _ hk=>hk.2) (.int .i64 X)) (fun _ hk=>hk.2) (.slice ba a3.length aR)) (fun _ h_=>h_.1)))) hb);replace j:=ae.mk (bQ (g:=a7) (o:=.cells #[.int .i64 0,.slice none 0 0] 30 (0,0)) af.B hb);replace a4:=ae.mk (bQ (g:=a2) (o:=.cells #[.int .i64 X,.slice ba a3.length aR] 30 (0,0)) af.B hb);replace HB:=ae.mk (az af.L hb);(try clear hb);(try clear ar);(try clear hk);(try clear hi);obtain ⟨db,dd,df,dk⟩:=af.bR j.out))
     refine bodyPost_ret (fB rfl _ _ a7 30 #[.int .i64 0,.slice none 0 0] (0,0) _ rfl af.B Tryz.underlying30 rfl (by kernel_rfl)) rfl ?_
     exact ⟨_,af.E,af.N,af.L⟩
   ·replace c9:=Bool.eq_false_iff.mpr c9
    subst c9
    replace H:(some (0,([]:List Int),false)) = some (r1,r2,r3):=by rw [if_neg (show ¬ (false = true) by decide)] at H;exact H
    simp only [Option.some.injEq,Prod.mk.injEq] at H
    obtain ⟨rfl,rfl,rfl⟩:=H
    go_enter Tryz.func176,Tryz.ntmps176
    go_wp2_with (first | ((with_reducible refine bJ (N:=2) rfl ?_);refine af.bx 2 #[.int .i64 0,.slice none 0 0] 30 ?_;intro a7 hg g7 hbox hb;have j:=ae.mk hbox;have aO:=af.gw hg HB;have aP:=af.gw hg HB;replace HB:=af.lb HB hb;clear hb hbox hg) | ((with_reducible refine ax (f:=183) rfl ?_);refine af.gl (some 11) Tryz.func183 #[.string a0,.int .u8 32] ?_;(with_reducible refine (bz.calls k a0 32 z _ A2.out).mono ?_);rintro e g8 ⟨b4,rfl,a8,hb⟩;refine ⟨_,rfl,?_⟩;have y:=ae.mk (Kd.b9 a8 (aj af.L));replace j:=af.bb j hb;replace HB:=ae.mk (az af.L hb);(try clear hb);(try clear ar);(try clear hk);(try clear hi);(try clear a8);obtain ⟨f8,f9,dl⟩:=Kd.aY y.out;subst dl;have a9:0≤(0:Int):=(by omega);have aa:0 < (z.length:Int):=af.D;obtain ⟨ao,aw,Y⟩:=Kd.fz (Kd.au y.out).2.2 0 a9 aa;cases aw;have b0:(0 < z.length) = True:=eq_true (by omega);(try rw [show ((0:Int)).toNat = 0 from rfl] at Y);(try rw [Addr.add_zero'] at Y);replace a9:=eq_true a9;replace aa:=eq_true aa) | ((with_reducible refine ax (f:=184) rfl ?_);refine af.gl (some 20) Tryz.func184 #[.string (fH ByteArray.empty z 0)] ?_;(with_reducible refine (dF.calls k (fH ByteArray.empty z 0) X true _ A5.out).mono ?_);rintro e g9 ⟨rfl,hb⟩;refine ⟨_,rfl,?_⟩;replace y:=af.rb y hb;replace j:=af.bb j hb;replace HB:=ae.mk (az af.L hb);(try clear hb);(try clear ar);(try clear hk);(try clear hi);have ab:0≤(1:Int):=(by omega);have al:1 < (z.length:Int):=af.D;obtain ⟨ap,aB,a1⟩:=Kd.fz (Kd.au y.out).2.2 1 ab al;obtain rfl:ao = ap:=(by injection aB);(try simp only [show (1:Int).toNat = 1 from rfl,Nat.reduceMul,Nat.reduceEqDiff,Go.Addr.add,↓reduceIte] at a1);have b1:(1 < z.length) = True:=eq_true (by omega);(try rw [show ((1:Int)).toNat = 1 from rfl] at a1);replace ab:=eq_true ab;replace al:=eq_true al) | ((with_reducible refine ax (f:=185) rfl ?_);refine af.gl (some 28) Tryz.func185 #[.int .i64 X,.string (fH ByteArray.empty z 1)] ?_;(with_reducible refine (b8.calls k X (fH ByteArray.empty z 1) a3 false _ A7.out).mono ?_);rintro e gc ⟨bd,rfl,a8,hb⟩;refine ⟨_,rfl,?_⟩;replace y:=af.rb y hb;have M:=ae.mk (Kd.b9 a8 (aj af.L));replace j:=af.bb j hb;replace HB:=ae.mk (az af.L hb);(try clear hb);(try clear ar);(try clear hk);(try clear hi);(try clear a8);obtain ⟨fa,fd,dp⟩:=Kd.aY M.out;subst dp) | ((with_reducible refine bJ (N:=9) rfl ?_);refine af.bx 9 #[.int .i64 0,.slice none 0 0] 30 ?_;intro a2 hg gk hbox hb;replace y:=af.rb y hb;replace M:=af.rb M hb;have a4:=ae.mk hbox;have b2:=af.gL (w:=w) hg af.L;have b3:=af.gL (w:=w) hg af.L;replace HB:=ae.mk (az af.L hb);have a5:=af.nl hg j;have a6:=af.ng hg j;replace j:=af.bb j hb;clear hb hbox hg;have et:=a6.out;have ev:=a5.out;obtain ⟨dq,dt,du,dv⟩:=af.bR a4.out;obtain ⟨dC,dE,dT,e0⟩:=af.bR j.out))
    refine bodyPost_ret (fB rfl _ _ a7 30 #[.int .i64 0,.slice none 0 0] (0,0) _ rfl af.B Tryz.underlying30 rfl (by kernel_rfl)) rfl ?_
    exact ⟨_,af.E,af.N,af.L⟩
  ·replace c8:=Bool.eq_false_iff.mpr c8
   subst c8
   replace H:(some (0,([]:List Int),false)) = some (r1,r2,r3):=by rw [if_neg (show ¬ (false = true) by decide)] at H;exact H
   simp only [Option.some.injEq,Prod.mk.injEq] at H
   obtain ⟨rfl,rfl,rfl⟩:=H
   go_enter Tryz.func176,Tryz.ntmps176
   go_wp2_with (first | ((with_reducible refine bJ (N:=2) rfl ?_);refine af.bx 2 #[.int .i64 0,.slice none 0 0] 30 ?_;intro a7 hg go hbox hb;have j:=ae.mk hbox;have aO:=af.gw hg HB;have aP:=af.gw hg HB;replace HB:=af.lb HB hb;clear hb hbox hg) | ((with_reducible refine ax (f:=183) rfl ?_);refine af.gl (some 11) Tryz.func183 #[.string a0,.int .u8 32] ?_;(with_reducible refine (bz.calls k a0 32 z _ A2.out).mono ?_);rintro e gs ⟨b4,rfl,a8,hb⟩;refine ⟨_,rfl,?_⟩;have y:=ae.mk (Kd.b9 a8 (aj af.L));replace j:=af.bb j hb;replace HB:=ae.mk (az af.L hb);(try clear hb);(try clear ar);(try clear hk);(try clear hi);(try clear a8);obtain ⟨fi,fj,e1⟩:=Kd.aY y.out;subst e1;have a9:0≤(0:Int):=(by omega);have aa:0 < (z.length:Int):=af.D;obtain ⟨ao,aw,Y⟩:=Kd.fz (Kd.au y.out).2.2 0 a9 aa;cases aw;have b0:(0 < z.length) = True:=eq_true (by omega);(try rw [show ((0:Int)).toNat = 0 from rfl] at Y);(try rw [Addr.add_zero'] at Y);replace a9:=eq_true a9;replace aa:=eq_true aa) | ((with_reducible refine ax (f:=184) rfl ?_);refine af.gl (some 20) Tryz.func184 #[.string (fH ByteArray.empty z 0)] ?_;(with_reducible refine (dF.calls k (fH ByteArray.empty z 0) X false _ A5.out).mono ?_);rintro e gt ⟨rfl,hb⟩;refine ⟨_,rfl,?_⟩;replace y:=af.rb y hb;replace j:=af.bb j hb;replace HB:=ae.mk (az af.L hb);(try clear hb);(try clear ar);(try clear hk);(try clear hi);have ab:0≤(1:Int):=(by omega);have al:1 < (z.length:Int):=af.D;obtain ⟨ap,aB,a1⟩:=Kd.fz (Kd.au y.out).2.2 1 ab al;obtain rfl:ao = ap:=(by injection aB);(try simp only [show (1:Int).toNat = 1 from rfl,Nat.reduceMul,Nat.reduceEqDiff,Go.Addr.add,↓reduceIte] at a1);have b1:(1 < z.length) = True:=eq_true (by omega);(try rw [show ((1:Int)).toNat = 1 from rfl] at a1);replace ab:=eq_true ab;replace al:=eq_true al) | ((with_reducible refine ax (f:=185) rfl ?_);refine af.gl (some 28) Tryz.func185 #[.int .i64 X,.string (fH ByteArray.empty z 1)] ?_;(with_reducible refine (b8.calls k X (fH ByteArray.empty z 1) a3 bc _ A7.out).mono ?_);rintro e h0 ⟨bd,rfl,a8,hb⟩;refine ⟨_,rfl,?_⟩;replace y:=af.rb y hb;have M:=ae.mk (Kd.b9 a8 (aj af.L));replace j:=af.bb j hb;replace HB:=ae.mk (az af.L hb);(try clear hb);(try clear ar);(try clear hk);(try clear hi);(try clear a8);obtain ⟨fl,fp,e2⟩:=Kd.aY M.out;subst e2) | ((with_reducible refine bJ (N:=9) rfl ?_);refine af.bx 9 #[.int .i64 0,.slice none 0 0] 30 ?_;intro a2 hg h6 hbox hb;replace y:=af.rb y hb;replace M:=af.rb M hb;have a4:=ae.mk hbox;have b2:=af.gL (w:=w) hg af.L;have b3:=af.gL (w:=w) hg af.L;replace HB:=ae.mk (az af.L hb);have a5:=af.nl hg j;have a6:=af.ng hg j;replace j:=af.bb j hb;clear hb hbox hg;have ew:=a6.out;have ex:=a5.out;obtain ⟨e3,e4,e8,ea⟩:=af.bR a4.out;obtain ⟨eb,ec,ed,ee⟩:=af.bR j.out))
   refine bodyPost_ret (fB rfl _ _ a7 30 #[.int .i64 0,.slice none 0 0] (0,0) _ rfl af.B Tryz.underlying30 rfl (by kernel_rfl)) rfl ?_
   exact ⟨_,af.E,af.N,af.L⟩
 ·rw [if_neg c3] at H
  have bs:((z.length:Int) == 2) = false:=beq_eq_false_iff_ne.mpr c3
  have bv:((z.length:Int) != 2) = true:=bne_iff_ne.mpr c3
  simp only [Option.some.injEq,Prod.mk.injEq] at H
  obtain ⟨rfl,rfl,rfl⟩:=H
  go_enter Tryz.func176,Tryz.ntmps176
  go_wp2_with (first | ((with_reducible refine bJ (N:=2) rfl ?_);refine af.bx 2 #[.int .i64 0,.slice none 0 0] 30 ?_;intro a7 hg h7 hbox hb;have j:=ae.mk hbox;have aO:=af.gw hg HB;have aP:=af.gw hg HB;replace HB:=af.lb HB hb;clear hb hbox hg) | ((with_reducible refine ax (f:=183) rfl ?_);refine af.gl (some 11) Tryz.func183 #[.string a0,.int .u8 32] ?_;(with_reducible refine (bz.calls k a0 32 z _ A2.out).mono ?_);rintro e h8 ⟨b4,rfl,a8,hb⟩;refine ⟨_,rfl,?_⟩;have y:=ae.mk (Kd.b9 a8 (aj af.L));replace j:=af.bb j hb;replace HB:=ae.mk (az af.L hb);(try clear hb);(try clear ar);(try clear hk);(try clear hi);(try clear a8);obtain ⟨fs,ft,ef⟩:=Kd.aY y.out;subst ef;obtain ⟨eg,eh,ej,el⟩:=af.bR j.out))
  refine bodyPost_ret (fB rfl _ _ a7 30 #[.int .i64 0,.slice none 0 0] (0,0) _ rfl af.B Tryz.underlying30 rfl (by kernel_rfl)) rfl ?_
  exact ⟨_,af.E,af.N,af.L⟩
def fM.f (y:List Int) (z:Int) (M:Int) (l1:List ByteArray):Option (ByteArray×Int×Int):=(aM.f y z M (l1.length:Int)).bind fun j=>(if 0≤j.1 then (if j.1 < (l1.length:Int) then (some (fH ByteArray.empty l1 j.1,j.2.1,j.2.2)) else (none)) else (none))
set_option maxHeartbeats 8000000 in
set_option maxRecDepth 100000 in
theorem fM.calls (g:Nat) (y:List Int) (M:Int) (X:Int) (A1:Option Addr) (c1:Nat) (l1:List ByteArray) (r1:ByteArray) (r2:Int) (r3:Int) (w0 w:World) (hI:av w0 w g y M X) (hB:Below w0.heap.size w0 w) (a3:Kd.C Kd.string w A1 l1.length l1) (a4:l1.length≤c1) (a1:∀ ad,A1 = some ad→0 < l1.length→ad.block≠g) (h:fM.f y M X l1 = some (r1,r2,r3)) :
  Calls Tryz.prog 177 #[.pointer (some ⟨g,0,none⟩),.slice A1 l1.length c1] w fun e w'=>e = .returned (.string r1)∧av w0 w' g y r2 r3∧Below w0.heap.size w0 w'∧aq w w' g none:=by
 have a8:=ae.mk a3
 have al:=ae.mk a4
 clear a3 a4
 have a9:=ae.mk hI
 have HK:=ae.mk (aq.refl w g none)
 have HL:=ae.mk hB.size
 clear hI
 have am:=ae.mk hB.size
 have HB:=ae.mk hB
 clear hB
 unfold fM.f at h
 have H:=h
 clear h
 obtain ⟨⟨z,a5,a6⟩,A3,H⟩:=af.be H
 (try dsimp only at H)
 obtain ⟨c4,H⟩:=af.ip H
 have aa:=decide_eq_true c4
 clear c4
 obtain ⟨c5,H⟩:=af.ip H
 have ab:=decide_eq_true c5
 clear c5
 simp only [Option.some.injEq,Prod.mk.injEq] at H
 obtain ⟨rfl,rfl,rfl⟩:=H
 go_enter Tryz.func177,Tryz.ntmps177
 go_wp2_with (first | (refine af.gl (some 9) Tryz.func80 #[.pointer (some ⟨g,0,none⟩),.int .i64 (l1.length:Int)] ?_;(with_reducible refine (aM.calls g y M X (l1.length:Int) z a5 a6 w0 _ ?side1 ?side2 A3.out).mono ?_);(case side1=>exact af.I);(case side2=>exact af.J HB);rintro e w6 ⟨rfl,hi,hb,hk⟩;refine ⟨_,rfl,?_⟩;replace HK:=ae.mk (aq.trans (af.K HK) hk (.inl rfl));replace HB:=ae.mk hb;replace a9:=ae.mk hi;(try clear hb);(try clear ao);(try clear hk);(try clear hi);have Y:0≤(z:Int):=af.D;have a0:z < (l1.length:Int):=af.D;obtain ⟨a2,a7,j⟩:=Kd.fz a8.out z Y a0;cases a7;replace j:=nB HK.out j (by first | (rw [gX];exact a1 _ rfl (by omega)) | exact a1 _ rfl (by omega) | exact a1 a2 rfl (by omega));replace Y:=eq_true Y;replace a0:=eq_true a0))
 go_ret
 exact ⟨af.E,af.I,af.J HB,af.K HK⟩
def eM.f (k:Nat) (z:List Int) (M:Int) (X:Int):Option (Int×List Int×Int×Int):=(fM.f z M X (([(⟨#[48,32,45]⟩:ByteArray),(⟨#[49,32,45]⟩:ByteArray),(⟨#[49,32,97]⟩:ByteArray),(⟨#[52,32,97,98,44,97,99,44,98,99,44,97,100,44,98,100,44,99,100]⟩:ByteArray),(⟨#[52,32,97,98,44,97,99,44,97,100,44,98,100,44,99,100]⟩:ByteArray),(⟨#[51,32,97,44,98]⟩:ByteArray),(⟨#[53,32,97,98,44,97,99,44,98,99,44,97,100,44,98,100]⟩:ByteArray),(⟨#[50,32,45]⟩:ByteArray),(⟨#[51,32,97,98,99]⟩:ByteArray)]:List ByteArray))).bind fun j=>((cJ.f k j.1).bind fun y=>(some (y.1,y.2.1,j.2.1,j.2.2)))
set_option maxHeartbeats 8000000 in
set_option maxRecDepth 100000 in
theorem eM.calls (k:Nat) (g:Nat) (X:List Int) (a0:Int) (a1:Int) (r1:Int) (r2:List Int) (r3:Int) (r4:Int) (w0 w:World) (hI:av w0 w g X a0 a1) (hB:Below w0.heap.size w0 w) (h:eM.f k X a0 a1 = some (r1,r2,r3,r4)) :
  Calls Tryz.prog 164 #[.pointer (some ⟨g,0,none⟩)] w fun e w'=>∃ b3:Value,e = .returned (.agg #[.int .i64 r1,b3])∧Kd.R (Kd.int .i64) 3 w' w.heap.size (fun _=>True) b3 r2∧av w0 w' g X r3 r4∧Below w0.heap.size w0 w'∧aq w w' g none:=by
 have dq:=Tryz.underlying30
 have a4:=ae.mk hI
 have HK:=ae.mk (aq.refl w g none)
 have HL:=ae.mk hB.size
 clear hI
 have b4:=ae.mk hB.size
 have HB:=ae.mk hB
 clear hB
 unfold eM.f at h
 have H:=h
 clear h
 obtain ⟨ab,a5⟩:∃ y_:List ByteArray,y_ = (([(⟨#[48,32,45]⟩:ByteArray),(⟨#[49,32,45]⟩:ByteArray),(⟨#[49,32,97]⟩:ByteArray),(⟨#[52,32,97,98,44,97,99,44,98,99,44,97,100,44,98,100,44,99,100]⟩:ByteArray),(⟨#[52,32,97,98,44,97,99,44,97,100,44,98,100,44,99,100]⟩:ByteArray),(⟨#[51,32,97,44,98]⟩:ByteArray),(⟨#[53,32,97,98,44,97,99,44,98,99,44,97,100,44,98,100]⟩:ByteArray),(⟨#[50,32,45]⟩:ByteArray),(⟨#[51,32,97,98,99]⟩:ByteArray)]:List ByteArray)):=⟨_,rfl⟩
 replace H:((fM.f X a0 a1 ab).bind fun a6=>((cJ.f k a6.1).bind fun al=>(some (al.1,al.2.1,a6.2.1,a6.2.2)))) = some (r1,r2,r3,r4):=by (try rw [a5]);exact af.Z
 have am:=ae.mk a5
 clear a5
 obtain ⟨⟨ao,ap,ar⟩,A2,H⟩:=af.be H
 (try dsimp only at H)
 obtain ⟨⟨a9,aa,ba⟩,A3,H⟩:=af.be H
 (try dsimp only at H)
 simp only [Option.some.injEq,Prod.mk.injEq] at H
 obtain ⟨rfl,rfl,rfl,rfl⟩:=H
 go_enter Tryz.func164,Tryz.ntmps164
 go_wp2_with (first | (refine af.bx 2 #[.int .i64 0,.slice none 0 0] 30 ?_;intro z hg w4 hbox hb;replace HB:=ae.mk (az (af.J HB) hb);have j:=ae.mk hbox;have d1:=ae.mk ((by rw [hg];exact (bj (w:=w) (g:=g) (row:=none) (af.K HK)):w.heap.size≤z));have d2:=ae.mk ((Nat.le_trans b4.out (by rw [hg];exact (bj (w:=w) (g:=g) (row:=none) (af.K HK)):w.heap.size≤z):w0.heap.size≤z));replace HK:=ae.mk (aq.trans (af.K HK) (aq.cW hb g none) (.inl rfl));have aw:=ae.mk ((by rw [hg];exact Nat.ne_of_lt (av.lt (show av w0 _ g X a0 a1 from af.I)):g≠z));have a3:=ae.mk ((by rw [hg];exact Nat.ne_of_gt (av.lt (show av w0 _ g X a0 a1 from af.I)):z≠g));replace a4:=ae.mk (av.below af.I hb);clear hb hbox hg) | ((with_reducible refine bJ (N:=7) rfl ?_);refine Kd.iY Kd.string _ 9 ?hg (N:=7) ?hd (xs:=([(⟨#[48,32,45]⟩:ByteArray),(⟨#[49,32,45]⟩:ByteArray),(⟨#[49,32,97]⟩:ByteArray),(⟨#[52,32,97,98,44,97,99,44,98,99,44,97,100,44,98,100,44,99,100]⟩:ByteArray),(⟨#[52,32,97,98,44,97,99,44,97,100,44,98,100,44,99,100]⟩:ByteArray),(⟨#[51,32,97,44,98]⟩:ByteArray),(⟨#[53,32,97,98,44,97,99,44,98,99,44,97,100,44,98,100]⟩:ByteArray),(⟨#[50,32,45]⟩:ByteArray),(⟨#[51,32,97,98,99]⟩:ByteArray)]:List ByteArray)) (inner:=[.string (⟨#[48,32,45]⟩:ByteArray),.string (⟨#[49,32,45]⟩:ByteArray),.string (⟨#[49,32,97]⟩:ByteArray),.string (⟨#[52,32,97,98,44,97,99,44,98,99,44,97,100,44,98,100,44,99,100]⟩:ByteArray),.string (⟨#[52,32,97,98,44,97,99,44,97,100,44,98,100,44,99,100]⟩:ByteArray),.string (⟨#[51,32,97,44,98]⟩:ByteArray),.string (⟨#[53,32,97,98,44,97,99,44,98,99,44,97,100,44,98,100]⟩:ByteArray),.string (⟨#[50,32,45]⟩:ByteArray),.string (⟨#[51,32,97,98,99]⟩:ByteArray)]) (ok:=fun _=>True) (okp:=fun _=>True) ?hr ?hp (fun _ hk=>hk) trivial (Below.refl _ _) (Nat.le_refl _) (by simp) ?_;(case hd=>rfl);(case hg=>rfl);(case hr=>first | (go_simp;done) | (go_simp;rfl));(case hp=>exact (cE.one (show Kd.M Kd.string _ _ _ (⟨#[48,32,45]⟩:ByteArray) [.string (⟨#[48,32,45]⟩:ByteArray)] from rfl) (cE.one (show Kd.M Kd.string _ _ _ (⟨#[49,32,45]⟩:ByteArray) [.string (⟨#[49,32,45]⟩:ByteArray)] from rfl) (cE.one (show Kd.M Kd.string _ _ _ (⟨#[49,32,97]⟩:ByteArray) [.string (⟨#[49,32,97]⟩:ByteArray)] from rfl) (cE.one (show Kd.M Kd.string _ _ _ (⟨#[52,32,97,98,44,97,99,44,98,99,44,97,100,44,98,100,44,99,100]⟩:ByteArray) [.string (⟨#[52,32,97,98,44,97,99,44,98,99,44,97,100,44,98,100,44,99,100]⟩:ByteArray)] from rfl) (cE.one (show Kd.M Kd.string _ _ _ (⟨#[52,32,97,98,44,97,99,44,97,100,44,98,100,44,99,100]⟩:ByteArray) [.string (⟨#[52,32,97,98,44,97,99,44,97,100,44,98,100,44,99,100]⟩:ByteArray)] from rfl) (cE.one (show Kd.M Kd.string _ _ _ (⟨#[51,32,97,44,98]⟩:ByteArray) [.string (⟨#[51,32,97,44,98]⟩:ByteArray)] from rfl) (cE.one (show Kd.M Kd.string _ _ _ (⟨#[53,32,97,98,44,97,99,44,98,99,44,97,100,44,98,100]⟩:ByteArray) [.string (⟨#[53,32,97,98,44,97,99,44,98,99,44,97,100,44,98,100]⟩:ByteArray)] from rfl) (cE.one (show Kd.M Kd.string _ _ _ (⟨#[50,32,45]⟩:ByteArray) [.string (⟨#[50,32,45]⟩:ByteArray)] from rfl) (cE.one (show Kd.M Kd.string _ _ _ (⟨#[51,32,97,98,99]⟩:ByteArray) [.string (⟨#[51,32,97,98,99]⟩:ByteArray)] from rfl) (cE.none _ _)))))))))));intro dt w5 aB hb d3 b2;clear d3 b2;(first | rw [← am.out] at aB | (simp only [Int.reduceToNat] at aB;rw [← am.out] at aB));have y:=ae.mk (Kd.b9 aB (bj (w:=w) (g:=g) (row:=none) (af.K HK)));replace j:=af.bb j hb;replace HK:=ae.mk (aq.trans (af.K HK) (aq.cW hb g none) (.inl rfl));replace HB:=ae.mk (az (af.J HB) hb);replace a4:=ae.mk (av.below af.I hb);clear hb aB;obtain ⟨d4,d5,d6⟩:=Kd.aY y.out;subst d6) | (refine af.gl (some 8) Tryz.func177 #[.pointer (some ⟨g,0,none⟩),.slice d4 ab.length d5] ?_;(with_reducible refine (fM.calls g X a0 a1 _ _ ab ao ap ar w0 _ ?side1 ?side2 ?side3 ?side4 ?side5 A2.out).mono ?_);(case side1=>exact af.I);(case side2=>exact af.J HB);(case side3=>exact af.Cw ((Kd.au y.out).2.2));(case side4=>exact (Kd.au y.out).2.1);(case side5=>exact js (av.hJ a4.out y.out (by decide)));rintro e w8 ⟨rfl,hi,hb,hk⟩;refine ⟨_,rfl,?_⟩;replace j:=ae.mk (aq.blk hk (g':=z) (o:=.cells #[.int .i64 0,.slice none 0 0] 30 (0,0)) (af.Bw j.out) a3.out (by simp));replace y:=ae.mk (Kd.aX (Kd.fR (av.apart (show av w0 _ g X a0 a1 from af.I) (af.Rw y.out) (by decide)) hk (fun _ h=>h.2)) (fun _ h=>h.1));replace HK:=ae.mk (aq.trans (af.K HK) hk (.inl rfl));replace HB:=ae.mk hb;replace a4:=ae.mk hi;(try clear hb);(try clear d7);(try clear hk);(try clear hi)) | (refine af.gl (some 9) Tryz.func176 #[.string ao] ?_;(with_reducible refine (cJ.calls k ao a9 aa ba _ A3.out).mono ?_);rintro e w9 ⟨du,rfl,bc,hb⟩;refine ⟨_,rfl,?_⟩;replace y:=af.rb y hb;have a2:=ae.mk (Kd.b9 bc (bj (w:=w) (g:=g) (row:=none) (af.K HK)));replace j:=af.bb j hb;replace HK:=ae.mk (aq.trans (af.K HK) (aq.cW hb g none) (.inl rfl));replace HB:=ae.mk (az (af.J HB) hb);replace a4:=ae.mk (av.below af.I hb);(try clear hb);(try clear d7);(try clear hk);(try clear hi);(try clear bc)) | (refine af.bx 3 #[.int .i64 0,.slice none 0 0] 30 ?_;intro Y hg dv hbox hb;have bd:=af.rb y hb;have bi:=af.rb a2 hb;have bm:=ae.mk (av.below af.I hb);have bo:=af.bb j hb;have bs:=ae.mk (aq.trans (af.K HK) (aq.cW hb g none) (.inl rfl));have bv:=ae.mk (az (af.J HB) hb);have ca:=ae.mk hbox;have cb:=ae.mk ((by rw [hg];exact (bj (w:=w) (g:=g) (row:=none) (af.K HK)):w.heap.size≤Y));have cc:=ae.mk ((Nat.le_trans b4.out (by rw [hg];exact (bj (w:=w) (g:=g) (row:=none) (af.K HK)):w.heap.size≤Y):w0.heap.size≤Y));have cd:=af.nl hg j;have aS:=af.ng hg j;have b0:=ae.mk ((by rw [hg];exact Nat.ne_of_lt (av.lt (show av w0 _ g X ap ar from af.I)):g≠Y));have b1:=ae.mk ((by rw [hg];exact Nat.ne_of_gt (av.lt (show av w0 _ g X ap ar from af.I)):Y≠g));clear y;clear a2;clear a4;clear j;clear HK;clear HB;have y:=bd;have a2:=bi;have a4:=bm;have j:=bo;have HK:=bs;have HB:=bv;have aF:=ca;have d8:=cb;have d9:=cc;have a7:=cd;have a8:=aS;have aL:=b0;have aO:=b1;clear bd bi bm bo bs bv ca cb cc cd aS b0 b1;clear hb hbox hg;have db:=a8.out;have dd:=a7.out;have df:=aO.out;have dk:=aL.out;obtain ⟨ce,cf,ci,cp⟩:=af.bR aF.out;obtain ⟨aP,aR,cx⟩:=Kd.aY a2.out;subst cx;have dl:=a3.out;have dp:=aw.out;obtain ⟨cy,cX,cY,d0⟩:=af.bR j.out))
 refine bodyPost_ret (results_cell_row rfl _ _ z 30 #[.int .i64 a9,.slice aP aa.length aR] (0,0) _ rfl af.B Tryz.underlying30 rfl (by kernel_rfl)) rfl ?_
 exact ⟨_,af.E,by (with_reducible repeat (first | apply Kd.cL | apply Kd.cM | apply Kd.bS));exact Kd.aX (Kd.cI (p:=⟨z,1,none⟩) (Kd.cI (p:=⟨z,0,none⟩) (Kd.cI (p:=⟨Y,1,none⟩) (Kd.cI (p:=⟨Y,0,none⟩) (Kd.cR (Kd.cR a2.out aF.out (by decide)) j.out (by decide)) (fun _ hk=>hk.1.2) (.int .i64 a9)) (fun _ hk=>hk.1.2) (.slice aP aa.length aR)) (fun _ hk=>hk.2) (.int .i64 a9)) (fun _ hk=>hk.2) (.slice aP aa.length aR)) (fun _ hk=>trivial),af.I,af.J HB,af.K HK⟩
mutual
def aD.l0:Nat→Int→Int→Int→Int→List Int→Int→Int→Option (Int)
 | 0,_,_,_,_,_,_,_=>none
 | k+1,x0,x1,M,x4,j,y,z=>if z < M then ((cv.f x4 z).bind fun a2=>(if a2 = true then (aD.l1 k x0 x1 M x4 j y z y) else (aD.l0 k x0 x1 M x4 j y (wrap64 (z+1))))) else (some y)
def aD.j2:Nat→Int→Int→Int→Int→List Int→Int→Int→Int→Option (Int)
 | 0,_,_,_,_,_,_,_,_=>none
 | k+1,x0,x1,M,x4,j,y,z,X=>if X≥x1 then (aD.l0 k x0 x1 M x4 j y (wrap64 (z+1))) else (aD.l2 k x0 x1 M x4 j y z X 0)
def aD.l2:Nat→Int→Int→Int→Int→List Int→Int→Int→Int→Int→Option (Int)
 | 0,_,_,_,_,_,_,_,_,_=>none
 | k+1,x0,x1,M,x4,j,y,z,X,a0=>if a0 < M then (if 0≤(wrap64 ((wrap64 (X * M))+a0)) then (if (wrap64 ((wrap64 (X * M))+a0)) < (j.length:Int) then (if 0≤(wrap64 ((wrap64 (y * M))+a0)) then (if (wrap64 ((wrap64 (y * M))+a0)) < (j.length:Int) then (aD.l2 k x0 x1 M x4 ((j.set ((wrap64 ((wrap64 (X * M))+a0)):Int).toNat (rd j (wrap64 ((wrap64 (y * M))+a0)))).set ((wrap64 ((wrap64 (y * M))+a0)):Int).toNat (rd j (wrap64 ((wrap64 (X * M))+a0)))) y z X (wrap64 (a0+1))) else (none)) else (none)) else (none)) else (none)) else (aD.l3 k x0 x1 M x4 j y z (wrap64 (y+1)))
def aD.l3:Nat→Int→Int→Int→Int→List Int→Int→Int→Int→Option (Int)
 | 0,_,_,_,_,_,_,_,_=>none
 | k+1,x0,x1,M,x4,j,y,z,Y=>if Y < x1 then (if 0≤(wrap64 ((wrap64 (Y * M))+z)) then (if (wrap64 ((wrap64 (Y * M))+z)) < (j.length:Int) then (if 0≤(wrap64 ((wrap64 (y * M))+z)) then (if (wrap64 ((wrap64 (y * M))+z)) < (j.length:Int) then (aD.l4 k x0 x1 M x4 j y z Y (rd j (wrap64 ((wrap64 (Y * M))+z))) (rd j (wrap64 ((wrap64 (y * M))+z))) 0) else (none)) else (none)) else (none)) else (none)) else (aD.l0 k x0 x1 M x4 j (wrap64 (y+1)) (wrap64 (z+1)))
def aD.l4:Nat→Int→Int→Int→Int→List Int→Int→Int→Int→Int→Int→Int→Option (Int)
 | 0,_,_,_,_,_,_,_,_,_,_,_=>none
 | k+1,x0,x1,M,x4,j,y,z,Y,a3,a4,a1=>if a1 < M then (if 0≤(wrap64 ((wrap64 (Y * M))+a1)) then (if (wrap64 ((wrap64 (Y * M))+a1)) < (j.length:Int) then (if 0≤(wrap64 ((wrap64 (y * M))+a1)) then (if (wrap64 ((wrap64 (y * M))+a1)) < (j.length:Int) then (if x0 = 0 then (none) else (aD.l4 k x0 x1 M x4 (j.set ((wrap64 ((wrap64 (Y * M))+a1)):Int).toNat (Int.tmod (wrap64 ((Int.tmod (wrap64 ((wrap64 ((rd j (wrap64 ((wrap64 (Y * M))+a1))) * a4)) - (wrap64 ((rd j (wrap64 ((wrap64 (y * M))+a1))) * a3)))) x0)+x0)) x0)) y z Y a3 a4 (wrap64 (a1+1)))) else (none)) else (none)) else (none)) else (none)) else (aD.l3 k x0 x1 M x4 j y z (wrap64 (Y+1)))
def aD.l1:Nat→Int→Int→Int→Int→List Int→Int→Int→Int→Option (Int)
 | 0,_,_,_,_,_,_,_,_=>none
 | k+1,x0,x1,M,x4,j,y,z,X=>if X < x1 then (if 0≤(wrap64 ((wrap64 (X * M))+z)) then (if (wrap64 ((wrap64 (X * M))+z)) < (j.length:Int) then (if (rd j (wrap64 ((wrap64 (X * M))+z))) = 0 then (aD.l1 k x0 x1 M x4 j y z (wrap64 (X+1))) else (aD.j2 k x0 x1 M x4 j y z X)) else (none)) else (none)) else (aD.j2 k x0 x1 M x4 j y z X)
end
def aD.f (k:Nat) (a0:Int) (y:Int) (a2:Int) (l3:List Int) (a4:Int):Option (Int):=(some (([]:List Int):List Int)).bind fun j=>(if j.length+l3.length < 17592186044416 then (aD.l0 k a0 y a2 a4 (j ++ l3) 0 0) else (none))
def aD.xh:Bool×List (List Nat×List Nat):=(true,[([],[]),([],[]),([],[]),([1,2],[1,2]),([],[]),([3,4],[3,4]),([],[]),([],[]),([],[]),([7,8],[7,8]),([],[]),([9,10],[9,10]),([6,11],[6,11]),([12],[12]),([],[]),([13,14],[13,14]),([],[]),([],[]),([],[]),([17,18],[17,18]),([],[]),([19,20],[19,20]),([16,21],[16,21]),([22],[22]),([],[]),([23,24],[23,24]),([15,25],[15,25]),([],[]),([26,27],[26,27]),([],[]),([28,29],[28,29]),([],[]),([30,31],[30,31]),([0,5,0,1,2,3,4,5,6,7,8,9,10,11,12,13,14,15,16,17,18,19,20,21,22,23,24,25,26,27,28,29,30,31,32],[0,5]),([33,32,0,1,2,3,4,5,6,7,8,9,10,11,12,13,14,15,16,17,18,19,20,21,22,23,24,25,26,27,28,29,30,31,32],[32,33])])
def aD.xx:List Nat:=[0,0,0,6,0,30,0,0,0,384,0,1920,4032,8128,0,32704,0,0,0,393216,0,1966080,4128768,8323072,0,33488896,67108800,0,268435392,0,1073741760,0,4294967232,8589934591,17179869183]
theorem aD.wk:gr .any (opsOf Tryz.f187 25) = aD.xh:=by kernel_rfl
theorem aD.vx:eL aD.xh.2 aD.xx = true:=by kernel_rfl
set_option maxHeartbeats 8000000 in
set_option maxRecDepth 100000 in
theorem aD.calls (k:Nat) (a0:Int) (a1:Int) (a2:Int) (A3:Option Addr) (c3:Nat) (l3:List Int) (a4:Int) (r:Int) (w:World) (h0:Kd.C (Kd.int .i64) w A3 l3.length l3) (h6:l3.length≤c3) (h:aD.f k a0 a1 a2 l3 a4 = some r) :
  Calls Tryz.prog 187 #[.int .i64 a0,.int .i64 a1,.int .i64 a2,.slice A3 l3.length c3,.int .i64 a4] w fun e w'=>e = .returned (.int .i64 r)∧Below w.heap.size w w':=by
 have ie:=ae.mk h0
 have m2:=ae.mk h6
 clear h0 h6
 have HB:=ae.mk (Below.refl w.heap.size w)
 unfold aD.f at h
 have H:=h
 clear h
 obtain ⟨bi,bm⟩:∃ y_:List Int,y_ = (([]:List Int)):=⟨_,rfl⟩
 replace H:(if bi.length+l3.length < 17592186044416 then (aD.l0 k a0 a1 a2 a4 (bi ++ l3) 0 0) else (none)) = some r:=by (try rw [bm]);exact af.Z
 have d4:=ae.mk bm
 clear bm
 obtain ⟨c6,H⟩:=af.ip H
 have h7:=ae.mk c6
 clear c6
 obtain ⟨dp,bo⟩:∃ y_:List Int,y_ = (bi ++ l3):=⟨_,rfl⟩
 replace H:(aD.l0 k a0 a1 a2 a4 dp 0 0) = some r:=by (try rw [bo]);exact af.Z
 have ec:=ae.mk bo
 clear bo
 have H':=ae.mk H
 clear H
 go_enter Tryz.func187,Tryz.ntmps187
 go_wp2_with (first | (refine af.lt (Kd.int .i64) 3 21 ?_;intro fd w7 dq hb ih fi;clear ih fi;(first | rw [← d4.out] at dq | (simp only [Int.reduceToNat] at dq;rw [← d4.out] at dq));have d5:=ae.mk (Kd.b9 dq (aj (af.Lw HB.out)));replace HB:=af.lb HB hb;clear hb dq) | ((with_reducible refine cB (b:=.append) (xs:=#[.tmp 21,.tmp 22]) rfl ?_);at_builtin;refine Kd.iE (Kd.int .i64) (w0:=w) w.heap.size rfl (.tmp 21) (.tmp 22) 28 3 (.int .i64 0) 8 rfl Tryz.underlying28 eJ rfl (by decide) (by omega) fd bi l3 _ _ _ (fun _=>True) (fun _=>False) rfl rfl (by exact af.Rw d5.out) (by repeat (first | exact (Kd.bG ie.out HB.out) | (with_reducible refine Kd.fk ?_ _) | (with_reducible refine Kd.fm ?_ _) | (with_reducible refine Kd.fJ ?_))) (fun _ _ h=>h) (fun _ h=>h.elim) (by exact fun _ _=>trivial) (by exact af.Lw HB.out) (by exact aj (af.Lw HB.out)) (by have:=h7.out;omega) ?_;intro b4 w9 ho hb hg hat;rw [← ec.out] at ho;have h8:=ae.mk hb;have h9:=ae.mk ho;clear HB;clear d5;have HB:=h8;have ed:=h9;clear h8 h9;clear ho hb hg hat))
 go_loopg [12,13] k (fun kq v12 ii w'=>∃ (Y:List Int) (y:Int) (z:Int),v12 = .int .i64 y∧ii = .int .i64 z∧ae (aD.l0 kq a0 a1 a2 a4 Y y z = some r)∧ae (kq≤k)∧ae (Kd.R (Kd.int .i64) 3 w' w.heap.size (fun _=>True) b4 Y)∧ae (Below w.heap.size w w'))
 case atStart=>exact ⟨(dp),(0),(0),af.F,af.F,H',⟨Nat.le_refl _⟩,⟨af.Rw ed.out⟩,⟨af.Lw HB.out⟩⟩
 case round =>
  clear H'
  obtain ⟨Y,y,z,rfl,rfl,HA,aF,j,HB⟩:=hrel
  cases gk with
  | zero=>exact absurd HA.out (by simp [aD.l0])
  | succ k1 =>
   have H:=HA.out
   clear HA
   simp only [aD.l0] at H
   by_cases gz:z < a2
   ·rw [if_pos gz] at H
    have fj:=decide_eq_true gz
    clear gz
    obtain ⟨fl,hj,H⟩:=af.be H
    (try dsimp only at H)
    by_cases ee:fl = true
    ·subst ee
     replace H:(aD.l1 k1 a0 a1 a2 a4 Y y z y) = some r:=by rw [if_pos rfl] at H;exact H
     have dt:=ae.mk H
     clear H
     go_upto_block 2 with (first | (refine af.gl (some 31) Tryz.func89 #[.int .i64 a4,.int .i64 z] ?_;(with_reducible refine (cv.calls a4 z true _ hj.out).mono ?_);rintro e w' ⟨rfl,⟨nd,rfl⟩⟩;refine ⟨_,rfl,?_⟩))
     (try simp only [Act.put,List.setIfInBounds_toArray,List.set_cons_zero,List.set_cons_succ])
     go_cut [14] (fun fp wc=>∃ (kq:Nat) (a9:Int),fp = .int .i64 a9∧ae (aD.j2 kq a0 a1 a2 a4 Y y z a9 = some r)∧ae (kq≤k1)∧ae (Kd.R (Kd.int .i64) 3 wc w.heap.size (fun _=>True) b4 Y)∧ae (Below w.heap.size w wc))
     case first =>
      have H:=dt.out
      clear dt
      have H':=ae.mk H
      clear H
      go_wp2
      go_loopg [14] k1 (fun kq fp w'=>∃ (am:Int),fp = .int .i64 am∧ae (aD.l1 kq a0 a1 a2 a4 Y y z am = some r)∧ae (kq≤k1)∧ae (Kd.R (Kd.int .i64) 3 w' w.heap.size (fun _=>True) b4 Y)∧ae (Below w.heap.size w w'))
      case atStart=>exact ⟨(y),af.F,H',⟨Nat.le_refl _⟩,⟨af.Rw j.out⟩,⟨af.Lw HB.out⟩⟩
      case round =>
       clear H'
       obtain ⟨am,rfl,HA,ef,j,HB⟩:=hrel
       cases gk with
       | zero=>exact absurd HA.out (by simp [aD.l1])
       | succ k2 =>
        have H:=HA.out
        clear HA
        simp only [aD.l1] at H
        by_cases d8:am < a1
        ·rw [if_pos d8] at H
         have ba:=decide_eq_true d8
         clear d8
         (first | rw [ba] | (simp only [bw,bW];rw [ba]) | skip)
         obtain ⟨aw,cd⟩:∃ j_:Int,(wrap64 ((wrap64 (am * a2))+z)) = j_:=⟨_,rfl⟩
         replace H:(if 0≤(aw) then (if (aw) < (Y.length:Int) then (if (rd Y (aw)) = 0 then (aD.l1 k2 a0 a1 a2 a4 Y y z (wrap64 (am+1))) else (aD.j2 k2 a0 a1 a2 a4 Y y z am)) else (none)) else (none)) = some r:=by first | (rw [cd] at H;exact H) | (simp only [cd] at H ⊢;exact H)
         have i2:(IntKind.i64.wrap ((wrap64 (am * a2))+z)) = aw:=(bw _).trans cd
         obtain ⟨hl,H⟩:=af.ip H
         have il:=decide_eq_true hl
         clear hl
         obtain ⟨hm,H⟩:=af.ip H
         have im:=decide_eq_true hm
         clear hm
         by_cases ce:(rd Y (aw)) = 0
         ·rw [if_pos ce] at H
          have fs:((rd Y (aw)) == 0) = true:=beq_iff_eq.mpr ce
          have ft:((rd Y (aw)) != 0) = false:=bne_eq_false_iff_eq.mpr ce
          clear ce
          have H':=ae.mk H
          clear H
          obtain ⟨lm,ln,hq⟩:=Kd.aY j.out
          subst hq
          obtain ⟨eg,cf,ap,fw,bc⟩:=af.ai (Kd.au j.out).2.2 (aw)
          cases cf
          go_wp2
          go_roundg k2
          case measure=>have:=aF.out;have:=ef.out;omega
          case rel=>exact ⟨(wrap64 (am+1)),af.F,H',⟨by have:=aF.out;have:=ef.out;omega⟩,⟨af.Rw j.out⟩,⟨af.Lw HB.out⟩⟩
         ·rw [if_neg ce] at H
          have fs:((rd Y (aw)) == 0) = false:=beq_eq_false_iff_ne.mpr ce
          have ft:((rd Y (aw)) != 0) = true:=bne_iff_ne.mpr ce
          have H':=ae.mk H
          clear H
          obtain ⟨lo,lr,ht⟩:=Kd.aY j.out
          subst ht
          obtain ⟨eg,cf,ap,fw,bc⟩:=af.ai (Kd.au j.out).2.2 (aw)
          cases cf
          go_wp2
          go_meet
          case rel=>exact ⟨_,(am),af.F,H',⟨by have:=aF.out;have:=ef.out;first | omega | exact Nat.le_refl _⟩,⟨af.Rw j.out⟩,⟨af.Lw HB.out⟩⟩
        ·rw [if_neg d8] at H
         have ba:decide (am < a1) = false:=decide_eq_false d8
         clear d8
         (first | rw [ba] | (simp only [bw,bW];rw [ba]) | skip)
         have H':=ae.mk H
         clear H
         go_wp2
         go_meet
         case rel=>exact ⟨_,(am),af.F,H',⟨by have:=aF.out;have:=ef.out;first | omega | exact Nat.le_refl _⟩,⟨af.Rw j.out⟩,⟨af.Lw HB.out⟩⟩
     case rest =>
      clear dt
      try clear q1
      try clear fx
      try clear d9
      try clear du
      try clear ap
      try clear bc
      obtain ⟨kq,a9,rfl,HA,aL,j,HB⟩:=hcut
      cases kq with
      | zero=>exact absurd HA.out (by simp [aD.j2])
      | succ dv =>
       have H:=HA.out
       clear HA
       simp only [aD.j2] at H
       by_cases db:a9≥a1
       ·rw [if_pos db] at H
        have fy:=decide_eq_true db
        clear db
        have H':=ae.mk H
        clear H
        go_wp2
        go_roundg dv
        case measure=>have:=aF.out;have:=aL.out;omega
        case rel=>exact ⟨(Y),(y),(wrap64 (z+1)),af.F,af.F,H',⟨by have:=aF.out;have:=aL.out;omega⟩,⟨af.Rw j.out⟩,⟨af.Lw HB.out⟩⟩
       ·rw [if_neg db] at H
        have fy:decide (a1≤a9) = false:=decide_eq_false db
        clear db
        have H':=ae.mk H
        clear H
        go_wp2
        go_loopg [15] dv (fun kq io w'=>∃ (X:List Int) (a5:Int),io = .int .i64 a5∧ae (aD.l2 kq a0 a1 a2 a4 X y z a9 a5 = some r)∧ae (kq≤dv)∧ae (Kd.R (Kd.int .i64) 3 w' w.heap.size (fun _=>True) b4 X)∧ae (Below w.heap.size w w'))
        case atStart=>exact ⟨(Y),(0),af.F,H',⟨Nat.le_refl _⟩,⟨af.Rw j.out⟩,⟨af.Lw HB.out⟩⟩
        case round =>
         clear H'
         try clear q1
         try clear fx
         try clear d9
         try clear du
         try clear ap
         try clear q1
         try clear d9
         try clear bc
         obtain ⟨X,a5,rfl,HA,cb,j,HB⟩:=hrel
         cases gk with
         | zero=>exact absurd HA.out (by simp [aD.l2])
         | succ k3 =>
          have H:=HA.out
          clear HA
          simp only [aD.l2] at H
          by_cases dd:a5 < a2
          ·rw [if_pos dd] at H
           have fX:=decide_eq_true dd
           clear dd
           obtain ⟨aa,ci⟩:∃ j_:Int,(wrap64 ((wrap64 (a9 * a2))+a5)) = j_:=⟨_,rfl⟩
           replace H:(if 0≤(aa) then (if (aa) < (X.length:Int) then (if 0≤(wrap64 ((wrap64 (y * a2))+a5)) then (if (wrap64 ((wrap64 (y * a2))+a5)) < (X.length:Int) then (aD.l2 k3 a0 a1 a2 a4 ((X.set ((aa):Int).toNat (rd X (wrap64 ((wrap64 (y * a2))+a5)))).set ((wrap64 ((wrap64 (y * a2))+a5)):Int).toNat (rd X (aa))) y z a9 (wrap64 (a5+1))) else (none)) else (none)) else (none)) else (none)) = some r:=by first | (rw [ci] at H;exact H) | (simp only [ci] at H ⊢;exact H)
           have i3:(IntKind.i64.wrap ((wrap64 (a9 * a2))+a5)) = aa:=(bw _).trans ci
           obtain ⟨hu,H⟩:=af.ip H
           have it:=decide_eq_true hu
           clear hu
           obtain ⟨hx,H⟩:=af.ip H
           have jp:=decide_eq_true hx
           clear hx
           obtain ⟨ab,cp⟩:∃ j_:Int,(wrap64 ((wrap64 (y * a2))+a5)) = j_:=⟨_,rfl⟩
           replace H:(if 0≤(ab) then (if (ab) < (X.length:Int) then (aD.l2 k3 a0 a1 a2 a4 ((X.set ((aa):Int).toNat (rd X (ab))).set ((ab):Int).toNat (rd X (aa))) y z a9 (wrap64 (a5+1))) else (none)) else (none)) = some r:=by first | (rw [cp] at H;exact H) | (simp only [cp] at H ⊢;exact H)
           have i4:(IntKind.i64.wrap ((wrap64 (y * a2))+a5)) = ab:=(bw _).trans cp
           obtain ⟨hz,H⟩:=af.ip H
           have k0:=decide_eq_true hz
           clear hz
           obtain ⟨hA,H⟩:=af.ip H
           have ka:=decide_eq_true hA
           clear hA
           obtain ⟨cx,bs⟩:∃ y_:List Int,y_ = (X.set ((aa):Int).toNat (rd X (ab))):=⟨_,rfl⟩
           replace H:(aD.l2 k3 a0 a1 a2 a4 (cx.set ((ab):Int).toNat (rd X (aa))) y z a9 (wrap64 (a5+1))) = some r:=by (try rw [bs]);exact af.Z
           have eh:=ae.mk bs
           clear bs
           obtain ⟨cy,bv⟩:∃ y_:List Int,y_ = (cx.set ((ab):Int).toNat (rd X (aa))):=⟨_,rfl⟩
           replace H:(aD.l2 k3 a0 a1 a2 a4 cy y z a9 (wrap64 (a5+1))) = some r:=by (try rw [bv]);exact af.Z
           have ej:=ae.mk bv
           clear bv
           have H':=ae.mk H
           clear H
           obtain ⟨ls,f1,hC⟩:=Kd.aY j.out
           subst hC
           obtain ⟨el,fY,aR,kb,dC⟩:=af.ai (Kd.au j.out).2.2 (aa)
           cases fY
           obtain ⟨em,g0,aS,kc,dE⟩:=af.ai (Kd.au j.out).2.2 (ab)
           obtain rfl:el = em:=(by injection g0)
           have g1:0≤((aa):Int):=af.D
           have cX:((aa):Int) < ((X.length:Int):Int):=af.D
           obtain ⟨bd,lv,f2,f3,hD,lw,f4⟩:=Kd.jm j.out (by omega)
           (first | cases f2 | (injection f2 with aO dT e0;(first | subst aO | (injection aO with aO;subst aO));subst e0;clear dT))
           have f5:=ae.mk f3
           have lx:=ae.mk f4
           clear f3 hD f4
           (first | simp only [add_plain] at aR | skip)
           (first | simp only [add_plain] at aS | skip)
           obtain ⟨d6,i5⟩:=Kd.gH 0 j.out ((aa):Int) g1 cX
           replace g1:=eq_true g1
           replace cX:=eq_true cX
           have e1:=Kd.jV j.out ((aa):Int) (rd X (ab))
           go_wp2_with (first | ((with_reducible refine fT (t:=3) (p:=80) rfl ?_);refine fq (t:=3) (p:=80) (v:=?vo_w33) (w1:=(wr.setCell ⟨bd,((aa):Int).toNat,none⟩ (.int .i64 (rd X (ab))))) ?hg ?ho ?hn ?hr ?_;(case ho=>rfl);(case hg=>rfl);(case hn=>rfl);(case hr=>first | (go_simp;done) | (go_simp;rfl));intro e2 hw;have hg:wr.grownBy e2 (some bd):=(by rw [hw];exact e1.2);have e3:Kd.R (Kd.int .i64) 3 e2 w.heap.size (fun _=>True) (.slice (some ⟨bd,0,none⟩) X.length f1) cx:=(by rw [hw,eh.out];exact e1.1);clear e1;replace j:=ae.mk e3;replace HB:=ae.mk ((by rw [hw];exact dK (HB.out) f5.out:Below w.heap.size w e2));clear hg hw e3;have g2:0≤((ab):Int):=af.D;have cY:((ab):Int) < ((X.length:Int):Int):=af.D;obtain ⟨d7,i6⟩:=Kd.gH 0 j.out ((ab):Int) g2 cY;replace g2:=eq_true g2;replace cY:=eq_true cY;obtain ⟨kd,ke⟩:=Kd.gH 0 j.out ((ab):Int) (af.D) (af.D);have e4:=Kd.jV j.out ((ab):Int) (rd X (aa))) | ((with_reducible refine fT (t:=3) (p:=88) rfl ?_);refine fq (t:=3) (p:=88) (v:=?vo_w35) (w1:=(e2.setCell ⟨bd,((ab):Int).toNat,none⟩ (.int .i64 (rd X (aa))))) ?hg ?ho ?hn ?hr ?_;(case ho=>rfl);(case hg=>rfl);(case hn=>rfl);(case hr=>first | (go_simp;done) | (go_simp;rfl));intro g3 hw;have hg:e2.grownBy g3 (some bd):=(by rw [hw];exact e4.2);have e3:Kd.R (Kd.int .i64) 3 g3 w.heap.size (fun _=>True) (.slice (some ⟨bd,0,none⟩) X.length f1) cy:=(by rw [hw,ej.out];exact e4.1);clear e4;replace j:=ae.mk e3;replace HB:=ae.mk ((by rw [hw];exact dK (HB.out) f5.out:Below w.heap.size w g3));clear hg hw e3))
           go_roundg k3
           case measure=>have:=aF.out;have:=aL.out;have:=cb.out;omega
           case rel=>exact ⟨(cy),(wrap64 (a5+1)),af.F,H',⟨by have:=aF.out;have:=aL.out;have:=cb.out;omega⟩,⟨af.Rw j.out⟩,⟨af.Lw HB.out⟩⟩
          ·rw [if_neg dd] at H
           have fX:decide (a5 < a2) = false:=decide_eq_false dd
           clear dd
           have H':=ae.mk H
           clear H
           go_wp2
           go_loopg [17] k3 (fun kq v17 w'=>∃ (M:List Int) (a7:Int),v17 = .int .i64 a7∧ae (aD.l3 kq a0 a1 a2 a4 M y z a7 = some r)∧ae (kq≤k3)∧ae (Kd.R (Kd.int .i64) 3 w' w.heap.size (fun _=>True) b4 M)∧ae (Below w.heap.size w w'))
           case atStart=>exact ⟨(X),(wrap64 (y+1)),af.F,H',⟨Nat.le_refl _⟩,⟨af.Rw j.out⟩,⟨af.Lw HB.out⟩⟩
           case round =>
            clear H'
            try clear q1
            try clear fx
            try clear q2
            try clear kh
            try clear q3
            try clear kl
            try clear d9
            try clear du
            try clear cX
            try clear hE
            try clear hG
            try clear cY
            try clear hH
            try clear hI
            try clear ap
            try clear aR
            try clear aS
            try clear d6
            try clear d7
            try clear q1
            try clear d9
            try clear bc
            try clear dC
            try clear dE
            try clear cX
            try clear cY
            obtain ⟨M,a7,rfl,HA,df,j,HB⟩:=hrel
            cases gk with
            | zero=>exact absurd HA.out (by simp [aD.l3])
            | succ k4 =>
             have H:=HA.out
             clear HA
             simp only [aD.l3] at H
             by_cases dk:a7 < a1
             ·rw [if_pos dk] at H
              have g4:=decide_eq_true dk
              clear dk
              obtain ⟨ao,d0⟩:∃ j_:Int,(wrap64 ((wrap64 (a7 * a2))+z)) = j_:=⟨_,rfl⟩
              replace H:(if 0≤(ao) then (if (ao) < (M.length:Int) then (if 0≤(wrap64 ((wrap64 (y * a2))+z)) then (if (wrap64 ((wrap64 (y * a2))+z)) < (M.length:Int) then (aD.l4 k4 a0 a1 a2 a4 M y z a7 (rd M (ao)) (rd M (wrap64 ((wrap64 (y * a2))+z))) 0) else (none)) else (none)) else (none)) else (none)) = some r:=by first | (rw [d0] at H;exact H) | (simp only [d0] at H ⊢;exact H)
              have i7:(IntKind.i64.wrap ((wrap64 (a7 * a2))+z)) = ao:=(bw _).trans d0
              obtain ⟨hL,H⟩:=af.ip H
              have km:=decide_eq_true hL
              clear hL
              obtain ⟨hM,H⟩:=af.ip H
              have ks:=decide_eq_true hM
              clear hM
              obtain ⟨ar,d1⟩:∃ j_:Int,(wrap64 ((wrap64 (y * a2))+z)) = j_:=⟨_,rfl⟩
              replace H:(if 0≤(ar) then (if (ar) < (M.length:Int) then (aD.l4 k4 a0 a1 a2 a4 M y z a7 (rd M (ao)) (rd M (ar)) 0) else (none)) else (none)) = some r:=by first | (rw [d1] at H;exact H) | (simp only [d1] at H ⊢;exact H)
              have i8:(IntKind.i64.wrap ((wrap64 (y * a2))+z)) = ar:=(bw _).trans d1
              obtain ⟨hO,H⟩:=af.ip H
              have kt:=decide_eq_true hO
              clear hO
              obtain ⟨hP,H⟩:=af.ip H
              have kv:=decide_eq_true hP
              clear hP
              have H':=ae.mk H
              clear H
              obtain ⟨ly,hR,hT⟩:=Kd.aY j.out
              subst hT
              obtain ⟨eo,g5,b0,kw,g6⟩:=af.ai (Kd.au j.out).2.2 (ao)
              cases g5
              obtain ⟨eq,g7,b1,g8,e8⟩:=af.ai (Kd.au j.out).2.2 (ar)
              obtain rfl:eo = eq:=(by injection g7)
              obtain ⟨cc,lL,f6,-,-,-⟩:=Kd.jm j.out (by have p_:=of_eq_true g8;have q_:=of_eq_true e8;omega)
              (first | cases f6 | (injection f6 with aO dT e0;(first | subst aO | (injection aO with aO;subst aO));subst e0;clear dT))
              try simp only [add_plain] at b0
              try simp only [add_plain] at b1
              go_wp2
              try simp only [add_plain]
              go_loopg [20] k4 (fun kq v20 w'=>∃ (a3:List Int) (a8:Int),v20 = .int .i64 a8∧ae (aD.l4 kq a0 a1 a2 a4 a3 y z a7 (rd M (ao)) (rd M (ar)) a8 = some r)∧ae (kq≤k4)∧ae (Kd.R (Kd.int .i64) 3 w' w.heap.size (fun _=>True) (.slice (some (⟨cc,0,none⟩:Addr)) M.length hR) a3)∧ae (Below w.heap.size w w'))
              case atStart=>exact ⟨(M),(0),af.F,H',⟨Nat.le_refl _⟩,⟨af.Rw j.out⟩,⟨af.Lw HB.out⟩⟩
              case round =>
               clear H'
               try clear q1
               try clear fx
               try clear q2
               try clear kh
               try clear q3
               try clear kl
               try clear d9
               try clear du
               try clear cX
               try clear hE
               try clear hG
               try clear cY
               try clear hH
               try clear hI
               try clear ap
               try clear aR
               try clear aS
               try clear b0
               try clear b1
               try clear d6
               try clear d7
               try clear q1
               try clear d9
               try clear bc
               try clear dC
               try clear dE
               try clear g6
               try clear e8
               try clear q2
               try clear cX
               try clear q3
               try clear cY
               obtain ⟨a3,a8,rfl,HA,es,j,HB⟩:=hrel
               have aB:=(Kd.au j.out).1
               rw [aB] at j
               (try simp only [aB])
               cases gk with
               | zero=>exact absurd HA.out (by simp [aD.l4])
               | succ k5 =>
                have H:=HA.out
                clear HA
                simp only [aD.l4] at H
                by_cases dl:a8 < a2
                ·rw [if_pos dl] at H
                 have g9:=decide_eq_true dl
                 clear dl
                 obtain ⟨al,d2⟩:∃ j_:Int,(wrap64 ((wrap64 (a7 * a2))+a8)) = j_:=⟨_,rfl⟩
                 replace H:(if 0≤(al) then (if (al) < (a3.length:Int) then (if 0≤(wrap64 ((wrap64 (y * a2))+a8)) then (if (wrap64 ((wrap64 (y * a2))+a8)) < (a3.length:Int) then (if a0 = 0 then (none) else (aD.l4 k5 a0 a1 a2 a4 (a3.set ((al):Int).toNat (Int.tmod (wrap64 ((Int.tmod (wrap64 ((wrap64 ((rd a3 (al)) * (rd M (ar)))) - (wrap64 ((rd a3 (wrap64 ((wrap64 (y * a2))+a8))) * (rd M (ao)))))) a0)+a0)) a0)) y z a7 (rd M (ao)) (rd M (ar)) (wrap64 (a8+1)))) else (none)) else (none)) else (none)) else (none)) = some r:=by first | (rw [d2] at H;exact H) | (simp only [d2] at H ⊢;exact H)
                 have i9:(IntKind.i64.wrap ((wrap64 (a7 * a2))+a8)) = al:=(bw _).trans d2
                 obtain ⟨hU,H⟩:=af.ip H
                 have ky:=decide_eq_true hU
                 clear hU
                 obtain ⟨hV,H⟩:=af.ip H
                 have la:=decide_eq_true hV
                 clear hV
                 obtain ⟨aP,d3⟩:∃ j_:Int,(wrap64 ((wrap64 (y * a2))+a8)) = j_:=⟨_,rfl⟩
                 replace H:(if 0≤(aP) then (if (aP) < (a3.length:Int) then (if a0 = 0 then (none) else (aD.l4 k5 a0 a1 a2 a4 (a3.set ((al):Int).toNat (Int.tmod (wrap64 ((Int.tmod (wrap64 ((wrap64 ((rd a3 (al)) * (rd M (ar)))) - (wrap64 ((rd a3 (aP)) * (rd M (ao)))))) a0)+a0)) a0)) y z a7 (rd M (ao)) (rd M (ar)) (wrap64 (a8+1)))) else (none)) else (none)) = some r:=by first | (rw [d3] at H;exact H) | (simp only [d3] at H ⊢;exact H)
                 have ib:(IntKind.i64.wrap ((wrap64 (y * a2))+a8)) = aP:=(bw _).trans d3
                 obtain ⟨hW,H⟩:=af.ip H
                 have lc:=decide_eq_true hW
                 clear hW
                 obtain ⟨hX,H⟩:=af.ip H
                 have le:=decide_eq_true hX
                 clear hX
                 by_cases et:a0 = 0
                 ·rw [if_pos et] at H
                  exact absurd H (by simp)
                 ·rw [if_neg et] at H
                  have lf:(a0 == 0) = false:=beq_eq_false_iff_ne.mpr et
                  have lh:(a0 != 0) = true:=bne_iff_ne.mpr et
                  obtain ⟨ea,ca⟩:∃ y_:List Int,y_ = (a3.set ((al):Int).toNat (Int.tmod (wrap64 ((Int.tmod (wrap64 ((wrap64 ((rd a3 (al)) * (rd M (ar)))) - (wrap64 ((rd a3 (aP)) * (rd M (ao)))))) a0)+a0)) a0)):=⟨_,rfl⟩
                  replace H:(aD.l4 k5 a0 a1 a2 a4 ea y z a7 (rd M (ao)) (rd M (ar)) (wrap64 (a8+1))) = some r:=by (try rw [ca]);exact af.Z
                  have ev:=ae.mk ca
                  clear ca
                  have H':=ae.mk H
                  clear H
                  try go_wp2
                  replace j:=ae.mk (Kd.bS j.out)
                  replace HB:=ae.mk (bU HB.out)
                  obtain ⟨ew,gc,b2,li,lj⟩:=af.ai (Kd.au j.out).2.2 (al)
                  obtain rfl:(⟨cc,0,none⟩:Addr) = ew:=(by injection gc)
                  obtain ⟨ex,go,b3,lk,ll⟩:=af.ai (Kd.au j.out).2.2 (aP)
                  obtain rfl:(⟨cc,0,none⟩:Addr) = ex:=(by injection go)
                  have gs:0≤((al):Int):=af.D
                  have gt:((al):Int) < ((a3.length:Int):Int):=af.D
                  obtain ⟨lN,m0,f7,f8,hY,m1,f9⟩:=Kd.jm j.out (by omega)
                  (first | cases f7 | (injection f7 with aO dT e0;(first | subst aO | (injection aO with aO;subst aO));subst e0;clear dT))
                  have hZ:=ae.mk f8
                  have i0:=ae.mk f9
                  clear f8 hY f9
                  (first | simp only [add_plain] at b0 | skip)
                  (first | simp only [add_plain] at b1 | skip)
                  (first | simp only [add_plain] at b2 | skip)
                  (first | simp only [add_plain] at b3 | skip)
                  obtain ⟨eQ,f0⟩:=Kd.gH 0 j.out ((al):Int) gs gt
                  replace gs:=eq_true gs
                  replace gt:=eq_true gt
                  have eb:=Kd.pI j.out ((al):Int) (Int.tmod (wrap64 ((Int.tmod (wrap64 ((wrap64 ((rd a3 (al)) * (rd M (ar)))) - (wrap64 ((rd a3 (aP)) * (rd M (ao)))))) a0)+a0)) a0)
                  rw [← ev.out] at eb
                  have fa:=ae.mk eb
                  clear eb
                  refine eS (n:=35) (S:=fun w'=>w'.cell? ⟨cc,((al)).toNat,none⟩ = some (.int .i64 (rd a3 (al)))∧w'.cell? ⟨cc,((aP)).toNat,none⟩ = some (.int .i64 (rd a3 (aP)))) (ds:=[34]) #[false,false,false,false,false,false,false,false,false,false,false,false,false,false,false,false,false,false,false,false,false,false,false,false,false,false,false,false,false,false,false,false,false,false,false] (by kernel_rfl) rfl rfl ⟨b2,b3⟩ (fun hHeld=>?_);refine dn aD.wk aD.vx (fun a6 i1=>?_)
                  generalize wr.drew = m3 at j HB i0 fa f0 b2 b3 eQ hHeld ⊢
                  refine af.pu 0 117 a6 ?_
                  refine af.pu 1 118 a6 ?_
                  refine af.pu 2 119 a6 ?_
                  refine af.pu 3 120 a6 ?_
                  refine af.pu 4 121 a6 ?_
                  refine af.pu 5 122 a6 ?_
                  refine af.pu 6 123 a6 ?_
                  refine af.pu 7 124 a6 ?_
                  refine af.pu 8 125 a6 ?_
                  refine af.pu 9 126 a6 ?_
                  refine af.pu 10 127 a6 ?_
                  refine af.pu 11 128 a6 ?_
                  refine af.pu 12 129 a6 ?_
                  refine af.pu 14 131 a6 ?_
                  refine af.pu 16 133 a6 ?_
                  refine af.pu 17 134 a6 ?_
                  refine af.pu 18 135 a6 ?_
                  refine af.pu 19 136 a6 ?_
                  refine af.pu 20 137 a6 ?_
                  refine af.pu 21 138 a6 ?_
                  refine af.pu 22 139 a6 ?_
                  refine af.pu 24 141 a6 ?_
                  refine af.pu 27 144 a6 ?_
                  refine af.pu 29 146 a6 ?_
                  refine af.pu 31 148 a6 ?_
                  refine af.tk 13 130 a6 i1 hHeld ?_
                  refine af.pu 15 132 a6 ?_
                  refine af.tk 23 140 a6 i1 hHeld ?_
                  refine af.pu 25 142 a6 ?_
                  refine af.pu 26 143 a6 ?_
                  refine af.pu 28 145 a6 ?_
                  refine af.pu 30 147 a6 ?_
                  refine af.pu 32 149 a6 ?_
                  refine af.pu 33 150 a6 ?_
                  refine lY (i:=34) (N:=none) #[true,true,true,true,true,true,true,true,true,true,true,true,true,true,true,true,true,true,true,true,true,true,true,true,true,true,true,true,true,true,true,true,true,true,true] rfl rfl (dD a6.out (by kernel_rfl)) (by decide) (fun K hK=>?_)
                  refine mL (w1:=?_) (by rfl) rfl ?_ ?_
                  rotate_left
                  ·go_simp
                   rfl
                  refine hK.out _ _ ?_
                  clear hK K
                  refine gh (er a6.out (by kernel_rfl)) ?_
                  try go_wp2
                  (try simp only [← aB])
                  go_roundg k5
                  case measure=>have:=aF.out;have:=aL.out;have:=cb.out;have:=df.out;have:=es.out;omega
                  case rel=>exact ⟨(ea),(wrap64 (a8+1)),af.F,H',⟨by have:=aF.out;have:=aL.out;have:=cb.out;have:=df.out;have:=es.out;omega⟩,⟨by (try simp only [aB]);(with_reducible repeat (first | apply Kd.cL | apply Kd.cM | apply Kd.bS));exact fa.out⟩,⟨by repeat (first | (with_reducible first | exact HB.out | apply dH | apply dA | apply bU | refine dK ?_ hZ.out) | exact HB.out)⟩⟩
                ·rw [if_neg dl] at H
                 have g9:decide (a8 < a2) = false:=decide_eq_false dl
                 clear dl
                 have H':=ae.mk H
                 clear H
                 go_wp2
                 (try simp only [← aB])
                 go_roundg k5
                 case measure=>have:=aF.out;have:=aL.out;have:=cb.out;have:=df.out;have:=es.out;omega
                 case rel=>exact ⟨(a3),(wrap64 (a7+1)),af.F,H',⟨by have:=aF.out;have:=aL.out;have:=cb.out;have:=df.out;have:=es.out;omega⟩,⟨by (try simp only [aB]);(with_reducible repeat (first | apply Kd.cL | apply Kd.cM | apply Kd.bS));exact j.out⟩,⟨af.Lw HB.out⟩⟩
             ·rw [if_neg dk] at H
              have g4:decide (a7 < a1) = false:=decide_eq_false dk
              clear dk
              have H':=ae.mk H
              clear H
              go_wp2
              go_roundg k4
              case measure=>have:=aF.out;have:=aL.out;have:=cb.out;have:=df.out;omega
              case rel=>exact ⟨(M),(wrap64 (y+1)),(wrap64 (z+1)),af.F,af.F,H',⟨by have:=aF.out;have:=aL.out;have:=cb.out;have:=df.out;omega⟩,⟨af.Rw j.out⟩,⟨af.Lw HB.out⟩⟩
    ·replace ee:=Bool.eq_false_iff.mpr ee
     subst ee
     replace H:(aD.l0 k1 a0 a1 a2 a4 Y y (wrap64 (z+1))) = some r:=by rw [if_neg (show ¬ (false = true) by decide)] at H;exact H
     have H':=ae.mk H
     clear H
     go_wp2_with (first | (refine af.gl (some 31) Tryz.func89 #[.int .i64 a4,.int .i64 z] ?_;(with_reducible refine (cv.calls a4 z false _ hj.out).mono ?_);rintro e w' ⟨rfl,⟨nd,rfl⟩⟩;refine ⟨_,rfl,?_⟩))
     go_roundg k1
     case measure=>have:=aF.out;omega
     case rel=>exact ⟨(Y),(y),(wrap64 (z+1)),af.F,af.F,H',⟨by have:=aF.out;omega⟩,⟨af.Rw j.out⟩,⟨af.Lw HB.out⟩⟩
   ·rw [if_neg gz] at H
    have fj:decide (z < a2) = false:=decide_eq_false gz
    clear gz
    obtain rfl:=Option.some.inj H
    go_wp2
    go_ret
    exact ⟨af.E,af.L⟩
def cn.l0:Nat→Int→Int→Int→List Int→Int→Int→Int→List Int→Option (Int×List Int)
 | 0,_,_,_,_,_,_,_,_=>none
 | k+1,x0,x1,x2,x3,M,z,y,j=>(br.f x2).bind fun X=>(if z≤X then ((b6.f k z).bind fun Y=>(if Y = M then ((aD.f k x0 x1 x2 x3 z).bind fun a0=>(if a0 = M then (if j.length < 17592186044416 then (cn.l0 k x0 x1 x2 x3 M (wrap64 (z+1)) y (j ++ [z])) else (none)) else (cn.l0 k x0 x1 x2 x3 M (wrap64 (z+1)) y j))) else (cn.l0 k x0 x1 x2 x3 M (wrap64 (z+1)) y j))) else (some (y,j)))
def cn.f (k:Nat) (a0:Int) (z:Int) (a2:Int) (l3:List Int):Option (Int×List Int):=(br.f a2).bind fun j=>((aD.f k a0 z a2 l3 j).bind fun y=>(cn.l0 k a0 z a2 l3 y 0 a2 ([]:List Int)))
set_option maxHeartbeats 8000000 in
set_option maxRecDepth 100000 in
theorem cn.calls (k:Nat) (a0:Int) (a1:Int) (a2:Int) (A3:Option Addr) (c3:Nat) (l3:List Int) (r1:Int) (r2:List Int) (w:World) (cy:Kd.C (Kd.int .i64) w A3 l3.length l3) (cX:l3.length≤c3) (h:cn.f k a0 a1 a2 l3 = some (r1,r2)) :
  Calls Tryz.prog 178 #[.int .i64 a0,.int .i64 a1,.int .i64 a2,.slice A3 l3.length c3] w fun e w'=>∃ cY:Value,e = .returned (.agg #[.int .i64 r1,cY])∧Kd.R (Kd.int .i64) 3 w' w.heap.size (fun _=>True) cY r2∧Below w.heap.size w w':=by
 have ef:=Tryz.underlying30
 have ca:=ae.mk cy
 have cb:=ae.mk cX
 clear cy cX
 have HB:=ae.mk (Below.refl w.heap.size w)
 unfold cn.f at h
 have H:=h
 clear h
 obtain ⟨b1,A5,H⟩:=af.be H
 (try dsimp only at H)
 obtain ⟨a5,A6,H⟩:=af.be H
 (try dsimp only at H)
 have H':=ae.mk H
 clear H
 go_enter Tryz.func178,Tryz.ntmps178
 go_wp2_with (first | ((with_reducible refine bJ (N:=8) rfl ?_);refine af.bx 8 #[.int .i64 0,.slice none 0 0] 30 ?_;intro a3 hg w7 hbox hb;have j:=ae.mk hbox;have e2:=af.gw hg HB;have e3:=af.gw hg HB;replace HB:=af.lb HB hb;clear hb hbox hg) | ((with_reducible refine bJ (N:=9) rfl ?_);refine af.bx 9 #[.int .i64 0,.slice none 0 0] 30 ?_;intro a4 hg w8 hbox hb;have y:=ae.mk hbox;have e4:=af.gL (w:=w) hg af.L;have e8:=af.gL (w:=w) hg af.L;replace HB:=ae.mk (az af.L hb);have a6:=af.nl hg j;have a7:=af.ng hg j;replace j:=af.bb j hb;clear hb hbox hg;have eg:=a7.out;have eh:=a6.out;obtain ⟨d0,d1,d2,d3⟩:=af.bR y.out) | ((with_reducible refine ax (f:=24) rfl ?_);refine af.gl (some 19) Tryz.func24 #[.int .i64 a2] ?_;(with_reducible refine (br.calls a2 b1 _ A5.out).mono ?_);rintro e w' ⟨rfl,⟨nd,rfl⟩⟩;refine ⟨_,rfl,?_⟩) | ((with_reducible refine ax (f:=187) rfl ?_);refine af.gl (some 20) Tryz.func187 #[.int .i64 a0,.int .i64 a1,.int .i64 a2,.slice A3 l3.length c3,.int .i64 b1] ?_;(with_reducible refine (aD.calls k a0 a1 a2 _ _ l3 b1 a5 _ ?side1 ?side2 A6.out).mono ?_);(case side1=>exact Kd.bG ca.out af.L);(case side2=>exact cb.out);rintro e ej ⟨rfl,hb⟩;refine ⟨_,rfl,?_⟩;replace j:=ae.mk (bQ (g:=a3) (o:=.cells #[.int .i64 0,.slice none 0 0] 30 (0,0)) af.B hb);replace y:=ae.mk (bQ (g:=a4) (o:=.cells #[.int .i64 a2,.slice none 0 0] 30 (0,0)) af.B hb);replace HB:=ae.mk (az af.L hb);(try clear hb);(try clear d4);(try clear hk);(try clear hi)))
 go_loopg [11] k (fun kq v11 w'=>∃ (Y:Int) (X:List Int) (M:Value),v11 = .int .i64 Y∧ae (cn.l0 kq a0 a1 a2 l3 a5 Y a2 X = some (r1,r2))∧ae (kq≤k)∧ae (Kd.R (Kd.int .i64) 3 w' w.heap.size (fun _=>True) M X)∧ae (w'.heap[a3]? = some (.cells #[.int .i64 0,(.slice none 0 0)] 30 (0,0)))∧ae (w'.heap[a4]? = some (.cells #[.int .i64 a2,M] 30 (0,0)))∧ae (Below w.heap.size w w'))
 case atStart=>exact ⟨(0),(([]:List Int)),(.slice none 0 0),af.F,H',⟨Nat.le_refl _⟩,⟨af.N⟩,⟨af.Bw j.out⟩,⟨af.Bw y.out⟩,⟨af.L⟩⟩
 case round =>
  clear H'
  obtain ⟨Y,X,M,rfl,HA,ba,z,j,y,HB⟩:=hrel
  cases gk with
  | zero=>exact absurd HA.out (by simp [cn.l0])
  | succ k1 =>
   have H:=HA.out
   clear HA
   simp only [cn.l0] at H
   obtain ⟨ab,bd,H⟩:=af.be H
   (try dsimp only at H)
   by_cases bc:Y≤ab
   ·rw [if_pos bc] at H
    have cc:=decide_eq_true bc
    clear bc
    obtain ⟨a8,cd,H⟩:=af.be H
    (try dsimp only at H)
    by_cases b2:a8 = a5
    ·rw [if_pos b2] at H
     have ce:(a8 == a5) = true:=beq_iff_eq.mpr b2
     have cf:(a8 != a5) = false:=bne_eq_false_iff_eq.mpr b2
     clear b2
     obtain ⟨aa,d5,H⟩:=af.be H
     (try dsimp only at H)
     by_cases b3:aa = a5
     ·rw [if_pos b3] at H
      have ci:(aa == a5) = true:=beq_iff_eq.mpr b3
      have cp:(aa != a5) = false:=bne_eq_false_iff_eq.mpr b3
      clear b3
      obtain ⟨d6,H⟩:=af.ip H
      have cx:=ae.mk d6
      clear d6
      obtain ⟨aS,b0⟩:∃ y_:List Int,y_ = (X ++ [Y]):=⟨_,rfl⟩
      replace H:(cn.l0 k1 a0 a1 a2 l3 a5 (wrap64 (Y+1)) a2 aS) = some (r1,r2):=by (try rw [b0]);exact af.Z
      have bi:=ae.mk b0
      clear b0
      have H':=ae.mk H
      clear H
      go_wp2_with (first | ((with_reducible refine ax (f:=24) rfl ?_);refine af.gl (some 23) Tryz.func24 #[.int .i64 a2] ?_;(with_reducible refine (br.calls a2 ab _ bd.out).mono ?_);rintro e w' ⟨rfl,⟨nd,rfl⟩⟩;refine ⟨_,rfl,?_⟩;(try (rw [eA wr];generalize a9:World.drewN wr _ = wr;have al:ae (Kd.R (Kd.int .i64) 3 wr w.heap.size (fun _=>True) M X):=⟨by rw [← a9];exact (af.Rw z.out)⟩;have am:ae (wr.heap[a3]? = some (.cells #[.int .i64 0,.slice none 0 0] 30 (0,0))):=⟨by rw [← a9];exact (af.Bw j.out)⟩;have ao:ae (wr.heap[a4]? = some (.cells #[.int .i64 a2,M] 30 (0,0))):=⟨by rw [← a9];exact (af.Bw y.out)⟩;have ap:ae (Below w.heap.size w wr):=⟨by rw [← a9];exact af.L⟩;clear z j y HB a9;have z:=al;have j:=am;have y:=ao;have HB:=ap;clear al am ao ap;have ar:wr.cell? ⟨a3,0,none⟩ = some (.int .i64 0):=(ak j.out 0).trans rfl;have aw:=an j.out 0;have aB:wr.cell? ⟨a3,1,none⟩ = some (.slice none 0 0):=(ak j.out 1).trans rfl;have aF:=an j.out 1;have aL:wr.cell? ⟨a4,0,none⟩ = some (.int .i64 a2):=(ak y.out 0).trans rfl;have aO:=an y.out 0;have aP:wr.cell? ⟨a4,1,none⟩ = some (M):=(ak y.out 1).trans rfl;have aR:=an y.out 1))) | ((with_reducible refine ax (f:=25) rfl ?_);refine af.gl (some 28) Tryz.func25 #[.int .i64 Y] ?_;(with_reducible refine (b6.calls k1 Y a8 _ cd.out).mono ?_);rintro e w' ⟨rfl,⟨nd,rfl⟩⟩;refine ⟨_,rfl,?_⟩;(try (rw [eA wr];generalize a9:World.drewN wr _ = wr;have al:ae (Kd.R (Kd.int .i64) 3 wr w.heap.size (fun _=>True) M X):=⟨by rw [← a9];exact (af.Rw z.out)⟩;have am:ae (wr.heap[a3]? = some (.cells #[.int .i64 0,.slice none 0 0] 30 (0,0))):=⟨by rw [← a9];exact (af.Bw j.out)⟩;have ao:ae (wr.heap[a4]? = some (.cells #[.int .i64 a2,M] 30 (0,0))):=⟨by rw [← a9];exact (af.Bw y.out)⟩;have ap:ae (Below w.heap.size w wr):=⟨by rw [← a9];exact af.L⟩;clear z j y HB a9;have z:=al;have j:=am;have y:=ao;have HB:=ap;clear al am ao ap;have ar:wr.cell? ⟨a3,0,none⟩ = some (.int .i64 0):=(ak j.out 0).trans rfl;have aw:=an j.out 0;have aB:wr.cell? ⟨a3,1,none⟩ = some (.slice none 0 0):=(ak j.out 1).trans rfl;have aF:=an j.out 1;have aL:wr.cell? ⟨a4,0,none⟩ = some (.int .i64 a2):=(ak y.out 0).trans rfl;have aO:=an y.out 0;have aP:wr.cell? ⟨a4,1,none⟩ = some (M):=(ak y.out 1).trans rfl;have aR:=an y.out 1))) | (go_at_call 187;(with_reducible refine (aD.calls k1 a0 a1 a2 _ _ l3 Y aa _ ?side1 ?side2 d5.out).mono ?_);(case side1=>exact af.Cw (Kd.bG ca.out HB.out));(case side2=>exact cb.out);rintro e el ⟨rfl,hb⟩;replace z:=af.rb z hb;replace j:=af.bb j hb;replace y:=af.bb y hb;replace HB:=ae.mk (az af.L hb);(try clear hb);(try clear d4);(try clear hk);(try clear hi);have ea:=a7.out;have eb:=a6.out;obtain ⟨d7,d8,d9,db⟩:=af.bR y.out) | ((with_reducible refine cB (b:=.append) (xs:=#[.tmp 42,.tmp 44]) rfl ?_);at_builtin;refine Kd.fg (Kd.int .i64) (w0:=w) w.heap.size rfl (.tmp 42) (.tmp 44) 28 3 (.int .i64 0) 8 rfl Tryz.underlying28 eJ rfl (by decide) (by omega) M X Y [.int .i64 Y] (fun _=>True) (fun _=>False) rfl rfl (by exact rfl) (fun _ hk=>hk.elim) (by exact fun _ _=>trivial) (by exact af.Rw z.out) (by exact af.L) (by exact aj af.L) (by have:=cx.out;omega) ?_;intro ec em ho hb hg hat;rw [← bi.out] at ho;have al:=ae.mk (ep (g:=a3) (o:=.cells #[.int .i64 0,.slice none 0 0] 30 (0,0)) (af.Bw j.out) hg (Kd.jr z.out j.out (by decide)));have am:=ae.mk (ep (g:=a4) (o:=.cells #[.int .i64 a2,M] 30 (0,0)) (af.Bw y.out) hg (Kd.jr z.out y.out (by decide)));have ao:=ae.mk hb;have ap:=ae.mk ho;clear j;clear y;clear HB;clear z;have j:=al;have y:=am;have HB:=ao;have b4:=ap;clear al am ao ap;clear ho hb hg hat;obtain ⟨bm,bo,dd⟩:=Kd.aY b4.out;subst dd;obtain ⟨df,dk,dl,dp⟩:=af.bR y.out))
      go_roundg k1
      case measure=>have:=ba.out;omega
      case rel=>exact ⟨(wrap64 (Y+1)),(aS),(.slice bm aS.length bo),af.F,H',⟨by have:=ba.out;omega⟩,⟨af.Rw (Kd.aX (Kd.cI (p:=⟨a4,1,none⟩) (Kd.cR b4.out y.out (by decide)) (fun _ hk=>hk.2) (.slice bm aS.length bo)) (fun _ hk=>trivial))⟩,⟨af.B⟩,⟨af.B⟩,⟨af.L⟩⟩
     ·rw [if_neg b3] at H
      have ci:(aa == a5) = false:=beq_eq_false_iff_ne.mpr b3
      have cp:(aa != a5) = true:=bne_iff_ne.mpr b3
      have H':=ae.mk H
      clear H
      go_wp2_with (first | ((with_reducible refine ax (f:=24) rfl ?_);refine af.gl (some 23) Tryz.func24 #[.int .i64 a2] ?_;(with_reducible refine (br.calls a2 ab _ bd.out).mono ?_);rintro e w' ⟨rfl,⟨nd,rfl⟩⟩;refine ⟨_,rfl,?_⟩) | ((with_reducible refine ax (f:=25) rfl ?_);refine af.gl (some 28) Tryz.func25 #[.int .i64 Y] ?_;(with_reducible refine (b6.calls k1 Y a8 _ cd.out).mono ?_);rintro e w' ⟨rfl,⟨nd,rfl⟩⟩;refine ⟨_,rfl,?_⟩) | (go_at_call 187;(with_reducible refine (aD.calls k1 a0 a1 a2 _ _ l3 Y aa _ ?side1 ?side2 d5.out).mono ?_);(case side1=>exact af.Cw (Kd.bG ca.out af.L));(case side2=>exact cb.out);rintro e eo ⟨rfl,hb⟩;replace z:=af.rb z hb;replace j:=af.bb j hb;replace y:=af.bb y hb;replace HB:=ae.mk (az af.L hb);(try clear hb);(try clear d4);(try clear hk);(try clear hi)))
      go_roundg k1
      case measure=>have:=ba.out;omega
      case rel=>exact ⟨(wrap64 (Y+1)),(X),(M),af.F,H',⟨by have:=ba.out;omega⟩,⟨af.Rw z.out⟩,⟨af.Bw j.out⟩,⟨af.Bw y.out⟩,⟨af.L⟩⟩
    ·rw [if_neg b2] at H
     have ce:(a8 == a5) = false:=beq_eq_false_iff_ne.mpr b2
     have cf:(a8 != a5) = true:=bne_iff_ne.mpr b2
     have H':=ae.mk H
     clear H
     go_wp2_with (first | ((with_reducible refine ax (f:=24) rfl ?_);refine af.gl (some 23) Tryz.func24 #[.int .i64 a2] ?_;(with_reducible refine (br.calls a2 ab _ bd.out).mono ?_);rintro e w' ⟨rfl,⟨nd,rfl⟩⟩;refine ⟨_,rfl,?_⟩) | ((with_reducible refine ax (f:=25) rfl ?_);refine af.gl (some 28) Tryz.func25 #[.int .i64 Y] ?_;(with_reducible refine (b6.calls k1 Y a8 _ cd.out).mono ?_);rintro e w' ⟨rfl,⟨nd,rfl⟩⟩;refine ⟨_,rfl,?_⟩))
     go_roundg k1
     case measure=>have:=ba.out;omega
     case rel=>exact ⟨(wrap64 (Y+1)),(X),(M),af.F,H',⟨by have:=ba.out;omega⟩,⟨af.Rw z.out⟩,⟨af.Bw j.out⟩,⟨af.Bw y.out⟩,⟨af.L⟩⟩
   ·rw [if_neg bc] at H
    have cc:decide (Y≤ab) = false:=decide_eq_false bc
    clear bc
    simp only [Option.some.injEq,Prod.mk.injEq] at H
    obtain ⟨rfl,rfl⟩:=H
    go_wp2_with (first | ((with_reducible refine ax (f:=24) rfl ?_);refine af.gl (some 23) Tryz.func24 #[.int .i64 a2] ?_;(with_reducible refine (br.calls a2 ab _ bd.out).mono ?_);rintro e w' ⟨rfl,⟨nd,rfl⟩⟩;refine ⟨_,rfl,?_⟩;(try (rw [eA wr];generalize a9:World.drewN wr _ = wr;have al:ae (Kd.R (Kd.int .i64) 3 wr w.heap.size (fun _=>True) M X):=⟨by rw [← a9];exact (af.Rw z.out)⟩;have am:ae (wr.heap[a3]? = some (.cells #[.int .i64 0,.slice none 0 0] 30 (0,0))):=⟨by rw [← a9];exact (af.Bw j.out)⟩;have ao:ae (wr.heap[a4]? = some (.cells #[.int .i64 a2,M] 30 (0,0))):=⟨by rw [← a9];exact (af.Bw y.out)⟩;have ap:ae (Below w.heap.size w wr):=⟨by rw [← a9];exact af.L⟩;clear z j y HB a9;have z:=al;have j:=am;have y:=ao;have HB:=ap;clear al am ao ap;have ar:wr.cell? ⟨a3,0,none⟩ = some (.int .i64 0):=(ak j.out 0).trans rfl;have aw:=an j.out 0;have aB:wr.cell? ⟨a3,1,none⟩ = some (.slice none 0 0):=(ak j.out 1).trans rfl;have aF:=an j.out 1;have aL:wr.cell? ⟨a4,0,none⟩ = some (.int .i64 a2):=(ak y.out 0).trans rfl;have aO:=an y.out 0;have aP:wr.cell? ⟨a4,1,none⟩ = some (M):=(ak y.out 1).trans rfl;have aR:=an y.out 1));have ed:=a7.out;have ee:=a6.out;obtain ⟨dq,dt,du,dv⟩:=af.bR y.out;obtain ⟨dC,dE,dT,e0⟩:=af.bR j.out;obtain ⟨bs,bv,e1⟩:=Kd.aY z.out;subst e1))
    refine bodyPost_ret (results_cell_row rfl _ _ a3 30 #[.int .i64 a2,.slice bs X.length bv] (0,0) _ rfl af.B Tryz.underlying30 rfl (by kernel_rfl)) rfl ?_
    exact ⟨_,af.E,by (with_reducible repeat (first | apply Kd.cL | apply Kd.cM | apply Kd.bS));exact Kd.aX (Kd.cI (p:=⟨a3,1,none⟩) (Kd.cI (p:=⟨a3,0,none⟩) (Kd.cR z.out j.out (by decide)) (fun _ hk=>hk.2) (.int .i64 a2)) (fun _ hk=>hk.2) (.slice bs X.length bv)) (fun _ hk=>trivial),af.L⟩
def bY.l0:Nat→Int→Int→Int→List Int→Int→List Int→Int→Int→Option (Int×List Int×Int×Int)
 | 0,_,_,_,_,_,_,_,_=>none
 | k+1,Y,x5,x6,x7,x8,z,M,X=>if x8 < (wrap64 (x6 * Y)) then ((aM.f z M X x5).bind fun j=>(if x7.length < 17592186044416 then (bY.l0 k Y x5 x6 (x7 ++ [j.1]) (wrap64 (x8+1)) z j.2.1 j.2.2) else (none))) else ((cn.f k x5 x6 Y x7).bind fun y=>(some (y.1,y.2,M,X)))
def bY.f (k:Nat) (z:List Int) (M:Int) (X:Int) (Y:Int):Option (Int×List Int×Int×Int):=(cK.f z M X (([2,3,5,2]:List Int))).bind fun j=>((aM.f z j.2.1 j.2.2 3).bind fun y=>(bY.l0 k Y j.1 (wrap64 (1+y.1)) (([]:List Int)) 0 z y.2.1 y.2.2))
set_option maxHeartbeats 8000000 in
set_option maxRecDepth 100000 in
theorem bY.calls (k:Nat) (g:Nat) (X:List Int) (a7:Int) (a8:Int) (a1:Int) (r1:Int) (r2:List Int) (r3:Int) (r4:Int) (w0 w:World) (hI:av w0 w g X a7 a8) (hB:Below w0.heap.size w0 w) (h:bY.f k X a7 a8 a1 = some (r1,r2,r3,r4)) :
  Calls Tryz.prog 165 #[.pointer (some ⟨g,0,none⟩),.int .i64 a1] w fun e w'=>∃ cx:Value,e = .returned (.agg #[.int .i64 r1,cx])∧Kd.R (Kd.int .i64) 3 w' w.heap.size (fun _=>True) cx r2∧av w0 w' g X r3 r4∧Below w0.heap.size w0 w'∧aq w w' g none:=by
 have e3:=Tryz.underlying30
 have a6:=ae.mk hI
 have HK:=ae.mk (aq.refl w g none)
 have HL:=ae.mk hB.size
 clear hI
 have dl:=ae.mk hB.size
 have HB:=ae.mk hB
 clear hB
 unfold bY.f at h
 have H:=h
 clear h
 obtain ⟨aB,al⟩:∃ y_:List Int,y_ = (([2,3,5,2]:List Int)):=⟨_,rfl⟩
 replace H:((cK.f X a7 a8 aB).bind fun am=>((aM.f X am.2.1 am.2.2 3).bind fun ao=>(bY.l0 k a1 am.1 (wrap64 (1+ao.1)) (([]:List Int)) 0 X ao.2.1 ao.2.2))) = some (r1,r2,r3,r4):=by (try rw [al]);exact af.Z
 have b3:=ae.mk al
 clear al
 obtain ⟨⟨a0,aF,aL⟩,A3,H⟩:=af.be H
 (try dsimp only at H)
 obtain ⟨⟨a2,aO,aP⟩,A4,H⟩:=af.be H
 (try dsimp only at H)
 obtain ⟨bi,ap⟩:∃ y_:List Int,y_ = (([]:List Int)):=⟨_,rfl⟩
 replace H:(bY.l0 k a1 a0 (wrap64 (1+a2)) bi 0 X aO aP) = some (r1,r2,r3,r4):=by (try rw [ap]);exact af.Z
 have b4:=ae.mk ap
 clear ap
 have H':=ae.mk H
 clear H
 go_enter Tryz.func165,Tryz.ntmps165
 go_wp2_with (first | (refine af.bx 4 #[.int .i64 0,.slice none 0 0] 30 ?_;intro y hg w5 hbox hb;replace HB:=ae.mk (az (af.J HB) hb);have j:=ae.mk hbox;have df:=ae.mk ((by rw [hg];exact (bj (w:=w) (g:=g) (row:=none) (af.K HK)):w.heap.size≤y));have dk:=ae.mk ((Nat.le_trans dl.out (by rw [hg];exact (bj (w:=w) (g:=g) (row:=none) (af.K HK)):w.heap.size≤y):w0.heap.size≤y));replace HK:=ae.mk (aq.trans (af.K HK) (aq.cW hb g none) (.inl rfl));have bc:=ae.mk ((by rw [hg];exact Nat.ne_of_lt (av.lt (show av w0 _ g X a7 a8 from af.I)):g≠y));have a5:=ae.mk ((by rw [hg];exact Nat.ne_of_gt (av.lt (show av w0 _ g X a7 a8 from af.I)):y≠g));replace a6:=ae.mk (av.below af.I hb);clear hb hbox hg) | ((with_reducible refine bJ (N:=10) rfl ?_);refine Kd.iY (Kd.int .i64) _ 3 ?hg (N:=10) ?hd (xs:=([2,3,5,2]:List Int)) (inner:=[.int .i64 2,.int .i64 3,.int .i64 5,.int .i64 2]) (ok:=fun _=>True) (okp:=fun _=>True) ?hr ?hp (fun _ hk=>hk) trivial (Below.refl _ _) (Nat.le_refl _) (by simp) ?_;(case hd=>rfl);(case hg=>rfl);(case hr=>first | (go_simp;done) | (go_simp;rfl));(case hp=>exact (cE.one (show Kd.M (Kd.int .i64) _ _ _ 2 [.int .i64 2] from rfl) (cE.one (show Kd.M (Kd.int .i64) _ _ _ 3 [.int .i64 3] from rfl) (cE.one (show Kd.M (Kd.int .i64) _ _ _ 5 [.int .i64 5] from rfl) (cE.one (show Kd.M (Kd.int .i64) _ _ _ 2 [.int .i64 2] from rfl) (cE.none _ _))))));intro dp w6 bm hb cd aR;clear cd aR;(first | rw [← b3.out] at bm | (simp only [Int.reduceToNat] at bm;rw [← b3.out] at bm));have z:=ae.mk (Kd.b9 bm (bj (w:=w) (g:=g) (row:=none) (af.K HK)));replace j:=af.bb j hb;replace HK:=ae.mk (aq.trans (af.K HK) (aq.cW hb g none) (.inl rfl));replace HB:=ae.mk (az (af.J HB) hb);replace a6:=ae.mk (av.below af.I hb);clear hb bm;obtain ⟨dq,dt,du⟩:=Kd.aY z.out;subst du) | (refine af.gl (some 11) Tryz.func119 #[.pointer (some ⟨g,0,none⟩),.slice dq aB.length dt] ?_;(with_reducible refine (cK.calls g X a7 a8 _ _ aB a0 aF aL w0 _ ?side1 ?side2 ?side3 ?side4 ?side5 A3.out).mono ?_);(case side1=>exact af.I);(case side2=>exact af.J HB);(case side3=>exact af.Cw ((Kd.au z.out).2.2));(case side4=>exact (Kd.au z.out).2.1);(case side5=>exact js (av.hJ a6.out z.out (by decide)));rintro e w9 ⟨rfl,hi,hb,hk⟩;refine ⟨_,rfl,?_⟩;replace j:=ae.mk (aq.blk hk (g':=y) (o:=.cells #[.int .i64 0,.slice none 0 0] 30 (0,0)) (af.Bw j.out) a5.out (by simp));replace z:=ae.mk (Kd.aX (Kd.fR (av.apart (show av w0 _ g X a7 a8 from af.I) (af.Rw z.out) (by decide)) hk (fun _ h=>h.2)) (fun _ h=>h.1));replace HK:=ae.mk (aq.trans (af.K HK) hk (.inl rfl));replace HB:=ae.mk hb;replace a6:=ae.mk hi;(try clear hb);(try clear ce);(try clear hk);(try clear hi)) | (refine af.gl (some 13) Tryz.func80 #[.pointer (some ⟨g,0,none⟩),.int .i64 3] ?_;(with_reducible refine (aM.calls g X aF aL 3 a2 aO aP w0 _ ?side1 ?side2 A4.out).mono ?_);(case side1=>exact af.I);(case side2=>exact af.J HB);rintro e e4 ⟨rfl,hi,hb,hk⟩;refine ⟨_,rfl,?_⟩;replace j:=ae.mk (aq.blk hk (g':=y) (o:=.cells #[.int .i64 0,.slice none 0 0] 30 (0,0)) (af.Bw j.out) a5.out (by simp));replace z:=ae.mk (Kd.aX (Kd.fR (av.apart (show av w0 _ g X aF aL from af.I) (af.Rw z.out) (by decide)) hk (fun _ h=>h.2)) (fun _ h=>h.1));replace HK:=ae.mk (aq.trans (af.K HK) hk (.inl rfl));replace HB:=ae.mk hb;replace a6:=ae.mk hi;(try clear hb);(try clear ce);(try clear hk);(try clear hi)) | (refine af.lt (Kd.int .i64) 3 15 ?_;intro dv e8 ab hb cd aR;clear cd aR;(first | rw [← b4.out] at ab | (simp only [Int.reduceToNat] at ab;rw [← b4.out] at ab));have bs:=ae.mk (Kd.b9 (Kd.dc ab (Kd.cD (af.Rw z.out))) (bj (w:=w) (g:=g) (row:=none) (af.K HK)));replace z:=ae.mk (Kd.cm (af.Rw z.out) (Kd.bF ab) hb);replace j:=af.bb j hb;replace HK:=ae.mk (aq.trans (af.K HK) (aq.cW hb g none) (.inl rfl));replace HB:=ae.mk (az (af.J HB) hb);replace a6:=ae.mk (av.below af.I hb);clear hb ab))
 go_loopg [7,8] k (fun kq v7 v8 w'=>∃ (a9:List Int) (aa:Int) (a3:Int) (a4:Int),v8 = .int .i64 aa∧ae (bY.l0 kq a1 a0 (wrap64 (1+a2)) a9 aa X a3 a4 = some (r1,r2,r3,r4))∧ae (kq≤k)∧ae (Kd.R (Kd.int .i64) 3 w' w.heap.size (fun _=>True) v7 a9)∧ae (w'.heap[y]? = some (.cells #[.int .i64 0,(.slice none 0 0)] 30 (0,0)))∧ae (av w0 w' g X a3 a4)∧ae (aq w w' g none)∧ae (Below w0.heap.size w0 w'))
 case atStart=>exact ⟨(bi),(0),(aO),(aP),af.F,H',⟨Nat.le_refl _⟩,⟨af.Rw (Kd.aX bs.out (fun _ hk=>trivial))⟩,⟨af.Bw j.out⟩,⟨af.I⟩,⟨af.K HK⟩,⟨af.J HB⟩⟩
 case round =>
  clear H'
  obtain ⟨a9,aa,a3,a4,rfl,HA,cy,Y,j,a6,HK,HB⟩:=hrel
  cases gk with
  | zero=>exact absurd HA.out (by simp [bY.l0])
  | succ k1 =>
   have H:=HA.out
   clear HA
   simp only [bY.l0] at H
   by_cases bd:aa < (wrap64 ((wrap64 (1+a2)) * a1))
   ·rw [if_pos bd] at H
    have cf:=decide_eq_true bd
    clear bd
    obtain ⟨⟨ar,aS,b0⟩,dC,H⟩:=af.be H
    (try dsimp only at H)
    obtain ⟨cX,H⟩:=af.ip H
    have ci:=ae.mk cX
    clear cX
    obtain ⟨bo,aw⟩:∃ y_:List Int,y_ = (a9 ++ [ar]):=⟨_,rfl⟩
    replace H:(bY.l0 k1 a1 a0 (wrap64 (1+a2)) bo (wrap64 (aa+1)) X aS b0) = some (r1,r2,r3,r4):=by (try rw [aw]);exact af.Z
    have bv:=ae.mk aw
    clear aw
    have H':=ae.mk H
    clear H
    go_wp2_with (first | (refine af.gl (some 26) Tryz.func80 #[.pointer (some ⟨g,0,none⟩),.int .i64 a0] ?_;(with_reducible refine (aM.calls g X a3 a4 a0 ar aS b0 w0 _ ?side1 ?side2 dC.out).mono ?_);(case side1=>exact af.I);(case side2=>exact af.J HB);rintro e ea ⟨rfl,hi,hb,hk⟩;refine ⟨_,rfl,?_⟩;replace Y:=ae.mk (Kd.aX (Kd.fR (av.apart (show av w0 _ g X a3 a4 from af.I) (af.Rw Y.out) (by decide)) hk (fun _ h=>h.2)) (fun _ h=>h.1));replace j:=ae.mk (aq.blk hk (g':=y) (o:=.cells #[.int .i64 0,.slice none 0 0] 30 (0,0)) (af.Bw j.out) a5.out (by simp));replace HK:=ae.mk (aq.trans (af.K HK) hk (.inl rfl));replace HB:=ae.mk hb;replace a6:=ae.mk hi;(try clear hb);(try clear ce);(try clear hk);(try clear hi)) | ((with_reducible refine cB (b:=.append) (xs:=#[.tmp 23,.tmp 27]) rfl ?_);at_builtin;refine Kd.fg (Kd.int .i64) w.heap.size rfl (.tmp 23) (.tmp 27) 28 3 (.int .i64 0) 8 rfl Tryz.underlying28 eJ rfl (by decide) (by omega) u7 a9 ar [.int .i64 ar] (fun _=>True) (fun _=>False) rfl rfl (by exact rfl) (fun _ hk=>hk.elim) (by exact fun _ _=>trivial) (by exact af.Rw Y.out) (Below.refl _ _) (by exact bj (w:=w) (g:=g) (row:=none) (af.K HK)) (by have:=ci.out;omega) ?_;intro dE eb ho hb hg hat;rw [← bv.out] at ho;have cY:=ae.mk (ep (g:=y) (o:=.cells #[.int .i64 0,.slice none 0 0] 30 (0,0)) (af.Bw j.out) hg (Kd.jr Y.out j.out (by decide)));have d0:=ae.mk (av.grown af.I hg (av.hJ a6.out Y.out (by decide)));have d1:=ae.mk (gu (af.J HB) HL.out hb);have d2:=ae.mk (aq.trans (af.K HK) (aq.ia hg g) (Kd.jF Y.out));have d3:=ae.mk ho;clear j;clear a6;clear HB;clear HK;clear Y;have j:=cY;have a6:=d0;have HB:=d1;have HK:=d2;have ca:=d3;clear cY d0 d1 d2 d3;clear ho hb hg hat))
    go_roundg k1
    case measure=>have:=cy.out;omega
    case rel=>exact ⟨(bo),(wrap64 (aa+1)),(aS),(b0),af.F,H',⟨by have:=cy.out;omega⟩,⟨af.Rw ca.out⟩,⟨af.Bw j.out⟩,⟨af.I⟩,⟨af.K HK⟩,⟨af.J HB⟩⟩
   ·rw [if_neg bd] at H
    have cf:decide (aa < (wrap64 ((wrap64 (1+a2)) * a1))) = false:=decide_eq_false bd
    clear bd
    obtain ⟨⟨b1,b2⟩,dT,H⟩:=af.be H
    (try dsimp only at H)
    simp only [Option.some.injEq,Prod.mk.injEq] at H
    obtain ⟨rfl,rfl,rfl,rfl⟩:=H
    obtain ⟨d4,d5,d6⟩:=Kd.aY Y.out
    subst d6
    go_wp2_with (first | (refine af.gl (some 33) Tryz.func178 #[.int .i64 a0,.int .i64 (wrap64 (1+a2)),.int .i64 a1,.slice d4 a9.length d5] ?_;(with_reducible refine (cn.calls k1 a0 (wrap64 (1+a2)) a1 _ _ a9 b1 b2 _ ?side1 ?side2 dT.out).mono ?_);(case side1=>exact af.Cw ((Kd.au Y.out).2.2));(case side2=>exact (Kd.au Y.out).2.1);rintro e ec ⟨e0,rfl,cp,hb⟩;refine ⟨_,rfl,?_⟩;have ba:=ae.mk (Kd.b9 (Kd.dc cp (Kd.cD (af.Rw Y.out))) (bj (w:=w) (g:=g) (row:=none) (af.K HK)));replace Y:=ae.mk (Kd.cm (af.Rw Y.out) (Kd.bF cp) hb);replace j:=af.bb j hb;replace HK:=ae.mk (aq.trans (af.K HK) (aq.cW hb g none) (.inl rfl));replace HB:=ae.mk (az (af.J HB) hb);replace a6:=ae.mk (av.below af.I hb);(try clear hb);(try clear ce);(try clear hk);(try clear hi);(try clear cp);have e1:=a5.out;have e2:=bc.out;obtain ⟨d7,d8,d9,db⟩:=af.bR j.out;obtain ⟨cb,cc,dd⟩:=Kd.aY ba.out;subst dd))
    refine bodyPost_ret (results_cell_row rfl _ _ y 30 #[.int .i64 b1,.slice cb b2.length cc] (0,0) _ rfl af.B Tryz.underlying30 rfl (by kernel_rfl)) rfl ?_
    exact ⟨_,af.E,by (with_reducible repeat (first | apply Kd.cL | apply Kd.cM | apply Kd.bS));exact Kd.aX (Kd.cI (p:=⟨y,1,none⟩) (Kd.cI (p:=⟨y,0,none⟩) (Kd.cR ba.out j.out (by decide)) (fun _ hk=>hk.2) (.int .i64 b1)) (fun _ hk=>hk.2) (.slice cb b2.length cc)) (fun _ hk=>trivial),af.I,af.J HB,af.K HK⟩
def eC.f (k:Nat) (z:List Int) (a5:Int) (a6:Int) (a1:Int):Option (Int×List Int×Int×Int):=(aM.f z a5 a6 6).bind fun j=>(if j.1 = 0 then ((aM.f z j.2.1 j.2.2 (wrap64 (a1+1))).bind fun M=>((aM.f z M.2.1 M.2.2 (wrap64 (M.1+1))).bind fun a0=>((bT.f k a0.1 M.1).bind fun a4=>(some (a4.1,a4.2,a0.2.1,a0.2.2))))) else (if j.1 = 1 then ((eM.f k z j.2.1 j.2.2).bind fun y=>(if y.1≤a1 then (some (y.1,y.2.1,y.2.2.1,y.2.2.2)) else ((aM.f z y.2.2.1 y.2.2.2 (wrap64 (a1+1))).bind fun a2=>((bY.f k z a2.2.1 a2.2.2 a2.1).bind fun X=>(some (X.1,X.2.1,X.2.2.1,X.2.2.2)))))) else ((aM.f z j.2.1 j.2.2 (wrap64 (a1+1))).bind fun a3=>((bY.f k z a3.2.1 a3.2.2 a3.1).bind fun Y=>(some (Y.1,Y.2.1,Y.2.2.1,Y.2.2.2))))))
set_option maxHeartbeats 8000000 in
set_option maxRecDepth 100000 in
theorem eC.calls (k:Nat) (g:Nat) (M:List Int) (a3:Int) (a4:Int) (a1:Int) (r1:Int) (r2:List Int) (r3:Int) (r4:Int) (w0 w:World) (hI:av w0 w g M a3 a4) (hB:Below w0.heap.size w0 w) (h:eC.f k M a3 a4 a1 = some (r1,r2,r3,r4)) :
  Calls Tryz.prog 139 #[.pointer (some ⟨g,0,none⟩),.int .i64 a1] w fun e w'=>∃ e4:Value,e = .returned (.agg #[.int .i64 r1,e4])∧Kd.R (Kd.int .i64) 3 w' w.heap.size (fun _=>True) e4 r2∧av w0 w' g M r3 r4∧Below w0.heap.size w0 w'∧aq w w' g none:=by
 have go:=Tryz.underlying30
 have a6:=ae.mk hI
 have HK:=ae.mk (aq.refl w g none)
 have HL:=ae.mk hB.size
 clear hI
 have cb:=ae.mk hB.size
 have HB:=ae.mk hB
 clear hB
 unfold eC.f at h
 have H:=h
 clear h
 obtain ⟨⟨a0,ab,al⟩,A3,H⟩:=af.be H
 (try dsimp only at H)
 by_cases c4:a0 = 0
 ·rw [if_pos c4] at H
  have e8:(a0 == 0) = true:=beq_iff_eq.mpr c4
  have ea:(a0 != 0) = false:=bne_eq_false_iff_eq.mpr c4
  clear c4
  obtain ⟨⟨aF,cd,ce⟩,A5,H⟩:=af.be H
  (try dsimp only at H)
  obtain ⟨⟨aS,dt,du⟩,A6,H⟩:=af.be H
  (try dsimp only at H)
  obtain ⟨⟨b0,b1⟩,A7,H⟩:=af.be H
  (try dsimp only at H)
  simp only [Option.some.injEq,Prod.mk.injEq] at H
  obtain ⟨rfl,rfl,rfl,rfl⟩:=H
  go_enter Tryz.func139,Tryz.ntmps139
  go_wp2_with (first | (refine af.bx 4 #[.int .i64 0,.slice none 0 0] 30 ?_;intro j hg w8 hbox hb;replace HB:=ae.mk (az (af.J HB) hb);have y:=ae.mk hbox;have aL:=ae.mk ((by rw [hg];exact (bj (w:=w) (g:=g) (row:=none) (af.K HK)):w.heap.size≤j));have aO:=ae.mk ((Nat.le_trans cb.out (by rw [hg];exact (bj (w:=w) (g:=g) (row:=none) (af.K HK)):w.heap.size≤j):w0.heap.size≤j));replace HK:=ae.mk (aq.trans (af.K HK) (aq.cW hb g none) (.inl rfl));have a2:=ae.mk ((by rw [hg];exact Nat.ne_of_lt (av.lt (show av w0 _ g M a3 a4 from af.I)):g≠j));have z:=ae.mk ((by rw [hg];exact Nat.ne_of_gt (av.lt (show av w0 _ g M a3 a4 from af.I)):j≠g));replace a6:=ae.mk (av.below af.I hb);clear hb hbox hg) | (refine af.gl (some 8) Tryz.func80 #[.pointer (some ⟨g,0,none⟩),.int .i64 6] ?_;(with_reducible refine (aM.calls g M a3 a4 6 a0 ab al w0 _ ?side1 ?side2 A3.out).mono ?_);(case side1=>exact af.I);(case side2=>exact af.J HB);rintro e w9 ⟨rfl,hi,hb,hk⟩;refine ⟨_,rfl,?_⟩;replace y:=ae.mk (aq.blk hk (g':=j) (o:=.cells #[.int .i64 0,.slice none 0 0] 30 (0,0)) (af.Bw y.out) z.out (by simp));replace HK:=ae.mk (aq.trans (af.K HK) hk (.inl rfl));replace HB:=ae.mk hb;replace a6:=ae.mk hi;(try clear hb);(try clear aB);(try clear hk);(try clear hi)) | (refine af.gl (some 14) Tryz.func80 #[.pointer (some ⟨g,0,none⟩),.int .i64 (wrap64 (a1+1))] ?_;(with_reducible refine (aM.calls g M ab al (wrap64 (a1+1)) aF cd ce w0 _ ?side1 ?side2 A5.out).mono ?_);(case side1=>exact af.I);(case side2=>exact af.J HB);rintro e gs ⟨rfl,hi,hb,hk⟩;refine ⟨_,rfl,?_⟩;replace y:=ae.mk (aq.blk hk (g':=j) (o:=.cells #[.int .i64 0,.slice none 0 0] 30 (0,0)) (af.Bw y.out) z.out (by simp));replace HK:=ae.mk (aq.trans (af.K HK) hk (.inl rfl));replace HB:=ae.mk hb;replace a6:=ae.mk hi;(try clear hb);(try clear aB);(try clear hk);(try clear hi)) | (refine af.gl (some 18) Tryz.func80 #[.pointer (some ⟨g,0,none⟩),.int .i64 (wrap64 (aF+1))] ?_;(with_reducible refine (aM.calls g M cd ce (wrap64 (aF+1)) aS dt du w0 _ ?side1 ?side2 A6.out).mono ?_);(case side1=>exact af.I);(case side2=>exact af.J HB);rintro e gt ⟨rfl,hi,hb,hk⟩;refine ⟨_,rfl,?_⟩;replace y:=ae.mk (aq.blk hk (g':=j) (o:=.cells #[.int .i64 0,.slice none 0 0] 30 (0,0)) (af.Bw y.out) z.out (by simp));replace HK:=ae.mk (aq.trans (af.K HK) hk (.inl rfl));replace HB:=ae.mk hb;replace a6:=ae.mk hi;(try clear hb);(try clear aB);(try clear hk);(try clear hi)) | (refine af.gl (some 20) Tryz.func163 #[.int .i64 aS,.int .i64 aF] ?_;(with_reducible refine (bT.calls k aS aF b0 b1 _ A7.out).mono ?_);rintro e h0 ⟨fi,rfl,ar,hb⟩;refine ⟨_,rfl,?_⟩;have bs:=ae.mk (Kd.b9 ar (bj (w:=w) (g:=g) (row:=none) (af.K HK)));replace y:=af.bb y hb;replace HK:=ae.mk (aq.trans (af.K HK) (aq.cW hb g none) (.inl rfl));replace HB:=ae.mk (az (af.J HB) hb);replace a6:=ae.mk (av.below af.I hb);(try clear hb);(try clear aB);(try clear hk);(try clear hi);(try clear ar);have fj:=z.out;have fl:=a2.out;obtain ⟨eb,ec,ed,ee⟩:=af.bR y.out;obtain ⟨dd,df,ef⟩:=Kd.aY bs.out;subst ef))
  refine bodyPost_ret (results_cell_row rfl _ _ j 30 #[.int .i64 b0,.slice dd b1.length df] (0,0) _ rfl af.B Tryz.underlying30 rfl (by kernel_rfl)) rfl ?_
  exact ⟨_,af.E,by (with_reducible repeat (first | apply Kd.cL | apply Kd.cM | apply Kd.bS));exact Kd.aX (Kd.cI (p:=⟨j,1,none⟩) (Kd.cI (p:=⟨j,0,none⟩) (Kd.cR bs.out y.out (by decide)) (fun _ hk=>hk.2) (.int .i64 b0)) (fun _ hk=>hk.2) (.slice dd b1.length df)) (fun _ hk=>trivial),af.I,af.J HB,af.K HK⟩
 ·rw [if_neg c4] at H
  have e8:(a0 == 0) = false:=beq_eq_false_iff_ne.mpr c4
  have ea:(a0 != 0) = true:=bne_iff_ne.mpr c4
  by_cases b2:a0 = 1
  ·rw [if_pos b2] at H
   have dv:(a0 == 1) = true:=beq_iff_eq.mpr b2
   have dC:(a0 != 1) = false:=bne_eq_false_iff_eq.mpr b2
   clear b2
   obtain ⟨⟨a7,am,ao,ap⟩,eg,H⟩:=af.be H
   (try dsimp only at H)
   by_cases cc:a7≤a1
   ·rw [if_pos cc] at H
    have dE:=decide_eq_true cc
    clear cc
    simp only [Option.some.injEq,Prod.mk.injEq] at H
    obtain ⟨rfl,rfl,rfl,rfl⟩:=H
    go_enter Tryz.func139,Tryz.ntmps139
    go_wp2_with (first | (refine af.bx 4 #[.int .i64 0,.slice none 0 0] 30 ?_;intro j hg h6 hbox hb;replace HB:=ae.mk (az (af.J HB) hb);have y:=ae.mk hbox;have aL:=ae.mk ((by rw [hg];exact (bj (w:=w) (g:=g) (row:=none) (af.K HK)):w.heap.size≤j));have aO:=ae.mk ((Nat.le_trans cb.out (by rw [hg];exact (bj (w:=w) (g:=g) (row:=none) (af.K HK)):w.heap.size≤j):w0.heap.size≤j));replace HK:=ae.mk (aq.trans (af.K HK) (aq.cW hb g none) (.inl rfl));have a2:=ae.mk ((by rw [hg];exact Nat.ne_of_lt (av.lt (show av w0 _ g M a3 a4 from af.I)):g≠j));have z:=ae.mk ((by rw [hg];exact Nat.ne_of_gt (av.lt (show av w0 _ g M a3 a4 from af.I)):j≠g));replace a6:=ae.mk (av.below af.I hb);clear hb hbox hg) | (refine af.gl (some 8) Tryz.func80 #[.pointer (some ⟨g,0,none⟩),.int .i64 6] ?_;(with_reducible refine (aM.calls g M a3 a4 6 a0 ab al w0 _ ?side1 ?side2 A3.out).mono ?_);(case side1=>exact af.I);(case side2=>exact af.J HB);rintro e h7 ⟨rfl,hi,hb,hk⟩;refine ⟨_,rfl,?_⟩;replace y:=ae.mk (aq.blk hk (g':=j) (o:=.cells #[.int .i64 0,.slice none 0 0] 30 (0,0)) (af.Bw y.out) z.out (by simp));replace HK:=ae.mk (aq.trans (af.K HK) hk (.inl rfl));replace HB:=ae.mk hb;replace a6:=ae.mk hi;(try clear hb);(try clear aB);(try clear hk);(try clear hi)) | (refine af.gl (some 24) Tryz.func164 #[.pointer (some ⟨g,0,none⟩)] ?_;(with_reducible refine (eM.calls k g M ab al a7 am ao ap w0 _ ?side1 ?side2 eg.out).mono ?_);(case side1=>exact af.I);(case side2=>exact af.J HB);rintro e h8 ⟨dT,rfl,ar,hi,hb,hk⟩;refine ⟨_,rfl,?_⟩;replace y:=ae.mk (aq.blk hk (g':=j) (o:=.cells #[.int .i64 0,.slice none 0 0] 30 (0,0)) (af.Bw y.out) z.out (by simp));have Y:=ae.mk (Kd.b9 ar (bj (w:=w) (g:=g) (row:=none) (af.K HK)));replace HK:=ae.mk (aq.trans (af.K HK) hk (.inl rfl));replace HB:=ae.mk hb;replace a6:=ae.mk hi;(try clear hb);(try clear aB);(try clear hk);(try clear hi);(try clear ar)) | (refine af.bx 6 #[.int .i64 0,.slice none 0 0] 30 ?_;intro X hg h9 hbox hb;have cf:=af.rb Y hb;have ci:=ae.mk (av.below af.I hb);have cp:=af.bb y hb;have cx:=ae.mk (aq.trans (af.K HK) (aq.cW hb g none) (.inl rfl));have cy:=ae.mk (az (af.J HB) hb);have cX:=ae.mk hbox;have cY:=ae.mk ((by rw [hg];exact (bj (w:=w) (g:=g) (row:=none) (af.K HK)):w.heap.size≤X));have d0:=ae.mk ((Nat.le_trans cb.out (by rw [hg];exact (bj (w:=w) (g:=g) (row:=none) (af.K HK)):w.heap.size≤X):w0.heap.size≤X));have d1:=af.nl hg y;have d2:=af.ng hg y;have aP:=ae.mk ((by rw [hg];exact Nat.ne_of_lt (av.lt (show av w0 _ g M ao ap from af.I)):g≠X));have aR:=ae.mk ((by rw [hg];exact Nat.ne_of_gt (av.lt (show av w0 _ g M ao ap from af.I)):X≠g));clear Y;clear a6;clear y;clear HK;clear HB;have Y:=cf;have a6:=ci;have y:=cp;have HK:=cx;have HB:=cy;have a5:=cX;have d9:=cY;have db:=d0;have a9:=d1;have aa:=d2;have aw:=aP;have a8:=aR;clear cf ci cp cx cy cX cY d0 d1 d2 aP aR;clear hb hbox hg;have fp:=aa.out;have fs:=a9.out;have ft:=a8.out;have fw:=aw.out;obtain ⟨eh,ej,el,em⟩:=af.bR a5.out;obtain ⟨d3,d4,eo⟩:=Kd.aY Y.out;subst eo;have fx:=z.out;have fy:=a2.out;obtain ⟨eq,es,et,ev⟩:=af.bR y.out))
    refine bodyPost_ret (results_cell_row rfl _ _ j 30 #[.int .i64 a7,.slice d3 am.length d4] (0,0) _ rfl af.B Tryz.underlying30 rfl (by kernel_rfl)) rfl ?_
    exact ⟨_,af.E,by (with_reducible repeat (first | apply Kd.cL | apply Kd.cM | apply Kd.bS));exact Kd.aX (Kd.cI (p:=⟨j,1,none⟩) (Kd.cI (p:=⟨j,0,none⟩) (Kd.cI (p:=⟨X,1,none⟩) (Kd.cI (p:=⟨X,0,none⟩) (Kd.cR (Kd.cR Y.out a5.out (by decide)) y.out (by decide)) (fun _ hk=>hk.1.2) (.int .i64 a7)) (fun _ hk=>hk.1.2) (.slice d3 am.length d4)) (fun _ hk=>hk.2) (.int .i64 a7)) (fun _ hk=>hk.2) (.slice d3 am.length d4)) (fun _ hk=>trivial),af.I,af.J HB,af.K HK⟩
   ·rw [if_neg cc] at H
    have dE:decide (a7≤a1) = false:=decide_eq_false cc
    clear cc
    obtain ⟨⟨b3,b4,ba⟩,fX,H⟩:=af.be H
    (try dsimp only at H)
    obtain ⟨⟨bc,bd,e0,e1⟩,fY,H⟩:=af.be H
    (try dsimp only at H)
    simp only [Option.some.injEq,Prod.mk.injEq] at H
    obtain ⟨rfl,rfl,rfl,rfl⟩:=H
    go_enter Tryz.func139,Tryz.ntmps139
    go_wp2_with (first | (refine af.bx 4 #[.int .i64 0,.slice none 0 0] 30 ?_;intro j hg hj hbox hb;replace HB:=ae.mk (az (af.J HB) hb);have y:=ae.mk hbox;have aL:=ae.mk ((by rw [hg];exact (bj (w:=w) (g:=g) (row:=none) (af.K HK)):w.heap.size≤j));have aO:=ae.mk ((Nat.le_trans cb.out (by rw [hg];exact (bj (w:=w) (g:=g) (row:=none) (af.K HK)):w.heap.size≤j):w0.heap.size≤j));replace HK:=ae.mk (aq.trans (af.K HK) (aq.cW hb g none) (.inl rfl));have a2:=ae.mk ((by rw [hg];exact Nat.ne_of_lt (av.lt (show av w0 _ g M a3 a4 from af.I)):g≠j));have z:=ae.mk ((by rw [hg];exact Nat.ne_of_gt (av.lt (show av w0 _ g M a3 a4 from af.I)):j≠g));replace a6:=ae.mk (av.below af.I hb);clear hb hbox hg) | (refine af.gl (some 8) Tryz.func80 #[.pointer (some ⟨g,0,none⟩),.int .i64 6] ?_;(with_reducible refine (aM.calls g M a3 a4 6 a0 ab al w0 _ ?side1 ?side2 A3.out).mono ?_);(case side1=>exact af.I);(case side2=>exact af.J HB);rintro e hl ⟨rfl,hi,hb,hk⟩;refine ⟨_,rfl,?_⟩;replace y:=ae.mk (aq.blk hk (g':=j) (o:=.cells #[.int .i64 0,.slice none 0 0] 30 (0,0)) (af.Bw y.out) z.out (by simp));replace HK:=ae.mk (aq.trans (af.K HK) hk (.inl rfl));replace HB:=ae.mk hb;replace a6:=ae.mk hi;(try clear hb);(try clear aB);(try clear hk);(try clear hi)) | (refine af.gl (some 24) Tryz.func164 #[.pointer (some ⟨g,0,none⟩)] ?_;(with_reducible refine (eM.calls k g M ab al a7 am ao ap w0 _ ?side1 ?side2 eg.out).mono ?_);(case side1=>exact af.I);(case side2=>exact af.J HB);rintro e hm ⟨dT,rfl,ar,hi,hb,hk⟩;refine ⟨_,rfl,?_⟩;replace y:=ae.mk (aq.blk hk (g':=j) (o:=.cells #[.int .i64 0,.slice none 0 0] 30 (0,0)) (af.Bw y.out) z.out (by simp));have Y:=ae.mk (Kd.b9 ar (bj (w:=w) (g:=g) (row:=none) (af.K HK)));replace HK:=ae.mk (aq.trans (af.K HK) hk (.inl rfl));replace HB:=ae.mk hb;replace a6:=ae.mk hi;(try clear hb);(try clear aB);(try clear hk);(try clear hi);(try clear ar)) | (refine af.bx 6 #[.int .i64 0,.slice none 0 0] 30 ?_;intro X hg hn hbox hb;have cf:=af.rb Y hb;have ci:=ae.mk (av.below af.I hb);have cp:=af.bb y hb;have cx:=ae.mk (aq.trans (af.K HK) (aq.cW hb g none) (.inl rfl));have cy:=ae.mk (az (af.J HB) hb);have cX:=ae.mk hbox;have cY:=ae.mk ((by rw [hg];exact (bj (w:=w) (g:=g) (row:=none) (af.K HK)):w.heap.size≤X));have d0:=ae.mk ((Nat.le_trans cb.out (by rw [hg];exact (bj (w:=w) (g:=g) (row:=none) (af.K HK)):w.heap.size≤X):w0.heap.size≤X));have d1:=af.nl hg y;have d2:=af.ng hg y;have aP:=ae.mk ((by rw [hg];exact Nat.ne_of_lt (av.lt (show av w0 _ g M ao ap from af.I)):g≠X));have aR:=ae.mk ((by rw [hg];exact Nat.ne_of_gt (av.lt (show av w0 _ g M ao ap from af.I)):X≠g));clear Y;clear a6;clear y;clear HK;clear HB;have Y:=cf;have a6:=ci;have y:=cp;have HK:=cx;have HB:=cy;have a5:=cX;have d9:=cY;have db:=d0;have a9:=d1;have aa:=d2;have aw:=aP;have a8:=aR;clear cf ci cp cx cy cX cY d0 d1 d2 aP aR;clear hb hbox hg;have g0:=aa.out;have g1:=a9.out;have g2:=a8.out;have g3:=aw.out;obtain ⟨ew,ex,eQ,f0⟩:=af.bR a5.out;obtain ⟨d5,d6,f1⟩:=Kd.aY Y.out;subst f1) | (refine af.gl (some 34) Tryz.func80 #[.pointer (some ⟨g,0,none⟩),.int .i64 (wrap64 (a1+1))] ?_;(with_reducible refine (aM.calls g M ao ap (wrap64 (a1+1)) b3 b4 ba w0 _ ?side1 ?side2 fX.out).mono ?_);(case side1=>exact af.I);(case side2=>exact af.J HB);rintro e ho ⟨rfl,hi,hb,hk⟩;refine ⟨_,rfl,?_⟩;replace y:=ae.mk (aq.blk hk (g':=j) (o:=.cells #[.int .i64 0,.slice none 0 0] 30 (0,0)) af.B z.out (by simp));replace Y:=ae.mk (Kd.aX (Kd.fR (av.apart (show av w0 _ g M ao ap from af.I) (af.Rw ((Kd.aX (Kd.cI (p:=⟨X,1,none⟩) (Kd.cI (p:=⟨X,0,none⟩) (Kd.cR Y.out a5.out (by decide)) (fun _ hk=>hk.2) (.int .i64 a7)) (fun _ hk=>hk.2) (.slice d5 am.length d6)) (fun _ h_=>h_.1)))) (by decide)) hk (fun _ h=>h.2)) (fun _ h=>h.1));replace a5:=ae.mk (aq.blk hk (g':=X) (o:=.cells #[.int .i64 a7,.slice d5 am.length d6] 30 (0,0)) af.B a8.out (by simp));replace HK:=ae.mk (aq.trans (af.K HK) hk (.inl rfl));replace HB:=ae.mk hb;replace a6:=ae.mk hi;(try clear hb);(try clear aB);(try clear hk);(try clear hi)) | (refine af.gl (some 35) Tryz.func165 #[.pointer (some ⟨g,0,none⟩),.int .i64 b3] ?_;(with_reducible refine (bY.calls k g M b4 ba b3 bc bd e0 e1 w0 _ ?side1 ?side2 fY.out).mono ?_);(case side1=>exact af.I);(case side2=>exact af.J HB);rintro e hq ⟨g4,rfl,ar,hi,hb,hk⟩;refine ⟨_,rfl,?_⟩;replace y:=ae.mk (aq.blk hk (g':=j) (o:=.cells #[.int .i64 0,.slice none 0 0] 30 (0,0)) (af.Bw y.out) z.out (by simp));replace a5:=ae.mk (aq.blk hk (g':=X) (o:=.cells #[.int .i64 a7,.slice d5 am.length d6] 30 (0,0)) (af.Bw a5.out) a8.out (by simp));have bv:=ae.mk (Kd.b9 (Kd.dc ar (Kd.cD (af.Rw Y.out))) (bj (w:=w) (g:=g) (row:=none) (af.K HK)));replace Y:=ae.mk (Kd.aX (Kd.sv (Kd.su (av.apart (show av w0 _ g M b4 ba from af.I) (af.Rw Y.out) (by decide)) hk) (Kd.bF ar)) (fun _ h_=>h_.1));replace HK:=ae.mk (aq.trans (af.K HK) hk (.inl rfl));replace HB:=ae.mk hb;replace a6:=ae.mk hi;(try clear hb);(try clear aB);(try clear hk);(try clear hi);(try clear ar);have g5:=z.out;have g6:=a2.out;obtain ⟨f2,f3,f4,f5⟩:=af.bR y.out;obtain ⟨dk,dl,f6⟩:=Kd.aY bv.out;subst f6))
    refine bodyPost_ret (results_cell_row rfl _ _ j 30 #[.int .i64 bc,.slice dk bd.length dl] (0,0) _ rfl af.B Tryz.underlying30 rfl (by kernel_rfl)) rfl ?_
    exact ⟨_,af.E,by (with_reducible repeat (first | apply Kd.cL | apply Kd.cM | apply Kd.bS));exact Kd.aX (Kd.cI (p:=⟨j,1,none⟩) (Kd.cI (p:=⟨j,0,none⟩) (Kd.cR bv.out y.out (by decide)) (fun _ hk=>hk.2) (.int .i64 bc)) (fun _ hk=>hk.2) (.slice dk bd.length dl)) (fun _ hk=>trivial),af.I,af.J HB,af.K HK⟩
  ·rw [if_neg b2] at H
   have dv:(a0 == 1) = false:=beq_eq_false_iff_ne.mpr b2
   have dC:(a0 != 1) = true:=bne_iff_ne.mpr b2
   obtain ⟨⟨bi,d7,d8⟩,g7,H⟩:=af.be H
   (try dsimp only at H)
   obtain ⟨⟨bm,bo,e2,e3⟩,g8,H⟩:=af.be H
   (try dsimp only at H)
   simp only [Option.some.injEq,Prod.mk.injEq] at H
   obtain ⟨rfl,rfl,rfl,rfl⟩:=H
   go_enter Tryz.func139,Tryz.ntmps139
   go_wp2_with (first | (refine af.bx 4 #[.int .i64 0,.slice none 0 0] 30 ?_;intro j hg hr hbox hb;replace HB:=ae.mk (az (af.J HB) hb);have y:=ae.mk hbox;have aL:=ae.mk ((by rw [hg];exact (bj (w:=w) (g:=g) (row:=none) (af.K HK)):w.heap.size≤j));have aO:=ae.mk ((Nat.le_trans cb.out (by rw [hg];exact (bj (w:=w) (g:=g) (row:=none) (af.K HK)):w.heap.size≤j):w0.heap.size≤j));replace HK:=ae.mk (aq.trans (af.K HK) (aq.cW hb g none) (.inl rfl));have a2:=ae.mk ((by rw [hg];exact Nat.ne_of_lt (av.lt (show av w0 _ g M a3 a4 from af.I)):g≠j));have z:=ae.mk ((by rw [hg];exact Nat.ne_of_gt (av.lt (show av w0 _ g M a3 a4 from af.I)):j≠g));replace a6:=ae.mk (av.below af.I hb);clear hb hbox hg) | (refine af.gl (some 8) Tryz.func80 #[.pointer (some ⟨g,0,none⟩),.int .i64 6] ?_;(with_reducible refine (aM.calls g M a3 a4 6 a0 ab al w0 _ ?side1 ?side2 A3.out).mono ?_);(case side1=>exact af.I);(case side2=>exact af.J HB);rintro e ht ⟨rfl,hi,hb,hk⟩;refine ⟨_,rfl,?_⟩;replace y:=ae.mk (aq.blk hk (g':=j) (o:=.cells #[.int .i64 0,.slice none 0 0] 30 (0,0)) (af.Bw y.out) z.out (by simp));replace HK:=ae.mk (aq.trans (af.K HK) hk (.inl rfl));replace HB:=ae.mk hb;replace a6:=ae.mk hi;(try clear hb);(try clear aB);(try clear hk);(try clear hi)) | (refine af.gl (some 34) Tryz.func80 #[.pointer (some ⟨g,0,none⟩),.int .i64 (wrap64 (a1+1))] ?_;(with_reducible refine (aM.calls g M ab al (wrap64 (a1+1)) bi d7 d8 w0 _ ?side1 ?side2 g7.out).mono ?_);(case side1=>exact af.I);(case side2=>exact af.J HB);rintro e hu ⟨rfl,hi,hb,hk⟩;refine ⟨_,rfl,?_⟩;replace y:=ae.mk (aq.blk hk (g':=j) (o:=.cells #[.int .i64 0,.slice none 0 0] 30 (0,0)) (af.Bw y.out) z.out (by simp));replace HK:=ae.mk (aq.trans (af.K HK) hk (.inl rfl));replace HB:=ae.mk hb;replace a6:=ae.mk hi;(try clear hb);(try clear aB);(try clear hk);(try clear hi)) | (refine af.gl (some 35) Tryz.func165 #[.pointer (some ⟨g,0,none⟩),.int .i64 bi] ?_;(with_reducible refine (bY.calls k g M d7 d8 bi bm bo e2 e3 w0 _ ?side1 ?side2 g8.out).mono ?_);(case side1=>exact af.I);(case side2=>exact af.J HB);rintro e hx ⟨g9,rfl,ar,hi,hb,hk⟩;refine ⟨_,rfl,?_⟩;replace y:=ae.mk (aq.blk hk (g':=j) (o:=.cells #[.int .i64 0,.slice none 0 0] 30 (0,0)) (af.Bw y.out) z.out (by simp));have ca:=ae.mk (Kd.b9 ar (bj (w:=w) (g:=g) (row:=none) (af.K HK)));replace HK:=ae.mk (aq.trans (af.K HK) hk (.inl rfl));replace HB:=ae.mk hb;replace a6:=ae.mk hi;(try clear hb);(try clear aB);(try clear hk);(try clear hi);(try clear ar);have gc:=z.out;have gk:=a2.out;obtain ⟨f7,f8,f9,fa⟩:=af.bR y.out;obtain ⟨dp,dq,fd⟩:=Kd.aY ca.out;subst fd))
   refine bodyPost_ret (results_cell_row rfl _ _ j 30 #[.int .i64 bm,.slice dp bo.length dq] (0,0) _ rfl af.B Tryz.underlying30 rfl (by kernel_rfl)) rfl ?_
   exact ⟨_,af.E,by (with_reducible repeat (first | apply Kd.cL | apply Kd.cM | apply Kd.bS));exact Kd.aX (Kd.cI (p:=⟨j,1,none⟩) (Kd.cI (p:=⟨j,0,none⟩) (Kd.cR ca.out y.out (by decide)) (fun _ hk=>hk.2) (.int .i64 bm)) (fun _ hk=>hk.2) (.slice dp bo.length dq)) (fun _ hk=>trivial),af.I,af.J HB,af.K HK⟩
def dw.l0:Nat→Int→List Int→Int→Int→List Int→Int→Int→Option (List Int×Int×Int)
 | 0,_,_,_,_,_,_,_=>none
 | k+1,X,Y,x6,x7,y,z,M=>if x7 < x6 then (if 0≤(IntKind.u64.wrap (X)) then ((aM.f y z M (shl .i64 1 (IntKind.u64.wrap (X)))).bind fun j=>(if Y.length < 17592186044416 then (dw.l0 k X (Y ++ [j.1]) x6 (wrap64 (x7+1)) y j.2.1 j.2.2) else (none))) else (none)) else (some (Y,z,M))
def dw.f (k:Nat) (y:List Int) (z:Int) (M:Int) (X:Int):Option (List Int×Int×Int):=(aM.f y z M 6).bind fun j=>(dw.l0 k X (([]:List Int)) j.1 0 y j.2.1 j.2.2)
set_option maxHeartbeats 8000000 in
set_option maxRecDepth 100000 in
theorem dw.calls (k:Nat) (g:Nat) (j:List Int) (ab:Int) (al:Int) (a1:Int) (r1:List Int) (r2:Int) (r3:Int) (w0 w:World) (hI:av w0 w g j ab al) (hB:Below w0.heap.size w0 w) (h:dw.f k j ab al a1 = some (r1,r2,r3)) :
  Calls Tryz.prog 142 #[.pointer (some ⟨g,0,none⟩),.int .i64 a1] w fun e w'=>∃ b4:Value,e = .returned (b4)∧Kd.R (Kd.int .i64) 3 w' w.heap.size (fun _=>True) b4 r1∧av w0 w' g j r2 r3∧Below w0.heap.size w0 w'∧aq w w' g none:=by
 have am:=ae.mk hI
 have HK:=ae.mk (aq.refl w g none)
 have HL:=ae.mk hB.size
 clear hI
 have cY:=ae.mk hB.size
 have HB:=ae.mk hB
 clear hB
 unfold dw.f at h
 have H:=h
 clear h
 obtain ⟨aF,a6⟩:∃ y_:List Int,y_ = (([]:List Int)):=⟨_,rfl⟩
 replace H:((aM.f j ab al 6).bind fun a7=>(dw.l0 k a1 aF a7.1 0 j a7.2.1 a7.2.2)) = some (r1,r2,r3):=by (try rw [a6]);exact af.Z
 have ar:=ae.mk a6
 clear a6
 obtain ⟨⟨X,aL,aO⟩,A3,H⟩:=af.be H
 (try dsimp only at H)
 have H':=ae.mk H
 clear H
 go_enter Tryz.func142,Tryz.ntmps142
 go_wp2_with (first | (refine af.lt (Kd.int .i64) 3 8 ?_;intro ce w4 aP hb cf b2;clear cf b2;(first | rw [← ar.out] at aP | (simp only [Int.reduceToNat] at aP;rw [← ar.out] at aP));have a8:=ae.mk (Kd.b9 aP (bj (w:=w) (g:=g) (row:=none) (af.K HK)));replace HK:=ae.mk (aq.trans (af.K HK) (aq.cW hb g none) (.inl rfl));replace HB:=ae.mk (az (af.J HB) hb);replace am:=ae.mk (av.below af.I hb);clear hb aP) | (refine af.gl (some 10) Tryz.func80 #[.pointer (some ⟨g,0,none⟩),.int .i64 6] ?_;(with_reducible refine (aM.calls g j ab al 6 X aL aO w0 _ ?side1 ?side2 A3.out).mono ?_);(case side1=>exact af.I);(case side2=>exact af.J HB);rintro e w6 ⟨rfl,hi,hb,hk⟩;refine ⟨_,rfl,?_⟩;replace a8:=ae.mk (Kd.aX (Kd.fR (av.apart (show av w0 _ g j ab al from af.I) (af.Rw a8.out) (by decide)) hk (fun _ h=>h.2)) (fun _ h=>h.1));replace HK:=ae.mk (aq.trans (af.K HK) hk (.inl rfl));replace HB:=ae.mk hb;replace am:=ae.mk hi;(try clear hb);(try clear ci);(try clear hk);(try clear hi)))
 go_loopg [5,7] k (fun kq v5 v7 w'=>∃ (Y:List Int) (a0:Int) (y:Int) (z:Int),v7 = .int .i64 a0∧ae (dw.l0 kq a1 Y X a0 j y z = some (r1,r2,r3))∧ae (kq≤k)∧ae (Kd.R (Kd.int .i64) 3 w' w.heap.size (fun _=>True) v5 Y)∧ae (av w0 w' g j y z)∧ae (aq w w' g none)∧ae (Below w0.heap.size w0 w'))
 case atStart=>exact ⟨(aF),(0),(aL),(aO),af.F,H',⟨Nat.le_refl _⟩,⟨af.Rw a8.out⟩,⟨af.I⟩,⟨af.K HK⟩,⟨af.J HB⟩⟩
 case round =>
  clear H'
  obtain ⟨Y,a0,y,z,rfl,HA,ba,a4,am,HK,HB⟩:=hrel
  cases gk with
  | zero=>exact absurd HA.out (by simp [dw.l0])
  | succ k1 =>
   have H:=HA.out
   clear HA
   simp only [dw.l0] at H
   by_cases c7:a0 < X
   ·rw [if_pos c7] at H
    have bc:=decide_eq_true c7
    clear c7
    obtain ⟨a3,b1⟩:∃ j_:Int,(IntKind.u64.wrap (a1)) = j_:=⟨_,rfl⟩
    replace H:(if 0≤(a3) then ((aM.f j y z (shl .i64 1 (a3))).bind fun M=>(if Y.length < 17592186044416 then (dw.l0 k1 a1 (Y ++ [M.1]) X (wrap64 (a0+1)) j M.2.1 M.2.2) else (none))) else (none)) = some (r1,r2,r3):=by first | (rw [b1] at H;exact H) | (simp only [b1] at H ⊢;exact H)
    obtain ⟨c9,H⟩:=af.ip H
    have cy:=eq_true c9
    have cX:decide (0≤(a3)) = true:=decide_eq_true c9
    clear c9
    obtain ⟨a2,a5⟩:∃ j_:Int,(shl .i64 1 (a3)) = j_:=⟨_,rfl⟩
    replace H:((aM.f j y z (a2)).bind fun M=>(if Y.length < 17592186044416 then (dw.l0 k1 a1 (Y ++ [M.1]) X (wrap64 (a0+1)) j M.2.1 M.2.2) else (none))) = some (r1,r2,r3):=by first | (rw [a5] at H;exact H) | (simp only [a5] at H ⊢;exact H)
    have aw:(IntKind.i64.wrap (1 * 2 ^ min (a3).toNat 64)) = a2:=a5
    have aB:(a3)≤64→(IntKind.i64.wrap (1 * 2 ^ (a3).toNat)) = a2:=gi a5
    have ca:(IntKind.i64.wrap (2 ^ min (a3).toNat 64)) = a2:=by have h_:=aw;rw [Int.one_mul] at h_;exact h_
    have cb:(a3)≤64→(IntKind.i64.wrap (2 ^ (a3).toNat)) = a2:=fun bd=>by have h_:=aB bd;rw [Int.one_mul] at h_;exact h_
    have cc:(wrap64 (1 * 2 ^ min (a3).toNat 64)) = a2:=(bw _).symm.trans aw
    have cd:(a3)≤64→(wrap64 (1 * 2 ^ (a3).toNat)) = a2:=fun h_=>(bw _).symm.trans (aB h_)
    obtain ⟨⟨a9,ao,ap⟩,cp,H⟩:=af.be H
    (try dsimp only at H)
    obtain ⟨bi,H⟩:=af.ip H
    have b3:=ae.mk bi
    clear bi
    obtain ⟨aR,aa⟩:∃ y_:List Int,y_ = (Y ++ [a9]):=⟨_,rfl⟩
    replace H:(dw.l0 k1 a1 aR X (wrap64 (a0+1)) j ao ap) = some (r1,r2,r3):=by (try rw [aa]);exact af.Z
    have aS:=ae.mk aa
    clear aa
    have H':=ae.mk H
    clear H
    go_wp2_with (first | ((with_reducible refine ax (f:=80) rfl ?_);refine s6 (some 21) rfl rfl Tryz.func80 (by kernel_rfl) rfl #[.pointer (some ⟨g,0,none⟩),.int .i64 a2] rfl (by (try simp only [List.map_toArray,List.map_cons,List.map_nil]);first | done | (simp only [a5];rfl) | rfl | (simp only [List.length_drop,List.length_take];rfl)) ?_;(with_reducible refine (aM.calls g j y z a2 a9 ao ap w0 _ ?side1 ?side2 cp.out).mono ?_);(case side1=>exact af.I);(case side2=>exact af.J HB);rintro e d0 ⟨rfl,hi,hb,hk⟩;refine ⟨_,rfl,?_⟩;replace a4:=ae.mk (Kd.aX (Kd.fR (av.apart (show av w0 _ g j y z from af.I) (af.Rw a4.out) (by decide)) hk (fun _ h=>h.2)) (fun _ h=>h.1));replace HK:=ae.mk (aq.trans (af.K HK) hk (.inl rfl));replace HB:=ae.mk hb;replace am:=ae.mk hi;(try clear hb);(try clear ci);(try clear hk);(try clear hi)) | ((with_reducible refine cB (b:=.append) (xs:=#[.tmp 16,.tmp 22]) rfl ?_);at_builtin;refine Kd.fg (Kd.int .i64) w.heap.size rfl (.tmp 16) (.tmp 22) 28 3 (.int .i64 0) 8 rfl Tryz.underlying28 eJ rfl (by decide) (by omega) u5 Y a9 [.int .i64 a9] (fun _=>True) (fun _=>False) rfl rfl (by exact rfl) (fun _ hk=>hk.elim) (by exact fun _ _=>trivial) (by exact af.Rw a4.out) (Below.refl _ _) (by exact bj (w:=w) (g:=g) (row:=none) (af.K HK)) (by have:=b3.out;omega) ?_;intro cx d1 ho hb hg hat;rw [← aS.out] at ho;have bm:=ae.mk (av.grown af.I hg (av.hJ am.out a4.out (by decide)));have bo:=ae.mk (gu (af.J HB) HL.out hb);have bs:=ae.mk (aq.trans (af.K HK) (aq.ia hg g) (Kd.jF a4.out));have bv:=ae.mk ho;clear am;clear HB;clear HK;clear a4;have am:=bm;have HB:=bo;have HK:=bs;have b0:=bv;clear bm bo bs bv;clear ho hb hg hat))
    go_roundg k1
    case measure=>have:=ba.out;omega
    case rel=>exact ⟨(aR),(wrap64 (a0+1)),(ao),(ap),af.F,H',⟨by have:=ba.out;omega⟩,⟨af.Rw b0.out⟩,⟨af.I⟩,⟨af.K HK⟩,⟨af.J HB⟩⟩
   ·rw [if_neg c7] at H
    have bc:decide (a0 < X) = false:=decide_eq_false c7
    clear c7
    simp only [Option.some.injEq,Prod.mk.injEq] at H
    obtain ⟨rfl,rfl,rfl⟩:=H
    go_wp2
    go_ret
    exact ⟨_,af.E,by (with_reducible repeat (first | apply Kd.cL | apply Kd.cM | apply Kd.bS));exact a4.out,af.I,af.J HB,af.K HK⟩
end Go.Proofs.YtmpodackojmojaaGreat.Pr
end
