/- The claim FnGraphCounts: every text that its row comes to, laid together by slim.py (the words of the kit's print, the printed walks, the pure law, the row). -/
import Derived.Test.YtmpodackojmojaaYFnGraphCounts1
section
namespace Go.Proofs.Ytmpodackojmojaa.Pr
open Go.RowKit Go.Proofs.ag.aT Go.Proofs.ag.bu Go.Proofs.ag.bw
attribute [local go_sem] gp gq iE iF fz fA gr gu
set_option linter.unusedVariables false
set_option linter.unusedSimpArgs false
def bh.l0:Nat→Int→List Int→Int→Option (Bool)
 | 0,_,_,_=>none
 | k+1,Y,y,j=>if j < (y.length:Int) then (if 0≤j then ((bP.f Y (rd y j)).bind fun z=>(if z = true then (if j > 0 then (if 0≤(wrap64 (j - 1)) then (if (wrap64 (j - 1)) < (y.length:Int) then (if (rd y (wrap64 (j - 1)))≥(rd y j) then (some false) else (bh.l0 k Y y (wrap64 (j+1)))) else (none)) else (none)) else (bh.l0 k Y y (wrap64 (j+1)))) else (some false))) else (none)) else ((az.f Y 0 8).bind fun X=>(some X))
def bh.f (k:Nat) (a0:Int) (l1:List Int):Option (Bool):=bh.l0 k a0 l1 0
set_option maxHeartbeats 8000000 in
set_option maxRecDepth 100000 in
theorem bh.calls (k:Nat) (a0:Int) (A1:Option Addr) (c1:Nat) (l1:List Int) (r:Bool) (w:World) (aO:Kd.C (Kd.int .i64) w A1 l1.length l1) (aP:l1.length≤c1) (h:bh.f k a0 l1 = some r) :
  Calls Try.prog 114 #[.int .i64 a0,.slice A1 l1.length c1] w fun e w'=>e = .returned (.bool r)∧bQ w w':=by
 have a9:=ae.mk aO
 have bi:=ae.mk aP
 clear aO aP
 unfold bh.f at h
 have H:=h
 clear h
 have H':=ae.mk H
 clear H
 go_enter Try.func114,Try.ntmps114
 go_wp2
 repeat (go_quiet (fail);try go_wp2)
 go_loopg [5] k (fun kq v5 w'=>∃ (j:Int),v5 = .int .i64 j∧ae (bh.l0 kq a0 l1 j = some r)∧ae (kq≤k)∧bQ w w')
 case atStart=>exact ⟨(0),af.F,H',⟨Nat.le_refl _⟩,af.G⟩
 case round =>
  clear H'
  obtain ⟨j,rfl,HA,aB,⟨m1,rfl⟩⟩:=hrel
  cases gk with
  | zero=>exact absurd HA.out (by simp [bh.l0])
  | succ k1 =>
   have H:=HA.out
   clear HA
   simp only [bh.l0] at H
   by_cases c3:j < (l1.length:Int)
   ·rw [if_pos c3] at H
    have aS:=decide_eq_true c3
    clear c3
    obtain ⟨c4,H⟩:=af.ip H
    have ba:=decide_eq_true c4
    clear c4
    obtain ⟨b0,A5,H⟩:=af.be H
    (try dsimp only at H)
    by_cases c6:b0 = true
    ·subst c6
     replace H:(if j > 0 then (if 0≤(wrap64 (j - 1)) then (if (wrap64 (j - 1)) < (l1.length:Int) then (if (rd l1 (wrap64 (j - 1)))≥(rd l1 j) then (some false) else (bh.l0 k1 a0 l1 (wrap64 (j+1)))) else (none)) else (none)) else (bh.l0 k1 a0 l1 (wrap64 (j+1)))) = some r:=by rw [if_pos rfl] at H;exact H
     by_cases c7:j > 0
     ·rw [if_pos c7] at H
      have b2:=decide_eq_true c7
      clear c7
      obtain ⟨a2,am⟩:∃ j_:Int,(wrap64 (j - 1)) = j_:=⟨_,rfl⟩
      replace H:(if 0≤(a2) then (if (a2) < (l1.length:Int) then (if (rd l1 (a2))≥(rd l1 j) then (some false) else (bh.l0 k1 a0 l1 (wrap64 (j+1)))) else (none)) else (none)) = some r:=by first | (rw [am] at H;exact H) | (simp only [am] at H ⊢;exact H)
      (try rw [am] at A5)
      have b3:(IntKind.i64.wrap (j - 1)) = a2:=(bE _).trans am
      obtain ⟨c9,H⟩:=af.ip H
      have bc:=decide_eq_true c9
      clear c9
      obtain ⟨iy,H⟩:=af.ip H
      have b4:=decide_eq_true iy
      clear iy
      by_cases ao:(rd l1 (a2))≥(rd l1 j)
      ·rw [if_pos ao] at H
       have aF:=decide_eq_true ao
       clear ao
       obtain rfl:=Option.some.inj H
       obtain ⟨a1,aa,ab,ap,ar⟩:=af.ai a9.out j
       cases aa
       go_wp2_with (first | (go_at_call 56;(with_reducible refine (bP.calls a0 (rd l1 j) true _ A5.out).mono ?_);rintro e w' ⟨rfl,⟨nd,rfl⟩⟩;(try exact af.W);have y:0≤((a2):Int):=af.D;have z:(a2) < (l1.length:Int):=af.D;obtain ⟨a3,a5,a6⟩:=Kd.cF a9.out (a2) y z;obtain rfl:a1 = a3:=(by injection a5);replace y:=eq_true y;replace z:=eq_true z;have X:0≤(j:Int):=af.D;have Y:j < (l1.length:Int):=af.D;obtain ⟨a4,a7,a8⟩:=Kd.cF a9.out j X Y;obtain rfl:a1 = a4:=(by injection a7);replace X:=eq_true X;replace Y:=eq_true Y))
       repeat (go_quiet (first | (go_at_call 56;(with_reducible refine (bP.calls a0 (rd l1 j) true _ A5.out).mono ?_);rintro e w' ⟨rfl,⟨nd,rfl⟩⟩;(try exact af.W);have y:0≤((a2):Int):=af.D;have z:(a2) < (l1.length:Int):=af.D;obtain ⟨a3,a5,a6⟩:=Kd.cF a9.out (a2) y z;obtain rfl:a1 = a3:=(by injection a5);replace y:=eq_true y;replace z:=eq_true z;have X:0≤(j:Int):=af.D;have Y:j < (l1.length:Int):=af.D;obtain ⟨a4,a7,a8⟩:=Kd.cF a9.out j X Y;obtain rfl:a1 = a4:=(by injection a7);replace X:=eq_true X;replace Y:=eq_true Y));try go_wp2_with (first | (go_at_call 56;(with_reducible refine (bP.calls a0 (rd l1 j) true _ A5.out).mono ?_);rintro e w' ⟨rfl,⟨nd,rfl⟩⟩;(try exact af.W);have y:0≤((a2):Int):=af.D;have z:(a2) < (l1.length:Int):=af.D;obtain ⟨a3,a5,a6⟩:=Kd.cF a9.out (a2) y z;obtain rfl:a1 = a3:=(by injection a5);replace y:=eq_true y;replace z:=eq_true z;have X:0≤(j:Int):=af.D;have Y:j < (l1.length:Int):=af.D;obtain ⟨a4,a7,a8⟩:=Kd.cF a9.out j X Y;obtain rfl:a1 = a4:=(by injection a7);replace X:=eq_true X;replace Y:=eq_true Y)))
       go_ret
       exact ⟨by first | rfl | (simp;done) | (simp only [← am] <;> (first | rfl | simp)) | (simp [*];done),af.G⟩
      ·rw [if_neg ao] at H
       have aF:decide ((rd l1 j)≤(rd l1 (a2))) = false:=decide_eq_false ao
       clear ao
       have H':=ae.mk H
       clear H
       obtain ⟨a1,aa,ab,ap,ar⟩:=af.ai a9.out j
       cases aa
       go_wp2_with (first | (go_at_call 56;(with_reducible refine (bP.calls a0 (rd l1 j) true _ A5.out).mono ?_);rintro e w' ⟨rfl,⟨nd,rfl⟩⟩;(try exact af.W);have y:0≤((a2):Int):=af.D;have z:(a2) < (l1.length:Int):=af.D;obtain ⟨a3,a5,a6⟩:=Kd.cF a9.out (a2) y z;obtain rfl:a1 = a3:=(by injection a5);replace y:=eq_true y;replace z:=eq_true z;have X:0≤(j:Int):=af.D;have Y:j < (l1.length:Int):=af.D;obtain ⟨a4,a7,a8⟩:=Kd.cF a9.out j X Y;obtain rfl:a1 = a4:=(by injection a7);replace X:=eq_true X;replace Y:=eq_true Y))
       repeat (go_quiet (first | (go_at_call 56;(with_reducible refine (bP.calls a0 (rd l1 j) true _ A5.out).mono ?_);rintro e w' ⟨rfl,⟨nd,rfl⟩⟩;(try exact af.W);have y:0≤((a2):Int):=af.D;have z:(a2) < (l1.length:Int):=af.D;obtain ⟨a3,a5,a6⟩:=Kd.cF a9.out (a2) y z;obtain rfl:a1 = a3:=(by injection a5);replace y:=eq_true y;replace z:=eq_true z;have X:0≤(j:Int):=af.D;have Y:j < (l1.length:Int):=af.D;obtain ⟨a4,a7,a8⟩:=Kd.cF a9.out j X Y;obtain rfl:a1 = a4:=(by injection a7);replace X:=eq_true X;replace Y:=eq_true Y));try go_wp2_with (first | (go_at_call 56;(with_reducible refine (bP.calls a0 (rd l1 j) true _ A5.out).mono ?_);rintro e w' ⟨rfl,⟨nd,rfl⟩⟩;(try exact af.W);have y:0≤((a2):Int):=af.D;have z:(a2) < (l1.length:Int):=af.D;obtain ⟨a3,a5,a6⟩:=Kd.cF a9.out (a2) y z;obtain rfl:a1 = a3:=(by injection a5);replace y:=eq_true y;replace z:=eq_true z;have X:0≤(j:Int):=af.D;have Y:j < (l1.length:Int):=af.D;obtain ⟨a4,a7,a8⟩:=Kd.cF a9.out j X Y;obtain rfl:a1 = a4:=(by injection a7);replace X:=eq_true X;replace Y:=eq_true Y)))
       go_roundg k1
       case measure=>have:=aB.out;omega
       case rel=>exact ⟨(wrap64 (j+1)),af.F,H',⟨by have:=aB.out;omega⟩,af.G⟩
     ·rw [if_neg c7] at H
      have b2:decide (0 < j) = false:=decide_eq_false c7
      clear c7
      have H':=ae.mk H
      clear H
      obtain ⟨a1,aa,ab,ap,ar⟩:=af.ai a9.out j
      cases aa
      go_wp2_with (first | (go_at_call 56;(with_reducible refine (bP.calls a0 (rd l1 j) true _ A5.out).mono ?_);rintro e w' ⟨rfl,⟨nd,rfl⟩⟩;(try exact af.W)))
      repeat (go_quiet (first | (go_at_call 56;(with_reducible refine (bP.calls a0 (rd l1 j) true _ A5.out).mono ?_);rintro e w' ⟨rfl,⟨nd,rfl⟩⟩;(try exact af.W)));try go_wp2_with (first | (go_at_call 56;(with_reducible refine (bP.calls a0 (rd l1 j) true _ A5.out).mono ?_);rintro e w' ⟨rfl,⟨nd,rfl⟩⟩;(try exact af.W))))
      go_roundg k1
      case measure=>have:=aB.out;omega
      case rel=>exact ⟨(wrap64 (j+1)),af.F,H',⟨by have:=aB.out;omega⟩,af.G⟩
    ·replace c6:=Bool.eq_false_iff.mpr c6
     subst c6
     replace H:(some false) = some r:=by rw [if_neg (show ¬ (false = true) by decide)] at H;exact H
     obtain rfl:=Option.some.inj H
     obtain ⟨a1,aa,ab,ap,ar⟩:=af.ai a9.out j
     cases aa
     go_wp2_with (first | (go_at_call 56;(with_reducible refine (bP.calls a0 (rd l1 j) false _ A5.out).mono ?_);rintro e w' ⟨rfl,⟨nd,rfl⟩⟩;(try exact af.W)))
     repeat (go_quiet (first | (go_at_call 56;(with_reducible refine (bP.calls a0 (rd l1 j) false _ A5.out).mono ?_);rintro e w' ⟨rfl,⟨nd,rfl⟩⟩;(try exact af.W)));try go_wp2_with (first | (go_at_call 56;(with_reducible refine (bP.calls a0 (rd l1 j) false _ A5.out).mono ?_);rintro e w' ⟨rfl,⟨nd,rfl⟩⟩;(try exact af.W))))
     go_ret
     exact ⟨af.F,af.G⟩
   ·rw [if_neg c3] at H
    have aS:decide (j < (l1.length:Int)) = false:=decide_eq_false c3
    clear c3
    obtain ⟨aw,aL,H⟩:=af.be H
    (try dsimp only at H)
    obtain rfl:=Option.some.inj H
    go_wp2_with (first | (go_at_call 89;(with_reducible refine (az.calls a0 0 8 aw _ aL.out).mono ?_);rintro e w' ⟨rfl,⟨nd,rfl⟩⟩;(try exact af.W)))
    repeat (go_quiet (first | (go_at_call 89;(with_reducible refine (az.calls a0 0 8 aw _ aL.out).mono ?_);rintro e w' ⟨rfl,⟨nd,rfl⟩⟩;(try exact af.W)));try go_wp2_with (first | (go_at_call 89;(with_reducible refine (az.calls a0 0 8 aw _ aL.out).mono ?_);rintro e w' ⟨rfl,⟨nd,rfl⟩⟩;(try exact af.W))))
    go_ret
    exact ⟨af.F,af.G⟩
def bF.f (a0:Int) (j:Int):Option (Bool):=if 0≤(IntKind.u64.wrap (j)) then (some ((Go.bits .and .i64 (shr .i64 a0 (IntKind.u64.wrap (j))) 1) == 1)) else (none)
set_option maxHeartbeats 8000000 in
set_option maxRecDepth 100000 in
theorem bF.calls (a0:Int) (Y:Int) (r:Bool) (w:World) (h:bF.f a0 Y = some r) :
  Calls Try.prog 58 #[.int .i64 a0,.int .i64 Y] w fun e w'=>e = .returned (.bool r)∧bQ w w':=by
 unfold bF.f at h
 have H:=h
 clear h
 obtain ⟨y,z⟩:∃ j_:Int,(IntKind.u64.wrap (Y)) = j_:=⟨_,rfl⟩
 replace H:(if 0≤(y) then (some ((Go.bits .and .i64 (shr .i64 a0 (y)) 1) == 1)) else (none)) = some r:=by first | (rw [z] at H;exact H) | (simp only [z] at H ⊢;exact H)
 obtain ⟨c4,H⟩:=af.ip H
 have a4:=eq_true c4
 have a5:decide (0≤(y)) = true:=decide_eq_true c4
 clear c4
 obtain ⟨X,j⟩:∃ j_:Int,(shr .i64 a0 (y)) = j_:=⟨_,rfl⟩
 replace H:(some ((Go.bits .and .i64 (X) 1) == 1)) = some r:=by first | (rw [j] at H;exact H) | (simp only [j] at H ⊢;exact H)
 have a2:(a0 / 2 ^ min (y).toNat 64) = X:=j
 have a3:(y)≤64→(a0 / 2 ^ (y).toNat) = X:=kk j
 obtain rfl:=Option.some.inj H
 go_enter Try.func58,Try.ntmps58
 go_wp2
 go_ret
 exact ⟨by first | rfl | (simp;done) | (simp only [← z,← j] <;> (first | rfl | simp)) | (simp [*];done),af.G⟩
def bG.l0:Nat→List Int→Int→Int→Option (Bool)
 | 0,_,_,_=>none
 | k+1,y,z,j=>if j < (y.length:Int) then (if 0≤j then (if (rd y j) = z then (some true) else (bG.l0 k y z (wrap64 (j+1)))) else (none)) else (some false)
def bG.f (k:Nat) (l0:List Int) (j:Int):Option (Bool):=bG.l0 k l0 j 0
set_option maxHeartbeats 8000000 in
set_option maxRecDepth 100000 in
theorem bG.calls (k:Nat) (A0:Option Addr) (c0:Nat) (l0:List Int) (X:Int) (r:Bool) (w:World) (a0:Kd.C (Kd.int .i64) w A0 l0.length l0) (a2:l0.length≤c0) (h:bG.f k l0 X = some r) :
  Calls Try.prog 142 #[.slice A0 l0.length c0,.int .i64 X] w fun e w'=>e = .returned (.bool r)∧bQ w w':=by
 have a3:=ae.mk a0
 have ab:=ae.mk a2
 clear a0 a2
 unfold bG.f at h
 have H:=h
 clear h
 have H':=ae.mk H
 clear H
 go_enter Try.func142,Try.ntmps142
 go_wp2
 go_loopg [5] k (fun kq v5 w'=>∃ (j:Int),v5 = .int .i64 j∧ae (bG.l0 kq l0 X j = some r)∧ae (kq≤k)∧bQ w w')
 case atStart=>exact ⟨(0),af.F,H',⟨Nat.le_refl _⟩,af.G⟩
 case round =>
  clear H'
  obtain ⟨j,rfl,HA,a4,⟨m1,rfl⟩⟩:=hrel
  cases gk with
  | zero=>exact absurd HA.out (by simp [bG.l0])
  | succ k1 =>
   have H:=HA.out
   clear HA
   simp only [bG.l0] at H
   by_cases c3:j < (l0.length:Int)
   ·rw [if_pos c3] at H
    have a5:=decide_eq_true c3
    clear c3
    obtain ⟨c4,H⟩:=af.ip H
    have aa:=decide_eq_true c4
    clear c4
    by_cases c5:(rd l0 j) = X
    ·rw [if_pos c5] at H
     have a6:((rd l0 j) == X) = true:=beq_iff_eq.mpr c5
     have a7:((rd l0 j) != X) = false:=bne_eq_false_iff_eq.mpr c5
     clear c5
     obtain rfl:=Option.some.inj H
     obtain ⟨Y,y,z,a8,a9⟩:=af.ai a3.out j
     cases y
     go_wp2
     go_ret
     exact ⟨af.F,af.G⟩
    ·rw [if_neg c5] at H
     have a6:((rd l0 j) == X) = false:=beq_eq_false_iff_ne.mpr c5
     have a7:((rd l0 j) != X) = true:=bne_iff_ne.mpr c5
     have H':=ae.mk H
     clear H
     obtain ⟨Y,y,z,a8,a9⟩:=af.ai a3.out j
     cases y
     go_wp2
     go_roundg k1
     case measure=>have:=a4.out;omega
     case rel=>exact ⟨(wrap64 (j+1)),af.F,H',⟨by have:=a4.out;omega⟩,af.G⟩
   ·rw [if_neg c3] at H
    have a5:decide (j < (l0.length:Int)) = false:=decide_eq_false c3
    clear c3
    obtain rfl:=Option.some.inj H
    go_wp2
    go_ret
    exact ⟨af.F,af.G⟩
def aN.l0:Nat→Int→Int→Int→Int→Int→List Int→Option (Bool)
 | 0,_,_,_,_,_,_=>none
 | k+1,X,x2,Y,z,j,y=>if z < j then ((bF.f x2 z).bind fun a0=>(if a0 = true then ((bF.f X z).bind fun a1=>(if a1 = true then (aN.l0 k X x2 Y (wrap64 (z+1)) j y) else (if 0≤(IntKind.u64.wrap (Y)) then (if 0≤(IntKind.u64.wrap (z)) then ((bG.f k y (wrap64 ((wrap64 (X - (shl .i64 1 (IntKind.u64.wrap (Y)))))+(shl .i64 1 (IntKind.u64.wrap (z)))))).bind fun a2=>(if a2 = true then (some true) else (aN.l0 k X x2 Y (wrap64 (z+1)) j y))) else (none)) else (none)))) else (aN.l0 k X x2 Y (wrap64 (z+1)) j y))) else (some false)
def aN.f (k:Nat) (j:Int) (y:List Int) (z:Int) (a2:Int) (a3:Int):Option (Bool):=aN.l0 k z a2 a3 0 j y
set_option maxHeartbeats 8000000 in
set_option maxRecDepth 100000 in
theorem aN.calls (k:Nat) (z:Int) (ab:Option Addr) (am:Nat) (y:List Int) (a1:Int) (a2:Int) (a3:Int) (r:Bool) (w:World) (aF:Kd.C (Kd.int .i64) w ab y.length y) (aL:y.length≤am) (h:aN.f k z y a1 a2 a3 = some r) :
  Calls Try.prog 140 #[.agg #[.int .i64 z,.slice ab y.length am],.int .i64 a1,.int .i64 a2,.int .i64 a3] w fun e w'=>e = .returned (.bool r)∧Below w.heap.size w w':=by
 have dv:=Try.underlying35
 have aO:=ae.mk aF
 have aP:=ae.mk aL
 clear aF aL
 have HB:=ae.mk (Below.refl w.heap.size w)
 unfold aN.f at h
 have H:=h
 clear h
 have H':=ae.mk H
 clear H
 go_enter Try.func140,Try.ntmps140
 go_wp2_with (first | ((with_reducible refine bf (N:=4) rfl ?_);refine af.bx 4 #[.int .i64 z,.slice ab y.length am] 35 ?_;intro b3 hg w5 hbox hb;have X:=ae.mk hbox;have dk:=af.gw hg HB;have dl:=af.gw hg HB;replace HB:=af.lb HB hb;clear hb hbox hg))
 go_loopg [9] k (fun kq v9 w'=>∃ (j:Int),v9 = .int .i64 j∧ae (aN.l0 kq a1 a2 a3 j z y = some r)∧ae (kq≤k)∧ae (w'.heap[b3]? = some (.cells #[.int .i64 z,(.slice ab y.length am)] 35 (0,0)))∧ae (Below w.heap.size w w'))
 case atStart=>exact ⟨(0),af.F,H',⟨Nat.le_refl _⟩,⟨af.Bw X.out⟩,⟨af.Lw HB.out⟩⟩
 case round =>
  clear H'
  obtain ⟨j,rfl,HA,aB,X,HB⟩:=hrel
  cases gk with
  | zero=>exact absurd HA.out (by simp [aN.l0])
  | succ k1 =>
   have H:=HA.out
   clear HA
   simp only [aN.l0] at H
   by_cases c6:j < z
   ·rw [if_pos c6] at H
    have bc:=decide_eq_true c6
    clear c6
    obtain ⟨bi,A7,H⟩:=af.be H
    (try dsimp only at H)
    by_cases c8:bi = true
    ·subst c8
     replace H:((bF.f a1 j).bind fun aS=>(if aS = true then (aN.l0 k1 a1 a2 a3 (wrap64 (j+1)) z y) else (if 0≤(IntKind.u64.wrap (a3)) then (if 0≤(IntKind.u64.wrap (j)) then ((bG.f k1 y (wrap64 ((wrap64 (a1 - (shl .i64 1 (IntKind.u64.wrap (a3)))))+(shl .i64 1 (IntKind.u64.wrap (j)))))).bind fun Y=>(if Y = true then (some true) else (aN.l0 k1 a1 a2 a3 (wrap64 (j+1)) z y))) else (none)) else (none)))) = some r:=by rw [if_pos rfl] at H;exact H
     obtain ⟨aS,A9,H⟩:=af.be H
     (try dsimp only at H)
     by_cases iy:aS = true
     ·subst iy
      replace H:(aN.l0 k1 a1 a2 a3 (wrap64 (j+1)) z y) = some r:=by rw [if_pos rfl] at H;exact H
      have H':=ae.mk H
      clear H
      obtain ⟨bm,bo,bs,bv⟩:=af.cY X.out
      go_wp2_with (first | ((with_reducible refine b8 (f:=58) rfl ?_);refine af.gl (some 18) Try.func58 #[.int .i64 a2,.int .i64 j] ?_;(with_reducible refine (bF.calls a2 j true _ A7.out).mono ?_);rintro e w' ⟨rfl,⟨nd,rfl⟩⟩;refine ⟨_,rfl,?_⟩) | (go_at_call 58;(with_reducible refine (bF.calls a1 j true _ A9.out).mono ?_);rintro e w' ⟨rfl,⟨nd,rfl⟩⟩))
      go_roundg k1
      case measure=>have:=aB.out;omega
      case rel=>exact ⟨(wrap64 (j+1)),af.F,H',⟨by have:=aB.out;omega⟩,⟨af.Bw X.out⟩,⟨af.Lw HB.out⟩⟩
     ·replace iy:=Bool.eq_false_iff.mpr iy
      subst iy
      replace H:(if 0≤(IntKind.u64.wrap (a3)) then (if 0≤(IntKind.u64.wrap (j)) then ((bG.f k1 y (wrap64 ((wrap64 (a1 - (shl .i64 1 (IntKind.u64.wrap (a3)))))+(shl .i64 1 (IntKind.u64.wrap (j)))))).bind fun Y=>(if Y = true then (some true) else (aN.l0 k1 a1 a2 a3 (wrap64 (j+1)) z y))) else (none)) else (none)) = some r:=by rw [if_neg (show ¬ (false = true) by decide)] at H;exact H
      obtain ⟨a0,a9⟩:∃ j_:Int,(IntKind.u64.wrap (a3)) = j_:=⟨_,rfl⟩
      replace H:(if 0≤(a0) then (if 0≤(IntKind.u64.wrap (j)) then ((bG.f k1 y (wrap64 ((wrap64 (a1 - (shl .i64 1 (a0))))+(shl .i64 1 (IntKind.u64.wrap (j)))))).bind fun Y=>(if Y = true then (some true) else (aN.l0 k1 a1 a2 a3 (wrap64 (j+1)) z y))) else (none)) else (none)) = some r:=by first | (rw [a9] at H;exact H) | (simp only [a9] at H ⊢;exact H)
      (try rw [a9] at A7)
      (try rw [a9] at A9)
      obtain ⟨b4,H⟩:=af.ip H
      have dp:=eq_true b4
      have dq:decide (0≤(a0)) = true:=decide_eq_true b4
      clear b4
      obtain ⟨a5,a6⟩:∃ j_:Int,(shl .i64 1 (a0)) = j_:=⟨_,rfl⟩
      replace H:(if 0≤(IntKind.u64.wrap (j)) then ((bG.f k1 y (wrap64 ((wrap64 (a1 - (a5)))+(shl .i64 1 (IntKind.u64.wrap (j)))))).bind fun Y=>(if Y = true then (some true) else (aN.l0 k1 a1 a2 a3 (wrap64 (j+1)) z y))) else (none)) = some r:=by first | (rw [a6] at H;exact H) | (simp only [a6] at H ⊢;exact H)
      (try rw [a6] at A7)
      (try rw [a6] at A9)
      have ao:(IntKind.i64.wrap (1 * 2 ^ min (a0).toNat 64)) = a5:=a6
      have ap:(a0)≤64→(IntKind.i64.wrap (1 * 2 ^ (a0).toNat)) = a5:=ei a6
      have d5:(IntKind.i64.wrap (2 ^ min (a0).toNat 64)) = a5:=by have h_:=ao;rw [Int.one_mul] at h_;exact h_
      have d6:(a0)≤64→(IntKind.i64.wrap (2 ^ (a0).toNat)) = a5:=fun b0=>by have h_:=ap b0;rw [Int.one_mul] at h_;exact h_
      have d7:(wrap64 (1 * 2 ^ min (a0).toNat 64)) = a5:=(bE _).symm.trans ao
      have d8:(a0)≤64→(wrap64 (1 * 2 ^ (a0).toNat)) = a5:=fun h_=>(bE _).symm.trans (ap h_)
      obtain ⟨a4,aa⟩:∃ j_:Int,(IntKind.u64.wrap (j)) = j_:=⟨_,rfl⟩
      replace H:(if 0≤(a4) then ((bG.f k1 y (wrap64 ((wrap64 (a1 - (a5)))+(shl .i64 1 (a4))))).bind fun Y=>(if Y = true then (some true) else (aN.l0 k1 a1 a2 a3 (wrap64 (j+1)) z y))) else (none)) = some r:=by first | (rw [aa] at H;exact H) | (simp only [aa] at H ⊢;exact H)
      (try rw [aa] at A7)
      (try rw [aa] at A9)
      obtain ⟨ba,H⟩:=af.ip H
      have dt:=eq_true ba
      have du:decide (0≤(a4)) = true:=decide_eq_true ba
      clear ba
      obtain ⟨a8,a7⟩:∃ j_:Int,(shl .i64 1 (a4)) = j_:=⟨_,rfl⟩
      replace H:((bG.f k1 y (wrap64 ((wrap64 (a1 - (a5)))+(a8)))).bind fun Y=>(if Y = true then (some true) else (aN.l0 k1 a1 a2 a3 (wrap64 (j+1)) z y))) = some r:=by first | (rw [a7] at H;exact H) | (simp only [a7] at H ⊢;exact H)
      (try rw [a7] at A7)
      (try rw [a7] at A9)
      have ar:(IntKind.i64.wrap (1 * 2 ^ min (a4).toNat 64)) = a8:=a7
      have aw:(a4)≤64→(IntKind.i64.wrap (1 * 2 ^ (a4).toNat)) = a8:=ei a7
      have d9:(IntKind.i64.wrap (2 ^ min (a4).toNat 64)) = a8:=by have h_:=ar;rw [Int.one_mul] at h_;exact h_
      have db:(a4)≤64→(IntKind.i64.wrap (2 ^ (a4).toNat)) = a8:=fun b0=>by have h_:=aw b0;rw [Int.one_mul] at h_;exact h_
      have dd:(wrap64 (1 * 2 ^ min (a4).toNat 64)) = a8:=(bE _).symm.trans ar
      have df:(a4)≤64→(wrap64 (1 * 2 ^ (a4).toNat)) = a8:=fun h_=>(bE _).symm.trans (aw h_)
      obtain ⟨Y,c0,H⟩:=af.be H
      (try dsimp only at H)
      by_cases b2:Y = true
      ·subst b2
       replace H:(some true) = some r:=by rw [if_pos rfl] at H;exact H
       obtain rfl:=Option.some.inj H
       obtain ⟨c1,ca,cb,cc⟩:=af.cY X.out
       go_wp2_with (first | ((with_reducible refine b8 (f:=58) rfl ?_);refine af.gl (some 18) Try.func58 #[.int .i64 a2,.int .i64 j] ?_;(with_reducible refine (bF.calls a2 j true _ A7.out).mono ?_);rintro e w' ⟨rfl,⟨nd,rfl⟩⟩;refine ⟨_,rfl,?_⟩) | (go_at_call 58;(with_reducible refine (bF.calls a1 j false _ A9.out).mono ?_);rintro e w' ⟨rfl,⟨nd,rfl⟩⟩) | (go_at_call 142;(with_reducible refine (bG.calls k1 _ _ y (wrap64 ((wrap64 (a1 - (a5)))+(a8))) true _ ?side1 ?side2 c0.out).mono ?_);(case side1=>exact af.Cw (Kd.aX aO.out HB.out));(case side2=>exact aP.out);rintro e w' ⟨rfl,⟨nd,rfl⟩⟩))
       go_ret
       exact ⟨by first | rfl | (simp [fB,fC] <;> rfl) | (simp only [← a9,← a6,← aa,← a7];first | rfl | (simp [fB,fC] <;> rfl)) | (simp [*,fB,fC] <;> rfl),af.L⟩
      ·replace b2:=Bool.eq_false_iff.mpr b2
       subst b2
       replace H:(aN.l0 k1 a1 a2 a3 (wrap64 (j+1)) z y) = some r:=by rw [if_neg (show ¬ (false = true) by decide)] at H;exact H
       have H':=ae.mk H
       clear H
       obtain ⟨cd,ce,cf,ch⟩:=af.cY X.out
       go_wp2_with (first | ((with_reducible refine b8 (f:=58) rfl ?_);refine af.gl (some 18) Try.func58 #[.int .i64 a2,.int .i64 j] ?_;(with_reducible refine (bF.calls a2 j true _ A7.out).mono ?_);rintro e w' ⟨rfl,⟨nd,rfl⟩⟩;refine ⟨_,rfl,?_⟩) | (go_at_call 58;(with_reducible refine (bF.calls a1 j false _ A9.out).mono ?_);rintro e w' ⟨rfl,⟨nd,rfl⟩⟩) | (go_at_call 142;(with_reducible refine (bG.calls k1 _ _ y (wrap64 ((wrap64 (a1 - (a5)))+(a8))) false _ ?side1 ?side2 c0.out).mono ?_);(case side1=>exact af.Cw (Kd.aX aO.out HB.out));(case side2=>exact aP.out);rintro e w' ⟨rfl,⟨nd,rfl⟩⟩))
       go_roundg k1
       case measure=>have:=aB.out;omega
       case rel=>exact ⟨(wrap64 (j+1)),af.F,H',⟨by have:=aB.out;omega⟩,⟨af.Bw X.out⟩,⟨af.Lw HB.out⟩⟩
    ·replace c8:=Bool.eq_false_iff.mpr c8
     subst c8
     replace H:(aN.l0 k1 a1 a2 a3 (wrap64 (j+1)) z y) = some r:=by rw [if_neg (show ¬ (false = true) by decide)] at H;exact H
     have H':=ae.mk H
     clear H
     obtain ⟨ci,cp,cq,d0⟩:=af.cY X.out
     go_wp2_with (first | ((with_reducible refine b8 (f:=58) rfl ?_);refine af.gl (some 18) Try.func58 #[.int .i64 a2,.int .i64 j] ?_;(with_reducible refine (bF.calls a2 j false _ A7.out).mono ?_);rintro e w' ⟨rfl,⟨nd,rfl⟩⟩;refine ⟨_,rfl,?_⟩))
     go_roundg k1
     case measure=>have:=aB.out;omega
     case rel=>exact ⟨(wrap64 (j+1)),af.F,H',⟨by have:=aB.out;omega⟩,⟨af.Bw X.out⟩,⟨af.Lw HB.out⟩⟩
   ·rw [if_neg c6] at H
    have bc:decide (j < z) = false:=decide_eq_false c6
    clear c6
    obtain rfl:=Option.some.inj H
    obtain ⟨d1,d2,d3,d4⟩:=af.cY X.out
    go_wp2
    go_ret
    exact ⟨af.E,af.L⟩
mutual
def ak.l0:Nat→Int→Int→List Int→Option (Int×Int×Int×Bool)
 | 0,_,_,_=>none
 | k+1,z,y,j=>if z < (j.length:Int) then (ak.l1 k z 0 y j) else (some (0,0,0,false))
def ak.l1:Nat→Int→Int→Int→List Int→Option (Int×Int×Int×Bool)
 | 0,_,_,_,_=>none
 | k+1,z,X,y,j=>if X < (j.length:Int) then (ak.l2 k z X 0 y j) else (ak.l0 k (wrap64 (z+1)) y j)
def ak.l2:Nat→Int→Int→Int→Int→List Int→Option (Int×Int×Int×Bool)
 | 0,_,_,_,_,_=>none
 | k+1,z,X,Y,y,j=>if Y < y then (if 0≤z then (if z < (j.length:Int) then (if 0≤X then (if X < (j.length:Int) then ((bF.f (rd j z) Y).bind fun a0=>(if a0 = true then ((bF.f (rd j X) Y).bind fun a1=>(if a1 = true then (ak.l2 k z X (wrap64 (Y+1)) y j) else ((aN.f k y j (rd j z) (rd j X) Y).bind fun a2=>(if a2 = true then (ak.l2 k z X (wrap64 (Y+1)) y j) else (some (rd j z,rd j X,Y,true)))))) else (ak.l2 k z X (wrap64 (Y+1)) y j))) else (none)) else (none)) else (none)) else (none)) else (ak.l1 k z (wrap64 (X+1)) y j)
end
def ak.f (k:Nat) (j:Int) (y:List Int):Option (Int×Int×Int×Bool):=(bh.f k j y).bind fun z=>(if z = true then (ak.l0 k 0 j y) else (some (0,0,0,false)))
set_option maxHeartbeats 8000000 in
set_option maxRecDepth 100000 in
theorem ak.calls (k:Nat) (a2:Int) (aB:Option Addr) (am:Nat) (y:List Int) (r1:Int) (r2:Int) (r3:Int) (r4:Bool) (w:World) (d0:Kd.C (Kd.int .i64) w aB y.length y) (d1:y.length≤am) (h:ak.f k a2 y = some (r1,r2,r3,r4)) :
  Calls Try.prog 113 #[.agg #[.int .i64 a2,.slice aB y.length am]] w fun e w'=>e = .returned (.tuple #[.agg #[.int .i64 r1,.int .i64 r2,.int .i64 r3],.bool r4])∧Below w.heap.size w w':=by
 have hW:=Try.underlying35
 have hm:=Try.underlying108
 have ab:=ae.mk d0
 have cc:=ae.mk d1
 clear d0 d1
 have HB:=ae.mk (Below.refl w.heap.size w)
 unfold ak.f at h
 have H:=h
 clear h
 obtain ⟨du,A2,H⟩:=af.be H
 (try dsimp only at H)
 by_cases c3:du = true
 ·subst c3
  replace H:(ak.l0 k 0 a2 y) = some (r1,r2,r3,r4):=by rw [if_pos rfl] at H;exact H
  have H':=ae.mk H
  clear H
  go_enter Try.func113,Try.ntmps113
  go_wp2_with (first | ((with_reducible refine bf (N:=1) rfl ?_);refine af.bx 1 #[.int .i64 a2,.slice aB y.length am] 35 ?_;intro aa hg w4 hbox hb;have j:=ae.mk hbox;have dd:=af.gw hg HB;have df:=af.gw hg HB;replace HB:=af.lb HB hb;clear hb hbox hg) | ((with_reducible refine bf (N:=2) rfl ?_);refine af.bx 2 #[.int .i64 0,.int .i64 0,.int .i64 0] 108 ?_;intro a9 hg w5 hbox hb;have z:=ae.mk hbox;have dk:=af.gw hg HB;have dl:=af.gw hg HB;replace HB:=af.lb HB hb;have a0:=af.nl hg j;have a1:=af.ng hg j;replace j:=af.bb j hb;clear hb hbox hg;have hX:=a0.out;have hZ:=a1.out;obtain ⟨h8,h9,hj,hl⟩:=af.cY j.out) | ((with_reducible refine b8 (f:=114) rfl ?_);refine af.gl (some 13) Try.func114 #[.int .i64 a2,.slice aB y.length am] ?_;(with_reducible refine (bh.calls k a2 _ _ y true _ ?side1 ?side2 A2.out).mono ?_);(case side1=>exact af.Cw (Kd.aX ab.out HB.out));(case side2=>exact cc.out);rintro e w' ⟨rfl,⟨nd,rfl⟩⟩;refine ⟨_,rfl,?_⟩))
  go_loopg [4] k (fun kq v4 w'=>∃ (X:Int) (aF:Int) (aL:Int) (aO:Int),v4 = .int .i64 X∧ae (ak.l0 kq X a2 y = some (r1,r2,r3,r4))∧ae (kq≤k)∧ae (w'.heap[aa]? = some (.cells #[.int .i64 a2,(.slice aB y.length am)] 35 (0,0)))∧ae (w'.heap[a9]? = some (.cells #[.int .i64 aF,.int .i64 aL,.int .i64 aO] 108 (0,0)))∧ae (Below w.heap.size w w'))
  case atStart=>exact ⟨(0),(0),(0),(0),af.F,H',⟨Nat.le_refl _⟩,⟨af.Bw j.out⟩,⟨af.Bw z.out⟩,⟨af.Lw HB.out⟩⟩
  case round =>
   clear H'
   obtain ⟨X,aF,aL,aO,rfl,HA,b4,j,z,HB⟩:=hrel
   cases gk with
   | zero=>exact absurd HA.out (by simp [ak.l0])
   | succ k1 =>
    have H:=HA.out
    clear HA
    simp only [ak.l0] at H
    by_cases c8:X < (y.length:Int)
    ·rw [if_pos c8] at H
     have dv:=decide_eq_true c8
     clear c8
     have H':=ae.mk H
     clear H
     have i0:=a0.out
     have i1:=a1.out
     obtain ⟨dC,dE,dT,e0⟩:=af.cY j.out
     go_wp2
     go_loopg [5] k1 (fun kq v5 w'=>∃ (a5:Int) (ap:Int) (ar:Int) (aw:Int),v5 = .int .i64 a5∧ae (ak.l1 kq X a5 a2 y = some (r1,r2,r3,r4))∧ae (kq≤k1)∧ae (w'.heap[aa]? = some (.cells #[.int .i64 a2,(.slice aB y.length am)] 35 (0,0)))∧ae (w'.heap[a9]? = some (.cells #[.int .i64 ap,.int .i64 ar,.int .i64 aw] 108 (0,0)))∧ae (Below w.heap.size w w'))
     case atStart=>exact ⟨(0),(aF),(aL),(aO),af.F,H',⟨Nat.le_refl _⟩,⟨af.Bw j.out⟩,⟨af.Bw z.out⟩,⟨af.Lw HB.out⟩⟩
     case round =>
      clear H'
      obtain ⟨a5,ap,ar,aw,rfl,HA,ba,j,z,HB⟩:=hrel
      cases gk with
      | zero=>exact absurd HA.out (by simp [ak.l1])
      | succ k2 =>
       have H:=HA.out
       clear HA
       simp only [ak.l1] at H
       by_cases cp:a5 < (y.length:Int)
       ·rw [if_pos cp] at H
        have dp:=decide_eq_true cp
        clear cp
        have H':=ae.mk H
        clear H
        have hn:=a0.out
        have ho:=a1.out
        obtain ⟨e1,e2,e3,e4⟩:=af.cY j.out
        go_wp2
        go_loopg [6] k2 (fun kq v6 w'=>∃ (Y:Int) (a6:Int) (a7:Int) (a8:Int),v6 = .int .i64 Y∧ae (ak.l2 kq X a5 Y a2 y = some (r1,r2,r3,r4))∧ae (kq≤k2)∧ae (w'.heap[aa]? = some (.cells #[.int .i64 a2,(.slice aB y.length am)] 35 (0,0)))∧ae (w'.heap[a9]? = some (.cells #[.int .i64 a6,.int .i64 a7,.int .i64 a8] 108 (0,0)))∧ae (Below w.heap.size w w'))
        case atStart=>exact ⟨(0),(ap),(ar),(aw),af.F,H',⟨Nat.le_refl _⟩,⟨af.Bw j.out⟩,⟨af.Bw z.out⟩,⟨af.Lw HB.out⟩⟩
        case round =>
         clear H'
         obtain ⟨Y,a6,a7,a8,rfl,HA,cd,j,z,HB⟩:=hrel
         cases gk with
         | zero=>exact absurd HA.out (by simp [ak.l2])
         | succ k3 =>
          have H:=HA.out
          clear HA
          simp only [ak.l2] at H
          by_cases cq:Y < a2
          ·rw [if_pos cq] at H
           have dq:=decide_eq_true cq
           clear cq
           obtain ⟨e8,H⟩:=af.ip H
           have hq:=decide_eq_true e8
           clear e8
           obtain ⟨ea,H⟩:=af.ip H
           have hr:=decide_eq_true ea
           clear ea
           obtain ⟨eb,H⟩:=af.ip H
           have ht:=decide_eq_true eb
           clear eb
           obtain ⟨ed,H⟩:=af.ip H
           have hu:=decide_eq_true ed
           clear ed
           obtain ⟨ee,d7,H⟩:=af.be H
           (try dsimp only at H)
           by_cases d8:ee = true
           ·subst d8
            replace H:((bF.f (rd y a5) Y).bind fun d2=>(if d2 = true then (ak.l2 k3 X a5 (wrap64 (Y+1)) a2 y) else ((aN.f k3 a2 y (rd y X) (rd y a5) Y).bind fun ce=>(if ce = true then (ak.l2 k3 X a5 (wrap64 (Y+1)) a2 y) else (some (rd y X,rd y a5,Y,true)))))) = some (r1,r2,r3,r4):=by rw [if_pos rfl] at H;exact H
            obtain ⟨d2,dt,H⟩:=af.be H
            (try dsimp only at H)
            by_cases d9:d2 = true
            ·subst d9
             replace H:(ak.l2 k3 X a5 (wrap64 (Y+1)) a2 y) = some (r1,r2,r3,r4):=by rw [if_pos rfl] at H;exact H
             have H':=ae.mk H
             clear H
             have hx:=a0.out
             have hz:=a1.out
             obtain ⟨ef,eh,ej,el⟩:=af.cY j.out
             obtain ⟨ao,b0,a3,d3,d4⟩:=af.ai ab.out X
             cases b0
             try replace a3:=(HB.out.cell (World.block_lt_of_cell? w _ a3)).trans a3
             obtain ⟨aP,b2,a4,d5,d6⟩:=af.ai ab.out a5
             obtain rfl:ao = aP:=(by injection b2)
             try replace a4:=(HB.out.cell (World.block_lt_of_cell? w _ a4)).trans a4
             go_wp2_with (first | ((with_reducible refine b8 (f:=58) rfl ?_);refine af.gl (some 48) Try.func58 #[.int .i64 (rd y X),.int .i64 Y] ?_;(with_reducible refine (bF.calls (rd y X) Y true _ d7.out).mono ?_);rintro e w' ⟨rfl,⟨nd,rfl⟩⟩;refine ⟨_,rfl,?_⟩) | (go_at_call 58;(with_reducible refine (bF.calls (rd y a5) Y true _ dt.out).mono ?_);rintro e w' ⟨rfl,⟨nd,rfl⟩⟩))
             go_roundg k3
             case measure=>have:=b4.out;have:=ba.out;have:=cd.out;omega
             case rel=>exact ⟨(wrap64 (Y+1)),(a6),(a7),(a8),af.F,H',⟨by have:=b4.out;have:=ba.out;have:=cd.out;omega⟩,⟨af.Bw j.out⟩,⟨af.Bw z.out⟩,⟨af.Lw HB.out⟩⟩
            ·replace d9:=Bool.eq_false_iff.mpr d9
             subst d9
             replace H:((aN.f k3 a2 y (rd y X) (rd y a5) Y).bind fun ce=>(if ce = true then (ak.l2 k3 X a5 (wrap64 (Y+1)) a2 y) else (some (rd y X,rd y a5,Y,true)))) = some (r1,r2,r3,r4):=by rw [if_neg (show ¬ (false = true) by decide)] at H;exact H
             obtain ⟨ce,em,H⟩:=af.be H
             (try dsimp only at H)
             by_cases db:ce = true
             ·subst db
              replace H:(ak.l2 k3 X a5 (wrap64 (Y+1)) a2 y) = some (r1,r2,r3,r4):=by rw [if_pos rfl] at H;exact H
              have H':=ae.mk H
              clear H
              have hA:=a0.out
              have hC:=a1.out
              obtain ⟨eo,eq,es,et⟩:=af.cY j.out
              obtain ⟨ao,b0,a3,d3,d4⟩:=af.ai ab.out X
              cases b0
              try replace a3:=(HB.out.cell (World.block_lt_of_cell? w _ a3)).trans a3
              obtain ⟨aP,b2,a4,d5,d6⟩:=af.ai ab.out a5
              obtain rfl:ao = aP:=(by injection b2)
              try replace a4:=(HB.out.cell (World.block_lt_of_cell? w _ a4)).trans a4
              go_wp2_with (first | ((with_reducible refine b8 (f:=58) rfl ?_);refine af.gl (some 48) Try.func58 #[.int .i64 (rd y X),.int .i64 Y] ?_;(with_reducible refine (bF.calls (rd y X) Y true _ d7.out).mono ?_);rintro e w' ⟨rfl,⟨nd,rfl⟩⟩;refine ⟨_,rfl,?_⟩) | (go_at_call 58;(with_reducible refine (bF.calls (rd y a5) Y false _ dt.out).mono ?_);rintro e w' ⟨rfl,⟨nd,rfl⟩⟩) | (go_at_call 140;(with_reducible refine (aN.calls k3 a2 _ _ y (rd y X) (rd y a5) Y true _ ?side1 ?side2 em.out).mono ?_);(case side1=>exact af.Cw (Kd.aX ab.out HB.out));(case side2=>exact cc.out);rintro e i2 ⟨rfl,hb⟩;replace j:=af.bb j hb;replace z:=af.bb z hb;replace HB:=af.lb HB hb;(try clear hb);(try clear hD);(try clear hk);(try clear hi)))
              go_roundg k3
              case measure=>have:=b4.out;have:=ba.out;have:=cd.out;omega
              case rel=>exact ⟨(wrap64 (Y+1)),(a6),(a7),(a8),af.F,H',⟨by have:=b4.out;have:=ba.out;have:=cd.out;omega⟩,⟨af.Bw j.out⟩,⟨af.Bw z.out⟩,⟨af.Lw HB.out⟩⟩
             ·replace db:=Bool.eq_false_iff.mpr db
              subst db
              replace H:(some (rd y X,rd y a5,Y,true)) = some (r1,r2,r3,r4):=by rw [if_neg (show ¬ (false = true) by decide)] at H;exact H
              simp only [Option.some.injEq,Prod.mk.injEq] at H
              obtain ⟨rfl,rfl,rfl,rfl⟩:=H
              have hE:=a0.out
              have hG:=a1.out
              obtain ⟨ev,ew,ex,eQ⟩:=af.cY j.out
              obtain ⟨ao,b0,a3,d3,d4⟩:=af.ai ab.out X
              cases b0
              try replace a3:=(HB.out.cell (World.block_lt_of_cell? w _ a3)).trans a3
              obtain ⟨aP,b2,a4,d5,d6⟩:=af.ai ab.out a5
              obtain rfl:ao = aP:=(by injection b2)
              try replace a4:=(HB.out.cell (World.block_lt_of_cell? w _ a4)).trans a4
              go_wp2_with (first | ((with_reducible refine b8 (f:=58) rfl ?_);refine af.gl (some 48) Try.func58 #[.int .i64 (rd y X),.int .i64 Y] ?_;(with_reducible refine (bF.calls (rd y X) Y true _ d7.out).mono ?_);rintro e w' ⟨rfl,⟨nd,rfl⟩⟩;refine ⟨_,rfl,?_⟩;(try (rw [ij wr];generalize aS:World.drewN wr _ = wr;have cf:ae (wr.heap[aa]? = some (.cells #[.int .i64 a2,.slice (some ao) y.length am] 35 (0,0))):=⟨by rw [← aS];exact (af.Bw j.out)⟩;have ch:ae (wr.heap[a9]? = some (.cells #[.int .i64 a6,.int .i64 a7,.int .i64 a8] 108 (0,0))):=⟨by rw [← aS];exact (af.Bw z.out)⟩;have ci:ae (Below w.heap.size w wr):=⟨by rw [← aS];exact (af.Lw HB.out)⟩;clear j z HB aS;have j:=cf;have z:=ch;have HB:=ci;clear cf ch ci;have bc:wr.cell? ⟨aa,0,none⟩ = some (.int .i64 a2):=(ah j.out 0).trans rfl;have bi:=aj j.out 0;have bm:wr.cell? ⟨aa,1,none⟩ = some (.slice (some ao) y.length am):=(ah j.out 1).trans rfl;have bo:=aj j.out 1;have bs:wr.cell? ⟨a9,0,none⟩ = some (.int .i64 a6):=(ah z.out 0).trans rfl;have bv:=aj z.out 0;have c0:wr.cell? ⟨a9,1,none⟩ = some (.int .i64 a7):=(ah z.out 1).trans rfl;have c1:=aj z.out 1;have ca:wr.cell? ⟨a9,2,none⟩ = some (.int .i64 a8):=(ah z.out 2).trans rfl;have cb:=aj z.out 2))) | (go_at_call 58;(with_reducible refine (bF.calls (rd y a5) Y false _ dt.out).mono ?_);rintro e w' ⟨rfl,⟨nd,rfl⟩⟩;(try (rw [ij wr];generalize aS:World.drewN wr _ = wr;have cf:ae (wr.heap[aa]? = some (.cells #[.int .i64 a2,.slice (some ao) y.length am] 35 (0,0))):=⟨by rw [← aS];exact (af.Bw j.out)⟩;have ch:ae (wr.heap[a9]? = some (.cells #[.int .i64 a6,.int .i64 a7,.int .i64 a8] 108 (0,0))):=⟨by rw [← aS];exact (af.Bw z.out)⟩;have ci:ae (Below w.heap.size w wr):=⟨by rw [← aS];exact (af.Lw HB.out)⟩;clear j z HB aS;have j:=cf;have z:=ch;have HB:=ci;clear cf ch ci;have bc:wr.cell? ⟨aa,0,none⟩ = some (.int .i64 a2):=(ah j.out 0).trans rfl;have bi:=aj j.out 0;have bm:wr.cell? ⟨aa,1,none⟩ = some (.slice (some ao) y.length am):=(ah j.out 1).trans rfl;have bo:=aj j.out 1;have bs:wr.cell? ⟨a9,0,none⟩ = some (.int .i64 a6):=(ah z.out 0).trans rfl;have bv:=aj z.out 0;have c0:wr.cell? ⟨a9,1,none⟩ = some (.int .i64 a7):=(ah z.out 1).trans rfl;have c1:=aj z.out 1;have ca:wr.cell? ⟨a9,2,none⟩ = some (.int .i64 a8):=(ah z.out 2).trans rfl;have cb:=aj z.out 2))) | (go_at_call 140;(with_reducible refine (aN.calls k3 a2 _ _ y (rd y X) (rd y a5) Y false _ ?side1 ?side2 em.out).mono ?_);(case side1=>exact af.Cw (Kd.aX ab.out HB.out));(case side2=>exact cc.out);rintro e i3 ⟨rfl,hb⟩;replace j:=af.bb j hb;replace z:=af.bb z hb;replace HB:=af.lb HB hb;(try clear hb);(try clear hD);(try clear hk);(try clear hi);obtain ⟨f0,f1,f2,f3,f4,f5⟩:=af.bW z.out))
              refine bodyPost_ret (de rfl _ _ a9 108 #[.int .i64 (rd y X),.int .i64 (rd y a5),.int .i64 Y] (0,0) _ rfl af.B Try.underlying108 rfl (by kernel_rfl)) rfl ?_
              exact ⟨af.E,af.L⟩
           ·replace d8:=Bool.eq_false_iff.mpr d8
            subst d8
            replace H:(ak.l2 k3 X a5 (wrap64 (Y+1)) a2 y) = some (r1,r2,r3,r4):=by rw [if_neg (show ¬ (false = true) by decide)] at H;exact H
            have H':=ae.mk H
            clear H
            have hH:=a0.out
            have hI:=a1.out
            obtain ⟨f6,f7,f8,f9⟩:=af.cY j.out
            obtain ⟨ao,b0,a3,d3,d4⟩:=af.ai ab.out X
            cases b0
            try replace a3:=(HB.out.cell (World.block_lt_of_cell? w _ a3)).trans a3
            obtain ⟨aP,b2,a4,d5,d6⟩:=af.ai ab.out a5
            obtain rfl:ao = aP:=(by injection b2)
            try replace a4:=(HB.out.cell (World.block_lt_of_cell? w _ a4)).trans a4
            go_wp2_with (first | ((with_reducible refine b8 (f:=58) rfl ?_);refine af.gl (some 48) Try.func58 #[.int .i64 (rd y X),.int .i64 Y] ?_;(with_reducible refine (bF.calls (rd y X) Y false _ d7.out).mono ?_);rintro e w' ⟨rfl,⟨nd,rfl⟩⟩;refine ⟨_,rfl,?_⟩))
            go_roundg k3
            case measure=>have:=b4.out;have:=ba.out;have:=cd.out;omega
            case rel=>exact ⟨(wrap64 (Y+1)),(a6),(a7),(a8),af.F,H',⟨by have:=b4.out;have:=ba.out;have:=cd.out;omega⟩,⟨af.Bw j.out⟩,⟨af.Bw z.out⟩,⟨af.Lw HB.out⟩⟩
          ·rw [if_neg cq] at H
           have dq:decide (Y < a2) = false:=decide_eq_false cq
           clear cq
           have H':=ae.mk H
           clear H
           have hL:=a0.out
           have hM:=a1.out
           obtain ⟨fd,fi,fj,fp⟩:=af.cY j.out
           go_wp2
           go_roundg k3
           case measure=>have:=b4.out;have:=ba.out;have:=cd.out;omega
           case rel=>exact ⟨(wrap64 (a5+1)),(a6),(a7),(a8),af.F,H',⟨by have:=b4.out;have:=ba.out;have:=cd.out;omega⟩,⟨af.Bw j.out⟩,⟨af.Bw z.out⟩,⟨af.Lw HB.out⟩⟩
       ·rw [if_neg cp] at H
        have dp:decide (a5 < (y.length:Int)) = false:=decide_eq_false cp
        clear cp
        have H':=ae.mk H
        clear H
        have hO:=a0.out
        have hP:=a1.out
        obtain ⟨fs,ft,fw,fO⟩:=af.cY j.out
        go_wp2
        go_roundg k2
        case measure=>have:=b4.out;have:=ba.out;omega
        case rel=>exact ⟨(wrap64 (X+1)),(ap),(ar),(aw),af.F,H',⟨by have:=b4.out;have:=ba.out;omega⟩,⟨af.Bw j.out⟩,⟨af.Bw z.out⟩,⟨af.Lw HB.out⟩⟩
    ·rw [if_neg c8] at H
     have dv:decide (X < (y.length:Int)) = false:=decide_eq_false c8
     clear c8
     simp only [Option.some.injEq,Prod.mk.injEq] at H
     obtain ⟨rfl,rfl,rfl,rfl⟩:=H
     have hR:=a0.out
     have hT:=a1.out
     obtain ⟨fX,fY,g0,g1⟩:=af.cY j.out
     obtain ⟨g2,g3,g4,g5,g6,g7⟩:=af.bW z.out
     go_wp2
     refine bodyPost_ret (de rfl _ _ a9 108 #[.int .i64 0,.int .i64 0,.int .i64 0] (0,0) _ rfl af.B Try.underlying108 rfl (by kernel_rfl)) rfl ?_
     exact ⟨af.E,af.L⟩
 ·replace c3:=Bool.eq_false_iff.mpr c3
  subst c3
  replace H:(some (0,0,0,false)) = some (r1,r2,r3,r4):=by rw [if_neg (show ¬ (false = true) by decide)] at H;exact H
  simp only [Option.some.injEq,Prod.mk.injEq] at H
  obtain ⟨rfl,rfl,rfl,rfl⟩:=H
  go_enter Try.func113,Try.ntmps113
  go_wp2_with (first | ((with_reducible refine bf (N:=1) rfl ?_);refine af.bx 1 #[.int .i64 a2,.slice aB y.length am] 35 ?_;intro aa hg i4 hbox hb;have j:=ae.mk hbox;have dd:=af.gw hg HB;have df:=af.gw hg HB;replace HB:=af.lb HB hb;clear hb hbox hg) | ((with_reducible refine bf (N:=2) rfl ?_);refine af.bx 2 #[.int .i64 0,.int .i64 0,.int .i64 0] 108 ?_;intro a9 hg b3 hbox hb;have z:=ae.mk hbox;have dk:=af.gw hg HB;have dl:=af.gw hg HB;replace HB:=af.lb HB hb;have a0:=af.nl hg j;have a1:=af.ng hg j;replace j:=af.bb j hb;clear hb hbox hg;have hU:=a0.out;have hV:=a1.out;obtain ⟨g8,g9,gb,gc⟩:=af.cY j.out) | ((with_reducible refine b8 (f:=114) rfl ?_);refine af.gl (some 13) Try.func114 #[.int .i64 a2,.slice aB y.length am] ?_;(with_reducible refine (bh.calls k a2 _ _ y false _ ?side1 ?side2 A2.out).mono ?_);(case side1=>exact af.Cw (Kd.aX ab.out HB.out));(case side2=>exact cc.out);rintro e w' ⟨rfl,⟨nd,rfl⟩⟩;refine ⟨_,rfl,?_⟩;(try (rw [ij b3];generalize aS:World.drewN b3 _ = b3;have cf:ae (b3.heap[aa]? = some (.cells #[.int .i64 a2,.slice aB y.length am] 35 (0,0))):=⟨by rw [← aS];exact (af.Bw j.out)⟩;have ch:ae (b3.heap[a9]? = some (.cells #[.int .i64 0,.int .i64 0,.int .i64 0] 108 (0,0))):=⟨by rw [← aS];exact (af.Bw z.out)⟩;have ci:ae (Below w.heap.size w b3):=⟨by rw [← aS];exact (af.Lw HB.out)⟩;clear j z HB aS;have j:=cf;have z:=ch;have HB:=ci;clear cf ch ci;have bc:b3.cell? ⟨aa,0,none⟩ = some (.int .i64 a2):=(ah j.out 0).trans rfl;have bi:=aj j.out 0;have bm:b3.cell? ⟨aa,1,none⟩ = some (.slice aB y.length am):=(ah j.out 1).trans rfl;have bo:=aj j.out 1;have bs:b3.cell? ⟨a9,0,none⟩ = some (.int .i64 0):=(ah z.out 0).trans rfl;have bv:=aj z.out 0;have c0:b3.cell? ⟨a9,1,none⟩ = some (.int .i64 0):=(ah z.out 1).trans rfl;have c1:=aj z.out 1;have ca:b3.cell? ⟨a9,2,none⟩ = some (.int .i64 0):=(ah z.out 2).trans rfl;have cb:=aj z.out 2));obtain ⟨go,gs,gt,h0,h6,h7⟩:=af.bW z.out))
  refine bodyPost_ret (de rfl _ _ a9 108 #[.int .i64 0,.int .i64 0,.int .i64 0] (0,0) _ rfl af.B Try.underlying108 rfl (by kernel_rfl)) rfl ?_
  exact ⟨af.E,af.L⟩
def cW.f (k:Nat) (y:Int) (j:List Int):Option (Bool):=(ak.f k y j).bind fun z=>((bh.f k y j).bind fun X=>(if X = true then (if (j.length:Int) > 0 then (some (!z.2.2.2)) else (some false)) else (some false)))
set_option maxHeartbeats 8000000 in
set_option maxRecDepth 100000 in
theorem cW.calls (k:Nat) (z:Int) (a0:Option Addr) (a1:Nat) (y:List Int) (r:Bool) (w:World) (a6:Kd.C (Kd.int .i64) w a0 y.length y) (a7:y.length≤a1) (h:cW.f k z y = some r) :
  Calls Try.prog 76 #[.agg #[.int .i64 z,.slice a0 y.length a1]] w fun e w'=>e = .returned (.bool r)∧Below w.heap.size w w':=by
 have e1:=Try.underlying35
 have dt:=Try.underlying108
 have a2:=ae.mk a6
 have a3:=ae.mk a7
 clear a6 a7
 have HB:=ae.mk (Below.refl w.heap.size w)
 unfold cW.f at h
 have H:=h
 clear h
 obtain ⟨⟨a8,a9,aa,a5⟩,A2,H⟩:=af.be H
 (try dsimp only at H)
 obtain ⟨aB,A3,H⟩:=af.be H
 (try dsimp only at H)
 by_cases c4:aB = true
 ·subst c4
  replace H:(if (y.length:Int) > 0 then (some (!a5)) else (some false)) = some r:=by rw [if_pos rfl] at H;exact H
  by_cases c5:(y.length:Int) > 0
  ·rw [if_pos c5] at H
   have aF:=decide_eq_true c5
   have aL:decide (0 < y.length) = true:=decide_eq_true (by omega)
   clear c5
   obtain rfl:=Option.some.inj H
   go_enter Try.func76,Try.ntmps76
   go_wp2_with (first | ((with_reducible refine bf (N:=1) rfl ?_);(try (refine bV (by rfl) ?_;dsimp only));refine ck ?hg (N:=1) ?hd (cs:=#[.int .i64 z,.slice a0 y.length a1]) (t:=35) ?hr ?_;(case hd=>rfl);(case hg=>rfl);(case hr=>first | (go_simp;done) | (go_simp;rfl));intro ab hg w6 hbox hb;have j:=ae.mk hbox;have am:=af.gw hg HB;have ao:=af.gw hg HB;replace HB:=af.lb HB hb;clear hb hbox hg;obtain ⟨dk,dl,dp,dq⟩:=af.cY j.out) | (refine af.gl (some 7) Try.func113 #[.agg #[.int .i64 z,.slice a0 y.length a1]] ?_;(with_reducible refine (ak.calls k z _ _ y a8 a9 aa a5 _ ?side1 ?side2 A2.out).mono ?_);(case side1=>exact af.Cw (Kd.aX a2.out HB.out));(case side2=>exact a3.out);rintro e w8 ⟨rfl,hb⟩;refine ⟨_,rfl,?_⟩;replace j:=af.bb j hb;replace HB:=ae.mk (ax af.L hb);(try clear hb);(try clear aO);(try clear hk);(try clear hi)) | ((with_reducible refine bf (N:=3) rfl ?_);(try (refine bV (by rfl) ?_;dsimp only));refine ck ?hg (N:=3) ?hd (cs:=#[.int .i64 0,.int .i64 0,.int .i64 0]) (t:=108) ?hr ?_;(case hd=>rfl);(case hg=>rfl);(case hr=>first | (go_simp;done) | (go_simp;rfl));intro ap hg w9 hbox hb;have a4:=ae.mk hbox;have ar:=af.gL (w:=w) hg af.L;have aw:=af.gL (w:=w) hg af.L;replace HB:=ae.mk (ax af.L hb);have X:=af.nl hg j;have Y:=af.ng hg j;replace j:=af.bb j hb;clear hb hbox hg;have du:=Y.out;have dv:=X.out;obtain ⟨aP,aS,b0,b2,b3,b4⟩:=af.bW a4.out;obtain ⟨ba,bc,bi,bm⟩:=af.cY j.out) | (refine af.gl (some 14) Try.func114 #[.int .i64 z,.slice a0 y.length a1] ?_;(with_reducible refine (bh.calls k z _ _ y true _ ?side1 ?side2 A3.out).mono ?_);(case side1=>exact Kd.aX a2.out af.L);(case side2=>exact a3.out);rintro e w' ⟨rfl,⟨nd,rfl⟩⟩;refine ⟨_,rfl,?_⟩))
   go_ret
   exact ⟨af.E,af.L⟩
  ·rw [if_neg c5] at H
   have aF:decide (0 < (y.length:Int)) = false:=decide_eq_false c5
   have aL:decide (0 < y.length) = false:=decide_eq_false (by omega)
   clear c5
   obtain rfl:=Option.some.inj H
   go_enter Try.func76,Try.ntmps76
   go_wp2_with (first | ((with_reducible refine bf (N:=1) rfl ?_);(try (refine bV (by rfl) ?_;dsimp only));refine ck ?hg (N:=1) ?hd (cs:=#[.int .i64 z,.slice a0 y.length a1]) (t:=35) ?hr ?_;(case hd=>rfl);(case hg=>rfl);(case hr=>first | (go_simp;done) | (go_simp;rfl));intro ab hg e2 hbox hb;have j:=ae.mk hbox;have am:=af.gw hg HB;have ao:=af.gw hg HB;replace HB:=af.lb HB hb;clear hb hbox hg;obtain ⟨bo,bs,bv,c0⟩:=af.cY j.out) | (refine af.gl (some 7) Try.func113 #[.agg #[.int .i64 z,.slice a0 y.length a1]] ?_;(with_reducible refine (ak.calls k z _ _ y a8 a9 aa a5 _ ?side1 ?side2 A2.out).mono ?_);(case side1=>exact af.Cw (Kd.aX a2.out HB.out));(case side2=>exact a3.out);rintro e e3 ⟨rfl,hb⟩;refine ⟨_,rfl,?_⟩;replace j:=af.bb j hb;replace HB:=ae.mk (ax af.L hb);(try clear hb);(try clear aO);(try clear hk);(try clear hi)) | ((with_reducible refine bf (N:=3) rfl ?_);(try (refine bV (by rfl) ?_;dsimp only));refine ck ?hg (N:=3) ?hd (cs:=#[.int .i64 0,.int .i64 0,.int .i64 0]) (t:=108) ?hr ?_;(case hd=>rfl);(case hg=>rfl);(case hr=>first | (go_simp;done) | (go_simp;rfl));intro ap hg e4 hbox hb;have a4:=ae.mk hbox;have ar:=af.gL (w:=w) hg af.L;have aw:=af.gL (w:=w) hg af.L;replace HB:=ae.mk (ax af.L hb);have X:=af.nl hg j;have Y:=af.ng hg j;replace j:=af.bb j hb;clear hb hbox hg;have dC:=Y.out;have dE:=X.out;obtain ⟨c1,ca,cb,cc,cd,ce⟩:=af.bW a4.out;obtain ⟨cf,ch,ci,cp⟩:=af.cY j.out) | (refine af.gl (some 14) Try.func114 #[.int .i64 z,.slice a0 y.length a1] ?_;(with_reducible refine (bh.calls k z _ _ y true _ ?side1 ?side2 A3.out).mono ?_);(case side1=>exact Kd.aX a2.out af.L);(case side2=>exact a3.out);rintro e w' ⟨rfl,⟨nd,rfl⟩⟩;refine ⟨_,rfl,?_⟩))
   go_ret
   exact ⟨af.E,af.L⟩
 ·replace c4:=Bool.eq_false_iff.mpr c4
  subst c4
  replace H:(some false) = some r:=by rw [if_neg (show ¬ (false = true) by decide)] at H;exact H
  obtain rfl:=Option.some.inj H
  go_enter Try.func76,Try.ntmps76
  go_wp2_with (first | ((with_reducible refine bf (N:=1) rfl ?_);(try (refine bV (by rfl) ?_;dsimp only));refine ck ?hg (N:=1) ?hd (cs:=#[.int .i64 z,.slice a0 y.length a1]) (t:=35) ?hr ?_;(case hd=>rfl);(case hg=>rfl);(case hr=>first | (go_simp;done) | (go_simp;rfl));intro ab hg e8 hbox hb;have j:=ae.mk hbox;have am:=af.gw hg HB;have ao:=af.gw hg HB;replace HB:=af.lb HB hb;clear hb hbox hg;obtain ⟨cq,d0,d1,d2⟩:=af.cY j.out) | (refine af.gl (some 7) Try.func113 #[.agg #[.int .i64 z,.slice a0 y.length a1]] ?_;(with_reducible refine (ak.calls k z _ _ y a8 a9 aa a5 _ ?side1 ?side2 A2.out).mono ?_);(case side1=>exact af.Cw (Kd.aX a2.out HB.out));(case side2=>exact a3.out);rintro e ea ⟨rfl,hb⟩;refine ⟨_,rfl,?_⟩;replace j:=af.bb j hb;replace HB:=ae.mk (ax af.L hb);(try clear hb);(try clear aO);(try clear hk);(try clear hi)) | ((with_reducible refine bf (N:=3) rfl ?_);(try (refine bV (by rfl) ?_;dsimp only));refine ck ?hg (N:=3) ?hd (cs:=#[.int .i64 0,.int .i64 0,.int .i64 0]) (t:=108) ?hr ?_;(case hd=>rfl);(case hg=>rfl);(case hr=>first | (go_simp;done) | (go_simp;rfl));intro ap hg eb hbox hb;have a4:=ae.mk hbox;have ar:=af.gL (w:=w) hg af.L;have aw:=af.gL (w:=w) hg af.L;replace HB:=ae.mk (ax af.L hb);have X:=af.nl hg j;have Y:=af.ng hg j;replace j:=af.bb j hb;clear hb hbox hg;have dT:=Y.out;have e0:=X.out;obtain ⟨d3,d4,d5,d6,d7,d8⟩:=af.bW a4.out;obtain ⟨d9,db,dd,df⟩:=af.cY j.out) | (refine af.gl (some 14) Try.func114 #[.int .i64 z,.slice a0 y.length a1] ?_;(with_reducible refine (bh.calls k z _ _ y false _ ?side1 ?side2 A3.out).mono ?_);(case side1=>exact Kd.aX a2.out af.L);(case side2=>exact a3.out);rintro e w' ⟨rfl,⟨nd,rfl⟩⟩;refine ⟨_,rfl,?_⟩))
  go_ret
  exact ⟨af.E,af.L⟩
def br.l0:Nat→Int→Int→Option (Int)
 | 0,_,_=>none
 | k+1,j,y=>if j > 0 then (br.l0 k (j / 2) (wrap64 (y+(Go.bits .and .i64 j 1)))) else (some y)
def br.f (k:Nat) (a0:Int):Option (Int):=(bP.f 8 a0).bind fun j=>(if j = true then (br.l0 k a0 0) else (some 0))
theorem br.fc:∀ k,af.S2 br.l0 k
 | 0=>by and_intros <;> (repeat intro _) <;> exact af.mz rfl
 | k+1=>by
  have j:=br.fc k
  and_intros <;> (repeat intro _) <;> unfold br.l0 <;> exact ⟨af.mt⟩
theorem br.mono:∀ a0 k,fu (br.f k a0) (br.f (k+1) a0):=by
 intro a0 k
 have j:=br.fc k
 unfold br.f
 exact af.mt
set_option maxHeartbeats 8000000 in
set_option maxRecDepth 100000 in
theorem br.calls (k:Nat) (a0:Int) (r:Int) (w:World) (h:br.f k a0 = some r) :
  Calls Try.prog 96 #[.int .i64 a0] w fun e w'=>e = .returned (.int .i64 r)∧bQ w w':=by
 unfold br.f at h
 have H:=h
 clear h
 obtain ⟨z,A2,H⟩:=af.be H
 (try dsimp only at H)
 by_cases c3:z = true
 ·subst c3
  replace H:(br.l0 k a0 0) = some r:=by rw [if_pos rfl] at H;exact H
  have H':=ae.mk H
  clear H
  go_enter Try.func96,Try.ntmps96
  go_wp2_with (first | (refine af.gl (some 5) Try.func56 #[.int .i64 8,.int .i64 a0] ?_;(with_reducible refine (bP.calls 8 a0 true _ A2.out).mono ?_);rintro e w' ⟨rfl,⟨nd,rfl⟩⟩;refine ⟨_,rfl,?_⟩))
  go_loopg [0,3] k (fun kq v0 v3 w'=>∃ (j:Int) (y:Int),v0 = .int .i64 j∧v3 = .int .i64 y∧ae (br.l0 kq j y = some r)∧ae (kq≤k)∧bQ w w')
  case atStart=>exact ⟨(a0),(0),af.F,af.F,H',⟨Nat.le_refl _⟩,af.G⟩
  case round =>
   clear H'
   obtain ⟨j,y,rfl,rfl,HA,X,⟨m1,rfl⟩⟩:=hrel
   cases gk with
   | zero=>exact absurd HA.out (by simp [br.l0])
   | succ k1 =>
    have H:=HA.out
    clear HA
    simp only [br.l0] at H
    by_cases c4:j > 0
    ·rw [if_pos c4] at H
     have Y:=decide_eq_true c4
     clear c4
     have H':=ae.mk H
     clear H
     go_wp2
     go_roundg k1
     case measure=>have:=X.out;omega
     case rel=>exact ⟨(j / 2),(wrap64 (y+(Go.bits .and .i64 j 1))),af.F,af.F,H',⟨by have:=X.out;omega⟩,af.G⟩
    ·rw [if_neg c4] at H
     have Y:decide (0 < j) = false:=decide_eq_false c4
     clear c4
     obtain rfl:=Option.some.inj H
     go_wp2
     go_ret
     exact ⟨af.F,af.G⟩
 ·replace c3:=Bool.eq_false_iff.mpr c3
  subst c3
  replace H:(some 0) = some r:=by rw [if_neg (show ¬ (false = true) by decide)] at H;exact H
  obtain rfl:=Option.some.inj H
  go_enter Try.func96,Try.ntmps96
  go_wp2_with (first | (refine af.gl (some 5) Try.func56 #[.int .i64 8,.int .i64 a0] ?_;(with_reducible refine (bP.calls 8 a0 false _ A2.out).mono ?_);rintro e w' ⟨rfl,⟨nd,rfl⟩⟩;refine ⟨_,rfl,?_⟩))
  go_ret
  exact ⟨af.F,af.G⟩
def bI.f (k:Nat) (y:Int) (j:List Int):Option (Int):=(cW.f k y j).bind fun z=>(if z = true then (if 0 < (j.length:Int) then ((br.f k (rd j 0)).bind fun X=>(some X)) else (none)) else (some (-1)))
set_option maxHeartbeats 8000000 in
set_option maxRecDepth 100000 in
theorem bI.calls (k:Nat) (X:Int) (Y:Option Addr) (a0:Nat) (j:List Int) (r:Int) (w:World) (a2:Kd.C (Kd.int .i64) w Y j.length j) (a3:j.length≤a0) (h:bI.f k X j = some r) :
  Calls Try.prog 47 #[.agg #[.int .i64 X,.slice Y j.length a0]] w fun e w'=>e = .returned (.int .i64 r)∧Below w.heap.size w w':=by
 have bc:=Try.underlying35
 have a1:=ae.mk a2
 have a4:=ae.mk a3
 clear a2 a3
 have HB:=ae.mk (Below.refl w.heap.size w)
 unfold bI.f at h
 have H:=h
 clear h
 obtain ⟨ab,A2,H⟩:=af.be H
 (try dsimp only at H)
 by_cases c3:ab = true
 ·subst c3
  replace H:(if 0 < (j.length:Int) then ((br.f k (rd j 0)).bind fun a5=>(some a5)) else (none)) = some r:=by rw [if_pos rfl] at H;exact H
  obtain ⟨c4,H⟩:=af.ip H
  have bi:=decide_eq_true c4
  have bm:decide (0 < j.length) = true:=decide_eq_true (by omega)
  clear c4
  obtain ⟨a5,A5,H⟩:=af.be H
  (try dsimp only at H)
  obtain rfl:=Option.some.inj H
  go_enter Try.func47,Try.ntmps47
  go_wp2_with (first | (refine af.bx 1 #[.int .i64 X,.slice Y j.length a0] 35 ?_;intro a8 hg w6 hbox hb;have y:=ae.mk hbox;have a9:=af.gw hg HB;have aa:=af.gw hg HB;replace HB:=af.lb HB hb;clear hb hbox hg;obtain ⟨aB,aF,aL,aO⟩:=af.cY y.out) | (refine af.gl (some 4) Try.func76 #[.agg #[.int .i64 X,.slice Y j.length a0]] ?_;(with_reducible refine (cW.calls k X _ _ j true _ ?side1 ?side2 A2.out).mono ?_);(case side1=>exact af.Cw (Kd.aX a1.out HB.out));(case side2=>exact a4.out);rintro e w8 ⟨rfl,hb⟩;refine ⟨_,rfl,?_⟩;replace y:=af.bb y hb;replace HB:=af.lb HB hb;(try clear hb);(try clear b3);(try clear hk);(try clear hi);obtain ⟨aP,aS,b0,b2⟩:=af.cY y.out;have a6:0≤(0:Int):=(by omega);have a7:0 < (j.length:Int):=af.D;obtain ⟨b4,am,z⟩:=Kd.cF a1.out 0 a6 a7;cases am;have ba:(0 < j.length) = True:=eq_true (by omega);(try rw [show ((0:Int)).toNat = 0 from rfl] at z);(try rw [Addr.add_zero'] at z);replace z:=(HB.out.cell (World.block_lt_of_cell? w _ z)).trans z;replace a6:=eq_true a6;replace a7:=eq_true a7) | (refine af.gl (some 10) Try.func96 #[.int .i64 (rd j 0)] ?_;(with_reducible refine (br.calls k (rd j 0) a5 _ A5.out).mono ?_);rintro e w' ⟨rfl,⟨nd,rfl⟩⟩;refine ⟨_,rfl,?_⟩))
  go_ret
  exact ⟨af.E,af.L⟩
 ·replace c3:=Bool.eq_false_iff.mpr c3
  subst c3
  replace H:(some (-1)) = some r:=by rw [if_neg (show ¬ (false = true) by decide)] at H;exact H
  obtain rfl:=Option.some.inj H
  go_enter Try.func47,Try.ntmps47
  go_wp2_with (first | (refine af.bx 1 #[.int .i64 X,.slice Y j.length a0] 35 ?_;intro a8 hg bo hbox hb;have y:=ae.mk hbox;have a9:=af.gw hg HB;have aa:=af.gw hg HB;replace HB:=af.lb HB hb;clear hb hbox hg;obtain ⟨ao,ap,ar,aw⟩:=af.cY y.out) | (refine af.gl (some 4) Try.func76 #[.agg #[.int .i64 X,.slice Y j.length a0]] ?_;(with_reducible refine (cW.calls k X _ _ j false _ ?side1 ?side2 A2.out).mono ?_);(case side1=>exact af.Cw (Kd.aX a1.out HB.out));(case side2=>exact a4.out);rintro e bs ⟨rfl,hb⟩;refine ⟨_,rfl,?_⟩;replace y:=af.bb y hb;replace HB:=af.lb HB hb;(try clear hb);(try clear b3);(try clear hk);(try clear hi)))
  go_ret
  exact ⟨af.E,af.L⟩
mutual
def au.l0:Nat→Int→List Int→Int→Int→List Int→List Int→Option (Int)
 | 0,_,_,_,_,_,_=>none
 | k+1,x1,X,x6,z,j,y=>if x6 < z then (if X.length < 17592186044416 then (au.l0 k x1 (X ++ [x6]) (wrap64 (x6+1)) z j y) else (none)) else (au.l1 k x1 X z 0 z j y)
def au.l1:Nat→Int→List Int→Int→Int→Int→List Int→List Int→Option (Int)
 | 0,_,_,_,_,_,_,_=>none
 | k+1,x1,X,x7,Y,z,j,y=>if Y < (j.length:Int) then (if 0≤Y then (if 0≤(rd j Y) then (if (rd j Y) < (X.length:Int) then (if Y < (y.length:Int) then (if 0≤(rd y Y) then (if (rd y Y) < (X.length:Int) then ((bF.f x1 Y).bind fun a2=>(if a2 = true then (au.j2 k x1 X x7 Y (rd X (rd j Y)) (rd X (rd y Y)) ((rd X (rd j Y)) == (rd X (rd y Y))) z j y) else (au.j2 k x1 X x7 Y (rd X (rd j Y)) (rd X (rd y Y)) true z j y))) else (none)) else (none)) else (none)) else (none)) else (none)) else (none)) else (some x7)
def au.j2:Nat→Int→List Int→Int→Int→Int→Int→Bool→Int→List Int→List Int→Option (Int)
 | 0,_,_,_,_,_,_,_,_,_,_=>none
 | k+1,x1,X,x7,Y,x9,a1,a3,z,j,y=>if a3 = true then (au.l1 k x1 X x7 (wrap64 (Y+1)) z j y) else (au.l2 k x1 X x7 Y x9 a1 0 z j y)
def au.l2:Nat→Int→List Int→Int→Int→Int→Int→Int→Int→List Int→List Int→Option (Int)
 | 0,_,_,_,_,_,_,_,_,_,_=>none
 | k+1,x1,X,x7,Y,x9,a1,a0,z,j,y=>if a0 < z then (if 0≤a0 then (if a0 < (X.length:Int) then (if (rd X a0) = a1 then (au.l2 k x1 (X.set (a0:Int).toNat x9) x7 Y x9 a1 (wrap64 (a0+1)) z j y) else (au.l2 k x1 X x7 Y x9 a1 (wrap64 (a0+1)) z j y)) else (none)) else (none)) else (au.l1 k x1 X (wrap64 (x7 - 1)) (wrap64 (Y+1)) z j y)
end
def au.f (k:Nat) (j:Int) (y:List Int) (z:List Int) (X:Int):Option (Int):=au.l0 k X (([]:List Int)) 0 j y z
set_option maxHeartbeats 8000000 in
set_option maxRecDepth 100000 in
theorem au.calls (k:Nat) (a3:Int) (aO:Option Addr) (aa:Nat) (z:List Int) (aP:Option Addr) (ab:Nat) (X:List Int) (a1:Int) (r:Int) (w:World) (c1:Kd.C (Kd.int .i64) w aO z.length z) (ca:z.length≤aa) (cb:Kd.C (Kd.int .i64) w aP X.length X) (cc:X.length≤ab) (h:au.f k a3 z X a1 = some r) :
  Calls Try.prog 97 #[.agg #[.int .i64 a3,.slice aO z.length aa,.slice aP X.length ab],.int .i64 a1] w fun e w'=>e = .returned (.int .i64 r)∧Below w.heap.size w w':=by
 have i2:=Try.underlying58
 have dk:=ae.mk c1
 have hE:=ae.mk ca
 clear c1 ca
 have dl:=ae.mk cb
 have hG:=ae.mk cc
 clear cb cc
 have HB:=ae.mk (Below.refl w.heap.size w)
 unfold au.f at h
 have H:=h
 clear h
 obtain ⟨d4,b3⟩:∃ y_:List Int,y_ = (([]:List Int)):=⟨_,rfl⟩
 replace H:(au.l0 k a1 d4 0 a3 z X) = some r:=by (try rw [b3]);exact af.Z
 have cd:=ae.mk b3
 clear b3
 have H':=ae.mk H
 clear H
 go_enter Try.func97,Try.ntmps97
 go_wp2_with (first | (refine af.bx 2 #[.int .i64 a3,.slice aO z.length aa,.slice aP X.length ab] 58 ?_;intro am hg w3 hbox hb;have y:=ae.mk hbox;have hH:=af.gw hg HB;have hI:=af.gw hg HB;replace HB:=af.lb HB hb;clear hb hbox hg) | (refine af.lt (Kd.int .i64) 3 12 ?_;intro i3 w4 ce hb hL dp;clear hL dp;(first | rw [← cd.out] at ce | (simp only [Int.reduceToNat] at ce;rw [← cd.out] at ce));have dq:=ae.mk (Kd.bD ce (aA (af.Lw HB.out)));replace y:=af.bb y hb;replace HB:=af.lb HB hb;clear hb ce))
 go_loopg [5,6] k (fun kq v5 v6 w'=>∃ (aS:List Int) (a9:Int),v6 = .int .i64 a9∧ae (au.l0 kq a1 aS a9 a3 z X = some r)∧ae (kq≤k)∧ae (Kd.R (Kd.int .i64) 3 w' w.heap.size (fun _=>True) v5 aS)∧ae (w'.heap[am]? = some (.cells #[.int .i64 a3,(.slice aO z.length aa),(.slice aP X.length ab)] 58 (0,0)))∧ae (Below w.heap.size w w'))
 case atStart=>exact ⟨(d4),(0),af.F,H',⟨Nat.le_refl _⟩,⟨af.Rw dq.out⟩,⟨af.Bw y.out⟩,⟨af.Lw HB.out⟩⟩
 case round =>
  clear H'
  obtain ⟨aS,a9,rfl,HA,ap,a2,y,HB⟩:=hrel
  cases gk with
  | zero=>exact absurd HA.out (by simp [au.l0])
  | succ k1 =>
   have H:=HA.out
   clear HA
   simp only [au.l0] at H
   by_cases c6:a9 < a3
   ·rw [if_pos c6] at H
    have e8:=decide_eq_true c6
    clear c6
    obtain ⟨c7,H⟩:=af.ip H
    have ea:=ae.mk c7
    clear c7
    obtain ⟨d5,b4⟩:∃ y_:List Int,y_ = (aS ++ [a9]):=⟨_,rfl⟩
    replace H:(au.l0 k1 a1 d5 (wrap64 (a9+1)) a3 z X) = some r:=by (try rw [b4]);exact af.Z
    have dt:=ae.mk b4
    clear b4
    have H':=ae.mk H
    clear H
    obtain ⟨hq,ht,hu,hx,hz,hA⟩:=af.bW y.out
    go_wp2_with (first | ((with_reducible refine cR (b:=.append) (xs:=#[.tmp 19,.tmp 21]) rfl ?_);at_builtin;refine Kd.en (Kd.int .i64) (w0:=w) w.heap.size rfl (.tmp 19) (.tmp 21) 24 3 (.int .i64 0) 8 rfl Try.underlying24 fa rfl (by decide) (by omega) u5 aS a9 [.int .i64 a9] (fun _=>True) (fun _=>False) rfl rfl (by exact rfl) (fun _ hk=>hk.elim) (by exact fun _ _=>trivial) (by exact af.Rw a2.out) (by exact af.Lw HB.out) (by exact aA (af.Lw HB.out)) (by have:=ea.out;omega) ?_;intro i4 w9 ho hb hg hat;rw [← dt.out] at ho;have eb:=ae.mk (cO (g:=am) (o:=.cells #[.int .i64 a3,.slice aO z.length aa,.slice aP X.length ab] 58 (0,0)) (af.Bw y.out) hg (Kd.gj a2.out y.out (by decide)));have ed:=ae.mk hb;have ee:=ae.mk ho;clear y;clear HB;clear a2;have y:=eb;have HB:=ed;have du:=ee;clear eb ed ee;clear ho hb hg hat))
    go_roundg k1
    case measure=>have:=ap.out;omega
    case rel=>exact ⟨(d5),(wrap64 (a9+1)),af.F,H',⟨by have:=ap.out;omega⟩,⟨af.Rw du.out⟩,⟨af.Bw y.out⟩,⟨af.Lw HB.out⟩⟩
   ·rw [if_neg c6] at H
    have e8:decide (a9 < a3) = false:=decide_eq_false c6
    clear c6
    have H':=ae.mk H
    clear H
    obtain ⟨ef,eh,ej,el,em,eo⟩:=af.bW y.out
    go_wp2
    go_loopg [7,8] k1 (fun kq v7 v8 w'=>∃ (Y:List Int) (a6:Int) (j:Int),v7 = .int .i64 a6∧v8 = .int .i64 j∧ae (au.l1 kq a1 Y a6 j a3 z X = some r)∧ae (kq≤k1)∧ae (Kd.R (Kd.int .i64) 3 w' w.heap.size (fun _=>True) u5 Y)∧ae (w'.heap[am]? = some (.cells #[.int .i64 a3,(.slice aO z.length aa),(.slice aP X.length ab)] 58 (0,0)))∧ae (Below w.heap.size w w'))
    case atStart=>exact ⟨(aS),(a3),(0),af.F,af.F,H',⟨Nat.le_refl _⟩,⟨af.Rw a2.out⟩,⟨af.Bw y.out⟩,⟨af.Lw HB.out⟩⟩
    case round =>
     clear H'
     obtain ⟨Y,a6,j,rfl,rfl,HA,aL,a2,y,HB⟩:=hrel
     cases gk with
     | zero=>exact absurd HA.out (by simp [au.l1])
     | succ k2 =>
      have H:=HA.out
      clear HA
      simp only [au.l1] at H
      by_cases bs:j < (z.length:Int)
      ·rw [if_pos bs] at H
       have dv:=decide_eq_true bs
       clear bs
       obtain ⟨eq,H⟩:=af.ip H
       have hM:=decide_eq_true eq
       clear eq
       obtain ⟨es,H⟩:=af.ip H
       have hO:=decide_eq_true es
       clear es
       obtain ⟨et,H⟩:=af.ip H
       have hP:=decide_eq_true et
       clear et
       obtain ⟨ev,H⟩:=af.ip H
       have hR:=decide_eq_true ev
       clear ev
       obtain ⟨ew,H⟩:=af.ip H
       have hT:=decide_eq_true ew
       clear ew
       obtain ⟨ex,H⟩:=af.ip H
       have hU:=decide_eq_true ex
       clear ex
       have cf:=ae.mk H
       clear H
       obtain ⟨eQ,f0,f1,f2,f3,f4⟩:=af.bW y.out
       obtain ⟨ba,f5,a7,i5,d6⟩:=af.ai dk.out j
       cases f5
       try replace a7:=(HB.out.cell (World.block_lt_of_cell? w _ a7)).trans a7
       obtain ⟨i6,ch,f6⟩:=Kd.bA a2.out
       subst f6
       obtain ⟨aw,f7,aB,i7,d7⟩:=af.ai (Kd.aJ a2.out).2.2 (rd z j)
       cases f7
       obtain ⟨bc,f8,a8,i8,d8⟩:=af.ai dl.out j
       cases f8
       try replace a8:=(HB.out.cell (World.block_lt_of_cell? w _ a8)).trans a8
       obtain ⟨dC,f9,aF,i9,d9⟩:=af.ai (Kd.aJ a2.out).2.2 (rd X j)
       obtain rfl:aw = dC:=(by injection f9)
       go_upto_region 12 with (fail)
       go_cut [56] (fun hV wc=>∃ (kq:Nat) (ar:Bool),hV = .bool ar∧ae (au.j2 kq a1 Y a6 j (rd Y (rd z j)) (rd Y (rd X j)) ar a3 z X = some r)∧ae (kq≤k2)∧ae (Kd.R (Kd.int .i64) 3 wc w.heap.size (fun _=>True) (.slice (some aw) Y.length ch) Y)∧ae (wc.heap[am]? = some (.cells #[.int .i64 a3,(.slice (some ba) z.length aa),(.slice (some bc) X.length ab)] 58 (0,0)))∧ae (Below w.heap.size w wc))
       case first =>
        have H:=cf.out
        clear cf
        obtain ⟨fd,fi,H⟩:=af.be H
        (try dsimp only at H)
        by_cases d1:fd = true
        ·subst d1
         replace H:(au.j2 k2 a1 Y a6 j (rd Y (rd z j)) (rd Y (rd X j)) ((rd Y (rd z j)) == (rd Y (rd X j))) a3 z X) = some r:=by rw [if_pos rfl] at H;exact H
         have H':=ae.mk H
         clear H
         go_wp2_with (first | (refine af.gl (some 50) Try.func58 #[.int .i64 a1,.int .i64 j] ?_;(with_reducible refine (bF.calls a1 j true _ fi.out).mono ?_);rintro e w' ⟨rfl,⟨nd,rfl⟩⟩;refine ⟨_,rfl,?_⟩))
         go_meet
         case rel=>exact ⟨_,(((rd Y (rd z j)) == (rd Y (rd X j)))),af.F,H',⟨by have:=ap.out;have:=aL.out;first | omega | exact Nat.le_refl _⟩,⟨af.Rw a2.out⟩,⟨af.Bw y.out⟩,⟨af.Lw HB.out⟩⟩
        ·replace d1:=Bool.eq_false_iff.mpr d1
         subst d1
         replace H:(au.j2 k2 a1 Y a6 j (rd Y (rd z j)) (rd Y (rd X j)) true a3 z X) = some r:=by rw [if_neg (show ¬ (false = true) by decide)] at H;exact H
         have H':=ae.mk H
         clear H
         go_wp2_with (first | (refine af.gl (some 50) Try.func58 #[.int .i64 a1,.int .i64 j] ?_;(with_reducible refine (bF.calls a1 j false _ fi.out).mono ?_);rintro e w' ⟨rfl,⟨nd,rfl⟩⟩;refine ⟨_,rfl,?_⟩))
         go_meet
         case rel=>exact ⟨_,(true),af.F,H',⟨by have:=ap.out;have:=aL.out;first | omega | exact Nat.le_refl _⟩,⟨af.Rw a2.out⟩,⟨af.Bw y.out⟩,⟨af.Lw HB.out⟩⟩
       case rest =>
        clear cf
        try clear q4
        try clear hW
        try clear a7
        try clear aB
        try clear a8
        try clear aF
        try clear d6
        try clear d7
        try clear d8
        try clear d9
        obtain ⟨kq,ar,rfl,HA,ao,a2,y,HB⟩:=hcut
        cases kq with
        | zero=>exact absurd HA.out (by simp [au.j2])
        | succ b0 =>
         have H:=HA.out
         clear HA
         simp only [au.j2] at H
         by_cases d2:ar = true
         ·subst d2
          replace H:(au.l1 b0 a1 Y a6 (wrap64 (j+1)) a3 z X) = some r:=by rw [if_pos rfl] at H;exact H
          have H':=ae.mk H
          clear H
          go_wp2
          go_roundg b0
          case measure=>have:=ap.out;have:=aL.out;have:=ao.out;omega
          case rel=>exact ⟨(Y),(a6),(wrap64 (j+1)),af.F,af.F,H',⟨by have:=ap.out;have:=aL.out;have:=ao.out;omega⟩,⟨af.Rw a2.out⟩,⟨af.Bw y.out⟩,⟨af.Lw HB.out⟩⟩
         ·replace d2:=Bool.eq_false_iff.mpr d2
          subst d2
          replace H:(au.l2 b0 a1 Y a6 j (rd Y (rd z j)) (rd Y (rd X j)) 0 a3 z X) = some r:=by rw [if_neg (show ¬ (false = true) by decide)] at H;exact H
          have H':=ae.mk H
          clear H
          go_wp2
          go_loopg [11] b0 (fun kq v11 w'=>∃ (a5:List Int) (a0:Int),v11 = .int .i64 a0∧ae (au.l2 kq a1 a5 a6 j (rd Y (rd z j)) (rd Y (rd X j)) a0 a3 z X = some r)∧ae (kq≤b0)∧ae (Kd.R (Kd.int .i64) 3 w' w.heap.size (fun _=>True) (.slice (some aw) Y.length ch) a5)∧ae (w'.heap[am]? = some (.cells #[.int .i64 a3,(.slice (some ba) z.length aa),(.slice (some bc) X.length ab)] 58 (0,0)))∧ae (Below w.heap.size w w'))
          case atStart=>exact ⟨(Y),(0),af.F,H',⟨Nat.le_refl _⟩,⟨af.Rw a2.out⟩,⟨af.Bw y.out⟩,⟨af.Lw HB.out⟩⟩
          case round =>
           clear H'
           try clear q4
           try clear hW
           try clear a7
           try clear aB
           try clear a8
           try clear aF
           try clear q4
           try clear d6
           try clear d7
           try clear d8
           try clear d9
           obtain ⟨a5,a0,rfl,HA,bv,a2,y,HB⟩:=hrel
           have a4:=(Kd.aJ a2.out).1
           rw [a4] at a2
           (try simp only [a4])
           (try simp only [a4] at y)
           cases gk with
           | zero=>exact absurd HA.out (by simp [au.l2])
           | succ k4 =>
            have H:=HA.out
            clear HA
            simp only [au.l2] at H
            by_cases c0:a0 < a3
            ·rw [if_pos c0] at H
             have dE:=decide_eq_true c0
             clear c0
             obtain ⟨fj,H⟩:=af.ip H
             have hX:=decide_eq_true fj
             clear fj
             obtain ⟨fp,H⟩:=af.ip H
             have hZ:=decide_eq_true fp
             clear fp
             by_cases bi:(rd a5 a0) = (rd Y (rd X j))
             ·rw [if_pos bi] at H
              have dT:((rd a5 a0) == (rd Y (rd X j))) = true:=beq_iff_eq.mpr bi
              have e0:((rd a5 a0) != (rd Y (rd X j))) = false:=bne_eq_false_iff_eq.mpr bi
              clear bi
              obtain ⟨ci,bm⟩:∃ y_:List Int,y_ = (a5.set (a0:Int).toNat (rd Y (rd z j))):=⟨_,rfl⟩
              replace H:(au.l2 k4 a1 ci a6 j (rd Y (rd z j)) (rd Y (rd X j)) (wrap64 (a0+1)) a3 z X) = some r:=by (try rw [bm]);exact af.Z
              have e1:=ae.mk bm
              clear bm
              have H':=ae.mk H
              clear H
              obtain ⟨fs,ft,fw,fO,fX,fY⟩:=af.bW y.out
              obtain ⟨bo,cp,b2,g0,g1⟩:=af.ai (Kd.aJ a2.out).2.2 a0
              obtain rfl:aw = bo:=(by injection cp)
              have e2:0≤(a0:Int):=af.D
              have e3:(a0:Int) < ((a5.length:Int):Int):=af.D
              obtain ⟨cq,ib,db,dd,g2,ih,df⟩:=Kd.ie a2.out (by omega)
              (first | cases db | (injection db with d3 i0 i1;(first | subst d3 | (injection d3 with d3;subst d3));subst i1;clear i0))
              have g3:=ae.mk dd
              have ii:=ae.mk df
              clear dd g2 df
              (first | simp only [add_plain] at aB | skip)
              (first | simp only [add_plain] at aF | skip)
              (first | simp only [add_plain] at b2 | skip)
              obtain ⟨hC,hD⟩:=Kd.eR 0 a2.out (a0:Int) e2 e3
              replace e2:=eq_true e2
              replace e3:=eq_true e3
              have d0:=Kd.iR a2.out (a0:Int) (rd Y (rd z j))
              go_wp2_with (first | ((with_reducible refine dh (t:=3) (p:=72) rfl ?_);refine cU (t:=3) (p:=72) (v:=?vo_w31) (w1:=(wr.setCell ⟨cq,(a0:Int).toNat,none⟩ (.int .i64 (rd Y (rd z j))))) ?hg ?ho ?hn ?hr ?_;(case ho=>rfl);(case hg=>rfl);(case hn=>rfl);(case hr=>first | (go_simp;done) | (go_simp;rfl));intro e4 hw;have hg:wr.grownBy e4 (some cq):=(by rw [hw];exact d0.2);have g4:Kd.R (Kd.int .i64) 3 e4 w.heap.size (fun _=>True) (.slice (some ⟨cq,0,none⟩) a5.length ch) ci:=(by rw [hw,e1.out];exact d0.1);clear d0;replace y:=ae.mk (cO (g:=am) (o:=.cells #[.int .i64 a3,.slice (some ba) z.length aa,.slice (some bc) X.length ab] 58 (0,0)) (af.Bw y.out) hg (Kd.gj a2.out y.out (by decide)));replace a2:=ae.mk g4;replace HB:=ae.mk ((by rw [hw];exact ct (HB.out) g3.out:Below w.heap.size w e4));clear hg hw g4))
              (try simp only [← a4])
              go_roundg k4
              case measure=>have:=ap.out;have:=aL.out;have:=ao.out;have:=bv.out;omega
              case rel=>exact ⟨(ci),(wrap64 (a0+1)),af.F,H',⟨by have:=ap.out;have:=aL.out;have:=ao.out;have:=bv.out;omega⟩,⟨by (try simp only [a4]);(with_reducible repeat (first | apply Kd.bN | apply Kd.bO | apply Kd.bt));exact a2.out⟩,⟨by (try simp only [a4]);(with_reducible repeat (first | refine cC ?_ _ | refine bC ?_ | refine bU ?_ _));exact y.out⟩,⟨af.Lw HB.out⟩⟩
             ·rw [if_neg bi] at H
              have dT:((rd a5 a0) == (rd Y (rd X j))) = false:=beq_eq_false_iff_ne.mpr bi
              have e0:((rd a5 a0) != (rd Y (rd X j))) = true:=bne_iff_ne.mpr bi
              have H':=ae.mk H
              clear H
              obtain ⟨g5,g6,g7,g8,g9,gb⟩:=af.bW y.out
              obtain ⟨bo,cp,b2,g0,g1⟩:=af.ai (Kd.aJ a2.out).2.2 a0
              obtain rfl:aw = bo:=(by injection cp)
              go_wp2
              (try simp only [← a4])
              go_roundg k4
              case measure=>have:=ap.out;have:=aL.out;have:=ao.out;have:=bv.out;omega
              case rel=>exact ⟨(a5),(wrap64 (a0+1)),af.F,H',⟨by have:=ap.out;have:=aL.out;have:=ao.out;have:=bv.out;omega⟩,⟨by (try simp only [a4]);(with_reducible repeat (first | apply Kd.bN | apply Kd.bO | apply Kd.bt));exact a2.out⟩,⟨by (try simp only [a4]);(with_reducible repeat (first | refine cC ?_ _ | refine bC ?_ | refine bU ?_ _));exact y.out⟩,⟨af.Lw HB.out⟩⟩
            ·rw [if_neg c0] at H
             have dE:decide (a0 < a3) = false:=decide_eq_false c0
             clear c0
             have H':=ae.mk H
             clear H
             obtain ⟨gc,go,gs,gt,h0,h6⟩:=af.bW y.out
             go_wp2
             (try simp only [← a4])
             go_roundg k4
             case measure=>have:=ap.out;have:=aL.out;have:=ao.out;have:=bv.out;omega
             case rel=>exact ⟨(a5),(wrap64 (a6 - 1)),(wrap64 (j+1)),af.F,af.F,H',⟨by have:=ap.out;have:=aL.out;have:=ao.out;have:=bv.out;omega⟩,⟨by (try simp only [a4]);(with_reducible repeat (first | apply Kd.bN | apply Kd.bO | apply Kd.bt));exact a2.out⟩,⟨by (try simp only [a4]);(with_reducible repeat (first | refine cC ?_ _ | refine bC ?_ | refine bU ?_ _));exact y.out⟩,⟨af.Lw HB.out⟩⟩
      ·rw [if_neg bs] at H
       have dv:decide (j < (z.length:Int)) = false:=decide_eq_false bs
       clear bs
       obtain rfl:=Option.some.inj H
       obtain ⟨h7,h8,h9,hj,hl,hm⟩:=af.bW y.out
       go_wp2
       go_ret
       exact ⟨af.E,af.L⟩
def cS.f (k:Nat) (y:Int) (j:List Int) (z:List Int) (a1:Int):Option (Int):=(aQ.f k y j z).bind fun X=>(if X = true then ((bP.f (j.length:Int) a1).bind fun Y=>(if Y = true then ((au.f k y j z a1).bind fun a0=>(some a0)) else (some (-1)))) else (some (-1)))
set_option maxHeartbeats 8000000 in
set_option maxRecDepth 100000 in
theorem cS.calls (k:Nat) (X:Int) (Y:Option Addr) (a0:Nat) (j:List Int) (a2:Option Addr) (a3:Nat) (z:List Int) (a1:Int) (r:Int) (w:World) (a9:Kd.C (Kd.int .i64) w Y j.length j) (aa:j.length≤a0) (ab:Kd.C (Kd.int .i64) w a2 z.length z) (am:z.length≤a3) (h:cS.f k X j z a1 = some r) :
  Calls Try.prog 48 #[.agg #[.int .i64 X,.slice Y j.length a0,.slice a2 z.length a3],.int .i64 a1] w fun e w'=>e = .returned (.int .i64 r)∧Below w.heap.size w w':=by
 have d3:=Try.underlying58
 have a4:=ae.mk a9
 have a5:=ae.mk aa
 clear a9 aa
 have a6:=ae.mk ab
 have a7:=ae.mk am
 clear ab am
 have HB:=ae.mk (Below.refl w.heap.size w)
 unfold cS.f at h
 have H:=h
 clear h
 obtain ⟨aF,A3,H⟩:=af.be H
 (try dsimp only at H)
 by_cases c4:aF = true
 ·subst c4
  replace H:((bP.f (j.length:Int) a1).bind fun ao=>(if ao = true then ((au.f k X j z a1).bind fun a8=>(some a8)) else (some (-1)))) = some r:=by rw [if_pos rfl] at H;exact H
  obtain ⟨ao,A5,H⟩:=af.be H
  (try dsimp only at H)
  by_cases c6:ao = true
  ·subst c6
   replace H:((au.f k X j z a1).bind fun a8=>(some a8)) = some r:=by rw [if_pos rfl] at H;exact H
   obtain ⟨a8,A7,H⟩:=af.be H
   (try dsimp only at H)
   obtain rfl:=Option.some.inj H
   go_enter Try.func48,Try.ntmps48
   go_wp2_with (first | ((with_reducible refine bf (N:=2) rfl ?_);(try (refine bV (by rfl) ?_;dsimp only));refine ck ?hg (N:=2) ?hd (cs:=#[.int .i64 X,.slice Y j.length a0,.slice a2 z.length a3]) (t:=58) ?hr ?_;(case hd=>rfl);(case hg=>rfl);(case hr=>first | (go_simp;done) | (go_simp;rfl));intro ap hg w8 hbox hb;have y:=ae.mk hbox;have ar:=af.gw hg HB;have aw:=af.gw hg HB;replace HB:=af.lb HB hb;clear hb hbox hg;obtain ⟨ci,cp,cq,d0,d1,d2⟩:=af.bW y.out) | ((with_reducible refine b8 (f:=88) rfl ?_);refine af.gl (some 6) Try.func88 #[.agg #[.int .i64 X,.slice Y j.length a0,.slice a2 z.length a3]] ?_;(with_reducible refine (aQ.calls k X _ _ j _ _ z true _ ?side1 ?side2 ?side3 ?side4 A3.out).mono ?_);(case side1=>exact af.Cw (Kd.aX a4.out HB.out));(case side2=>exact a5.out);(case side3=>exact af.Cw (Kd.aX a6.out HB.out));(case side4=>exact a7.out);rintro e d4 ⟨rfl,hb⟩;refine ⟨_,rfl,?_⟩;replace y:=af.bb y hb;replace HB:=af.lb HB hb;(try clear hb);(try clear aB);(try clear hk);(try clear hi);obtain ⟨aL,aO,aP,aS,b0,b2⟩:=af.bW y.out) | (go_at_call 56;(with_reducible refine (bP.calls (j.length:Int) a1 true _ A5.out).mono ?_);rintro e w' ⟨rfl,⟨nd,rfl⟩⟩) | ((with_reducible refine b8 (f:=97) rfl ?_);refine af.gl (some 18) Try.func97 #[.agg #[.int .i64 X,.slice Y j.length a0,.slice a2 z.length a3],.int .i64 a1] ?_;(with_reducible refine (au.calls k X _ _ j _ _ z a1 a8 _ ?side1 ?side2 ?side3 ?side4 A7.out).mono ?_);(case side1=>exact af.Cw (Kd.aX a4.out HB.out));(case side2=>exact a5.out);(case side3=>exact af.Cw (Kd.aX a6.out HB.out));(case side4=>exact a7.out);rintro e d5 ⟨rfl,hb⟩;refine ⟨_,rfl,?_⟩;replace y:=af.bb y hb;replace HB:=af.lb HB hb;(try clear hb);(try clear aB);(try clear hk);(try clear hi)))
   go_ret
   exact ⟨af.E,af.L⟩
  ·replace c6:=Bool.eq_false_iff.mpr c6
   subst c6
   replace H:(some (-1)) = some r:=by rw [if_neg (show ¬ (false = true) by decide)] at H;exact H
   obtain rfl:=Option.some.inj H
   go_enter Try.func48,Try.ntmps48
   go_wp2_with (first | ((with_reducible refine bf (N:=2) rfl ?_);(try (refine bV (by rfl) ?_;dsimp only));refine ck ?hg (N:=2) ?hd (cs:=#[.int .i64 X,.slice Y j.length a0,.slice a2 z.length a3]) (t:=58) ?hr ?_;(case hd=>rfl);(case hg=>rfl);(case hr=>first | (go_simp;done) | (go_simp;rfl));intro ap hg d6 hbox hb;have y:=ae.mk hbox;have ar:=af.gw hg HB;have aw:=af.gw hg HB;replace HB:=af.lb HB hb;clear hb hbox hg;obtain ⟨b3,b4,ba,bc,bi,bm⟩:=af.bW y.out) | ((with_reducible refine b8 (f:=88) rfl ?_);refine af.gl (some 6) Try.func88 #[.agg #[.int .i64 X,.slice Y j.length a0,.slice a2 z.length a3]] ?_;(with_reducible refine (aQ.calls k X _ _ j _ _ z true _ ?side1 ?side2 ?side3 ?side4 A3.out).mono ?_);(case side1=>exact af.Cw (Kd.aX a4.out HB.out));(case side2=>exact a5.out);(case side3=>exact af.Cw (Kd.aX a6.out HB.out));(case side4=>exact a7.out);rintro e d7 ⟨rfl,hb⟩;refine ⟨_,rfl,?_⟩;replace y:=af.bb y hb;replace HB:=af.lb HB hb;(try clear hb);(try clear aB);(try clear hk);(try clear hi);obtain ⟨bo,bs,bv,c0,c1,ca⟩:=af.bW y.out) | (go_at_call 56;(with_reducible refine (bP.calls (j.length:Int) a1 false _ A5.out).mono ?_);rintro e w' ⟨rfl,⟨nd,rfl⟩⟩))
   go_ret
   exact ⟨af.E,af.L⟩
 ·replace c4:=Bool.eq_false_iff.mpr c4
  subst c4
  replace H:(some (-1)) = some r:=by rw [if_neg (show ¬ (false = true) by decide)] at H;exact H
  obtain rfl:=Option.some.inj H
  go_enter Try.func48,Try.ntmps48
  go_wp2_with (first | ((with_reducible refine bf (N:=2) rfl ?_);(try (refine bV (by rfl) ?_;dsimp only));refine ck ?hg (N:=2) ?hd (cs:=#[.int .i64 X,.slice Y j.length a0,.slice a2 z.length a3]) (t:=58) ?hr ?_;(case hd=>rfl);(case hg=>rfl);(case hr=>first | (go_simp;done) | (go_simp;rfl));intro ap hg d8 hbox hb;have y:=ae.mk hbox;have ar:=af.gw hg HB;have aw:=af.gw hg HB;replace HB:=af.lb HB hb;clear hb hbox hg;obtain ⟨cb,cc,cd,ce,cf,ch⟩:=af.bW y.out) | ((with_reducible refine b8 (f:=88) rfl ?_);refine af.gl (some 6) Try.func88 #[.agg #[.int .i64 X,.slice Y j.length a0,.slice a2 z.length a3]] ?_;(with_reducible refine (aQ.calls k X _ _ j _ _ z false _ ?side1 ?side2 ?side3 ?side4 A3.out).mono ?_);(case side1=>exact af.Cw (Kd.aX a4.out HB.out));(case side2=>exact a5.out);(case side3=>exact af.Cw (Kd.aX a6.out HB.out));(case side4=>exact a7.out);rintro e d9 ⟨rfl,hb⟩;refine ⟨_,rfl,?_⟩;replace y:=af.bb y hb;replace HB:=af.lb HB hb;(try clear hb);(try clear aB);(try clear hk);(try clear hi)))
  go_ret
  exact ⟨af.E,af.L⟩
def da.f (a0:Int):Option (Int):=(az.f a0 0 8).bind fun j=>(if j = true then (if 0≤(IntKind.u64.wrap (a0)) then (some (wrap64 ((shl .i64 1 (IntKind.u64.wrap (a0))) - 1))) else (none)) else (some 0))
set_option maxHeartbeats 8000000 in
set_option maxRecDepth 100000 in
theorem da.calls (a0:Int) (r:Int) (w:World) (h:da.f a0 = some r) :
  Calls Try.prog 49 #[.int .i64 a0] w fun e w'=>e = .returned (.int .i64 r)∧bQ w w':=by
 unfold da.f at h
 have H:=h
 clear h
 obtain ⟨a2,A2,H⟩:=af.be H
 (try dsimp only at H)
 by_cases c3:a2 = true
 ·subst c3
  replace H:(if 0≤(IntKind.u64.wrap (a0)) then (some (wrap64 ((shl .i64 1 (IntKind.u64.wrap (a0))) - 1))) else (none)) = some r:=by rw [if_pos rfl] at H;exact H
  obtain ⟨j,X⟩:∃ j_:Int,(IntKind.u64.wrap (a0)) = j_:=⟨_,rfl⟩
  replace H:(if 0≤(j) then (some (wrap64 ((shl .i64 1 (j)) - 1))) else (none)) = some r:=by first | (rw [X] at H;exact H) | (simp only [X] at H ⊢;exact H)
  (try rw [X] at A2)
  obtain ⟨c5,H⟩:=af.ip H
  have a8:=eq_true c5
  have a9:decide (0≤(j)) = true:=decide_eq_true c5
  clear c5
  obtain ⟨z,y⟩:∃ j_:Int,(shl .i64 1 (j)) = j_:=⟨_,rfl⟩
  replace H:(some (wrap64 ((z) - 1))) = some r:=by first | (rw [y] at H;exact H) | (simp only [y] at H ⊢;exact H)
  (try rw [y] at A2)
  have Y:(IntKind.i64.wrap (1 * 2 ^ min (j).toNat 64)) = z:=y
  have a1:(j)≤64→(IntKind.i64.wrap (1 * 2 ^ (j).toNat)) = z:=ei y
  have a4:(IntKind.i64.wrap (2 ^ min (j).toNat 64)) = z:=by have h_:=Y;rw [Int.one_mul] at h_;exact h_
  have a5:(j)≤64→(IntKind.i64.wrap (2 ^ (j).toNat)) = z:=fun a3=>by have h_:=a1 a3;rw [Int.one_mul] at h_;exact h_
  have a6:(wrap64 (1 * 2 ^ min (j).toNat 64)) = z:=(bE _).symm.trans Y
  have a7:(j)≤64→(wrap64 (1 * 2 ^ (j).toNat)) = z:=fun h_=>(bE _).symm.trans (a1 h_)
  obtain rfl:=Option.some.inj H
  go_enter Try.func49,Try.ntmps49
  go_wp2_with (first | (refine af.gl (some 4) Try.func89 #[.int .i64 a0,.int .i64 0,.int .i64 8] ?_;(with_reducible refine (az.calls a0 0 8 true _ A2.out).mono ?_);rintro e w' ⟨rfl,⟨nd,rfl⟩⟩;refine ⟨_,rfl,?_⟩))
  go_ret
  exact ⟨by first | rfl | (simp;done) | (simp only [← X,← y] <;> (first | rfl | simp)) | (simp [*];done),af.G⟩
 ·replace c3:=Bool.eq_false_iff.mpr c3
  subst c3
  replace H:(some 0) = some r:=by rw [if_neg (show ¬ (false = true) by decide)] at H;exact H
  obtain rfl:=Option.some.inj H
  go_enter Try.func49,Try.ntmps49
  go_wp2_with (first | (refine af.gl (some 4) Try.func89 #[.int .i64 a0,.int .i64 0,.int .i64 8] ?_;(with_reducible refine (az.calls a0 0 8 false _ A2.out).mono ?_);rintro e w' ⟨rfl,⟨nd,rfl⟩⟩;refine ⟨_,rfl,?_⟩))
  go_ret
  exact ⟨af.F,af.G⟩
def bJ.l0:Nat→Int→Int→Int→Int→Option (Int)
 | 0,_,_,_,_=>none
 | k+1,j,y,z,X=>if X < y then (bJ.l0 k j y (wrap64 (z * j)) (wrap64 (X+1))) else (some z)
def bJ.f (k:Nat) (a0:Int) (j:Int):Option (Int):=bJ.l0 k a0 j 1 0
set_option maxHeartbeats 8000000 in
set_option maxRecDepth 100000 in
theorem bJ.calls (k:Nat) (a0:Int) (z:Int) (r:Int) (w:World) (h:bJ.f k a0 z = some r) :
  Calls Try.prog 50 #[.int .i64 a0,.int .i64 z] w fun e w'=>e = .returned (.int .i64 r)∧bQ w w':=by
 unfold bJ.f at h
 have H:=h
 clear h
 have H':=ae.mk H
 clear H
 go_enter Try.func50,Try.ntmps50
 go_wp2
 go_loopg [5,6] k (fun kq v5 v6 w'=>∃ (y:Int) (j:Int),v5 = .int .i64 y∧v6 = .int .i64 j∧ae (bJ.l0 kq a0 z y j = some r)∧ae (kq≤k)∧bQ w w')
 case atStart=>exact ⟨(1),(0),af.F,af.F,H',⟨Nat.le_refl _⟩,af.G⟩
 case round =>
  clear H'
  obtain ⟨y,j,rfl,rfl,HA,X,⟨m1,rfl⟩⟩:=hrel
  cases gk with
  | zero=>exact absurd HA.out (by simp [bJ.l0])
  | succ k1 =>
   have H:=HA.out
   clear HA
   simp only [bJ.l0] at H
   by_cases c3:j < z
   ·rw [if_pos c3] at H
    have Y:=decide_eq_true c3
    clear c3
    have H':=ae.mk H
    clear H
    go_wp2
    go_roundg k1
    case measure=>have:=X.out;omega
    case rel=>exact ⟨(wrap64 (y * a0)),(wrap64 (j+1)),af.F,af.F,H',⟨by have:=X.out;omega⟩,af.G⟩
   ·rw [if_neg c3] at H
    have Y:decide (j < z) = false:=decide_eq_false c3
    clear c3
    obtain rfl:=Option.some.inj H
    go_wp2
    go_ret
    exact ⟨af.F,af.G⟩
mutual
def aI.l0:Nat→Int→Int→Int→Int→List (List Int)→Int→Int→Option (Int)
 | 0,_,_,_,_,_,_,_=>none
 | k+1,x1,x2,x7,x8,y,z,j=>if j < z then (if 0≤j then (if j < (y.length:Int) then (aI.l1 k x1 x2 x7 x8 x8 y z j (dX y j) ((dX y j).length:Int) 0) else (none)) else (none)) else (some x7)
def aI.l1:Nat→Int→Int→Int→Int→Int→List (List Int)→Int→Int→List Int→Int→Int→Option (Int)
 | 0,_,_,_,_,_,_,_,_,_,_,_=>none
 | k+1,x1,x2,x7,x8,a0,y,z,j,Y,a1,X=>if X < a1 then (if 0≤X then (if X < (Y.length:Int) then (aI.l1 k x1 x2 (wrap64 (x7+(wrap64 ((rd Y X) * a0)))) x8 (wrap64 (a0 * x2)) y z j Y a1 (wrap64 (X+1))) else (none)) else (none)) else (aI.l0 k x1 x2 x7 (wrap64 (x8 * x1)) y z (wrap64 (j+1)))
end
def aI.f (k:Nat) (l0:List (List Int)) (j:Int) (a2:Int):Option (Int):=aI.l0 k j a2 0 1 l0 (l0.length:Int) 0
set_option maxHeartbeats 8000000 in
set_option maxRecDepth 100000 in
theorem aI.calls (k:Nat) (A0:Option Addr) (c0:Nat) (l0:List (List Int)) (a1:Int) (a2:Int) (r:Int) (w:World) (ab:Kd.C (Kd.slice 3 (Kd.int .i64)) w A0 l0.length l0) (am:l0.length≤c0) (h:aI.f k l0 a1 a2 = some r) :
  Calls Try.prog 51 #[.slice A0 l0.length c0,.int .i64 a1,.int .i64 a2] w fun e w'=>e = .returned (.int .i64 r)∧bQ w w':=by
 have aP:=ae.mk ab
 have bs:=ae.mk am
 clear ab am
 unfold aI.f at h
 have H:=h
 clear h
 have H':=ae.mk H
 clear H
 go_enter Try.func51,Try.ntmps51
 go_wp2
 go_loopg [7,8,16] k (fun kq v7 v8 aS w'=>∃ (a4:Int) (X:Int) (j:Int),v7 = .int .i64 a4∧v8 = .int .i64 X∧aS = .int .i64 j∧ae (aI.l0 kq a1 a2 a4 X l0 (l0.length:Int) j = some r)∧ae (kq≤k)∧bQ w w')
 case atStart=>exact ⟨(0),(1),(0),af.F,af.F,af.F,H',⟨Nat.le_refl _⟩,af.G⟩
 case round =>
  clear H'
  obtain ⟨a4,X,j,rfl,rfl,rfl,HA,a9,⟨m1,rfl⟩⟩:=hrel
  cases gk with
  | zero=>exact absurd HA.out (by simp [aI.l0])
  | succ k1 =>
   have H:=HA.out
   clear HA
   simp only [aI.l0] at H
   by_cases c4:j < (l0.length:Int)
   ·rw [if_pos c4] at H
    have ao:=decide_eq_true c4
    clear c4
    obtain ⟨c5,H⟩:=af.ip H
    have b4:=decide_eq_true c5
    clear c5
    obtain ⟨c6,H⟩:=af.ip H
    have ba:=decide_eq_true c6
    clear c6
    have H':=ae.mk H
    clear H
    have a6:0≤(j:Int):=af.D
    have a5:j < (l0.length:Int):=af.D
    obtain ⟨b0,aL,aO,ap,a7,Y,a0⟩:=r7 aP.out j a6 a5
    cases ap
    have a8:=ae.mk a0
    have ar:=ae.mk Y
    clear a0 Y
    replace a6:=eq_true a6
    replace a5:=eq_true a5
    go_wp2
    go_loopg [7,11,23] k1 (fun kq v7 v11 b2 w'=>∃ (a3:Int) (z:Int) (y:Int),v7 = .int .i64 a3∧v11 = .int .i64 z∧b2 = .int .i64 y∧ae (aI.l1 kq a1 a2 a3 X z l0 (l0.length:Int) j (dX l0 j) ((dX l0 j).length:Int) y = some r)∧ae (kq≤k1)∧bQ w w')
    case atStart=>exact ⟨(a4),(X),(0),af.F,af.F,af.F,H',⟨Nat.le_refl _⟩,af.G⟩
    case round =>
     clear H'
     try clear q4
     try clear bv
     try clear a7
     try clear a5
     obtain ⟨a3,z,y,rfl,rfl,rfl,HA,aa,⟨m2,rfl⟩⟩:=hrel
     cases gk with
     | zero=>exact absurd HA.out (by simp [aI.l1])
     | succ k2 =>
      have H:=HA.out
      clear HA
      simp only [aI.l1] at H
      by_cases c7:y < ((dX l0 j).length:Int)
      ·rw [if_pos c7] at H
       have aw:=decide_eq_true c7
       clear c7
       obtain ⟨c8,H⟩:=af.ip H
       have bc:=decide_eq_true c8
       clear c8
       obtain ⟨c9,H⟩:=af.ip H
       have bi:=decide_eq_true c9
       clear c9
       have H':=ae.mk H
       clear H
       obtain ⟨b3,aB,aF,bm,bo⟩:=af.ai a8.out y
       cases aB
       go_wp2
       go_roundg k2
       case measure=>have:=a9.out;have:=aa.out;omega
       case rel=>exact ⟨(wrap64 (a3+(wrap64 ((rd (dX l0 j) y) * z)))),(wrap64 (z * a2)),(wrap64 (y+1)),af.F,af.F,af.F,H',⟨by have:=a9.out;have:=aa.out;omega⟩,af.G⟩
      ·rw [if_neg c7] at H
       have aw:decide (y < ((dX l0 j).length:Int)) = false:=decide_eq_false c7
       clear c7
       have H':=ae.mk H
       clear H
       go_wp2
       go_roundg k2
       case measure=>have:=a9.out;have:=aa.out;omega
       case rel=>exact ⟨(a3),(wrap64 (X * a1)),(wrap64 (j+1)),af.F,af.F,af.F,H',⟨by have:=a9.out;have:=aa.out;omega⟩,af.G⟩
   ·rw [if_neg c4] at H
    have ao:decide (j < (l0.length:Int)) = false:=decide_eq_false c4
    clear c4
    obtain rfl:=Option.some.inj H
    go_wp2
    go_ret
    exact ⟨af.F,af.G⟩
def cA.f (k:Nat) (y:Int) (j:List Int):Option (Int):=(cz.f k y j).bind fun z=>(if z = true then (if 0 < (j.length:Int) then ((cm.f (rd j 0)).bind fun X=>(some X)) else (none)) else (some (-1)))
set_option maxHeartbeats 8000000 in
set_option maxRecDepth 100000 in
theorem cA.calls (k:Nat) (X:Int) (Y:Option Addr) (a0:Nat) (j:List Int) (r:Int) (w:World) (a2:Kd.C (Kd.int .i64) w Y j.length j) (a3:j.length≤a0) (h:cA.f k X j = some r) :
  Calls Try.prog 71 #[.agg #[.int .i64 X,.slice Y j.length a0]] w fun e w'=>e = .returned (.int .i64 r)∧Below w.heap.size w w':=by
 have bc:=Try.underlying35
 have a1:=ae.mk a2
 have a4:=ae.mk a3
 clear a2 a3
 have HB:=ae.mk (Below.refl w.heap.size w)
 unfold cA.f at h
 have H:=h
 clear h
 obtain ⟨ab,A2,H⟩:=af.be H
 (try dsimp only at H)
 by_cases c3:ab = true
 ·subst c3
  replace H:(if 0 < (j.length:Int) then ((cm.f (rd j 0)).bind fun a5=>(some a5)) else (none)) = some r:=by rw [if_pos rfl] at H;exact H
  obtain ⟨c4,H⟩:=af.ip H
  have bi:=decide_eq_true c4
  have bm:decide (0 < j.length) = true:=decide_eq_true (by omega)
  clear c4
  obtain ⟨a5,A5,H⟩:=af.be H
  (try dsimp only at H)
  obtain rfl:=Option.some.inj H
  go_enter Try.func71,Try.ntmps71
  go_wp2_with (first | (refine af.bx 1 #[.int .i64 X,.slice Y j.length a0] 35 ?_;intro a8 hg w6 hbox hb;have y:=ae.mk hbox;have a9:=af.gw hg HB;have aa:=af.gw hg HB;replace HB:=af.lb HB hb;clear hb hbox hg;obtain ⟨aB,aF,aL,aO⟩:=af.cY y.out) | (refine af.gl (some 4) Try.func81 #[.agg #[.int .i64 X,.slice Y j.length a0]] ?_;(with_reducible refine (cz.calls k X _ _ j true _ ?side1 ?side2 A2.out).mono ?_);(case side1=>exact af.Cw (Kd.aX a1.out HB.out));(case side2=>exact a4.out);rintro e w8 ⟨rfl,hb⟩;refine ⟨_,rfl,?_⟩;replace y:=af.bb y hb;replace HB:=af.lb HB hb;(try clear hb);(try clear b3);(try clear hk);(try clear hi);obtain ⟨aP,aS,b0,b2⟩:=af.cY y.out;have a6:0≤(0:Int):=(by omega);have a7:0 < (j.length:Int):=af.D;obtain ⟨b4,am,z⟩:=Kd.cF a1.out 0 a6 a7;cases am;have ba:(0 < j.length) = True:=eq_true (by omega);(try rw [show ((0:Int)).toNat = 0 from rfl] at z);(try rw [Addr.add_zero'] at z);replace z:=(HB.out.cell (World.block_lt_of_cell? w _ z)).trans z;replace a6:=eq_true a6;replace a7:=eq_true a7) | (refine af.gl (some 10) Try.func95 #[.int .i64 (rd j 0)] ?_;(with_reducible refine (cm.calls (rd j 0) a5 _ A5.out).mono ?_);rintro e w' ⟨rfl,⟨nd,rfl⟩⟩;refine ⟨_,rfl,?_⟩))
  go_ret
  exact ⟨af.E,af.L⟩
 ·replace c3:=Bool.eq_false_iff.mpr c3
  subst c3
  replace H:(some (-1)) = some r:=by rw [if_neg (show ¬ (false = true) by decide)] at H;exact H
  obtain rfl:=Option.some.inj H
  go_enter Try.func71,Try.ntmps71
  go_wp2_with (first | (refine af.bx 1 #[.int .i64 X,.slice Y j.length a0] 35 ?_;intro a8 hg bo hbox hb;have y:=ae.mk hbox;have a9:=af.gw hg HB;have aa:=af.gw hg HB;replace HB:=af.lb HB hb;clear hb hbox hg;obtain ⟨ao,ap,ar,aw⟩:=af.cY y.out) | (refine af.gl (some 4) Try.func81 #[.agg #[.int .i64 X,.slice Y j.length a0]] ?_;(with_reducible refine (cz.calls k X _ _ j false _ ?side1 ?side2 A2.out).mono ?_);(case side1=>exact af.Cw (Kd.aX a1.out HB.out));(case side2=>exact a4.out);rintro e bs ⟨rfl,hb⟩;refine ⟨_,rfl,?_⟩;replace y:=af.bb y hb;replace HB:=af.lb HB hb;(try clear hb);(try clear b3);(try clear hk);(try clear hi)))
  go_ret
  exact ⟨af.E,af.L⟩
def bL.l0:Nat→Int→Int→List (List Int)→Int→Option ((List (List Int)))
 | 0,_,_,_,_=>none
 | k+1,z,j,y,X=>if X < z then (if 0≤j then (if (j:Int).toNat≤35184372088832 then (if y.length < 5864062014805 then (bL.l0 k z j (y ++ [(List.replicate (j:Int).toNat 0)]) (wrap64 (X+1))) else (none)) else (none)) else (none)) else (some y)
def bL.f (k:Nat) (a0:Int) (j:Int):Option ((List (List Int))):=bL.l0 k a0 j (([]:List (List Int))) 0
set_option maxHeartbeats 8000000 in
set_option maxRecDepth 100000 in
theorem bL.calls (k:Nat) (a0:Int) (a1:Int) (r:List (List Int)) (w:World) (h:bL.f k a0 a1 = some r) :
  Calls Try.prog 98 #[.int .i64 a0,.int .i64 a1] w fun e w'=>∃ b2:Value,e = .returned (b2)∧Kd.S (Kd.slice 3 (Kd.int .i64)) 24 w' w.heap.size (fun _=>True) b2 r∧Below w.heap.size w w':=by
 have HB:=ae.mk (Below.refl w.heap.size w)
 unfold bL.f at h
 have H:=h
 clear h
 obtain ⟨aa,a3⟩:∃ y_:List (List Int),y_ = (([]:List (List Int))):=⟨_,rfl⟩
 replace H:(bL.l0 k a0 a1 aa 0) = some r:=by (try rw [a3]);exact af.Z
 have a7:=ae.mk a3
 clear a3
 have H':=ae.mk H
 clear H
 go_enter Try.func98,Try.ntmps98
 go_wp2_with (first | ((with_reducible refine bf (N:=7) rfl ?_);refine Kd.sC (Kd.slice 3 (Kd.int .i64)) _ 24 ?hg (N:=7) ?hd (xs:=([]:List (List Int))) (inner:=[]) (ok:=fun _=>True) (okp:=fun _=>True) ?hr ?hp (fun _ hk=>hk) trivial (Below.refl _ _) (Nat.le_refl _) (by simp) ?_;(case hd=>rfl);(case hg=>rfl);(case hr=>first | (go_simp;done) | (go_simp;rfl));(case hp=>exact (cl.none _ _));intro bs w3 a8 hb ap a4;clear ap a4;(first | rw [← a7.out] at a8 | (simp only [Int.reduceToNat] at a8;rw [← a7.out] at a8));have ar:=ae.mk (Kd.jf a8 (aA (af.Lw HB.out)));replace HB:=af.lb HB hb;clear hb a8))
 go_loopg [5,6] k (fun kq v5 v6 w'=>∃ (y:List (List Int)) (j:Int),v6 = .int .i64 j∧ae (bL.l0 kq a0 a1 y j = some r)∧ae (kq≤k)∧ae (Kd.S (Kd.slice 3 (Kd.int .i64)) 24 w' w.heap.size (fun _=>True) v5 y)∧ae (Below w.heap.size w w'))
 case atStart=>exact ⟨(aa),(0),af.F,H',⟨Nat.le_refl _⟩,⟨af.Sw ar.out⟩,⟨af.Lw HB.out⟩⟩
 case round =>
  clear H'
  obtain ⟨y,j,rfl,HA,b3,z,HB⟩:=hrel
  cases gk with
  | zero=>exact absurd HA.out (by simp [bL.l0])
  | succ k1 =>
   have H:=HA.out
   clear HA
   simp only [bL.l0] at H
   by_cases c5:j < a0
   ·rw [if_pos c5] at H
    have b4:=decide_eq_true c5
    clear c5
    obtain ⟨c6,H⟩:=af.ip H
    have bv:=eq_true c6
    have c0:decide (0≤a1) = true:=decide_eq_true c6
    clear c6
    obtain ⟨c7,H⟩:=af.ip H
    have c1:=eq_true c7
    have ca:decide ((a1:Int).toNat≤35184372088832) = true:=decide_eq_true c7
    clear c7
    obtain ⟨a2,a5⟩:∃ y_:List Int,y_ = (List.replicate (a1:Int).toNat 0):=⟨_,rfl⟩
    replace H:(if y.length < 5864062014805 then (bL.l0 k1 a0 a1 (y ++ [a2]) (wrap64 (j+1))) else (none)) = some r:=by (try rw [a5]);exact af.Z
    have a9:=ae.mk a5
    clear a5
    obtain ⟨c8,H⟩:=af.ip H
    have ba:=ae.mk c8
    clear c8
    obtain ⟨ab,a6⟩:∃ y_:List (List Int),y_ = (y ++ [a2]):=⟨_,rfl⟩
    replace H:(bL.l0 k1 a0 a1 ab (wrap64 (j+1))) = some r:=by (try rw [a6]);exact af.Z
    have aw:=ae.mk a6
    clear a6
    have H':=ae.mk H
    clear H
    go_wp2_with (first | ((with_reducible refine bf (N:=15) rfl ?_);refine Kd.kJ (Kd.int .i64) _ 3 rfl (N:=15) rfl 24 _ _ rfl a1 rfl rfl Try.underlying24 (.int .i64 0) 8 fa rfl (by decide) (by omega) 0 (ok:=fun _=>True) (okp:=fun _=>True) rfl (fun _ hk=>hk) trivial (af.D) (Nat.le_trans (Nat.mul_le_mul_right _ (af.D:a1.toNat≤35184372088832)) (by omega)) (Below.refl _ _) (Nat.le_refl _) ?_;intro cb w9 X hb ap a4;clear ap a4;(first | rw [← a9.out] at X | (simp only [Int.reduceToNat] at X;rw [← a9.out] at X));replace z:=ae.mk (Kd.jC (af.Sw z.out) (Kd.cP X) hb);have Y:=ae.mk (Kd.bD X (aA (af.Lw HB.out)));replace HB:=af.lb HB hb;clear hb X;obtain ⟨am,ao,bc⟩:=Kd.bA Y.out;subst bc) | ((with_reducible refine cR (b:=.append) (xs:=#[.tmp 13,.tmp 16]) rfl ?_);at_builtin;refine Kd.oU (Kd.slice 3 (Kd.int .i64)) (w0:=w) w.heap.size rfl (.tmp 13) (.tmp 16) 67 24 (.slice none 0 0) 24 rfl Try.underlying67 rL rfl (by decide) (by omega) u5 y a2 [.slice am a2.length ao] (fun _=>True) (fun k_=>some k_ = (.slice am a2.length ao:Value).ownBlock) rfl rfl ?aP (fun k_ bo=>((Kd.aH (ok':=fun k_=>((fun _=>True)) k_∧some k_≠(u5:Value).ownBlock) (Kd.lE (Y.out) (Kd.nw z.out) (by decide)) (fun k_ hk=>⟨trivial,hk.2⟩))).1 k_ bo.symm) ?aF ?aO ?aB ?aS ?aL ?_;(case aP=>exact Kd.qU (Kd.aH (Kd.nv rfl (Kd.aH (ok':=fun k_=>((fun _=>True)) k_∧some k_≠(u5:Value).ownBlock) (Kd.lE (Y.out) (Kd.nw z.out) (by decide)) (fun k_ hk=>⟨trivial,hk.2⟩))) (fun _ h_=>h_)));(case aB=>exact (af.Lw HB.out));(case aF=>exact (fun _ _=>trivial));(case aO=>exact (af.Sw (Kd.ig z.out (fun k_ hk=>⟨trivial,fun e_=>hk.2 e_⟩))));(case aS=>exact (aA (af.Lw HB.out)));(case aL=>have:=ba.out;omega);intro cc cd ho hb hg hat;rw [← aw.out] at ho;have bi:=ae.mk hb;have bm:=ae.mk ho;clear HB;clear z;clear Y;have HB:=bi;have b0:=bm;clear bi bm;clear ho hb hg hat))
    go_roundg k1
    case measure=>have:=b3.out;omega
    case rel=>exact ⟨(ab),(wrap64 (j+1)),af.F,H',⟨by have:=b3.out;omega⟩,⟨af.Sw b0.out⟩,⟨af.Lw HB.out⟩⟩
   ·rw [if_neg c5] at H
    have b4:decide (j < a0) = false:=decide_eq_false c5
    clear c5
    obtain rfl:=Option.some.inj H
    go_wp2
    go_ret
    exact ⟨_,af.E,by (with_reducible repeat (first | apply Kd.gH | apply Kd.gJ | apply Kd.iT));exact z.out,af.L⟩
def bX.l0:Nat→Int→Int→List Int→Int→Int→Option (Int)
 | 0,_,_,_,_,_=>none
 | k+1,Y,x5,X,y,j=>if j < y then (if 0≤j then (if j < (X.length:Int) then ((cm.f (Go.bits .and .i64 Y (rd X j))).bind fun z=>(bX.l0 k Y (mx x5 z) X y (wrap64 (j+1)))) else (none)) else (none)) else (some x5)
def bX.f (k:Nat) (y:Int) (j:List Int) (z:Int):Option (Int):=bX.l0 k z 0 j (j.length:Int) 0
set_option maxHeartbeats 8000000 in
set_option maxRecDepth 100000 in
theorem bX.calls (k:Nat) (a2:Int) (a3:Option Addr) (a4:Nat) (j:List Int) (a1:Int) (r:Int) (w:World) (a6:Kd.C (Kd.int .i64) w a3 j.length j) (a7:j.length≤a4) (h:bX.f k a2 j a1 = some r) :
  Calls Try.prog 100 #[.agg #[.int .i64 a2,.slice a3 j.length a4],.int .i64 a1] w fun e w'=>e = .returned (.int .i64 r)∧Below w.heap.size w w':=by
 have b0:=Try.underlying35
 have a8:=ae.mk a6
 have aF:=ae.mk a7
 clear a6 a7
 have HB:=ae.mk (Below.refl w.heap.size w)
 unfold bX.f at h
 have H:=h
 clear h
 have H':=ae.mk H
 clear H
 go_enter Try.func100,Try.ntmps100
 go_wp2_with (first | (refine af.bx 2 #[.int .i64 a2,.slice a3 j.length a4] 35 ?_;intro a9 hg w3 hbox hb;have Y:=ae.mk hbox;have aL:=af.gw hg HB;have aO:=af.gw hg HB;replace HB:=af.lb HB hb;clear hb hbox hg;obtain ⟨ap,ar,aw,aB⟩:=af.cY Y.out))
 go_loopg [5,11] k (fun kq v5 v11 w'=>∃ (X:Int) (y:Int),v5 = .int .i64 X∧v11 = .int .i64 y∧ae (bX.l0 kq a1 X j (j.length:Int) y = some r)∧ae (kq≤k)∧ae (w'.heap[a9]? = some (.cells #[.int .i64 a2,(.slice a3 j.length a4)] 35 (0,0)))∧ae (Below w.heap.size w w'))
 case atStart=>exact ⟨(0),(0),af.F,af.F,H',⟨Nat.le_refl _⟩,⟨af.Bw Y.out⟩,⟨af.Lw HB.out⟩⟩
 case round =>
  clear H'
  obtain ⟨X,y,rfl,rfl,HA,ab,Y,HB⟩:=hrel
  cases gk with
  | zero=>exact absurd HA.out (by simp [bX.l0])
  | succ k1 =>
   have H:=HA.out
   clear HA
   simp only [bX.l0] at H
   by_cases c5:y < (j.length:Int)
   ·rw [if_pos c5] at H
    have am:=decide_eq_true c5
    clear c5
    obtain ⟨c6,H⟩:=af.ip H
    have b2:=decide_eq_true c6
    clear c6
    obtain ⟨c7,H⟩:=af.ip H
    have b3:=decide_eq_true c7
    clear c7
    obtain ⟨a5,A8,H⟩:=af.be H
    (try dsimp only at H)
    obtain ⟨aa,a0⟩:∃ j_:Int,(mx X a5) = j_:=⟨_,rfl⟩
    replace H:(bX.l0 k1 a1 aa j (j.length:Int) (wrap64 (y+1))) = some r:=by first | (rw [a0] at H;exact H) | (simp only [a0] at H ⊢;exact H)
    (try rw [a0] at A8)
    have aP:(if X < a5 then a5 else X) = aa:=a0
    have H':=ae.mk H
    clear H
    obtain ⟨aS,ao,z,b4,ba⟩:=af.ai a8.out y
    cases ao
    try replace z:=(HB.out.cell (World.block_lt_of_cell? w _ z)).trans z
    go_wp2_with (first | (refine af.gl (some 19) Try.func95 #[.int .i64 (Go.bits .and .i64 a1 (rd j y))] ?_;(with_reducible refine (cm.calls (Go.bits .and .i64 a1 (rd j y)) a5 _ A8.out).mono ?_);rintro e w' ⟨rfl,⟨nd,rfl⟩⟩;refine ⟨_,rfl,?_⟩))
    go_roundg k1
    case measure=>have:=ab.out;omega
    case rel=>exact ⟨(aa),(wrap64 (y+1)),(by first | rfl | (simp;done) | (simp only [← a0] <;> (first | rfl | simp)) | (simp [*];done)),af.F,H',⟨by have:=ab.out;omega⟩,⟨af.Bw Y.out⟩,⟨af.Lw HB.out⟩⟩
   ·rw [if_neg c5] at H
    have am:decide (y < (j.length:Int)) = false:=decide_eq_false c5
    clear c5
    obtain rfl:=Option.some.inj H
    go_wp2
    go_ret
    exact ⟨af.E,af.L⟩
mutual
def aW.l0:Nat→Int→List Int→Int→Option (List Int)
 | 0,_,_,_=>none
 | k+1,Y,X,x4=>if x4 < Y then (if 0≤(wrap64 ((X.length:Int)+1)) then (if (wrap64 ((X.length:Int)+1):Int).toNat≤35184372088832 then (aW.l1 k Y x4 (List.replicate (wrap64 ((X.length:Int)+1):Int).toNat 0) X (X.length:Int) 0) else (none)) else (none)) else (some X)
def aW.l1:Nat→Int→Int→List Int→List Int→Int→Int→Option (List Int)
 | 0,_,_,_,_,_,_=>none
 | k+1,Y,x4,x5,y,a0,j=>if j < a0 then (if 0≤j then (if j < (y.length:Int) then (if 0≤(wrap64 (j+1)) then (if (wrap64 (j+1)) < (x5.length:Int) then ((some (x5.set ((wrap64 (j+1)):Int).toNat (wrap64 ((rd x5 (wrap64 (j+1)))+(rd y j))):List Int)).bind fun z=>(if j < (x5.length:Int) then (aW.l1 k Y x4 (z.set (j:Int).toNat (wrap64 ((rd z j) - (rd y j)))) y a0 (wrap64 (j+1))) else (none))) else (none)) else (none)) else (none)) else (none)) else (aW.l0 k Y x5 (wrap64 (x4+1)))
end
def aW.f (k:Nat) (a0:Int):Option (List Int):=aW.l0 k a0 (([1]:List Int)) 0
theorem aW.fc:∀ k,af.S3 aW.l0 k∧af.S6 aW.l1 k
 | 0=>by and_intros <;> (repeat intro _) <;> exact af.mz rfl
 | k+1=>by
  obtain ⟨j,y⟩:=aW.fc k
  and_intros <;> (repeat intro _) <;> (first | unfold aW.l0 | unfold aW.l1) <;> exact ⟨af.mt⟩
theorem aW.mono:∀ a0 k,fu (aW.f k a0) (aW.f (k+1) a0):=by
 intro a0 k
 obtain ⟨j,y⟩:=aW.fc k
 unfold aW.f
 exact af.mt
set_option maxHeartbeats 8000000 in
set_option maxRecDepth 100000 in
theorem aW.calls (k:Nat) (a0:Int) (r:List Int) (w:World) (h:aW.f k a0 = some r) :
  Calls Try.prog 101 #[.int .i64 a0] w fun e w'=>∃ d7:Value,e = .returned (d7)∧Kd.R (Kd.int .i64) 3 w' w.heap.size (fun _=>True) d7 r∧Below w.heap.size w w':=by
 have HB:=ae.mk (Below.refl w.heap.size w)
 unfold aW.f at h
 have H:=h
 clear h
 obtain ⟨c1,ab⟩:∃ y_:List Int,y_ = (([1]:List Int)):=⟨_,rfl⟩
 replace H:(aW.l0 k a0 c1 0) = some r:=by (try rw [ab]);exact af.Z
 have aB:=ae.mk ab
 clear ab
 have H':=ae.mk H
 clear H
 go_enter Try.func101,Try.ntmps101
 go_wp2_with (first | ((with_reducible refine bf (N:=8) rfl ?_);refine Kd.jx (Kd.int .i64) _ 3 ?hg (N:=8) ?hd (xs:=([1]:List Int)) (inner:=[.int .i64 1]) (ok:=fun _=>True) (okp:=fun _=>True) ?hr ?hp (fun _ hk=>hk) trivial (Below.refl _ _) (Nat.le_refl _) (by simp) ?_;(case hd=>rfl);(case hg=>rfl);(case hr=>first | (go_simp;done) | (go_simp;rfl));(case hp=>exact (cl.one (show Kd.M (Kd.int .i64) _ _ _ 1 [.int .i64 1] from rfl) (cl.none _ _)));intro eq w2 aF hb ch am;clear ch am;(first | rw [← aB.out] at aF | (simp only [Int.reduceToNat] at aF;rw [← aB.out] at aF));have ci:=ae.mk (Kd.bD aF (aA (af.Lw HB.out)));replace HB:=af.lb HB hb;clear hb aF))
 go_loopg [3,4] k (fun kq v3 v4 w'=>∃ (y:List Int) (a1:Int),v4 = .int .i64 a1∧ae (aW.l0 kq a0 y a1 = some r)∧ae (kq≤k)∧ae (Kd.R (Kd.int .i64) 3 w' w.heap.size (fun _=>True) v3 y)∧ae (Below w.heap.size w w'))
 case atStart=>exact ⟨(c1),(0),af.F,H',⟨Nat.le_refl _⟩,⟨af.Rw ci.out⟩,⟨af.Lw HB.out⟩⟩
 case round =>
  clear H'
  obtain ⟨y,a1,rfl,HA,bo,a6,HB⟩:=hrel
  cases gk with
  | zero=>exact absurd HA.out (by simp [aW.l0])
  | succ k1 =>
   have H:=HA.out
   clear HA
   simp only [aW.l0] at H
   by_cases c4:a1 < a0
   ·rw [if_pos c4] at H
    have d8:=decide_eq_true c4
    clear c4
    obtain ⟨a9,aL⟩:∃ j_:Int,(wrap64 ((y.length:Int)+1)) = j_:=⟨_,rfl⟩
    replace H:(if 0≤(a9) then (if (a9:Int).toNat≤35184372088832 then (aW.l1 k1 a0 a1 (List.replicate (a9:Int).toNat 0) y (y.length:Int) 0) else (none)) else (none)) = some r:=by first | (rw [aL] at H;exact H) | (simp only [aL] at H ⊢;exact H)
    have e3:(IntKind.i64.wrap ((y.length:Int)+1)) = a9:=(bE _).trans aL
    obtain ⟨c6,H⟩:=af.ip H
    have es:=eq_true c6
    have et:decide (0≤(a9)) = true:=decide_eq_true c6
    clear c6
    obtain ⟨c7,H⟩:=af.ip H
    have ev:=eq_true c7
    have ew:decide ((a9:Int).toNat≤35184372088832) = true:=decide_eq_true c7
    clear c7
    obtain ⟨ca,ao⟩:∃ y_:List Int,y_ = (List.replicate (a9:Int).toNat 0):=⟨_,rfl⟩
    replace H:(aW.l1 k1 a0 a1 ca y (y.length:Int) 0) = some r:=by (try rw [ao]);exact af.Z
    have aO:=ae.mk ao
    clear ao
    have H':=ae.mk H
    clear H
    obtain ⟨d9,bs,e4⟩:=Kd.bA a6.out
    subst e4
    go_wp2_with (first | ((with_reducible refine bf (N:=17) rfl ?_);refine Kd.kJ (Kd.int .i64) _ 3 rfl (N:=17) rfl 24 _ _ rfl a9 rfl rfl Try.underlying24 (.int .i64 0) 8 fa rfl (by decide) (by omega) 0 (ok:=fun _=>True) (okp:=fun _=>True) rfl (fun _ hk=>hk) trivial (af.D) (Nat.le_trans (Nat.mul_le_mul_right _ (af.D:a9.toNat≤35184372088832)) (by omega)) (Below.refl _ _) (Nat.le_refl _) ?_;intro cb w9 a7 hb ch am;clear ch am;(first | rw [← aO.out] at a7 | (simp only [Int.reduceToNat] at a7;rw [← aO.out] at a7));have cp:=ae.mk (Kd.bD (Kd.cX a7 (Kd.dW (af.Rw a6.out))) (aA (af.Lw HB.out)));replace a6:=ae.mk (Kd.dI (af.Rw a6.out) (Kd.cP a7) hb);replace HB:=af.lb HB hb;clear hb a7))
    go_loopg [20] k1 (fun kq v20 w'=>∃ (z:List Int) (j:Int),v20 = .int .i64 j∧ae (aW.l1 kq a0 a1 z y (y.length:Int) j = some r)∧ae (kq≤k1)∧ae (Kd.R (Kd.int .i64) 3 w' w.heap.size (fun k_=>some k_≠((.slice d9 y.length bs):Value).ownBlock) cb z)∧ae (Kd.R (Kd.int .i64) 3 w' w.heap.size (fun k_=>some k_≠(cb:Value).ownBlock) (.slice d9 y.length bs) y)∧ae (Below w.heap.size w w'))
    case atStart=>exact ⟨(ca),(0),af.F,H',⟨Nat.le_refl _⟩,⟨af.Rw (Kd.aH cp.out (fun _ hk=>hk.2))⟩,⟨af.Rw (Kd.aH a6.out (fun _ hk=>hk.2))⟩,⟨af.Lw HB.out⟩⟩
    case round =>
     clear H'
     obtain ⟨z,j,rfl,HA,bv,Y,a4,HB⟩:=hrel
     cases gk with
     | zero=>exact absurd HA.out (by simp [aW.l1])
     | succ k2 =>
      have H:=HA.out
      clear HA
      simp only [aW.l1] at H
      by_cases aw:j < (y.length:Int)
      ·rw [if_pos aw] at H
       have cq:=decide_eq_true aw
       clear aw
       obtain ⟨db,H⟩:=af.ip H
       have e8:=decide_eq_true db
       clear db
       obtain ⟨dd,H⟩:=af.ip H
       have ea:=decide_eq_true dd
       clear dd
       obtain ⟨X,aa⟩:∃ j_:Int,(wrap64 (j+1)) = j_:=⟨_,rfl⟩
       replace H:(if 0≤(X) then (if (X) < (z.length:Int) then ((some (z.set ((X):Int).toNat (wrap64 ((rd z (X))+(rd y j))):List Int)).bind fun a2=>(if j < (z.length:Int) then (aW.l1 k2 a0 a1 (a2.set (j:Int).toNat (wrap64 ((rd a2 j) - (rd y j)))) y (y.length:Int) X) else (none))) else (none)) else (none)) = some r:=by first | (rw [aa] at H;exact H) | (simp only [aa] at H ⊢;exact H)
       have dE:(IntKind.i64.wrap (j+1)) = X:=(bE _).trans aa
       obtain ⟨df,H⟩:=af.ip H
       have eb:=decide_eq_true df
       clear df
       obtain ⟨dk,H⟩:=af.ip H
       have ed:=decide_eq_true dk
       clear dk
       obtain ⟨a2,ap⟩:∃ y_:List Int,y_ = (z.set ((X):Int).toNat (wrap64 ((rd z (X))+(rd y j)))):=⟨_,rfl⟩
       replace H:(if j < (z.length:Int) then (aW.l1 k2 a0 a1 (a2.set (j:Int).toNat (wrap64 ((rd a2 j) - (rd y j)))) y (y.length:Int) X) else (none)) = some r:=by (try rw [ap]);exact af.Z
       have aP:=ae.mk ap
       clear ap
       obtain ⟨dl,H⟩:=af.ip H
       have ee:=decide_eq_true dl
       clear dl
       obtain ⟨aS,ar⟩:∃ y_:List Int,y_ = (a2.set (j:Int).toNat (wrap64 ((rd a2 j) - (rd y j)))):=⟨_,rfl⟩
       replace H:(aW.l1 k2 a0 a1 aS y (y.length:Int) X) = some r:=by (try rw [ar]);exact af.Z
       have d0:=ae.mk ar
       clear ar
       have H':=ae.mk H
       clear H
       obtain ⟨b0,dp,dq,ex,eQ⟩:=af.ai (Kd.aJ a4.out).2.2 j
       cases dp
       obtain ⟨f0,a8,dt⟩:=Kd.bA Y.out
       subst dt
       obtain ⟨ef,du,b2,f1,f2⟩:=af.ai (Kd.aJ Y.out).2.2 (X)
       cases du
       have d1:0≤((X):Int):=af.D
       have d2:((X):Int) < ((z.length:Int):Int):=af.D
       obtain ⟨a3,f3,cc,cd,dv,f4,ce⟩:=Kd.ie Y.out (by omega)
       (first | cases cc | (injection cc with c0 eh ej;(first | subst c0 | (injection c0 with c0;subst c0));subst ej;clear eh))
       have cf:=ae.mk cd
       have f5:=ae.mk ce
       clear cd dv ce
       (first | simp only [add_plain] at b2 | skip)
       obtain ⟨dT,e0⟩:=Kd.eR 0 Y.out ((X):Int) d1 d2
       replace d1:=eq_true d1
       replace d2:=eq_true d2
       have b3:=Kd.iR Y.out ((X):Int) (wrap64 ((rd z (X))+(rd y j)))
       go_wp2_with (first | ((with_reducible refine dh (t:=3) (p:=32) rfl ?_);refine cU (t:=3) (p:=32) (v:=?vo_w22) (w1:=(wr.setCell ⟨a3,((X):Int).toNat,none⟩ (.int .i64 (wrap64 ((rd z (X))+(rd y j)))))) ?hg ?ho ?hn ?hr ?_;(case ho=>rfl);(case hg=>rfl);(case hn=>rfl);(case hr=>first | (go_simp;done) | (go_simp;rfl));intro b4 hw;have hg:wr.grownBy b4 (some a3):=(by rw [hw];exact b3.2);have ba:Kd.R (Kd.int .i64) 3 b4 w.heap.size (fun k_=>some k_≠(.slice (some b0) y.length bs:Value).ownBlock) (.slice (some ⟨a3,0,none⟩) z.length a8) a2:=(by rw [hw,aP.out];exact b3.1);clear b3;replace Y:=ae.mk ba;replace a4:=ae.mk (Kd.gF (v:=(.slice (some ⟨a3,0,none⟩) z.length a8)) (v1:=(.slice (some ⟨a3,0,none⟩) z.length a8)) (ok:=(fun _=>True)) (af.Rw (Kd.aH a4.out (fun _ hk=>⟨trivial,hk⟩))) hg (.inl rfl));replace HB:=ae.mk ((by rw [hw];exact ct (HB.out) cf.out:Below w.heap.size w b4));clear hg hw ba;have bc:0≤(j:Int):=af.D;have bi:j < (a2.length:Int):=(by have h_:(j:Int) < ((z.length:Int):Int):=af.D;first | (have e_:=(Kd.aJ Y.out).1;omega) | simpa only [aP.out,List.length_set] using h_);have el:((j:Int) < ((z.length:Int):Int)) = True:=eq_true (af.D);obtain ⟨d3,dC,a5⟩:=Kd.cF (Kd.aJ Y.out).2.2 j bc bi;obtain rfl:(⟨a3,0,none⟩:Addr) = d3:=(by injection dC);(first | simp only [add_plain] at a5 | simp only [kK] at a5 | simp only [Addr.add,Nat.zero_add] at a5 | skip);replace bc:=eq_true bc;replace bi:=eq_true bi;have d4:0≤(j:Int):=af.D;have d5:(j:Int) < ((z.length:Int):Int):=af.D;obtain ⟨e1,e2⟩:=Kd.eR 0 Y.out (j:Int) d4 d5;replace d4:=eq_true d4;replace d5:=eq_true d5;obtain ⟨em,eo⟩:=Kd.eR 0 Y.out (j:Int) (af.D) (af.D);have bm:=Kd.iR Y.out (j:Int) (wrap64 ((rd a2 j) - (rd y j)))) | ((with_reducible refine dh (t:=3) (p:=39) rfl ?_);refine cU (t:=3) (p:=39) (v:=?vo_w24) (w1:=(b4.setCell ⟨a3,(j:Int).toNat,none⟩ (.int .i64 (wrap64 ((rd a2 j) - (rd y j)))))) ?hg ?ho ?hn ?hr ?_;(case ho=>rfl);(case hg=>rfl);(case hn=>rfl);(case hr=>first | (go_simp;done) | (go_simp;rfl));intro d6 hw;have hg:b4.grownBy d6 (some a3):=(by rw [hw];exact bm.2);have ba:Kd.R (Kd.int .i64) 3 d6 w.heap.size (fun k_=>some k_≠(.slice (some b0) y.length bs:Value).ownBlock) (.slice (some ⟨a3,0,none⟩) z.length a8) aS:=(by rw [hw,d0.out];exact bm.1);clear bm;replace Y:=ae.mk ba;replace a4:=ae.mk (Kd.gF (v:=(.slice (some ⟨a3,0,none⟩) z.length a8)) (v1:=(.slice (some ⟨a3,0,none⟩) z.length a8)) (ok:=(fun _=>True)) (af.Rw a4.out) hg (.inl rfl));replace HB:=ae.mk ((by rw [hw];exact ct (HB.out) cf.out:Below w.heap.size w d6));clear hg hw ba))
       go_roundg k2
       case measure=>have:=bo.out;have:=bv.out;omega
       case rel=>exact ⟨(aS),(X),(by first | rfl | (simp;done) | (simp only [← aa] <;> (first | rfl | simp)) | (simp [*];done)),H',⟨by have:=bo.out;have:=bv.out;omega⟩,⟨af.Rw Y.out⟩,⟨af.Rw (Kd.aH a4.out (fun _ hk=>hk.2))⟩,⟨af.Lw HB.out⟩⟩
      ·rw [if_neg aw] at H
       have cq:decide (j < (y.length:Int)) = false:=decide_eq_false aw
       clear aw
       have H':=ae.mk H
       clear H
       go_wp2
       go_roundg k2
       case measure=>have:=bo.out;have:=bv.out;omega
       case rel=>exact ⟨(z),(wrap64 (a1+1)),af.F,H',⟨by have:=bo.out;have:=bv.out;omega⟩,⟨af.Rw (Kd.aH Y.out (fun _ hk=>trivial))⟩,⟨af.Lw HB.out⟩⟩
   ·rw [if_neg c4] at H
    have d8:decide (a1 < a0) = false:=decide_eq_false c4
    clear c4
    obtain rfl:=Option.some.inj H
    go_wp2
    go_ret
    exact ⟨_,af.E,by (with_reducible repeat (first | apply Kd.bN | apply Kd.bO | apply Kd.bt));exact a6.out,af.L⟩
mutual
def aR.l0:Nat→Int→List (List Int)→Int→Int→List Int→Option ((List (List Int)))
 | 0,_,_,_,_,_=>none
 | k+1,x3,x4,x5,j,y=>(cH.f j).bind fun a3=>(if x5≤a3 then ((bX.f k j y x5).bind fun a1=>((cm.f x5).bind fun a4=>((aW.f k (wrap64 (a4 - a1))).bind fun a5=>((aW.f k (wrap64 (x3 - a1))).bind fun a2=>(aR.l1 k x3 x4 x5 a5 a2 (a2.length:Int) 0 j y))))) else (some x4))
def aR.l1:Nat→Int→List (List Int)→Int→List Int→List Int→Int→Int→Int→List Int→Option ((List (List Int)))
 | 0,_,_,_,_,_,_,_,_,_=>none
 | k+1,x3,x4,x5,x7,Y,a0,z,j,y=>if z < a0 then (if 0≤z then (if z < (Y.length:Int) then (aR.l2 k x3 x4 x5 x7 z (rd Y z) Y a0 z (x7.length:Int) 0 j y) else (none)) else (none)) else (aR.l0 k x3 x4 (wrap64 (x5+1)) j y)
def aR.l2:Nat→Int→List (List Int)→Int→List Int→Int→Int→List Int→Int→Int→Int→Int→Int→List Int→Option ((List (List Int)))
 | 0,_,_,_,_,_,_,_,_,_,_,_,_,_=>none
 | k+1,x3,x4,x5,x7,x8,x9,Y,a0,z,a6,X,j,y=>if X < a6 then (if 0≤X then (if X < (x7.length:Int) then (if 0≤x8 then (if x8 < (x4.length:Int) then (if X < ((dX x4 x8).length:Int) then (aR.l2 k x3 (x4.set (x8:Int).toNat ((dX x4 x8).set (X:Int).toNat (wrap64 ((rd (dX x4 x8) X)+(wrap64 (x9 * (rd x7 X))))))) x5 x7 x8 x9 Y a0 z a6 (wrap64 (X+1)) j y) else (none)) else (none)) else (none)) else (none)) else (none)) else (aR.l1 k x3 x4 x5 x7 Y a0 (wrap64 (z+1)) j y)
end
def aR.f (k:Nat) (y:Int) (z:List Int):Option ((List (List Int))):=(cA.f k y z).bind fun j=>(if j < 0 then (some ([]:List (List Int))) else ((bL.f k (wrap64 (j+1)) (wrap64 ((wrap64 (y - j))+1))).bind fun X=>(aR.l0 k j X 0 y z)))
set_option maxHeartbeats 8000000 in
set_option maxRecDepth 100000 in
theorem aR.calls (k:Nat) (a0:Int) (am:Option Addr) (ao:Nat) (a3:List Int) (r:List (List Int)) (w:World) (d3:Kd.C (Kd.int .i64) w am a3.length a3) (d4:a3.length≤ao) (h:aR.f k a0 a3 = some r) :
  Calls Try.prog 52 #[.agg #[.int .i64 a0,.slice am a3.length ao]] w fun e w'=>∃ f3:Value,e = .returned (f3)∧Kd.S (Kd.slice 3 (Kd.int .i64)) 24 w' w.heap.size (fun _=>True) f3 r∧Below w.heap.size w w':=by
 have il:=Try.underlying35
 have bo:=ae.mk d3
 have bs:=ae.mk d4
 clear d3 d4
 have HB:=ae.mk (Below.refl w.heap.size w)
 unfold aR.f at h
 have H:=h
 clear h
 obtain ⟨a7,A2,H⟩:=af.be H
 (try dsimp only at H)
 by_cases c3:a7 < 0
 ·rw [if_pos c3] at H
  have f4:=decide_eq_true c3
  clear c3
  obtain rfl:=Option.some.inj H
  go_enter Try.func52,Try.ntmps52
  go_wp2_with (first | (refine af.bx 1 #[.int .i64 a0,.slice am a3.length ao] 35 ?_;intro aL hg w4 hbox hb;have y:=ae.mk hbox;have ej:=af.gw hg HB;have el:=af.gw hg HB;replace HB:=af.lb HB hb;clear hb hbox hg;obtain ⟨hC,hD,hE,hG⟩:=af.cY y.out) | (refine af.gl (some 13) Try.func71 #[.agg #[.int .i64 a0,.slice am a3.length ao]] ?_;(with_reducible refine (cA.calls k a0 _ _ a3 a7 _ ?side1 ?side2 A2.out).mono ?_);(case side1=>exact af.Cw (Kd.aX bo.out HB.out));(case side2=>exact bs.out);rintro e w6 ⟨rfl,hb⟩;refine ⟨_,rfl,?_⟩;replace y:=af.bb y hb;replace HB:=af.lb HB hb;(try clear hb);(try clear d5);(try clear hk);(try clear hi)))
  go_ret
  exact ⟨_,af.E,by first | exact Kd.qX _ _ _ _ _ | exact Kd.qY _ _ _ _ _ | exact Kd.qZ _ _ _ _ _ | exact Kd.qW _ _ _ _ _ | exact Kd.ki _ _ _ _ _,af.L⟩
 ·rw [if_neg c3] at H
  have f4:decide (a7 < 0) = false:=decide_eq_false c3
  clear c3
  obtain ⟨eb,A7,H⟩:=af.be H
  (try dsimp only at H)
  have H':=ae.mk H
  clear H
  go_enter Try.func52,Try.ntmps52
  go_wp2_with (first | (refine af.bx 1 #[.int .i64 a0,.slice am a3.length ao] 35 ?_;intro aL hg w8 hbox hb;have y:=ae.mk hbox;have ej:=af.gw hg HB;have el:=af.gw hg HB;replace HB:=af.lb HB hb;clear hb hbox hg;obtain ⟨hH,hI,hL,hM⟩:=af.cY y.out) | (refine af.gl (some 13) Try.func71 #[.agg #[.int .i64 a0,.slice am a3.length ao]] ?_;(with_reducible refine (cA.calls k a0 _ _ a3 a7 _ ?side1 ?side2 A2.out).mono ?_);(case side1=>exact af.Cw (Kd.aX bo.out HB.out));(case side2=>exact bs.out);rintro e kh ⟨rfl,hb⟩;refine ⟨_,rfl,?_⟩;replace y:=af.bb y hb;replace HB:=af.lb HB hb;(try clear hb);(try clear d5);(try clear hk);(try clear hi);obtain ⟨f5,f6,f7,f8⟩:=af.cY y.out) | (refine af.gl (some 23) Try.func98 #[.int .i64 (wrap64 (a7+1)),.int .i64 (wrap64 ((wrap64 (a0 - a7))+1))] ?_;(with_reducible refine (bL.calls k (wrap64 (a7+1)) (wrap64 ((wrap64 (a0 - a7))+1)) eb _ A7.out).mono ?_);rintro e kl ⟨d6,rfl,aO,hb⟩;refine ⟨_,rfl,?_⟩;have em:=ae.mk (Kd.jf aO (aA (af.Lw HB.out)));replace y:=af.bb y hb;replace HB:=af.lb HB hb;(try clear hb);(try clear d5);(try clear hk);(try clear hi);(try clear aO)))
  go_loopg [5] k (fun kq v5 w'=>∃ (cb:List (List Int)) (a8:Int),v5 = .int .i64 a8∧ae (aR.l0 kq a7 cb a8 a0 a3 = some r)∧ae (kq≤k)∧ae (Kd.S (Kd.slice 3 (Kd.int .i64)) 24 w' w.heap.size (fun _=>True) d6 cb)∧ae (w'.heap[aL]? = some (.cells #[.int .i64 a0,(.slice am a3.length ao)] 35 (0,0)))∧ae (Below w.heap.size w w'))
  case atStart=>exact ⟨(eb),(0),af.F,H',⟨Nat.le_refl _⟩,⟨af.Sw em.out⟩,⟨af.Bw y.out⟩,⟨af.Lw HB.out⟩⟩
  case round =>
   clear H'
   obtain ⟨cb,a8,rfl,HA,cp,a1,y,HB⟩:=hrel
   cases gk with
   | zero=>exact absurd HA.out (by simp [aR.l0])
   | succ k1 =>
    have H:=HA.out
    clear HA
    simp only [aR.l0] at H
    obtain ⟨cc,f9,H⟩:=af.be H
    (try dsimp only at H)
    by_cases cq:a8≤cc
    ·rw [if_pos cq] at H
     have eo:=decide_eq_true cq
     clear cq
     obtain ⟨b3,hU,H⟩:=af.be H
     (try dsimp only at H)
     obtain ⟨d7,hV,H⟩:=af.be H
     (try dsimp only at H)
     obtain ⟨ed,hW,H⟩:=af.be H
     (try dsimp only at H)
     obtain ⟨ap,hX,H⟩:=af.be H
     (try dsimp only at H)
     have H':=ae.mk H
     clear H
     obtain ⟨fd,fi,fj,fp⟩:=af.cY y.out
     go_wp2_with (first | (refine af.gl (some 27) Try.func99 #[.int .i64 a0] ?_;(with_reducible refine (cH.calls a0 cc _ f9.out).mono ?_);rintro e w' ⟨rfl,⟨nd,rfl⟩⟩;refine ⟨_,rfl,?_⟩) | (refine af.gl (some 33) Try.func100 #[.agg #[.int .i64 a0,.slice am a3.length ao],.int .i64 a8] ?_;(with_reducible refine (bX.calls k1 a0 _ _ a3 a8 b3 _ ?side1 ?side2 hU.out).mono ?_);(case side1=>exact af.Cw (Kd.aX bo.out HB.out));(case side2=>exact bs.out);rintro e km ⟨rfl,hb⟩;refine ⟨_,rfl,?_⟩;replace a1:=ae.mk (Kd.iD (af.Sw a1.out) hb);replace y:=af.bb y hb;replace HB:=af.lb HB hb;(try clear hb);(try clear d5);(try clear hk);(try clear hi)) | (refine af.gl (some 35) Try.func95 #[.int .i64 a8] ?_;(with_reducible refine (cm.calls a8 d7 _ hV.out).mono ?_);rintro e w' ⟨rfl,⟨nd,rfl⟩⟩;refine ⟨_,rfl,?_⟩) | (refine af.gl (some 38) Try.func101 #[.int .i64 (wrap64 (d7 - b3))] ?_;(with_reducible refine (aW.calls k1 (wrap64 (d7 - b3)) ed _ hW.out).mono ?_);rintro e ks ⟨d8,rfl,aO,hb⟩;refine ⟨_,rfl,?_⟩;replace a1:=ae.mk (Kd.jC (af.Sw a1.out) (Kd.cP aO) hb);have b0:=ae.mk (Kd.bD aO (aA (af.Lw HB.out)));replace y:=af.bb y hb;replace HB:=af.lb HB hb;(try clear hb);(try clear d5);(try clear hk);(try clear hi);(try clear aO)) | (refine af.gl (some 42) Try.func101 #[.int .i64 (wrap64 (a7 - b3))] ?_;(with_reducible refine (aW.calls k1 (wrap64 (a7 - b3)) ap _ hX.out).mono ?_);rintro e kt ⟨im,rfl,aO,hb⟩;refine ⟨_,rfl,?_⟩;replace a1:=ae.mk (Kd.jC (af.Sw a1.out) (Kd.cP aO) hb);have d9:=ae.mk (Kd.bD (Kd.cX aO (Kd.dW (af.Rw b0.out))) (aA (af.Lw HB.out)));replace b0:=ae.mk (Kd.dI (af.Rw b0.out) (Kd.cP aO) hb);replace y:=af.bb y hb;replace HB:=af.lb HB hb;(try clear hb);(try clear d5);(try clear hk);(try clear hi);(try clear aO);obtain ⟨db,aP,fs⟩:=Kd.bA d9.out;subst fs))
     go_loopg [44] k1 (fun kq hZ w'=>∃ (b4:List (List Int)) (ab:List Int) (a5:List Int) (j:Int),hZ = .int .i64 j∧ae (aR.l1 kq a7 b4 a8 ab a5 (ap.length:Int) j a0 a3 = some r)∧ae (kq≤k1)∧ae (Kd.S (Kd.slice 3 (Kd.int .i64)) 24 w' w.heap.size (fun k_=>some k_≠(d8:Value).ownBlock∧some k_≠((.slice db ap.length aP):Value).ownBlock) d6 b4)∧ae (Kd.R (Kd.int .i64) 3 w' w.heap.size (fun k_=>some k_≠((.slice db ap.length aP):Value).ownBlock) d8 ab)∧ae (Kd.R (Kd.int .i64) 3 w' w.heap.size (fun k_=>some k_≠(d8:Value).ownBlock) (.slice db ap.length aP) a5)∧ae (w'.heap[aL]? = some (.cells #[.int .i64 a0,(.slice am a3.length ao)] 35 (0,0)))∧ae (Below w.heap.size w w'))
     case atStart=>exact ⟨(cb),(ed),(ap),(0),af.F,H',⟨Nat.le_refl _⟩,⟨af.Sw (Kd.ig a1.out (fun _ hk=>(by first | exact ⟨hk.1.2,hk.2⟩ | (simp_all;done))))⟩,⟨af.Rw (Kd.aH b0.out (fun _ hk=>hk.2))⟩,⟨af.Rw (Kd.aH d9.out (fun _ hk=>hk.2))⟩,⟨af.Bw y.out⟩,⟨af.Lw HB.out⟩⟩
     case round =>
      clear H'
      obtain ⟨b4,ab,a5,j,rfl,HA,d0,a1,a9,a6,y,HB⟩:=hrel
      have z:=(Kd.aJ a6.out).1
      rw [z] at a6
      (try simp only [z])
      (try simp only [z] at y)
      (try simp only [z] at a1)
      (try simp only [z] at a9)
      cases gk with
      | zero=>exact absurd HA.out (by simp [aR.l1])
      | succ k2 =>
       have H:=HA.out
       clear HA
       simp only [aR.l1] at H
       by_cases d1:j < (ap.length:Int)
       ·rw [if_pos d1] at H
        have dd:=decide_eq_true d1
        clear d1
        obtain ⟨ft,H⟩:=af.ip H
        have i0:=decide_eq_true ft
        clear ft
        obtain ⟨fw,H⟩:=af.ip H
        have i1:=decide_eq_true fw
        clear fw
        have H':=ae.mk H
        clear H
        obtain ⟨b2,fO,df,io,fX⟩:=af.ai (Kd.aJ a6.out).2.2 j
        cases fO
        obtain ⟨dk,cd,fY⟩:=Kd.bA a9.out
        subst fY
        go_wp2
        go_loopg [51] k2 (fun kq v51 w'=>∃ (a4:List (List Int)) (ar:List Int) (aw:List Int) (X:Int),v51 = .int .i64 X∧ae (aR.l2 kq a7 a4 a8 ar j (rd a5 j) aw (ap.length:Int) j (ab.length:Int) X a0 a3 = some r)∧ae (kq≤k2)∧ae (Kd.S (Kd.slice 3 (Kd.int .i64)) 24 w' w.heap.size (fun k_=>some k_≠((.slice dk ab.length cd):Value).ownBlock∧some k_≠((.slice (some b2) a5.length aP):Value).ownBlock) d6 a4)∧ae (Kd.R (Kd.int .i64) 3 w' w.heap.size (fun k_=>some k_≠((.slice (some b2) a5.length aP):Value).ownBlock) (.slice dk ab.length cd) ar)∧ae (Kd.R (Kd.int .i64) 3 w' w.heap.size (fun k_=>some k_≠((.slice dk ab.length cd):Value).ownBlock) (.slice (some b2) a5.length aP) aw)∧ae (w'.heap[aL]? = some (.cells #[.int .i64 a0,(.slice am a3.length ao)] 35 (0,0)))∧ae (Below w.heap.size w w'))
        case atStart=>exact ⟨(b4),(ab),(a5),(0),af.F,H',⟨Nat.le_refl _⟩,⟨by (try simp only [z]);(with_reducible repeat (first | apply Kd.gH | apply Kd.gJ | apply Kd.iT));exact a1.out⟩,⟨by (try simp only [z]);(with_reducible repeat (first | apply Kd.bN | apply Kd.bO | apply Kd.bt));exact a9.out⟩,⟨by (try simp only [z]);(with_reducible repeat (first | apply Kd.bN | apply Kd.bO | apply Kd.bt));exact a6.out⟩,⟨by (try simp only [z]);(with_reducible repeat (first | refine cC ?_ _ | refine bC ?_ | refine bU ?_ _));exact y.out⟩,⟨af.Lw HB.out⟩⟩
        case round =>
         clear H'
         try clear q4
         try clear kv
         try clear df
         try clear fX
         obtain ⟨a4,ar,aw,X,rfl,HA,e1,a1,a9,a6,y,HB⟩:=hrel
         have a2:=(Kd.aJ a9.out).1
         rw [a2] at a9
         (try simp only [a2])
         (try simp only [a2] at y)
         (try simp only [a2] at a1)
         (try simp only [a2] at a6)
         have Y:=(Kd.aJ a6.out).1
         rw [Y] at a6
         (try simp only [Y])
         (try simp only [Y] at y)
         (try simp only [Y] at a1)
         (try simp only [Y] at a9)
         cases gk with
         | zero=>exact absurd HA.out (by simp [aR.l2])
         | succ k3 =>
          have H:=HA.out
          clear HA
          simp only [aR.l2] at H
          by_cases d2:X < (ab.length:Int)
          ·rw [if_pos d2] at H
           have dl:=decide_eq_true d2
           clear d2
           obtain ⟨g0,H⟩:=af.ip H
           have i2:=decide_eq_true g0
           clear g0
           obtain ⟨g1,H⟩:=af.ip H
           have i3:=decide_eq_true g1
           clear g1
           obtain ⟨g2,H⟩:=af.ip H
           have i4:=decide_eq_true g2
           clear g2
           obtain ⟨g3,H⟩:=af.ip H
           have i5:=decide_eq_true g3
           clear g3
           obtain ⟨g4,H⟩:=af.ip H
           have i6:=decide_eq_true g4
           clear g4
           obtain ⟨dp,bv⟩:∃ y_:List Int,y_ = ((dX a4 j).set (X:Int).toNat (wrap64 ((rd (dX a4 j) X)+(wrap64 ((rd a5 j) * (rd ar X)))))):=⟨_,rfl⟩
           replace H:(aR.l2 k3 a7 (a4.set (j:Int).toNat dp) a8 ar j (rd a5 j) aw (ap.length:Int) j (ab.length:Int) (wrap64 (X+1)) a0 a3) = some r:=by (try rw [bv]);exact af.Z
           have eq:=ae.mk bv
           clear bv
           obtain ⟨dq,c0⟩:∃ y_:List (List Int),y_ = (a4.set (j:Int).toNat dp):=⟨_,rfl⟩
           replace H:(aR.l2 k3 a7 dq a8 ar j (rd a5 j) aw (ap.length:Int) j (ab.length:Int) (wrap64 (X+1)) a0 a3) = some r:=by (try rw [c0]);exact af.Z
           have es:=ae.mk c0
           clear c0
           have H':=ae.mk H
           clear H
           obtain ⟨et,g5,g6,it,ix⟩:=af.ai (Kd.aJ a9.out).2.2 X
           cases g5
           obtain ⟨jp,g7,g8⟩:=Kd.kP a1.out
           subst g8
           have ce:0≤(j:Int):=af.D
           have cf:j < (a4.length:Int):=af.D
           obtain ⟨ev,hO,e2,g9,ba,bc,bi⟩:=r7 (Kd.eZ a1.out).2.2 j ce cf
           cases g9
           obtain ⟨i7,e3,e4,ch⟩:=Kd.sA a1.out [] j ce (by first | exact cf | exact af.D | (have e_:=(Kd.eZ a1.out).1;omega))
           obtain ⟨gb,rfl,aS⟩:=e4
           have aB:=ch 0 _ rfl
           rw [Nat.add_zero,show ((Kd.slice 3 (Kd.int .i64))).sz = 1 from rfl,Nat.mul_one] at aB
           replace aB:=Option.some.inj (aB.symm.trans ba)
           rw [aB] at aS
           have aa:=ae.mk (show Kd.R (Kd.int .i64) 3 _ _ _ _ (dX a4 j) from aS)
           clear aB aS
           have dt:=ae.mk ba
           clear ch e3
           have bm:=ae.mk bi
           have gc:=ae.mk bc
           clear bi bc
           replace ce:=eq_true ce
           replace cf:=eq_true cf
           obtain ⟨i8,go,du,k0,k4⟩:=af.ai (by repeat (first | (with_reducible exact bm.out) | (with_reducible refine Kd.nq ?_ _) | (with_reducible refine Kd.nr ?_ _) | (with_reducible refine Kd.oN ?_) | exact bm.out)) X
           cases go
           have ew:0≤(X:Int):=af.D
           have ex:(X:Int) < (((dX a4 j).length:Int):Int):=af.D
           obtain ⟨dv,ka,ee,ef,gs,kb,eh⟩:=Kd.ie aa.out (by omega)
           (first | cases ee | (injection ee with e8 i9 ib;(first | subst e8 | (injection e8 with e8;subst e8));subst ib;clear i9))
           have gt:=ae.mk ef
           have kc:=ae.mk eh
           clear ef gs eh
           (first | simp only [add_plain] at du | skip)
           obtain ⟨hP,hR⟩:=Kd.eR 0 aa.out (X:Int) ew ex
           replace ew:=eq_true ew
           replace ex:=eq_true ex
           have h0:(j:Int) < (a4.length:Int):=(by have h_:(j:Int) < ((a4.length:Int):Int):=af.D;first | exact h_ | (have e_:=(Kd.eZ a1.out).1;omega) | simpa only [List.length_set,List.length_set] using h_)
           obtain ⟨eQ,kd,f0,h6,dC,dE,dT⟩:=Kd.oV a1.out [] (j:Int) (af.D) h0
           obtain ⟨hT,rfl,aF⟩:=h6
           have ci:=dC 0 _ rfl
           rw [Nat.add_zero,show ((Kd.slice 3 (Kd.int .i64))).sz = 1 from rfl,Nat.mul_one] at ci
           replace ci:=Option.some.inj (ci.symm.trans dt.out)
           subst ci
           clear dC f0
           replace aF:=(show Kd.R (Kd.int .i64) 3 _ _ _ _ (dX a4 j) from aF)
           have e0:=Kd.iR aF (X:Int) (wrap64 ((rd (dX a4 j) X)+(wrap64 ((rd a5 j) * (rd ar X)))))
           go_wp2_with (first | ((with_reducible refine dh (t:=3) (p:=67) rfl ?_);refine cU (t:=3) (p:=67) (v:=?vo_w37) (w1:=(wr.setCell ⟨dv,(X:Int).toNat,none⟩ (.int .i64 (wrap64 ((rd (dX a4 j) X)+(wrap64 ((rd a5 j) * (rd ar X)))))))) ?hg ?ho ?hn ?hr ?_;(case ho=>rfl);(case hg=>rfl);(case hn=>rfl);(case hr=>first | (go_simp;done) | (go_simp;rfl));intro ea hw;have hg:wr.grownBy ea (some dv):=(by rw [hw];exact e0.2);have f1:Kd.R (Kd.int .i64) 3 ea w.heap.size eQ (.slice (some ⟨dv,0,none⟩) (dX a4 j).length e2) dp:=(by rw [hw,eq.out];exact e0.1);have h7:Kd.S (Kd.slice 3 (Kd.int .i64)) 24 ea w.heap.size (fun k_=>some k_≠(.slice (some et) ar.length cd:Value).ownBlock∧some k_≠(.slice (some b2) aw.length aP:Value).ownBlock) (.slice (some ev) a4.length g7) dq:=(by rw [es.out];exact dT hg (fun k_ e_=>by injection e_ with e_;subst e_;exact aF.1 _ rfl) (Kd.qU f1));have f2:=Kd.aH f1 dE;clear e0 dT;have h8:=ae.mk h7;have h9:=ae.mk (Kd.lH (af.Rw a9.out) rfl hg ((aa.out.1 _ rfl).1.1));have hj:=ae.mk (Kd.lH (af.Rw a6.out) rfl hg ((aa.out.1 _ rfl).1.2));have hl:=ae.mk (cO (g:=aL) (o:=.cells #[.int .i64 a0,.slice am a3.length ao] 35 (0,0)) (af.Bw y.out) hg (Kd.gj aa.out y.out (by decide)));have hm:=ae.mk ((by rw [hw];exact ct (HB.out) gt.out:Below w.heap.size w ea));have hq:=ae.mk f2;have ht:=ae.mk ((Kd.aJ f2).2.1);clear a1;clear a9;clear a6;clear y;clear HB;clear aa;have a1:=h8;have a9:=h9;have a6:=hj;have y:=hl;have HB:=hm;have ih:=hq;have ii:=ht;clear h8 h9 hj hl hm hq ht;clear hg hw h7 f1 f2 dE))
           (try simp only [← a2,← Y])
           go_roundg k3
           case measure=>have:=cp.out;have:=d0.out;have:=e1.out;omega
           case rel=>exact ⟨(dq),(ar),(aw),(wrap64 (X+1)),af.F,H',⟨by have:=cp.out;have:=d0.out;have:=e1.out;omega⟩,⟨by (try simp only [z]);(try simp only [a2]);(try simp only [Y]);(with_reducible repeat (first | apply Kd.gH | apply Kd.gJ | apply Kd.iT));exact a1.out⟩,⟨by (try simp only [z]);(try simp only [a2]);(try simp only [Y]);(with_reducible repeat (first | apply Kd.bN | apply Kd.bO | apply Kd.bt));exact a9.out⟩,⟨by (try simp only [z]);(try simp only [a2]);(try simp only [Y]);(with_reducible repeat (first | apply Kd.bN | apply Kd.bO | apply Kd.bt));exact a6.out⟩,⟨by (try simp only [z]);(try simp only [a2]);(try simp only [Y]);(with_reducible repeat (first | refine cC ?_ _ | refine bC ?_ | refine bU ?_ _));exact y.out⟩,⟨af.Lw HB.out⟩⟩
          ·rw [if_neg d2] at H
           have dl:decide (X < (ab.length:Int)) = false:=decide_eq_false d2
           have c1:=dl
           (try rw [z] at c1)
           (try rw [Y] at c1)
           (try rw [a2] at c1)
           clear d2
           have H':=ae.mk H
           clear H
           go_wp2
           (try simp only [← z,← a2,← Y])
           go_roundg k3
           case measure=>have:=cp.out;have:=d0.out;have:=e1.out;omega
           case rel=>exact ⟨(a4),(ar),(aw),(wrap64 (j+1)),af.F,H',⟨by have:=cp.out;have:=d0.out;have:=e1.out;omega⟩,⟨by (try simp only [z]);(try simp only [a2]);(try simp only [Y]);(with_reducible repeat (first | apply Kd.gH | apply Kd.gJ | apply Kd.iT));exact a1.out⟩,⟨by (try simp only [z]);(try simp only [a2]);(try simp only [Y]);(with_reducible repeat (first | apply Kd.bN | apply Kd.bO | apply Kd.bt));exact a9.out⟩,⟨by (try simp only [z]);(try simp only [a2]);(try simp only [Y]);(with_reducible repeat (first | apply Kd.bN | apply Kd.bO | apply Kd.bt));exact a6.out⟩,⟨by (try simp only [z]);(try simp only [a2]);(try simp only [Y]);(with_reducible repeat (first | refine cC ?_ _ | refine bC ?_ | refine bU ?_ _));exact y.out⟩,⟨af.Lw HB.out⟩⟩
       ·rw [if_neg d1] at H
        have dd:decide (j < (ap.length:Int)) = false:=decide_eq_false d1
        have ca:=dd
        (try rw [z] at ca)
        (try rw [Y] at ca)
        (try rw [a2] at ca)
        clear d1
        have H':=ae.mk H
        clear H
        go_wp2
        (try simp only [← z])
        go_roundg k2
        case measure=>have:=cp.out;have:=d0.out;omega
        case rel=>exact ⟨(b4),(wrap64 (a8+1)),af.F,H',⟨by have:=cp.out;have:=d0.out;omega⟩,⟨by (try simp only [z]);(with_reducible repeat (first | apply Kd.gH | apply Kd.gJ | apply Kd.iT));exact Kd.ig a1.out (fun _ hk=>trivial)⟩,⟨by (try simp only [z]);(with_reducible repeat (first | refine cC ?_ _ | refine bC ?_ | refine bU ?_ _));exact y.out⟩,⟨af.Lw HB.out⟩⟩
    ·rw [if_neg cq] at H
     have eo:decide (a8≤cc) = false:=decide_eq_false cq
     clear cq
     obtain rfl:=Option.some.inj H
     obtain ⟨hu,hx,hz,hA⟩:=af.cY y.out
     go_wp2_with (first | (refine af.gl (some 27) Try.func99 #[.int .i64 a0] ?_;(with_reducible refine (cH.calls a0 cc _ f9.out).mono ?_);rintro e w' ⟨rfl,⟨nd,rfl⟩⟩;refine ⟨_,rfl,?_⟩))
     go_ret
     exact ⟨_,af.E,by (with_reducible repeat (first | apply Kd.gH | apply Kd.gJ | apply Kd.iT));exact a1.out,af.L⟩
def dO.f (y:List Int) (z:Int) (X:Int) (Y:Int):Option (Bool×Int×Int):=(b9.f y z X Y).bind fun j=>(some ((j.1 == 0),j.2.1,j.2.2))
set_option maxHeartbeats 8000000 in
set_option maxRecDepth 100000 in
theorem dO.calls (g:Nat) (j:List Int) (y:Int) (z:Int) (a1:Int) (r1:Bool) (r2:Int) (r3:Int) (w0 w:World) (hI:an w0 w g j y z) (hB:Below w0.heap.size w0 w) (h:dO.f j y z a1 = some (r1,r2,r3)) :
  Calls Try.prog 103 #[.pointer (some ⟨g,0,none⟩),.int .i64 a1] w fun e w'=>e = .returned (.bool r1)∧an w0 w' g j r2 r3∧Below w0.heap.size w0 w'∧ay w w' g none:=by
 have a2:=ae.mk hI
 have HK:=ae.mk (ay.refl w g none)
 have HL:=ae.mk hB.size
 clear hI
 have a3:=ae.mk hB.size
 have HB:=ae.mk hB
 clear hB
 unfold dO.f at h
 have H:=h
 clear h
 obtain ⟨⟨X,Y,a0⟩,A3,H⟩:=af.be H
 (try dsimp only at H)
 simp only [Option.some.injEq,Prod.mk.injEq] at H
 obtain ⟨rfl,rfl,rfl⟩:=H
 go_enter Try.func103,Try.ntmps103
 go_wp2_with (first | (refine af.gl (some 7) Try.func87 #[.pointer (some ⟨g,0,none⟩),.int .i64 a1] ?_;(with_reducible refine (b9.calls g j y z a1 X Y a0 w0 _ ?side1 ?side2 A3.out).mono ?_);(case side1=>exact af.I);(case side2=>exact af.J HB);rintro e w4 ⟨rfl,hi,hb,hk⟩;refine ⟨_,rfl,?_⟩;replace HK:=ae.mk (ay.trans (af.K HK) hk (.inl rfl));replace HB:=ae.mk hb;replace a2:=ae.mk hi;(try clear hb);(try clear a4);(try clear hk);(try clear hi)))
 go_ret
 exact ⟨af.E,af.I,af.J HB,af.K HK⟩
def cK.f (k:Nat) (l0:List Int):Option (Int×List Int×List Int×Int):=(bY.f k l0).bind fun j=>((aV.f k j.1 j.2.1 j.2.2 6).bind fun y=>((dO.f j.1 y.2.2.2.1 y.2.2.2.2 10).bind fun z=>(if z.1 = true then ((cJ.f k j.1 z.2.1 z.2.2).bind fun X=>((b9.f j.1 X.2.2.2.1 X.2.2.2.2 6).bind fun Y=>(some (X.1,X.2.1,X.2.2.1,Y.1)))) else ((b9.f j.1 z.2.1 z.2.2 6).bind fun a0=>(some (y.1,y.2.1,y.2.2.1,a0.1))))))
set_option maxHeartbeats 8000000 in
set_option maxRecDepth 100000 in
theorem cK.calls (k:Nat) (A0:Option Addr) (c0:Nat) (l0:List Int) (r1:Int) (r2:List Int) (r3:List Int) (r4:Int) (w:World) (dC:Kd.C (Kd.int .u8) w A0 l0.length l0) (dE:l0.length≤c0) (h:cK.f k l0 = some (r1,r2,r3,r4)) :
  Calls Try.prog 53 #[.slice A0 l0.length c0] w fun e w'=>∃ db dd:Value,e = .returned (.tuple #[.agg #[.int .i64 r1,db,dd],.int .i64 r4])∧Kd.R (Kd.int .i64) 3 w' w.heap.size (fun k_=>some k_≠(dd:Value).ownBlock) db r2∧Kd.R (Kd.int .i64) 3 w' w.heap.size (fun k_=>some k_≠(db:Value).ownBlock) dd r3∧Below w.heap.size w w':=by
 have h9:=Try.underlying58
 have dT:=ae.mk dC
 have e0:=ae.mk dE
 clear dC dE
 have HB:=ae.mk (Below.refl w.heap.size w)
 unfold cK.f at h
 have H:=h
 clear h
 obtain ⟨⟨a3,d6,d7⟩,A2,H⟩:=af.be H
 (try dsimp only at H)
 obtain ⟨⟨aB,ap,ar,aO,aP⟩,A3,H⟩:=af.be H
 (try dsimp only at H)
 obtain ⟨⟨e1,b0,b2⟩,A4,H⟩:=af.be H
 (try dsimp only at H)
 by_cases c5:e1 = true
 ·subst c5
  replace H:((cJ.f k a3 b0 b2).bind fun c1=>((b9.f a3 c1.2.2.2.1 c1.2.2.2.2 6).bind fun df=>(some (c1.1,c1.2.1,c1.2.2.1,df.1)))) = some (r1,r2,r3,r4):=by rw [if_pos rfl] at H;exact H
  obtain ⟨⟨aw,a6,a7,ca,cb⟩,A6,H⟩:=af.be H
  (try dsimp only at H)
  obtain ⟨⟨e2,e3,e4⟩,A7,H⟩:=af.be H
  (try dsimp only at H)
  simp only [Option.some.injEq,Prod.mk.injEq] at H
  obtain ⟨rfl,rfl,rfl,rfl⟩:=H
  go_enter Try.func53,Try.ntmps53
  try go_wp2_with (first | (refine af.bx 2 #[.int .i64 0,.slice none 0 0,.slice none 0 0] 58 ?_;intro X hg w8 hbox hb;have y:=ae.mk hbox;have dk:=af.gw hg HB;have dl:=af.gw hg HB;replace HB:=af.lb HB hb;clear hb hbox hg) | (refine af.gl (some 7) Try.func85 #[.slice A0 l0.length c0] ?_;(with_reducible refine (bY.calls k _ _ l0 a3 d6 d7 w _ ?side1 ?side2 ?side3 A2.out).mono ?_);(case side1=>exact af.J HB);(case side2=>exact dT.out);(case side3=>exact e0.out);rintro e w9 ⟨a2,rfl,hi,hb,aS⟩;refine ⟨_,rfl,?_⟩;replace HB:=ae.mk hb;have a4:=ae.mk hi;have d5:=ae.mk (an.iV hi (aU (af.Bw y.out) aS) (by decide));have a8:=ae.mk (Ne.symm (an.iV hi (aU (af.Bw y.out) aS) (by decide)));replace y:=ae.mk (aU (af.Bw y.out) aS);(try clear hb);(try clear aS);(try clear hk);(try clear hi)) | (refine af.gl (some 9) Try.func102 #[.pointer (some ⟨a2,0,none⟩),.int .i64 6] ?_;(with_reducible refine (aV.calls k a2 a3 d6 d7 6 aB ap ar aO aP w _ ?side1 ?side2 A3.out).mono ?_);(case side1=>exact af.I);(case side2=>exact af.J HB);rintro e hu ⟨e8,ea,rfl,cc,cd,hi,hb,hk⟩;refine ⟨_,rfl,?_⟩;replace y:=ae.mk (ay.blk hk (g':=X) (o:=.cells #[.int .i64 0,.slice none 0 0,.slice none 0 0] 58 (0,0)) (af.Bw y.out) a8.out (by simp));have a0:=ae.mk (Kd.bD cc (aA (af.J HB)));have a1:=ae.mk (Kd.bD cd (aA (af.J HB)));replace HB:=ae.mk hb;replace a4:=ae.mk hi;(try clear hb);(try clear aS);(try clear hk);(try clear hi);(try clear cc);(try clear cd)) | (refine af.bx 5 #[.int .i64 0,.slice none 0 0,.slice none 0 0] 58 ?_;intro j hg hx hbox hb;have ce:=af.rb a0 hb;have cf:=af.rb a1 hb;have ch:=af.bb y hb;have ci:=ae.mk (an.below af.I hb);have cp:=ae.mk (ax (af.J HB) hb);have cq:=ae.mk hbox;have d0:=ae.mk ((by rw [hg];exact (aA (af.J HB)):w.heap.size≤j));have d1:=ae.mk ((by rw [hg];exact (aA (af.J HB)):w.heap.size≤j));have d8:=af.nl hg y;have d9:=af.ng hg y;have d3:=ae.mk ((by rw [hg];exact Nat.ne_of_lt (an.lt (show an w _ a2 a3 aO aP from af.I)):a2≠j));have d4:=ae.mk ((by rw [hg];exact Nat.ne_of_gt (an.lt (show an w _ a2 a3 aO aP from af.I)):j≠a2));clear a0;clear a1;clear y;clear a4;clear HB;have a0:=ce;have a1:=cf;have y:=ch;have a4:=ci;have HB:=cp;have Y:=cq;have dp:=d0;have dq:=d1;have a5:=d8;have z:=d9;have b3:=d3;have a9:=d4;clear ce cf ch ci cp cq d0 d1 d8 d9 d3 d4;clear hb hbox hg;have g3:=z.out;have g4:=a5.out;have g5:=a9.out;have g6:=b3.out;obtain ⟨eb,ed,ee,ef,eh,ej⟩:=af.bW Y.out;obtain ⟨b4,ba,el⟩:=Kd.bA a0.out;subst el;obtain ⟨bc,bi,em⟩:=Kd.bA a1.out;subst em) | (refine af.gl (some 11) Try.func103 #[.pointer (some ⟨a2,0,none⟩),.int .i64 10] ?_;(with_reducible refine (dO.calls a2 a3 aO aP 10 true b0 b2 w _ ?side1 ?side2 A4.out).mono ?_);(case side1=>exact af.I);(case side2=>exact af.J HB);rintro e hz ⟨rfl,hi,hb,hk⟩;refine ⟨_,rfl,?_⟩;replace y:=ae.mk (ay.blk hk (g':=X) (o:=.cells #[.int .i64 0,.slice none 0 0,.slice none 0 0] 58 (0,0)) af.B a8.out (by simp));replace a0:=ae.mk (Kd.aH (Kd.cT (an.apart (show an w _ a2 a3 aO aP from af.I) (af.Rw ((Kd.aH (Kd.aG (p:=⟨j,2,none⟩) (Kd.aG (p:=⟨j,1,none⟩) (Kd.aG (p:=⟨j,0,none⟩) (Kd.b7 a0.out Y.out (by decide)) (fun _ hk=>hk.2) (.int .i64 aB)) (fun _ hk=>hk.2) (.slice b4 ap.length ba)) (fun _ hk=>hk.2) (.slice bc ar.length bi)) (fun _ h_=>h_.1)))) (by decide)) hk (fun _ h=>h.2)) (fun _ h=>h.1));replace a1:=ae.mk (Kd.aH (Kd.cT (an.apart (show an w _ a2 a3 aO aP from af.I) (af.Rw ((Kd.aH (Kd.aG (p:=⟨j,2,none⟩) (Kd.aG (p:=⟨j,1,none⟩) (Kd.aG (p:=⟨j,0,none⟩) (Kd.b7 a1.out Y.out (by decide)) (fun _ hk=>hk.2) (.int .i64 aB)) (fun _ hk=>hk.2) (.slice b4 ap.length ba)) (fun _ hk=>hk.2) (.slice bc ar.length bi)) (fun _ h_=>h_.1)))) (by decide)) hk (fun _ h=>h.2)) (fun _ h=>h.1));replace Y:=ae.mk (ay.blk hk (g':=j) (o:=.cells #[.int .i64 aB,.slice b4 ap.length ba,.slice bc ar.length bi] 58 (0,0)) af.B a9.out (by simp));replace HB:=ae.mk hb;replace a4:=ae.mk hi;(try clear hb);(try clear aS);(try clear hk);(try clear hi)) | (refine af.gl (some 13) Try.func86 #[.pointer (some ⟨a2,0,none⟩)] ?_;(with_reducible refine (cJ.calls k a2 a3 b0 b2 aw a6 a7 ca cb w _ ?side1 ?side2 A6.out).mono ?_);(case side1=>exact af.I);(case side2=>exact af.J HB);rintro e d2 ⟨hj,hl,rfl,cc,cd,hi,hb,hk⟩;refine ⟨_,rfl,?_⟩;replace y:=ae.mk (ay.blk hk (g':=X) (o:=.cells #[.int .i64 0,.slice none 0 0,.slice none 0 0] 58 (0,0)) (af.Bw y.out) a8.out (by simp));replace Y:=ae.mk (ay.blk hk (g':=j) (o:=.cells #[.int .i64 aB,.slice b4 ap.length ba,.slice bc ar.length bi] 58 (0,0)) (af.Bw Y.out) a9.out (by simp));have aF:=ae.mk (Kd.bD (Kd.cX (Kd.cX cc (Kd.dW (af.Rw a0.out))) (Kd.dW (af.Rw a1.out))) (aA (af.J HB)));have aL:=ae.mk (Kd.bD (Kd.cX (Kd.cX cd (Kd.dW (af.Rw a0.out))) (Kd.dW (af.Rw a1.out))) (aA (af.J HB)));replace a0:=ae.mk (Kd.aH (Kd.eM (Kd.eM (Kd.oZ (an.apart (show an w _ a2 a3 b0 b2 from af.I) (af.Rw a0.out) (by decide)) hk) (Kd.cP cc)) (Kd.cP cd)) (fun _ h_=>h_.1));replace a1:=ae.mk (Kd.aH (Kd.eM (Kd.eM (Kd.oZ (an.apart (show an w _ a2 a3 b0 b2 from af.I) (af.Rw a1.out) (by decide)) hk) (Kd.cP cc)) (Kd.cP cd)) (fun _ h_=>h_.1));replace HB:=ae.mk hb;replace a4:=ae.mk hi;(try clear hb);(try clear aS);(try clear hk);(try clear hi);(try clear cc);(try clear cd);obtain ⟨eo,eq,es,et,ev,ew⟩:=af.bW Y.out;obtain ⟨aa,ab,ex⟩:=Kd.bA aF.out;subst ex;obtain ⟨am,ao,eQ⟩:=Kd.bA aL.out;subst eQ))
  have ce:ae (Kd.R (Kd.int .i64) 3 (((d2.setCell ⟨j,0,none⟩ (.int .i64 aw)).setCell ⟨j,1,none⟩ (.slice aa a6.length ab)).setCell ⟨j,2,none⟩ (.slice am a7.length ao)) w.heap.size (fun k_=>some k_≠(.slice bc ar.length bi:Value).ownBlock∧some k_≠(.slice aa a6.length ab:Value).ownBlock∧some k_≠(.slice am a7.length ao:Value).ownBlock) (.slice b4 ap.length ba) ap):=⟨af.Rw (Kd.aH (Kd.aG (p:=⟨j,2,none⟩) (Kd.aG (p:=⟨j,1,none⟩) (Kd.aG (p:=⟨j,0,none⟩) (Kd.b7 a0.out Y.out (by decide)) (fun _ hk=>hk.2) (.int .i64 aw)) (fun _ hk=>hk.2) (.slice aa a6.length ab)) (fun _ hk=>hk.2) (.slice am a7.length ao)) (fun _ hk=>⟨hk.1.1.1,⟨hk.1.1.2,hk.1.2⟩⟩))⟩
  have cf:ae (Kd.R (Kd.int .i64) 3 (((d2.setCell ⟨j,0,none⟩ (.int .i64 aw)).setCell ⟨j,1,none⟩ (.slice aa a6.length ab)).setCell ⟨j,2,none⟩ (.slice am a7.length ao)) w.heap.size (fun k_=>some k_≠(.slice b4 ap.length ba:Value).ownBlock∧some k_≠(.slice aa a6.length ab:Value).ownBlock∧some k_≠(.slice am a7.length ao:Value).ownBlock) (.slice bc ar.length bi) ar):=⟨af.Rw (Kd.aH (Kd.aG (p:=⟨j,2,none⟩) (Kd.aG (p:=⟨j,1,none⟩) (Kd.aG (p:=⟨j,0,none⟩) (Kd.b7 a1.out Y.out (by decide)) (fun _ hk=>hk.2) (.int .i64 aw)) (fun _ hk=>hk.2) (.slice aa a6.length ab)) (fun _ hk=>hk.2) (.slice am a7.length ao)) (fun _ hk=>⟨hk.1.1.1,⟨hk.1.1.2,hk.1.2⟩⟩))⟩
  have ch:ae (Kd.R (Kd.int .i64) 3 (((d2.setCell ⟨j,0,none⟩ (.int .i64 aw)).setCell ⟨j,1,none⟩ (.slice aa a6.length ab)).setCell ⟨j,2,none⟩ (.slice am a7.length ao)) w.heap.size (fun k_=>some k_≠(.slice b4 ap.length ba:Value).ownBlock∧some k_≠(.slice bc ar.length bi:Value).ownBlock∧some k_≠(.slice am a7.length ao:Value).ownBlock) (.slice aa a6.length ab) a6):=⟨af.Rw (Kd.aH (Kd.aG (p:=⟨j,2,none⟩) (Kd.aG (p:=⟨j,1,none⟩) (Kd.aG (p:=⟨j,0,none⟩) (Kd.b7 aF.out Y.out (by decide)) (fun _ hk=>hk.2) (.int .i64 aw)) (fun _ hk=>hk.2) (.slice aa a6.length ab)) (fun _ hk=>hk.2) (.slice am a7.length ao)) (fun _ hk=>⟨hk.1.1.2,⟨hk.1.2,hk.1.1.1⟩⟩))⟩
  have ci:ae (Kd.R (Kd.int .i64) 3 (((d2.setCell ⟨j,0,none⟩ (.int .i64 aw)).setCell ⟨j,1,none⟩ (.slice aa a6.length ab)).setCell ⟨j,2,none⟩ (.slice am a7.length ao)) w.heap.size (fun k_=>some k_≠(.slice b4 ap.length ba:Value).ownBlock∧some k_≠(.slice bc ar.length bi:Value).ownBlock∧some k_≠(.slice aa a6.length ab:Value).ownBlock) (.slice am a7.length ao) a7):=⟨af.Rw (Kd.aH (Kd.aG (p:=⟨j,2,none⟩) (Kd.aG (p:=⟨j,1,none⟩) (Kd.aG (p:=⟨j,0,none⟩) (Kd.b7 aL.out Y.out (by decide)) (fun _ hk=>hk.2) (.int .i64 aw)) (fun _ hk=>hk.2) (.slice aa a6.length ab)) (fun _ hk=>hk.2) (.slice am a7.length ao)) (fun _ hk=>⟨hk.1.1.2,⟨hk.1.2,hk.1.1.1⟩⟩))⟩
  have cp:ae ((((d2.setCell ⟨j,0,none⟩ (.int .i64 aw)).setCell ⟨j,1,none⟩ (.slice aa a6.length ab)).setCell ⟨j,2,none⟩ (.slice am a7.length ao)).heap[X]? = some (.cells #[.int .i64 0,.slice none 0 0,.slice none 0 0] 58 (0,0))):=⟨af.B⟩
  have cq:ae ((((d2.setCell ⟨j,0,none⟩ (.int .i64 aw)).setCell ⟨j,1,none⟩ (.slice aa a6.length ab)).setCell ⟨j,2,none⟩ (.slice am a7.length ao)).heap[j]? = some (.cells #[.int .i64 aw,.slice aa a6.length ab,.slice am a7.length ao] 58 (0,0))):=⟨af.B⟩
  have d0:ae (an w (((d2.setCell ⟨j,0,none⟩ (.int .i64 aw)).setCell ⟨j,1,none⟩ (.slice aa a6.length ab)).setCell ⟨j,2,none⟩ (.slice am a7.length ao)) a2 a3 ca cb):=⟨af.I⟩
  have d1:ae (Below w.heap.size w (((d2.setCell ⟨j,0,none⟩ (.int .i64 aw)).setCell ⟨j,1,none⟩ (.slice aa a6.length ab)).setCell ⟨j,2,none⟩ (.slice am a7.length ao))):=⟨af.J HB⟩
  (try clear a0)
  (try clear a1)
  (try clear aF)
  (try clear aL)
  (try clear y)
  (try clear Y)
  (try clear a4)
  (try clear HB)
  generalize (((d2.setCell ⟨j,0,none⟩ (.int .i64 aw)).setCell ⟨j,1,none⟩ (.slice aa a6.length ab)).setCell ⟨j,2,none⟩ (.slice am a7.length ao)) = g7 at ce cf ch ci cp cq d0 d1 ⊢
  have a0:=ce
  have a1:=cf
  have aF:=ch
  have aL:=ci
  have y:=cp
  have Y:=cq
  have a4:=d0
  have HB:=d1
  clear ce cf ch ci cp cq d0 d1
  replace a0:=ae.mk (Kd.bt a0.out)
  replace a1:=ae.mk (Kd.bt a1.out)
  replace aF:=ae.mk (Kd.bt aF.out)
  replace aL:=ae.mk (Kd.bt aL.out)
  replace y:=ae.mk (bC y.out)
  replace Y:=ae.mk (bC Y.out)
  replace a4:=ae.mk (an.drew a4.out)
  replace HB:=ae.mk (cu HB.out)
  refine eY (n:=5) (S:=fun w'=>w'.cell? ⟨j,0,none⟩ = some (.int .i64 aw)∧w'.cell? ⟨j,1,none⟩ = some (.slice aa a6.length ab)∧w'.cell? ⟨j,2,none⟩ = some (.slice am a7.length ao)) (ds:=[]) #[false,false,false,false,false] (by kernel_rfl) rfl rfl ⟨(ah Y.out 0).trans rfl,(ah Y.out 1).trans rfl,(ah Y.out 2).trans rfl⟩ (fun hHeld=>?_)
  generalize g7.drew = hA at a0 a1 aF aL y Y a4 HB hHeld ⊢
  refine gW (i:=1) (N:=some 15) (v:=?_) (a':=?_) #[false,true,false,false,false] rfl rfl (by kernel_rfl) (fun _ _ _ h=>h) (Or.inl ⟨by rfl,?_⟩) ?_ ?_
  rotate_left
  ·intro w'
   go_simp
   with_reducible rfl
  rotate_left
  ·simp only [Act.put,List.setIfInBounds_toArray,List.set_cons_zero,List.set_cons_succ,bE,cG]
   rfl
  refine j1 (i:=0) (N:=some 14) (v:=?_) (a':=?_) #[true,true,false,false,false] rfl rfl (by kernel_rfl) (fun _ _ _ h=>h) (Or.inl ⟨by rfl,?_⟩) hHeld ?_ ?_
  rotate_left
  ·rintro w' ⟨s0,s1,s2⟩
   go_simp
   with_reducible rfl
  rotate_left
  ·simp only [Act.put,List.setIfInBounds_toArray,List.set_cons_zero,List.set_cons_succ,bE,cG]
   rfl
  refine eS (i:=2) (N:=some 16) #[true,true,true,false,false] rfl rfl (by kernel_rfl) (by decide) (fun K hK=>?_)
  refine eH Try.func87 (by kernel_rfl) rfl #[.pointer (some ⟨a2,0,none⟩),.int .i64 6] (by rfl) rfl rfl (by (try simp only [List.map_toArray,List.map_cons,List.map_nil]);first | done | rfl) ?_
  with_reducible refine (b9.calls a2 a3 ca cb 6 e2 e3 e4 w _ ?side1 ?side2 A7.out).mono ?_
  (case side1=>exact af.I)
  (case side2=>exact af.J HB)
  rintro e dt ⟨rfl,hi,hb,hk⟩
  refine ⟨_,rfl,?_⟩
  replace y:=ae.mk (ay.blk hk (g':=X) (o:=.cells #[.int .i64 0,.slice none 0 0,.slice none 0 0] 58 (0,0)) (af.Bw y.out) a8.out (by simp))
  replace a0:=ae.mk (Kd.aH (Kd.cT (an.apart (show an w _ a2 a3 ca cb from af.I) (af.Rw a0.out) (by decide)) hk (fun _ h=>h.2)) (fun _ h=>h.1))
  replace a1:=ae.mk (Kd.aH (Kd.cT (an.apart (show an w _ a2 a3 ca cb from af.I) (af.Rw a1.out) (by decide)) hk (fun _ h=>h.2)) (fun _ h=>h.1))
  replace Y:=ae.mk (ay.blk hk (g':=j) (o:=.cells #[.int .i64 aw,.slice aa a6.length ab,.slice am a7.length ao] 58 (0,0)) (af.Bw Y.out) a9.out (by simp))
  replace aF:=ae.mk (Kd.aH (Kd.cT (an.apart (show an w _ a2 a3 ca cb from af.I) (af.Rw aF.out) (by decide)) hk (fun _ h=>h.2)) (fun _ h=>h.1))
  replace aL:=ae.mk (Kd.aH (Kd.cT (an.apart (show an w _ a2 a3 ca cb from af.I) (af.Rw aL.out) (by decide)) hk (fun _ h=>h.2)) (fun _ h=>h.1))
  replace HB:=ae.mk hb
  replace a4:=ae.mk hi
  (try clear hb)
  (try clear aS)
  (try clear hk)
  (try clear hi)
  refine hK.out _ _ ⟨(ah Y.out 0).trans rfl,(ah Y.out 1).trans rfl,(ah Y.out 2).trans rfl⟩ (fun hHeld=>?_)
  clear hK K
  refine e6 (a':=?_) ?_ ?_
  rotate_left
  ·show Act.put _ (some 16) _ = _
   simp only [Act.put,List.setIfInBounds_toArray,List.set_cons_zero,List.set_cons_succ,bE,cG]
   rfl
  refine eS (i:=3) (N:=none) #[true,true,true,true,false] rfl rfl (by kernel_rfl) (by decide) (fun K hK=>?_)
  have hm:dt.cell? ⟨X,0,none⟩ = some (.int .i64 0):=(ah y.out 0).trans rfl
  have g8:=aj y.out 0
  have f0:=z.out
  have f1:=a5.out
  have hn:dt.cell? ⟨X,1,none⟩ = some (.slice none 0 0):=(ah y.out 1).trans rfl
  have g9:=aj y.out 1
  have f2:=z.out
  have f3:=a5.out
  have ho:dt.cell? ⟨X,2,none⟩ = some (.slice none 0 0):=(ah y.out 2).trans rfl
  have gb:=aj y.out 2
  have f4:=z.out
  have f5:=a5.out
  refine jB (w1:=?_) (by rfl) rfl ?_ ?_
  rotate_left
  ·go_simp
   rfl
  refine hK.out _ _ ⟨((cell_far (p:=⟨X,_,none⟩) z.out _).trans (((cell_far (p:=⟨X,_,none⟩) z.out _).trans (((cell_far (p:=⟨X,_,none⟩) z.out _).trans (hHeld.1)))))),((cell_far (p:=⟨X,_,none⟩) z.out _).trans (((cell_far (p:=⟨X,_,none⟩) z.out _).trans (((cell_far (p:=⟨X,_,none⟩) z.out _).trans (hHeld.2.1)))))),((cell_far (p:=⟨X,_,none⟩) z.out _).trans (((cell_far (p:=⟨X,_,none⟩) z.out _).trans (((cell_far (p:=⟨X,_,none⟩) z.out _).trans (hHeld.2.2))))))⟩ (fun hHeld=>?_)
  clear hK K
  refine gW (i:=4) (N:=some 3) (v:=?_) (a':=?_) #[true,true,true,true,true] rfl rfl (by kernel_rfl) (fun _ _ _ h=>h) (Or.inl ⟨by rfl,?_⟩) ?_ ?_
  rotate_left
  ·intro w'
   go_simp
   with_reducible rfl
  rotate_left
  ·simp only [Act.put,List.setIfInBounds_toArray,List.set_cons_zero,List.set_cons_succ,bE,cG]
   rfl
  refine gm (by kernel_rfl) ?_
  try go_wp2
  refine bodyPost_ret (de rfl _ _ X 58 #[.int .i64 aw,.slice aa a6.length ab,.slice am a7.length ao] (0,0) _ rfl af.B Try.underlying58 rfl (by kernel_rfl)) rfl ?_
  exact ⟨_,_,af.E,by (with_reducible repeat (first | apply Kd.bN | apply Kd.bO | apply Kd.bt));exact Kd.aH (Kd.aG (p:=⟨X,2,none⟩) (Kd.aG (p:=⟨X,1,none⟩) (Kd.aG (p:=⟨X,0,none⟩) (Kd.b7 aF.out y.out (by decide)) (fun _ hk=>hk.2) (.int .i64 aw)) (fun _ hk=>hk.2) (.slice aa a6.length ab)) (fun _ hk=>hk.2) (.slice am a7.length ao)) (fun _ hk=>hk.1.2.2),by (with_reducible repeat (first | apply Kd.bN | apply Kd.bO | apply Kd.bt));exact Kd.aH (Kd.aG (p:=⟨X,2,none⟩) (Kd.aG (p:=⟨X,1,none⟩) (Kd.aG (p:=⟨X,0,none⟩) (Kd.b7 aL.out y.out (by decide)) (fun _ hk=>hk.2) (.int .i64 aw)) (fun _ hk=>hk.2) (.slice aa a6.length ab)) (fun _ hk=>hk.2) (.slice am a7.length ao)) (fun _ hk=>hk.1.2.2),af.J HB⟩
 ·replace c5:=Bool.eq_false_iff.mpr c5
  subst c5
  replace H:((b9.f a3 b0 b2 6).bind fun du=>(some (aB,ap,ar,du.1))) = some (r1,r2,r3,r4):=by rw [if_neg (show ¬ (false = true) by decide)] at H;exact H
  obtain ⟨⟨f6,f7,f8⟩,gc,H⟩:=af.be H
  (try dsimp only at H)
  simp only [Option.some.injEq,Prod.mk.injEq] at H
  obtain ⟨rfl,rfl,rfl,rfl⟩:=H
  go_enter Try.func53,Try.ntmps53
  try go_wp2_with (first | (refine af.bx 2 #[.int .i64 0,.slice none 0 0,.slice none 0 0] 58 ?_;intro X hg hC hbox hb;have y:=ae.mk hbox;have dk:=af.gw hg HB;have dl:=af.gw hg HB;replace HB:=af.lb HB hb;clear hb hbox hg) | (refine af.gl (some 7) Try.func85 #[.slice A0 l0.length c0] ?_;(with_reducible refine (bY.calls k _ _ l0 a3 d6 d7 w _ ?side1 ?side2 ?side3 A2.out).mono ?_);(case side1=>exact af.J HB);(case side2=>exact dT.out);(case side3=>exact e0.out);rintro e hD ⟨a2,rfl,hi,hb,aS⟩;refine ⟨_,rfl,?_⟩;replace HB:=ae.mk hb;have a4:=ae.mk hi;have d5:=ae.mk (an.iV hi (aU (af.Bw y.out) aS) (by decide));have a8:=ae.mk (Ne.symm (an.iV hi (aU (af.Bw y.out) aS) (by decide)));replace y:=ae.mk (aU (af.Bw y.out) aS);(try clear hb);(try clear aS);(try clear hk);(try clear hi)) | (refine af.gl (some 9) Try.func102 #[.pointer (some ⟨a2,0,none⟩),.int .i64 6] ?_;(with_reducible refine (aV.calls k a2 a3 d6 d7 6 aB ap ar aO aP w _ ?side1 ?side2 A3.out).mono ?_);(case side1=>exact af.I);(case side2=>exact af.J HB);rintro e hE ⟨e8,ea,rfl,cc,cd,hi,hb,hk⟩;refine ⟨_,rfl,?_⟩;replace y:=ae.mk (ay.blk hk (g':=X) (o:=.cells #[.int .i64 0,.slice none 0 0,.slice none 0 0] 58 (0,0)) (af.Bw y.out) a8.out (by simp));have a0:=ae.mk (Kd.bD cc (aA (af.J HB)));have a1:=ae.mk (Kd.bD cd (aA (af.J HB)));replace HB:=ae.mk hb;replace a4:=ae.mk hi;(try clear hb);(try clear aS);(try clear hk);(try clear hi);(try clear cc);(try clear cd)) | (refine af.bx 5 #[.int .i64 0,.slice none 0 0,.slice none 0 0] 58 ?_;intro j hg hG hbox hb;have ce:=af.rb a0 hb;have cf:=af.rb a1 hb;have ch:=af.bb y hb;have ci:=ae.mk (an.below af.I hb);have cp:=ae.mk (ax (af.J HB) hb);have cq:=ae.mk hbox;have d0:=ae.mk ((by rw [hg];exact (aA (af.J HB)):w.heap.size≤j));have d1:=ae.mk ((by rw [hg];exact (aA (af.J HB)):w.heap.size≤j));have d8:=af.nl hg y;have d9:=af.ng hg y;have d3:=ae.mk ((by rw [hg];exact Nat.ne_of_lt (an.lt (show an w _ a2 a3 aO aP from af.I)):a2≠j));have d4:=ae.mk ((by rw [hg];exact Nat.ne_of_gt (an.lt (show an w _ a2 a3 aO aP from af.I)):j≠a2));clear a0;clear a1;clear y;clear a4;clear HB;have a0:=ce;have a1:=cf;have y:=ch;have a4:=ci;have HB:=cp;have Y:=cq;have dp:=d0;have dq:=d1;have a5:=d8;have z:=d9;have b3:=d3;have a9:=d4;clear ce cf ch ci cp cq d0 d1 d8 d9 d3 d4;clear hb hbox hg;have gk:=z.out;have go:=a5.out;have gs:=a9.out;have gt:=b3.out;obtain ⟨f9,fd,fi,fj,fp,fs⟩:=af.bW Y.out;obtain ⟨bm,bo,ft⟩:=Kd.bA a0.out;subst ft;obtain ⟨bs,bv,fw⟩:=Kd.bA a1.out;subst fw) | (refine af.gl (some 11) Try.func103 #[.pointer (some ⟨a2,0,none⟩),.int .i64 10] ?_;(with_reducible refine (dO.calls a2 a3 aO aP 10 false b0 b2 w _ ?side1 ?side2 A4.out).mono ?_);(case side1=>exact af.I);(case side2=>exact af.J HB);rintro e h0 ⟨rfl,hi,hb,hk⟩;refine ⟨_,rfl,?_⟩;replace y:=ae.mk (ay.blk hk (g':=X) (o:=.cells #[.int .i64 0,.slice none 0 0,.slice none 0 0] 58 (0,0)) af.B a8.out (by simp));replace a0:=ae.mk (Kd.aH (Kd.cT (an.apart (show an w _ a2 a3 aO aP from af.I) (af.Rw ((Kd.aH (Kd.aG (p:=⟨j,2,none⟩) (Kd.aG (p:=⟨j,1,none⟩) (Kd.aG (p:=⟨j,0,none⟩) (Kd.b7 a0.out Y.out (by decide)) (fun _ hk=>hk.2) (.int .i64 aB)) (fun _ hk=>hk.2) (.slice bm ap.length bo)) (fun _ hk=>hk.2) (.slice bs ar.length bv)) (fun _ h_=>h_.1)))) (by decide)) hk (fun _ h=>h.2)) (fun _ h=>h.1));replace a1:=ae.mk (Kd.aH (Kd.cT (an.apart (show an w _ a2 a3 aO aP from af.I) (af.Rw ((Kd.aH (Kd.aG (p:=⟨j,2,none⟩) (Kd.aG (p:=⟨j,1,none⟩) (Kd.aG (p:=⟨j,0,none⟩) (Kd.b7 a1.out Y.out (by decide)) (fun _ hk=>hk.2) (.int .i64 aB)) (fun _ hk=>hk.2) (.slice bm ap.length bo)) (fun _ hk=>hk.2) (.slice bs ar.length bv)) (fun _ h_=>h_.1)))) (by decide)) hk (fun _ h=>h.2)) (fun _ h=>h.1));replace Y:=ae.mk (ay.blk hk (g':=j) (o:=.cells #[.int .i64 aB,.slice bm ap.length bo,.slice bs ar.length bv] 58 (0,0)) af.B a9.out (by simp));replace HB:=ae.mk hb;replace a4:=ae.mk hi;(try clear hb);(try clear aS);(try clear hk);(try clear hi)))
  replace a0:=ae.mk (Kd.bt a0.out)
  replace a1:=ae.mk (Kd.bt a1.out)
  replace y:=ae.mk (bC y.out)
  replace Y:=ae.mk (bC Y.out)
  replace a4:=ae.mk (an.drew a4.out)
  replace HB:=ae.mk (cu HB.out)
  refine eY (n:=5) (S:=fun w'=>w'.cell? ⟨j,0,none⟩ = some (.int .i64 aB)∧w'.cell? ⟨j,1,none⟩ = some (.slice bm ap.length bo)∧w'.cell? ⟨j,2,none⟩ = some (.slice bs ar.length bv)) (ds:=[]) #[false,false,false,false,false] (by kernel_rfl) rfl rfl ⟨(ah Y.out 0).trans rfl,(ah Y.out 1).trans rfl,(ah Y.out 2).trans rfl⟩ (fun hHeld=>?_)
  generalize h0.drew = hH at a0 a1 y Y a4 HB hHeld ⊢
  refine gW (i:=1) (N:=some 15) (v:=?_) (a':=?_) #[false,true,false,false,false] rfl rfl (by kernel_rfl) (fun _ _ _ h=>h) (Or.inl ⟨by rfl,?_⟩) ?_ ?_
  rotate_left
  ·intro w'
   go_simp
   with_reducible rfl
  rotate_left
  ·simp only [Act.put,List.setIfInBounds_toArray,List.set_cons_zero,List.set_cons_succ,bE,cG]
   rfl
  refine j1 (i:=0) (N:=some 14) (v:=?_) (a':=?_) #[true,true,false,false,false] rfl rfl (by kernel_rfl) (fun _ _ _ h=>h) (Or.inl ⟨by rfl,?_⟩) hHeld ?_ ?_
  rotate_left
  ·rintro w' ⟨s0,s1,s2⟩
   go_simp
   with_reducible rfl
  rotate_left
  ·simp only [Act.put,List.setIfInBounds_toArray,List.set_cons_zero,List.set_cons_succ,bE,cG]
   rfl
  refine eS (i:=2) (N:=some 16) #[true,true,true,false,false] rfl rfl (by kernel_rfl) (by decide) (fun K hK=>?_)
  refine eH Try.func87 (by kernel_rfl) rfl #[.pointer (some ⟨a2,0,none⟩),.int .i64 6] (by rfl) rfl rfl (by (try simp only [List.map_toArray,List.map_cons,List.map_nil]);first | done | rfl) ?_
  with_reducible refine (b9.calls a2 a3 b0 b2 6 f6 f7 f8 w _ ?side1 ?side2 gc.out).mono ?_
  (case side1=>exact af.I)
  (case side2=>exact af.J HB)
  rintro e dv ⟨rfl,hi,hb,hk⟩
  refine ⟨_,rfl,?_⟩
  replace y:=ae.mk (ay.blk hk (g':=X) (o:=.cells #[.int .i64 0,.slice none 0 0,.slice none 0 0] 58 (0,0)) (af.Bw y.out) a8.out (by simp))
  replace a0:=ae.mk (Kd.aH (Kd.cT (an.apart (show an w _ a2 a3 b0 b2 from af.I) (af.Rw a0.out) (by decide)) hk (fun _ h=>h.2)) (fun _ h=>h.1))
  replace a1:=ae.mk (Kd.aH (Kd.cT (an.apart (show an w _ a2 a3 b0 b2 from af.I) (af.Rw a1.out) (by decide)) hk (fun _ h=>h.2)) (fun _ h=>h.1))
  replace Y:=ae.mk (ay.blk hk (g':=j) (o:=.cells #[.int .i64 aB,.slice bm ap.length bo,.slice bs ar.length bv] 58 (0,0)) (af.Bw Y.out) a9.out (by simp))
  replace HB:=ae.mk hb
  replace a4:=ae.mk hi
  (try clear hb)
  (try clear aS)
  (try clear hk)
  (try clear hi)
  refine hK.out _ _ ⟨(ah Y.out 0).trans rfl,(ah Y.out 1).trans rfl,(ah Y.out 2).trans rfl⟩ (fun hHeld=>?_)
  clear hK K
  refine e6 (a':=?_) ?_ ?_
  rotate_left
  ·show Act.put _ (some 16) _ = _
   simp only [Act.put,List.setIfInBounds_toArray,List.set_cons_zero,List.set_cons_succ,bE,cG]
   rfl
  refine eS (i:=3) (N:=none) #[true,true,true,true,false] rfl rfl (by kernel_rfl) (by decide) (fun K hK=>?_)
  have hq:dv.cell? ⟨X,0,none⟩ = some (.int .i64 0):=(ah y.out 0).trans rfl
  have h6:=aj y.out 0
  have fO:=z.out
  have fX:=a5.out
  have hr:dv.cell? ⟨X,1,none⟩ = some (.slice none 0 0):=(ah y.out 1).trans rfl
  have h7:=aj y.out 1
  have fY:=z.out
  have g0:=a5.out
  have ht:dv.cell? ⟨X,2,none⟩ = some (.slice none 0 0):=(ah y.out 2).trans rfl
  have h8:=aj y.out 2
  have g1:=z.out
  have g2:=a5.out
  refine jB (w1:=?_) (by rfl) rfl ?_ ?_
  rotate_left
  ·go_simp
   rfl
  refine hK.out _ _ ⟨((cell_far (p:=⟨X,_,none⟩) z.out _).trans (((cell_far (p:=⟨X,_,none⟩) z.out _).trans (((cell_far (p:=⟨X,_,none⟩) z.out _).trans (hHeld.1)))))),((cell_far (p:=⟨X,_,none⟩) z.out _).trans (((cell_far (p:=⟨X,_,none⟩) z.out _).trans (((cell_far (p:=⟨X,_,none⟩) z.out _).trans (hHeld.2.1)))))),((cell_far (p:=⟨X,_,none⟩) z.out _).trans (((cell_far (p:=⟨X,_,none⟩) z.out _).trans (((cell_far (p:=⟨X,_,none⟩) z.out _).trans (hHeld.2.2))))))⟩ (fun hHeld=>?_)
  clear hK K
  refine gW (i:=4) (N:=some 3) (v:=?_) (a':=?_) #[true,true,true,true,true] rfl rfl (by kernel_rfl) (fun _ _ _ h=>h) (Or.inl ⟨by rfl,?_⟩) ?_ ?_
  rotate_left
  ·intro w'
   go_simp
   with_reducible rfl
  rotate_left
  ·simp only [Act.put,List.setIfInBounds_toArray,List.set_cons_zero,List.set_cons_succ,bE,cG]
   rfl
  refine gm (by kernel_rfl) ?_
  try go_wp2
  refine bodyPost_ret (de rfl _ _ X 58 #[.int .i64 aB,.slice bm ap.length bo,.slice bs ar.length bv] (0,0) _ rfl af.B Try.underlying58 rfl (by kernel_rfl)) rfl ?_
  exact ⟨_,_,af.E,by (with_reducible repeat (first | apply Kd.bN | apply Kd.bO | apply Kd.bt));exact Kd.aH (Kd.aG (p:=⟨X,2,none⟩) (Kd.aG (p:=⟨X,1,none⟩) (Kd.aG (p:=⟨X,0,none⟩) (Kd.b7 a0.out y.out (by decide)) (fun _ hk=>hk.2) (.int .i64 aB)) (fun _ hk=>hk.2) (.slice bm ap.length bo)) (fun _ hk=>hk.2) (.slice bs ar.length bv)) (fun _ hk=>hk.1),by (with_reducible repeat (first | apply Kd.bN | apply Kd.bO | apply Kd.bt));exact Kd.aH (Kd.aG (p:=⟨X,2,none⟩) (Kd.aG (p:=⟨X,1,none⟩) (Kd.aG (p:=⟨X,0,none⟩) (Kd.b7 a1.out y.out (by decide)) (fun _ hk=>hk.2) (.int .i64 aB)) (fun _ hk=>hk.2) (.slice bm ap.length bo)) (fun _ hk=>hk.2) (.slice bs ar.length bv)) (fun _ hk=>hk.1),af.J HB⟩
mutual
def aK.l0:Nat→Int→Int→List Int→Int→Int→List Int→List Int→Option (Bool)
 | 0,_,_,_,_,_,_,_=>none
 | k+1,Y,x2,x7,X,z,j,y=>if X < (j.length:Int) then (if (wrap64 (Y - 1)) = 0 then (none) else (if 0≤X then (if 0≤(rd j X) then (if (rd j X) < (x7.length:Int) then ((some (x7.set ((rd j X):Int).toNat (wrap64 ((rd x7 (rd j X))+(wrap64 (1+(Int.tmod x2 (wrap64 (Y - 1))))))):List Int)).bind fun a1=>(if X < (y.length:Int) then (if 0≤(rd y X) then (if (rd y X) < (x7.length:Int) then (aK.l0 k Y (wrap64 (Int.tdiv x2 (wrap64 (Y - 1)))) (a1.set ((rd y X):Int).toNat (wrap64 ((wrap64 ((rd a1 (rd y X))+Y)) - (wrap64 (1+(Int.tmod x2 (wrap64 (Y - 1)))))))) (wrap64 (X+1)) z j y) else (none)) else (none)) else (none))) else (none)) else (none)) else (none))) else (aK.l1 k Y x7 0 z j y)
def aK.l1:Nat→Int→List Int→Int→Int→List Int→List Int→Option (Bool)
 | 0,_,_,_,_,_,_=>none
 | k+1,Y,x7,a0,z,j,y=>if a0 < z then (if 0≤a0 then (if a0 < (x7.length:Int) then (if Y = 0 then (none) else (if (Int.tmod (rd x7 a0) Y) = 0 then (aK.l1 k Y x7 (wrap64 (a0+1)) z j y) else (some false))) else (none)) else (none)) else (some true)
end
def aK.f (k:Nat) (j:Int) (y:List Int) (z:List Int) (X:Int) (a2:Int):Option (Bool):=if 0≤j then (if (j:Int).toNat≤35184372088832 then (aK.l0 k X a2 (List.replicate (j:Int).toNat 0) 0 j y z) else (none)) else (none)
def aK.T7:Bool×List (List Nat×List Nat):=(true,[([],[]),([],[]),([1],[1]),([],[]),([2,3],[2,3]),([4],[4]),([],[]),([],[]),([7],[7]),([],[]),([8,9],[8,9]),([10],[10]),([6,11],[6,11]),([12],[12]),([],[]),([13,14],[13,14]),([0,5,0,1,2,3,4,5,6,7,8,9,10,11,12,13,14,15],[0,5]),([16,15,0,1,2,3,4,5,6,7,8,9,10,11,12,13,14,15],[15,16])])
def aK.B7:List Nat:=[0,0,2,0,14,30,0,0,128,0,896,1920,4032,8128,0,32704,65535,131071]
theorem aK.rM:ep .any (opsOf Try.f104 7) = aK.T7:=by kernel_rfl
theorem aK.p7:ec aK.T7.2 aK.B7 = true:=by kernel_rfl
def aK.T8:Bool×List (List Nat×List Nat):=(true,[([],[]),([],[]),([1],[1]),([],[]),([2,3],[2,3]),([4],[4]),([],[]),([],[]),([7],[7]),([],[]),([8,9],[8,9]),([10],[10]),([6,11],[6,11]),([12],[12]),([],[]),([13,14],[13,14]),([],[]),([15,16],[15,16]),([0,5,0,1,2,3,4,5,6,7,8,9,10,11,12,13,14,15,16,17],[0,5]),([18,17,0,1,2,3,4,5,6,7,8,9,10,11,12,13,14,15,16,17],[17,18])])
def aK.B8:List Nat:=[0,0,2,0,14,30,0,0,128,0,896,1920,4032,8128,0,32704,0,131008,262143,524287]
theorem aK.tj:ep .any (opsOf Try.f104 8) = aK.T8:=by kernel_rfl
theorem aK.sJ:ec aK.T8.2 aK.B8 = true:=by kernel_rfl
set_option maxHeartbeats 8000000 in
set_option maxRecDepth 100000 in
theorem aK.calls (k:Nat) (a4:Int) (aS:Option Addr) (ar:Nat) (z:List Int) (aL:Option Addr) (aw:Nat) (X:List Int) (a1:Int) (a2:Int) (r:Bool) (w:World) (c1:Kd.C (Kd.int .i64) w aS z.length z) (ca:z.length≤ar) (cb:Kd.C (Kd.int .i64) w aL X.length X) (cc:X.length≤aw) (h:aK.f k a4 z X a1 a2 = some r) :
  Calls Try.prog 104 #[.agg #[.int .i64 a4,.slice aS z.length ar,.slice aL X.length aw],.int .i64 a1,.int .i64 a2] w fun e w'=>e = .returned (.bool r)∧Below w.heap.size w w':=by
 have il:=Try.underlying58
 have cd:=ae.mk c1
 have hL:=ae.mk ca
 clear c1 ca
 have ce:=ae.mk cb
 have hM:=ae.mk cc
 clear cb cc
 have HB:=ae.mk (Below.refl w.heap.size w)
 unfold aK.f at h
 have H:=h
 clear h
 obtain ⟨c4,H⟩:=af.ip H
 have im:=eq_true c4
 have io:decide (0≤a4) = true:=decide_eq_true c4
 clear c4
 obtain ⟨c5,H⟩:=af.ip H
 have it:=eq_true c5
 have ix:decide ((a4:Int).toNat≤35184372088832) = true:=decide_eq_true c5
 clear c5
 obtain ⟨dl,ba⟩:∃ y_:List Int,y_ = (List.replicate (a4:Int).toNat 0):=⟨_,rfl⟩
 replace H:(aK.l0 k a1 a2 dl 0 a4 z X) = some r:=by (try rw [ba]);exact af.Z
 have cf:=ae.mk ba
 clear ba
 have H':=ae.mk H
 clear H
 go_enter Try.func104,Try.ntmps104
 go_wp2_with (first | (refine af.bx 3 #[.int .i64 a4,.slice aS z.length ar,.slice aL X.length aw] 58 ?_;intro am hg w6 hbox hb;have y:=ae.mk hbox;have hO:=af.gw hg HB;have ch:=af.gw hg HB;replace HB:=af.lb HB hb;clear hb hbox hg;obtain ⟨hC,hD,hE,hG,hH,hI⟩:=af.bW y.out) | ((with_reducible refine bf (N:=13) rfl ?_);refine Kd.kJ (Kd.int .i64) _ 3 rfl (N:=13) rfl 24 _ _ rfl a4 rfl rfl Try.underlying24 (.int .i64 0) 8 fa rfl (by decide) (by omega) 0 (ok:=fun _=>True) (okp:=fun _=>True) rfl (fun _ hk=>hk) trivial (af.D) (Nat.le_trans (Nat.mul_le_mul_right _ (af.D:a4.toNat≤35184372088832)) (by omega)) (Below.refl _ _) (Nat.le_refl _) ?_;intro dp w8 ci hb hP e0;clear hP e0;(first | rw [← cf.out] at ci | (simp only [Int.reduceToNat] at ci;rw [← cf.out] at ci));have e1:=ae.mk (Kd.bD ci (aA (af.Lw HB.out)));replace y:=af.bb y hb;replace HB:=af.lb HB hb;clear hb ci))
 go_loopg [2,8] k (fun kq v2 v8 w'=>∃ (a6:Int) (a3:List Int) (j:Int),v2 = .int .i64 a6∧v8 = .int .i64 j∧ae (aK.l0 kq a1 a6 a3 j a4 z X = some r)∧ae (kq≤k)∧ae (Kd.R (Kd.int .i64) 3 w' w.heap.size (fun _=>True) dp a3)∧ae (w'.heap[am]? = some (.cells #[.int .i64 a4,(.slice aS z.length ar),(.slice aL X.length aw)] 58 (0,0)))∧ae (Below w.heap.size w w'))
 case atStart=>exact ⟨(a2),(dl),(0),af.F,af.F,H',⟨Nat.le_refl _⟩,⟨af.Rw e1.out⟩,⟨af.Bw y.out⟩,⟨af.Lw HB.out⟩⟩
 case round =>
  clear H'
  obtain ⟨a6,a3,j,rfl,rfl,HA,d7,a0,y,HB⟩:=hrel
  cases gk with
  | zero=>exact absurd HA.out (by simp [aK.l0])
  | succ k1 =>
   have H:=HA.out
   clear HA
   simp only [aK.l0] at H
   by_cases iy:j < (z.length:Int)
   ·rw [if_pos iy] at H
    have e2:=decide_eq_true iy
    clear iy
    by_cases d8:(wrap64 (a1 - 1)) = 0
    ·rw [if_pos d8] at H
     exact absurd H (by simp)
    ·rw [if_neg d8] at H
     have hR:((wrap64 (a1 - 1)) == 0) = false:=beq_eq_false_iff_ne.mpr d8
     have hT:((wrap64 (a1 - 1)) != 0) = true:=bne_iff_ne.mpr d8
     obtain ⟨eq,H⟩:=af.ip H
     have hU:=decide_eq_true eq
     clear eq
     obtain ⟨es,H⟩:=af.ip H
     have hV:=decide_eq_true es
     clear es
     obtain ⟨et,H⟩:=af.ip H
     have hW:=decide_eq_true et
     clear et
     obtain ⟨aB,bc⟩:∃ y_:List Int,y_ = (a3.set ((rd z j):Int).toNat (wrap64 ((rd a3 (rd z j))+(wrap64 (1+(Int.tmod a6 (wrap64 (a1 - 1)))))))):=⟨_,rfl⟩
     replace H:(if j < (X.length:Int) then (if 0≤(rd X j) then (if (rd X j) < (a3.length:Int) then (aK.l0 k1 a1 (wrap64 (Int.tdiv a6 (wrap64 (a1 - 1)))) (aB.set ((rd X j):Int).toNat (wrap64 ((wrap64 ((rd aB (rd X j))+a1)) - (wrap64 (1+(Int.tmod a6 (wrap64 (a1 - 1)))))))) (wrap64 (j+1)) a4 z X) else (none)) else (none)) else (none)) = some r:=by (try rw [bc]);exact af.Z
     have cp:=ae.mk bc
     clear bc
     obtain ⟨ev,H⟩:=af.ip H
     have hX:=decide_eq_true ev
     clear ev
     obtain ⟨ew,H⟩:=af.ip H
     have hZ:=decide_eq_true ew
     clear ew
     obtain ⟨ex,H⟩:=af.ip H
     have i0:=decide_eq_true ex
     clear ex
     obtain ⟨dq,bi⟩:∃ y_:List Int,y_ = (aB.set ((rd X j):Int).toNat (wrap64 ((wrap64 ((rd aB (rd X j))+a1)) - (wrap64 (1+(Int.tmod a6 (wrap64 (a1 - 1)))))))):=⟨_,rfl⟩
     replace H:(aK.l0 k1 a1 (wrap64 (Int.tdiv a6 (wrap64 (a1 - 1)))) dq (wrap64 (j+1)) a4 z X) = some r:=by (try rw [bi]);exact af.Z
     have e3:=ae.mk bi
     clear bi
     have H':=ae.mk H
     clear H
     obtain ⟨eQ,f0,f1,f2,f3,f4⟩:=af.bW y.out
     try go_wp2
     replace a0:=ae.mk (Kd.bt a0.out)
     replace y:=ae.mk (bC y.out)
     replace HB:=ae.mk (cu HB.out)
     obtain ⟨ap,f5,a7,jp,f6⟩:=af.ai cd.out j
     have b0:=a7
     cases f5
     try replace a7:=(HB.out.cell (World.block_lt_of_cell? w _ a7)).trans a7
     obtain ⟨e4,f7,a8,k0,f8⟩:=af.ai cd.out j
     have b2:=a8
     obtain rfl:ap = e4:=(by injection f7)
     try replace a8:=(HB.out.cell (World.block_lt_of_cell? w _ a8)).trans a8
     obtain ⟨k3,f9,dt⟩:=Kd.bA a0.out
     (first | subst dt | (injection dt with fd i1 fi;have i2:=fd.symm;have i3:=fi.symm;clear fd i1 fi;subst i2;subst i3))
     obtain ⟨i4,fj,ao,k4,fp⟩:=af.ai (Kd.aJ a0.out).2.2 (rd z j)
     cases fj
     have e8:0≤((rd z j):Int):=af.D
     have cq:((rd z j):Int) < ((a3.length:Int):Int):=af.D
     obtain ⟨aF,ka,du,dv,fs,kb,dC⟩:=Kd.ie a0.out (by omega)
     (first | cases du | (injection du with d9 i5 i6;(first | subst d9 | (injection d9 with d9;subst d9));subst i6;clear i5))
     have dE:=ae.mk dv
     have ft:=ae.mk dC
     clear dv fs dC
     (first | simp only [add_plain] at ao | skip)
     obtain ⟨bo,db⟩:=Kd.eR 0 a0.out ((rd z j):Int) e8 cq
     replace e8:=eq_true e8
     replace cq:=eq_true cq
     have d0:=Kd.oQ a0.out ((rd z j):Int) (wrap64 ((rd a3 (rd z j))+(wrap64 (1+(Int.tmod a6 (wrap64 (a1 - 1)))))))
     rw [← cp.out] at d0
     have d1:=ae.mk d0
     clear d0
     refine eY (n:=18) (S:=fun w'=>w'.cell? ⟨am,0,none⟩ = some (.int .i64 a4)∧w'.cell? ⟨am,1,none⟩ = some (.slice (some ap) z.length ar)∧w'.cell? ⟨am,2,none⟩ = some (.slice aL X.length aw)∧w'.cell? (ap.add (j).toNat) = some (.int .i64 (rd z j))∧w'.cell? (ap.add (j).toNat) = some (.int .i64 (rd z j))∧w'.cell? ⟨aF,((rd z j)).toNat,none⟩ = some (.int .i64 (rd a3 (rd z j)))) (ds:=[17]) #[false,false,false,false,false,false,false,false,false,false,false,false,false,false,false,false,false,false] (by kernel_rfl) rfl rfl ⟨(ah y.out 0).trans rfl,(ah y.out 1).trans rfl,(ah y.out 2).trans rfl,((HB.out.cell (World.block_lt_of_cell? w _ b0)).trans b0),((HB.out.cell (World.block_lt_of_cell? w _ b2)).trans b2),ao⟩ (fun hHeld=>?_);refine ez aK.rM aK.p7 (fun Y aO=>?_)
     generalize wr.drew = dd at a0 y HB ft d1 db bo a7 a8 ao hHeld ⊢
     refine af.pu 0 30 Y ?_
     refine af.pu 1 31 Y ?_
     refine af.pu 3 33 Y ?_
     refine af.pu 6 36 Y ?_
     refine af.pu 7 37 Y ?_
     refine af.pu 9 39 Y ?_
     refine af.pu 14 44 Y ?_
     refine af.tk 2 32 Y aO hHeld ?_
     refine af.pu 4 34 Y ?_
     refine af.tk 5 35 Y aO hHeld ?_
     refine af.tk 8 38 Y aO hHeld ?_
     refine af.pu 10 40 Y ?_
     refine af.tk 11 41 Y aO hHeld ?_
     refine af.pu 12 42 Y ?_
     refine af.tk 13 43 Y aO hHeld ?_
     refine af.pu 15 45 Y ?_
     refine af.pu 16 46 Y ?_
     refine nu (i:=17) (N:=none) #[true,true,true,true,true,true,true,true,true,true,true,true,true,true,true,true,true,true] rfl rfl (dJ Y.out (by kernel_rfl)) (by decide) (fun K hK=>?_)
     refine jB (w1:=?_) (by rfl) rfl ?_ ?_
     rotate_left
     ·go_simp
      rfl
     refine hK.out _ _ ?_
     clear hK K
     refine gm (fL Y.out (by kernel_rfl)) ?_
     try go_wp2
     have ea:ae (Kd.R (Kd.int .i64) 3 (dd.setCell ⟨aF,((rd z j):Int).toNat,none⟩ (.int .i64 (wrap64 ((rd a3 (rd z j))+(wrap64 (1+(Int.tmod a6 (wrap64 (a1 - 1))))))))) w.heap.size (fun _=>True) (.slice (some ⟨aF,0,none⟩) a3.length f9) aB):=⟨af.Rw d1.out⟩
     have eb:ae ((dd.setCell ⟨aF,((rd z j):Int).toNat,none⟩ (.int .i64 (wrap64 ((rd a3 (rd z j))+(wrap64 (1+(Int.tmod a6 (wrap64 (a1 - 1))))))))).heap[am]? = some (.cells #[.int .i64 a4,.slice (some ap) z.length ar,.slice aL X.length aw] 58 (0,0))):=⟨by (with_reducible repeat (first | refine cC ?_ _ | refine bC ?_ | refine bU ?_ _));refine kG ?_ (by have h_:=Kd.gj a0.out y.out (by decide);intro e_;exact h_ (by rw [e_];rfl)) _;(with_reducible repeat (first | refine cC ?_ _ | refine bC ?_ | refine bU ?_ _));exact y.out⟩
     have ed:ae (Below w.heap.size w (dd.setCell ⟨aF,((rd z j):Int).toNat,none⟩ (.int .i64 (wrap64 ((rd a3 (rd z j))+(wrap64 (1+(Int.tmod a6 (wrap64 (a1 - 1)))))))))):=⟨by repeat (first | (with_reducible first | exact HB.out | apply cM | apply cI | apply cu | refine ct ?_ dE.out | refine ct ?_ ch.out) | exact HB.out)⟩
     (try clear a0)
     (try clear y)
     (try clear HB)
     generalize (dd.setCell ⟨aF,((rd z j):Int).toNat,none⟩ (.int .i64 (wrap64 ((rd a3 (rd z j))+(wrap64 (1+(Int.tmod a6 (wrap64 (a1 - 1))))))))) = i7 at ea eb ed ⊢
     have a0:=ea
     have y:=eb
     have HB:=ed
     clear ea eb ed
     replace a0:=ae.mk (Kd.bt a0.out)
     replace y:=ae.mk (bC y.out)
     replace HB:=ae.mk (cu HB.out)
     obtain ⟨aP,fw,a9,kc,fO⟩:=af.ai ce.out j
     have b3:=a9
     cases fw
     try replace a9:=(HB.out.cell (World.block_lt_of_cell? w _ a9)).trans a9
     obtain ⟨ee,fX,aa,kd,fY⟩:=af.ai ce.out j
     have b4:=aa
     obtain rfl:aP = ee:=(by injection fX)
     try replace aa:=(HB.out.cell (World.block_lt_of_cell? w _ aa)).trans aa
     have d2:0≤((rd X j):Int):=af.D
     have bs:(rd X j) < (aB.length:Int):=(by have h_:((rd X j):Int) < ((a3.length:Int):Int):=af.D;first | (have e_:=(Kd.aJ a0.out).1;omega) | simpa only [cp.out,List.length_set] using h_)
     have i8:(((rd X j):Int) < ((a3.length:Int):Int)) = True:=eq_true (af.D)
     obtain ⟨ef,g0,ab⟩:=Kd.cF (Kd.aJ a0.out).2.2 (rd X j) d2 bs
     obtain rfl:(⟨aF,0,none⟩:Addr) = ef:=(by injection g0)
     (first | simp only [add_plain] at ab | simp only [kK] at ab | simp only [Addr.add,Nat.zero_add] at ab | skip)
     replace d2:=eq_true d2
     replace bs:=eq_true bs
     have eh:0≤((rd X j):Int):=af.D
     have d3:((rd X j):Int) < ((a3.length:Int):Int):=af.D
     obtain ⟨bv,df⟩:=Kd.eR 0 a0.out ((rd X j):Int) eh d3
     replace eh:=eq_true eh
     replace d3:=eq_true d3
     have d4:=Kd.oQ a0.out ((rd X j):Int) (wrap64 ((wrap64 ((rd aB (rd X j))+a1)) - (wrap64 (1+(Int.tmod a6 (wrap64 (a1 - 1)))))))
     rw [← e3.out] at d4
     have dT:=ae.mk d4
     clear d4
     refine eY (n:=20) (S:=fun w'=>w'.cell? ⟨am,0,none⟩ = some (.int .i64 a4)∧w'.cell? ⟨am,1,none⟩ = some (.slice (some ap) z.length ar)∧w'.cell? ⟨am,2,none⟩ = some (.slice (some aP) X.length aw)∧w'.cell? (aP.add (j).toNat) = some (.int .i64 (rd X j))∧w'.cell? (aP.add (j).toNat) = some (.int .i64 (rd X j))∧w'.cell? ⟨aF,((rd X j)).toNat,none⟩ = some (.int .i64 (rd aB (rd X j)))) (ds:=[19]) #[false,false,false,false,false,false,false,false,false,false,false,false,false,false,false,false,false,false,false,false] (by kernel_rfl) rfl rfl ⟨(ah y.out 0).trans rfl,(ah y.out 1).trans rfl,(ah y.out 2).trans rfl,((HB.out.cell (World.block_lt_of_cell? w _ b3)).trans b3),((HB.out.cell (World.block_lt_of_cell? w _ b4)).trans b4),ab⟩ (fun hHeld=>?_);refine ez aK.tj aK.sJ (fun Y aO=>?_)
     generalize i7.drew = l3 at a0 y HB d1 dT df bv a9 aa ab hHeld ⊢
     refine af.pu 0 47 Y ?_
     refine af.pu 1 48 Y ?_
     refine af.pu 3 50 Y ?_
     refine af.pu 6 53 Y ?_
     refine af.pu 7 54 Y ?_
     refine af.pu 9 56 Y ?_
     refine af.pu 14 61 Y ?_
     refine af.pu 16 63 Y ?_
     refine af.tk 2 49 Y aO hHeld ?_
     refine af.pu 4 51 Y ?_
     refine af.tk 5 52 Y aO hHeld ?_
     refine af.tk 8 55 Y aO hHeld ?_
     refine af.pu 10 57 Y ?_
     refine af.tk 11 58 Y aO hHeld ?_
     refine af.pu 12 59 Y ?_
     refine af.tk 13 60 Y aO hHeld ?_
     refine af.pu 15 62 Y ?_
     refine af.pu 17 64 Y ?_
     refine af.pu 18 65 Y ?_
     refine nu (i:=19) (N:=none) #[true,true,true,true,true,true,true,true,true,true,true,true,true,true,true,true,true,true,true,true] rfl rfl (dJ Y.out (by kernel_rfl)) (by decide) (fun K hK=>?_)
     refine jB (w1:=?_) (by rfl) rfl ?_ ?_
     rotate_left
     ·go_simp
      rfl
     refine hK.out _ _ ?_
     clear hK K
     refine gm (fL Y.out (by kernel_rfl)) ?_
     try go_wp2
     go_roundg k1
     case measure=>have:=d7.out;omega
     case rel=>exact ⟨(wrap64 (Int.tdiv a6 (wrap64 (a1 - 1)))),(dq),(wrap64 (j+1)),af.F,af.F,H',⟨by have:=d7.out;omega⟩,⟨af.Rw dT.out⟩,⟨by (with_reducible repeat (first | refine cC ?_ _ | refine bC ?_ | refine bU ?_ _));refine kG ?_ (by have h_:=Kd.gj a0.out y.out (by decide);intro e_;exact h_ (by rw [e_];rfl)) _;(with_reducible repeat (first | refine cC ?_ _ | refine bC ?_ | refine bU ?_ _));exact y.out⟩,⟨by repeat (first | (with_reducible first | exact HB.out | apply cM | apply cI | apply cu | refine ct ?_ dE.out | refine ct ?_ ch.out) | exact HB.out)⟩⟩
   ·rw [if_neg iy] at H
    have e2:decide (j < (z.length:Int)) = false:=decide_eq_false iy
    clear iy
    have H':=ae.mk H
    clear H
    obtain ⟨g1,g2,g3,g4,g5,g6⟩:=af.bW y.out
    go_wp2
    go_loopg [10] k1 (fun kq v10 w'=>∃ (a5:Int),v10 = .int .i64 a5∧ae (aK.l1 kq a1 a3 a5 a4 z X = some r)∧ae (kq≤k1)∧ae (Kd.R (Kd.int .i64) 3 w' w.heap.size (fun _=>True) dp a3)∧ae (w'.heap[am]? = some (.cells #[.int .i64 a4,(.slice aS z.length ar),(.slice aL X.length aw)] 58 (0,0)))∧ae (Below w.heap.size w w'))
    case atStart=>exact ⟨(0),af.F,H',⟨Nat.le_refl _⟩,⟨af.Rw a0.out⟩,⟨af.Bw y.out⟩,⟨af.Lw HB.out⟩⟩
    case round =>
     clear H'
     try clear q1
     try clear l4
     try clear q5
     try clear la
     try clear cq
     try clear kh
     try clear kl
     try clear d3
     try clear km
     try clear ks
     try clear bo
     try clear bv
     try clear a7
     try clear a8
     try clear ao
     try clear a9
     try clear aa
     try clear ab
     try clear cq
     try clear d3
     try clear f6
     try clear f8
     try clear fp
     try clear fO
     try clear fY
     try clear bs
     obtain ⟨a5,rfl,HA,g7,a0,y,HB⟩:=hrel
     cases gk with
     | zero=>exact absurd HA.out (by simp [aK.l1])
     | succ k2 =>
      have H:=HA.out
      clear HA
      simp only [aK.l1] at H
      by_cases c0:a5 < a4
      ·rw [if_pos c0] at H
       have ej:=decide_eq_true c0
       clear c0
       obtain ⟨g8,H⟩:=af.ip H
       have i9:=decide_eq_true g8
       clear g8
       obtain ⟨g9,H⟩:=af.ip H
       have ib:=decide_eq_true g9
       clear g9
       by_cases dk:a1 = 0
       ·rw [if_pos dk] at H
        exact absurd H (by simp)
       ·rw [if_neg dk] at H
        have ih:(a1 == 0) = false:=beq_eq_false_iff_ne.mpr dk
        have ii:(a1 != 0) = true:=bne_iff_ne.mpr dk
        by_cases bm:(Int.tmod (rd a3 a5) a1) = 0
        ·rw [if_pos bm] at H
         have el:((Int.tmod (rd a3 a5) a1) == 0) = true:=beq_iff_eq.mpr bm
         have em:((Int.tmod (rd a3 a5) a1) != 0) = false:=bne_eq_false_iff_eq.mpr bm
         clear bm
         have H':=ae.mk H
         clear H
         obtain ⟨gb,gc,go,gs,gt,h0⟩:=af.bW y.out
         obtain ⟨kt,kv,h6⟩:=Kd.bA a0.out
         subst h6
         obtain ⟨eo,d5,d6,h7,h8⟩:=af.ai (Kd.aJ a0.out).2.2 a5
         cases d5
         go_wp2
         go_roundg k2
         case measure=>have:=d7.out;have:=g7.out;omega
         case rel=>exact ⟨(wrap64 (a5+1)),af.F,H',⟨by have:=d7.out;have:=g7.out;omega⟩,⟨af.Rw a0.out⟩,⟨af.Bw y.out⟩,⟨af.Lw HB.out⟩⟩
        ·rw [if_neg bm] at H
         have el:((Int.tmod (rd a3 a5) a1) == 0) = false:=beq_eq_false_iff_ne.mpr bm
         have em:((Int.tmod (rd a3 a5) a1) != 0) = true:=bne_iff_ne.mpr bm
         obtain rfl:=Option.some.inj H
         obtain ⟨h9,hj,hl,hm,hn,ho⟩:=af.bW y.out
         obtain ⟨kw,ky,hq⟩:=Kd.bA a0.out
         subst hq
         obtain ⟨eo,d5,d6,h7,h8⟩:=af.ai (Kd.aJ a0.out).2.2 a5
         cases d5
         go_wp2
         go_ret
         exact ⟨af.E,af.L⟩
      ·rw [if_neg c0] at H
       have ej:decide (a5 < a4) = false:=decide_eq_false c0
       clear c0
       obtain rfl:=Option.some.inj H
       obtain ⟨hr,ht,hu,hx,hz,hA⟩:=af.bW y.out
       go_wp2
       go_ret
       exact ⟨af.E,af.L⟩
mutual
def bj.j0:Nat→Int→Bool→Int→List Int→List Int→Option (Int)
 | 0,_,_,_,_,_=>none
 | k+1,X,a3,y,j,z=>if a3 = true then (some (-1)) else (if X = 1 then ((cQ.f ((j.length:Int) == 0)).bind fun Y=>(some Y)) else ((bp.f k (wrap64 (X - 1)) (j.length:Int)).bind fun a0=>(bj.l0 k X 0 a0 0 y j z)))
def bj.l0:Nat→Int→Int→Int→Int→Int→List Int→List Int→Option (Int)
 | 0,_,_,_,_,_,_,_=>none
 | k+1,X,x5,x6,x7,y,j,z=>if x7 < x6 then ((aK.f k y j z X x7).bind fun a1=>((cQ.f a1).bind fun a2=>(bj.l0 k X (wrap64 (x5+a2)) x6 (wrap64 (x7+1)) y j z))) else (some x5)
end
def bj.f (k:Nat) (j:Int) (y:List Int) (z:List Int) (a1:Int):Option (Int):=(aQ.f k j y z).bind fun X=>(if X = true then ((az.f a1 1 4).bind fun Y=>(bj.j0 k a1 (!Y) j y z)) else (bj.j0 k a1 true j y z))
set_option maxHeartbeats 8000000 in
set_option maxRecDepth 100000 in
theorem bj.calls (k:Nat) (X:Int) (Y:Option Addr) (a0:Nat) (j:List Int) (a2:Option Addr) (a3:Nat) (z:List Int) (a1:Int) (r:Int) (w:World) (ar:Kd.C (Kd.int .i64) w Y j.length j) (aw:j.length≤a0) (aB:Kd.C (Kd.int .i64) w a2 z.length z) (aF:z.length≤a3) (h:bj.f k X j z a1 = some r) :
  Calls Try.prog 54 #[.agg #[.int .i64 X,.slice Y j.length a0,.slice a2 z.length a3],.int .i64 a1] w fun e w'=>e = .returned (.int .i64 r)∧Below w.heap.size w w':=by
 have e1:=Try.underlying58
 have a7:=ae.mk ar
 have a8:=ae.mk aw
 clear ar aw
 have a9:=ae.mk aB
 have aa:=ae.mk aF
 clear aB aF
 have HB:=ae.mk (Below.refl w.heap.size w)
 unfold bj.f at h
 have H:=h
 clear h
 have b3:=ae.mk H
 clear H
 go_enter Try.func54,Try.ntmps54
 go_upto_region 1 with (first | ((with_reducible refine bf (N:=2) rfl ?_);refine af.bx 2 #[.int .i64 X,.slice Y j.length a0,.slice a2 z.length a3] 58 ?_;intro aL hg w4 hbox hb;have y:=ae.mk hbox;have dt:=af.gw hg HB;have du:=af.gw hg HB;replace HB:=af.lb HB hb;clear hb hbox hg))
 (try simp only [Act.put,List.setIfInBounds_toArray,List.set_cons_zero,List.set_cons_succ])
 go_cut [15] (fun dv wc=>∃ (kq:Nat) (a6:Bool),dv = .bool a6∧ae (bj.j0 kq a1 a6 X j z = some r)∧ae (kq≤k)∧ae (wc.heap[aL]? = some (.cells #[.int .i64 X,(.slice Y j.length a0),(.slice a2 z.length a3)] 58 (0,0)))∧ae (Below w.heap.size w wc))
 case first =>
  have H:=b3.out
  clear b3
  obtain ⟨bi,A5,H⟩:=af.be H
  (try dsimp only at H)
  by_cases c6:bi = true
  ·subst c6
   replace H:((az.f a1 1 4).bind fun am=>(bj.j0 k a1 (!am) X j z)) = some r:=by rw [if_pos rfl] at H;exact H
   obtain ⟨am,A7,H⟩:=af.be H
   (try dsimp only at H)
   have H':=ae.mk H
   clear H
   obtain ⟨dd,df,dk,dl,dp,dq⟩:=af.bW y.out
   go_wp2_with (first | ((with_reducible refine b8 (f:=88) rfl ?_);refine af.gl (some 9) Try.func88 #[.agg #[.int .i64 X,.slice Y j.length a0,.slice a2 z.length a3]] ?_;(with_reducible refine (aQ.calls k X _ _ j _ _ z true _ ?side1 ?side2 ?side3 ?side4 A5.out).mono ?_);(case side1=>exact af.Cw (Kd.aX a7.out HB.out));(case side2=>exact a8.out);(case side3=>exact af.Cw (Kd.aX a9.out HB.out));(case side4=>exact aa.out);rintro e w9 ⟨rfl,hb⟩;refine ⟨_,rfl,?_⟩;replace y:=af.bb y hb;replace HB:=af.lb HB hb;(try clear hb);(try clear bm);(try clear hk);(try clear hi)) | (go_at_call 89;(with_reducible refine (az.calls a1 1 4 am _ A7.out).mono ?_);rintro e w' ⟨rfl,⟨nd,rfl⟩⟩))
   go_meet
   case rel=>exact ⟨_,(!am),af.F,H',⟨by first | omega | exact Nat.le_refl _⟩,⟨af.Bw y.out⟩,⟨af.Lw HB.out⟩⟩
  ·replace c6:=Bool.eq_false_iff.mpr c6
   subst c6
   replace H:(bj.j0 k a1 true X j z) = some r:=by rw [if_neg (show ¬ (false = true) by decide)] at H;exact H
   have H':=ae.mk H
   clear H
   obtain ⟨bo,bs,bv,c0,c1,ca⟩:=af.bW y.out
   go_wp2_with (first | ((with_reducible refine b8 (f:=88) rfl ?_);refine af.gl (some 9) Try.func88 #[.agg #[.int .i64 X,.slice Y j.length a0,.slice a2 z.length a3]] ?_;(with_reducible refine (aQ.calls k X _ _ j _ _ z false _ ?side1 ?side2 ?side3 ?side4 A5.out).mono ?_);(case side1=>exact af.Cw (Kd.aX a7.out HB.out));(case side2=>exact a8.out);(case side3=>exact af.Cw (Kd.aX a9.out HB.out));(case side4=>exact aa.out);rintro e e2 ⟨rfl,hb⟩;refine ⟨_,rfl,?_⟩;replace y:=af.bb y hb;replace HB:=af.lb HB hb;(try clear hb);(try clear bm);(try clear hk);(try clear hi)))
   go_meet
   case rel=>exact ⟨_,(true),af.F,H',⟨by first | omega | exact Nat.le_refl _⟩,⟨af.Bw y.out⟩,⟨af.Lw HB.out⟩⟩
 case rest =>
  clear b3
  obtain ⟨kq,a6,rfl,HA,cb,y,HB⟩:=hcut
  cases kq with
  | zero=>exact absurd HA.out (by simp [bj.j0])
  | succ aO =>
   have H:=HA.out
   clear HA
   simp only [bj.j0] at H
   by_cases b0:a6 = true
   ·subst b0
    replace H:(some (-1)) = some r:=by rw [if_pos rfl] at H;exact H
    obtain rfl:=Option.some.inj H
    go_wp2
    go_ret
    exact ⟨af.E,af.L⟩
   ·replace b0:=Bool.eq_false_iff.mpr b0
    subst b0
    replace H:(if a1 = 1 then ((cQ.f ((j.length:Int) == 0)).bind fun aP=>(some aP)) else ((bp.f aO (wrap64 (a1 - 1)) (j.length:Int)).bind fun a5=>(bj.l0 aO a1 0 a5 0 X j z))) = some r:=by rw [if_neg (show ¬ (false = true) by decide)] at H;exact H
    by_cases ab:a1 = 1
    ·rw [if_pos ab] at H
     have b4:(a1 == 1) = true:=beq_iff_eq.mpr ab
     have ba:(a1 != 1) = false:=bne_eq_false_iff_eq.mpr ab
     clear ab
     obtain ⟨aP,dC,H⟩:=af.be H
     (try dsimp only at H)
     obtain rfl:=Option.some.inj H
     obtain ⟨cc,cd,ce,cf,ch,ci⟩:=af.bW y.out
     go_wp2_with (first | ((with_reducible refine b8 (f:=91) rfl ?_);refine af.gl (some 22) Try.func91 #[.bool ((j.length:Int) == 0)] ?_;(with_reducible refine (cQ.calls ((j.length:Int) == 0) aP _ dC.out).mono ?_);rintro e w' ⟨rfl,⟨nd,rfl⟩⟩;refine ⟨_,rfl,?_⟩))
     go_ret
     exact ⟨af.E,af.L⟩
    ·rw [if_neg ab] at H
     have b4:(a1 == 1) = false:=beq_eq_false_iff_ne.mpr ab
     have ba:(a1 != 1) = true:=bne_iff_ne.mpr ab
     obtain ⟨a5,dE,H⟩:=af.be H
     (try dsimp only at H)
     have H':=ae.mk H
     clear H
     obtain ⟨cp,cq,d0,d1,d2,d3⟩:=af.bW y.out
     go_wp2_with (first | ((with_reducible refine b8 (f:=90) rfl ?_);refine af.gl (some 28) Try.func90 #[.int .i64 (wrap64 (a1 - 1)),.int .i64 (j.length:Int)] ?_;(with_reducible refine (bp.calls aO (wrap64 (a1 - 1)) (j.length:Int) a5 _ dE.out).mono ?_);rintro e w' ⟨rfl,⟨nd,rfl⟩⟩;refine ⟨_,rfl,?_⟩))
     go_loopg [5,7] aO (fun kq v5 v7 w'=>∃ (ao:Int) (a4:Int),v5 = .int .i64 ao∧v7 = .int .i64 a4∧ae (bj.l0 kq a1 ao a5 a4 X j z = some r)∧ae (kq≤aO)∧ae (w'.heap[aL]? = some (.cells #[.int .i64 X,(.slice Y j.length a0),(.slice a2 z.length a3)] 58 (0,0)))∧ae (Below w.heap.size w w'))
     case atStart=>exact ⟨(0),(0),af.F,af.F,H',⟨Nat.le_refl _⟩,⟨af.Bw y.out⟩,⟨af.Lw HB.out⟩⟩
     case round =>
      clear H'
      obtain ⟨ao,a4,rfl,rfl,HA,d4,y,HB⟩:=hrel
      cases gk with
      | zero=>exact absurd HA.out (by simp [bj.l0])
      | succ k2 =>
       have H:=HA.out
       clear HA
       simp only [bj.l0] at H
       by_cases ap:a4 < a5
       ·rw [if_pos ap] at H
        have bc:=decide_eq_true ap
        clear ap
        obtain ⟨aS,dT,H⟩:=af.be H
        (try dsimp only at H)
        obtain ⟨b2,e0,H⟩:=af.be H
        (try dsimp only at H)
        have H':=ae.mk H
        clear H
        obtain ⟨d5,d6,d7,d8,d9,db⟩:=af.bW y.out
        go_wp2_with (first | ((with_reducible refine b8 (f:=104) rfl ?_);refine af.gl (some 38) Try.func104 #[.agg #[.int .i64 X,.slice Y j.length a0,.slice a2 z.length a3],.int .i64 a1,.int .i64 a4] ?_;(with_reducible refine (aK.calls k2 X _ _ j _ _ z a1 a4 aS _ ?side1 ?side2 ?side3 ?side4 dT.out).mono ?_);(case side1=>exact af.Cw (Kd.aX a7.out HB.out));(case side2=>exact a8.out);(case side3=>exact af.Cw (Kd.aX a9.out HB.out));(case side4=>exact aa.out);rintro e e3 ⟨rfl,hb⟩;refine ⟨_,rfl,?_⟩;replace y:=af.bb y hb;replace HB:=af.lb HB hb;(try clear hb);(try clear bm);(try clear hk);(try clear hi)) | ((with_reducible refine b8 (f:=91) rfl ?_);refine af.gl (some 39) Try.func91 #[.bool aS] ?_;(with_reducible refine (cQ.calls aS b2 _ e0.out).mono ?_);rintro e w' ⟨rfl,⟨nd,rfl⟩⟩;refine ⟨_,rfl,?_⟩))
        go_roundg k2
        case measure=>have:=cb.out;have:=d4.out;omega
        case rel=>exact ⟨(wrap64 (ao+b2)),(wrap64 (a4+1)),af.F,af.F,H',⟨by have:=cb.out;have:=d4.out;omega⟩,⟨af.Bw y.out⟩,⟨af.Lw HB.out⟩⟩
       ·rw [if_neg ap] at H
        have bc:decide (a4 < a5) = false:=decide_eq_false ap
        clear ap
        obtain rfl:=Option.some.inj H
        go_wp2
        go_ret
        exact ⟨af.E,af.L⟩
end Go.Proofs.Ytmpodackojmojaa.Pr
end
