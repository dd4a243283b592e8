/- The claim FnGraphCounts: every text that its row comes to, laid together by slim.py (the words of the kit's print, the printed walks, the pure law, the row). -/
import Derived.Lib.OwnBridge
import Derived.Lib.RowBridge
import Derived.Shelf.SlGeneric
import Derived.Shelf.SlLaysF
import Derived.Shelf.Slices.CompactI
import Derived.Shelf.Slices.In.SortNone
import Derived.Shelf.Sort.Plain
import Derived.Sort.Grow
import Derived.Sort.OwnSortedInts
import Derived.Test.YtmpodackojmojaaProg
import Derived.Test.YtmpodackojmojaaYFnGraphCounts0
section
namespace Go.Proofs.Ytmpodackojmojaa.Pr
open Go.RowKit Go.Proofs.ag.aT Go.Proofs.ag.bu Go.Proofs.ag.bw
attribute [local go_sem] gp gq iE iF fz fA gr gu
set_option linter.unusedVariables false
set_option linter.unusedSimpArgs false
mutual
def aQ.j0:Nat→Bool→Int→List Int→List Int→Option (Bool)
 | 0,_,_,_,_=>none
 | k+1,Y,j,y,z=>if Y = true then (some false) else (aQ.l0 k 0 j y z)
def aQ.l0:Nat→Int→Int→List Int→List Int→Option (Bool)
 | 0,_,_,_,_=>none
 | k+1,X,j,y,z=>if X < (y.length:Int) then (if 0≤X then ((az.f (rd y X) 0 (wrap64 (j - 1))).bind fun t188=>(if t188 = true then (if X < (z.length:Int) then ((az.f (rd z X) 0 (wrap64 (j - 1))).bind fun t190=>(if t190 = true then (aQ.l0 k (wrap64 (X+1)) j y z) else (some false))) else (none)) else (some false))) else (none)) else (some true)
end
def aQ.f (k:Nat) (y:Int) (j:List Int) (z:List Int):Option (Bool):=(az.f y 0 6).bind fun t186=>(if t186 = true then (if (j.length:Int) > 8 then (aQ.j0 k true y j z) else (aQ.j0 k ((j.length:Int) != (z.length:Int)) y j z)) else (aQ.j0 k true y j z))
set_option maxHeartbeats 8000000 in
set_option maxRecDepth 100000 in
theorem aQ.calls (k:Nat) (y:Int) (a8:Option Addr) (a9:Nat) (X:List Int) (aa:Option Addr) (ab:Nat) (Y:List Int) (r:Bool) (w:World) (aL:Kd.C (Kd.int .i64) w a8 X.length X) (aO:X.length≤a9) (aP:Kd.C (Kd.int .i64) w aa Y.length Y) (aS:Y.length≤ab) (h:aQ.f k y X Y = some r) :
  Calls Try.prog 88 #[.agg #[.int .i64 y,.slice a8 X.length a9,.slice aa Y.length ab]] w fun e w'=>e = .returned (.bool r)∧Below w.heap.size w w':=by
 have eo:=Try.underlying58
 have aB:=ae.mk aL
 have eh:=ae.mk aO
 clear aL aO
 have a6:=ae.mk aP
 have ej:=ae.mk aS
 clear aP aS
 have HB:=ae.mk (Below.refl w.heap.size w)
 unfold aQ.f at h
 have H:=h
 clear h
 have bm:=ae.mk H
 clear H
 go_enter Try.func88,Try.ntmps88
 go_upto_region 1 with (first | ((with_reducible refine bf (N:=1) rfl ?_);(try (refine bV (by rfl) ?_;dsimp only));refine ck ?hg (N:=1) ?hd (cs:=#[.int .i64 y,.slice a8 X.length a9,.slice aa Y.length ab]) (t:=58) ?hr ?_;(case hd=>rfl);(case hg=>rfl);(case hr=>first | (go_simp;done) | (go_simp;rfl));intro ao hg w3 hbox hb;have a3:=ae.mk hbox;have b0:=af.gw hg HB;have b2:=af.gw hg HB;replace HB:=af.lb HB hb;clear hb hbox hg))
 repeat (go_quiet (first | ((with_reducible refine bf (N:=1) rfl ?_);(try (refine bV (by rfl) ?_;dsimp only));refine ck ?hg (N:=1) ?hd (cs:=#[.int .i64 y,.slice a8 X.length a9,.slice aa Y.length ab]) (t:=58) ?hr ?_;(case hd=>rfl);(case hg=>rfl);(case hr=>first | (go_simp;done) | (go_simp;rfl));intro ao hg w3 hbox hb;have a3:=ae.mk hbox;have b0:=af.gw hg HB;have b2:=af.gw hg HB;replace HB:=af.lb HB hb;clear hb hbox hg));go_upto_region 1 with (first | ((with_reducible refine bf (N:=1) rfl ?_);(try (refine bV (by rfl) ?_;dsimp only));refine ck ?hg (N:=1) ?hd (cs:=#[.int .i64 y,.slice a8 X.length a9,.slice aa Y.length ab]) (t:=58) ?hr ?_;(case hd=>rfl);(case hg=>rfl);(case hr=>first | (go_simp;done) | (go_simp;rfl));intro ao hg w3 hbox hb;have a3:=ae.mk hbox;have b0:=af.gw hg HB;have b2:=af.gw hg HB;replace HB:=af.lb HB hb;clear hb hbox hg)))
 (try simp only [Act.put,List.setIfInBounds_toArray,List.set_cons_zero,List.set_cons_succ])
 go_cut [22] (fun v22 wc=>∃ (kq:Nat) (ap:Bool),v22 = .bool ap∧ae (aQ.j0 kq ap y X Y = some r)∧ae (kq≤k)∧ae (wc.heap[ao]? = some (.cells #[.int .i64 y,(.slice a8 X.length a9),(.slice aa Y.length ab)] 58 (0,0)))∧ae (Below w.heap.size w wc))
 case first =>
  have H:=bm.out
  clear bm
  obtain ⟨t186,A4,H⟩:=af.be H
  (try dsimp only at H)
  by_cases c5:t186 = true
  ·subst c5
   replace H:(if (X.length:Int) > 8 then (aQ.j0 k true y X Y) else (aQ.j0 k ((X.length:Int) != (Y.length:Int)) y X Y)) = some r:=by rw [if_pos rfl] at H;exact H
   by_cases c6:(X.length:Int) > 8
   ·rw [if_pos c6] at H
    have ar:=decide_eq_true c6
    have bv:decide (8 < X.length) = true:=decide_eq_true (by omega)
    clear c6
    (first | rw [ar] | (simp only [bE,cG];rw [ar]) | skip)
    have H':=ae.mk H
    clear H
    obtain ⟨dq,dt,du,dv,dC,dE⟩:=af.bW a3.out
    go_wp2_with (first | (go_at_call 89;(with_reducible refine (az.calls y 0 6 true _ A4.out).mono ?_);rintro e w' ⟨rfl,⟨nd,rfl⟩⟩;(try exact af.W)))
    repeat (go_quiet (first | (go_at_call 89;(with_reducible refine (az.calls y 0 6 true _ A4.out).mono ?_);rintro e w' ⟨rfl,⟨nd,rfl⟩⟩;(try exact af.W)));try go_wp2_with (first | (go_at_call 89;(with_reducible refine (az.calls y 0 6 true _ A4.out).mono ?_);rintro e w' ⟨rfl,⟨nd,rfl⟩⟩;(try exact af.W))))
    go_meet
    case rel=>exact ⟨_,(true),af.F,H',⟨by first | omega | exact Nat.le_refl _⟩,⟨af.Bw a3.out⟩,⟨af.L⟩⟩
   ·rw [if_neg c6] at H
    have ar:decide (8 < (X.length:Int)) = false:=decide_eq_false c6
    have bv:decide (8 < X.length) = false:=decide_eq_false (by omega)
    clear c6
    (first | rw [ar] | (simp only [bE,cG];rw [ar]) | skip)
    have H':=ae.mk H
    clear H
    obtain ⟨dT,e0,e1,e2,e3,e4⟩:=af.bW a3.out
    go_wp2_with (first | (go_at_call 89;(with_reducible refine (az.calls y 0 6 true _ A4.out).mono ?_);rintro e w' ⟨rfl,⟨nd,rfl⟩⟩;(try exact af.W)))
    repeat (go_quiet (first | (go_at_call 89;(with_reducible refine (az.calls y 0 6 true _ A4.out).mono ?_);rintro e w' ⟨rfl,⟨nd,rfl⟩⟩;(try exact af.W)));try go_wp2_with (first | (go_at_call 89;(with_reducible refine (az.calls y 0 6 true _ A4.out).mono ?_);rintro e w' ⟨rfl,⟨nd,rfl⟩⟩;(try exact af.W))))
    go_meet
    case rel=>exact ⟨_,(((X.length:Int) != (Y.length:Int))),af.F,H',⟨by first | omega | exact Nat.le_refl _⟩,⟨af.Bw a3.out⟩,⟨af.L⟩⟩
  ·replace c5:=Bool.eq_false_iff.mpr c5
   subst c5
   replace H:(aQ.j0 k true y X Y) = some r:=by rw [if_neg (show ¬ (false = true) by decide)] at H;exact H
   have H':=ae.mk H
   clear H
   obtain ⟨e8,ea,eb,ed,ee,ef⟩:=af.bW a3.out
   go_wp2_with (first | (go_at_call 89;(with_reducible refine (az.calls y 0 6 false _ A4.out).mono ?_);rintro e w' ⟨rfl,⟨nd,rfl⟩⟩;(try exact af.W)))
   repeat (go_quiet (first | (go_at_call 89;(with_reducible refine (az.calls y 0 6 false _ A4.out).mono ?_);rintro e w' ⟨rfl,⟨nd,rfl⟩⟩;(try exact af.W)));try go_wp2_with (first | (go_at_call 89;(with_reducible refine (az.calls y 0 6 false _ A4.out).mono ?_);rintro e w' ⟨rfl,⟨nd,rfl⟩⟩;(try exact af.W))))
   go_meet
   case rel=>exact ⟨_,(true),af.F,H',⟨by first | omega | exact Nat.le_refl _⟩,⟨af.Bw a3.out⟩,⟨af.L⟩⟩
 case rest =>
  clear bm
  obtain ⟨kq,ap,rfl,HA,c0,a3,HB⟩:=hcut
  cases kq with
  | zero=>exact absurd HA.out (by simp [aQ.j0])
  | succ bo =>
   have H:=HA.out
   clear HA
   simp only [aQ.j0] at H
   by_cases iy:ap = true
   ·subst iy
    replace H:(some false) = some r:=by rw [if_pos rfl] at H;exact H
    obtain rfl:=Option.some.inj H
    go_wp2
    repeat (go_quiet (fail);try go_wp2)
    go_ret
    exact ⟨af.E,af.L⟩
   ·replace iy:=Bool.eq_false_iff.mpr iy
    subst iy
    replace H:(aQ.l0 bo 0 y X Y) = some r:=by rw [if_neg (show ¬ (false = true) by decide)] at H;exact H
    have H':=ae.mk H
    clear H
    go_wp2
    repeat (go_quiet (fail);try go_wp2)
    go_loopg [3] bo (fun kq v3 w'=>∃ (j:Int),v3 = .int .i64 j∧ae (aQ.l0 kq j y X Y = some r)∧ae (kq≤bo)∧ae (w'.heap[ao]? = some (.cells #[.int .i64 y,(.slice a8 X.length a9),(.slice aa Y.length ab)] 58 (0,0)))∧ae (Below w.heap.size w w'))
    case atStart=>exact ⟨(0),af.F,H',⟨Nat.le_refl _⟩,⟨af.Bw a3.out⟩,⟨af.L⟩⟩
    case round =>
     clear H'
     obtain ⟨j,rfl,HA,c1,a3,HB⟩:=hrel
     cases gk with
     | zero=>exact absurd HA.out (by simp [aQ.l0])
     | succ k2 =>
      have H:=HA.out
      clear HA
      simp only [aQ.l0] at H
      by_cases aF:j < (X.length:Int)
      ·rw [if_pos aF] at H
       have bs:=decide_eq_true aF
       clear aF
       obtain ⟨ca,H⟩:=af.ip H
       have el:=decide_eq_true ca
       clear ca
       obtain ⟨t188,a4,H⟩:=af.be H
       (try dsimp only at H)
       by_cases b4:t188 = true
       ·subst b4
        replace H:(if j < (Y.length:Int) then ((az.f (rd Y j) 0 (wrap64 (y - 1))).bind fun t190=>(if t190 = true then (aQ.l0 k2 (wrap64 (j+1)) y X Y) else (some false))) else (none)) = some r:=by rw [if_pos rfl] at H;exact H
        obtain ⟨cb,H⟩:=af.ip H
        have em:=decide_eq_true cb
        clear cb
        obtain ⟨t190,a7,H⟩:=af.be H
        (try dsimp only at H)
        by_cases ba:t190 = true
        ·subst ba
         replace H:(aQ.l0 k2 (wrap64 (j+1)) y X Y) = some r:=by rw [if_pos rfl] at H;exact H
         have H':=ae.mk H
         clear H
         obtain ⟨cc,cd,ce,cf,ch,ci⟩:=af.bW a3.out
         obtain ⟨b3,aw,a0,bc,bi⟩:=af.ai aB.out j
         cases aw
         try replace a0:=(HB.out.cell (World.block_lt_of_cell? w _ a0)).trans a0
         go_wp2_with (first | (go_at_call 89;(with_reducible first | refine (az.calls (rd X j) 0 (wrap64 (y - 1)) true _ a4.out).mono ?_ | refine (az.calls (rd X j) 0 (IntKind.i64.wrap (y - 1)) true _ (by rw [bE];exact a4.out)).mono ?_);rintro e w' ⟨rfl,⟨nd,rfl⟩⟩;(try exact af.W);have a1:0≤(j:Int):=af.D;have a2:j < (Y.length:Int):=af.D;obtain ⟨am,a5,z⟩:=Kd.cF a6.out j a1 a2;cases a5;replace z:=(HB.out.cell (World.block_lt_of_cell? w _ z)).trans z;replace a1:=eq_true a1;replace a2:=eq_true a2) | (go_at_call 89;(with_reducible first | refine (az.calls (rd Y j) 0 (wrap64 (y - 1)) true _ a7.out).mono ?_ | refine (az.calls (rd Y j) 0 (IntKind.i64.wrap (y - 1)) true _ (by rw [bE];exact a7.out)).mono ?_);rintro e w' ⟨rfl,⟨nd,rfl⟩⟩;(try exact af.W)))
         repeat (go_quiet (first | (go_at_call 89;(with_reducible first | refine (az.calls (rd X j) 0 (wrap64 (y - 1)) true _ a4.out).mono ?_ | refine (az.calls (rd X j) 0 (IntKind.i64.wrap (y - 1)) true _ (by rw [bE];exact a4.out)).mono ?_);rintro e w' ⟨rfl,⟨nd,rfl⟩⟩;(try exact af.W);have a1:0≤(j:Int):=af.D;have a2:j < (Y.length:Int):=af.D;obtain ⟨am,a5,z⟩:=Kd.cF a6.out j a1 a2;cases a5;replace z:=(HB.out.cell (World.block_lt_of_cell? w _ z)).trans z;replace a1:=eq_true a1;replace a2:=eq_true a2) | (go_at_call 89;(with_reducible first | refine (az.calls (rd Y j) 0 (wrap64 (y - 1)) true _ a7.out).mono ?_ | refine (az.calls (rd Y j) 0 (IntKind.i64.wrap (y - 1)) true _ (by rw [bE];exact a7.out)).mono ?_);rintro e w' ⟨rfl,⟨nd,rfl⟩⟩;(try exact af.W)));try go_wp2_with (first | (go_at_call 89;(with_reducible first | refine (az.calls (rd X j) 0 (wrap64 (y - 1)) true _ a4.out).mono ?_ | refine (az.calls (rd X j) 0 (IntKind.i64.wrap (y - 1)) true _ (by rw [bE];exact a4.out)).mono ?_);rintro e w' ⟨rfl,⟨nd,rfl⟩⟩;(try exact af.W);have a1:0≤(j:Int):=af.D;have a2:j < (Y.length:Int):=af.D;obtain ⟨am,a5,z⟩:=Kd.cF a6.out j a1 a2;cases a5;replace z:=(HB.out.cell (World.block_lt_of_cell? w _ z)).trans z;replace a1:=eq_true a1;replace a2:=eq_true a2) | (go_at_call 89;(with_reducible first | refine (az.calls (rd Y j) 0 (wrap64 (y - 1)) true _ a7.out).mono ?_ | refine (az.calls (rd Y j) 0 (IntKind.i64.wrap (y - 1)) true _ (by rw [bE];exact a7.out)).mono ?_);rintro e w' ⟨rfl,⟨nd,rfl⟩⟩;(try exact af.W))))
         go_roundg k2
         case measure=>have:=c0.out;have:=c1.out;omega
         case rel=>exact ⟨(wrap64 (j+1)),af.F,H',⟨by have:=c0.out;have:=c1.out;omega⟩,⟨af.Bw a3.out⟩,⟨af.L⟩⟩
        ·replace ba:=Bool.eq_false_iff.mpr ba
         subst ba
         replace H:(some false) = some r:=by rw [if_neg (show ¬ (false = true) by decide)] at H;exact H
         obtain rfl:=Option.some.inj H
         obtain ⟨cp,cq,d0,d1,d2,d3⟩:=af.bW a3.out
         obtain ⟨b3,aw,a0,bc,bi⟩:=af.ai aB.out j
         cases aw
         try replace a0:=(HB.out.cell (World.block_lt_of_cell? w _ a0)).trans a0
         go_wp2_with (first | (go_at_call 89;(with_reducible first | refine (az.calls (rd X j) 0 (wrap64 (y - 1)) true _ a4.out).mono ?_ | refine (az.calls (rd X j) 0 (IntKind.i64.wrap (y - 1)) true _ (by rw [bE];exact a4.out)).mono ?_);rintro e w' ⟨rfl,⟨nd,rfl⟩⟩;(try exact af.W);have a1:0≤(j:Int):=af.D;have a2:j < (Y.length:Int):=af.D;obtain ⟨am,a5,z⟩:=Kd.cF a6.out j a1 a2;cases a5;replace z:=(HB.out.cell (World.block_lt_of_cell? w _ z)).trans z;replace a1:=eq_true a1;replace a2:=eq_true a2) | (go_at_call 89;(with_reducible first | refine (az.calls (rd Y j) 0 (wrap64 (y - 1)) false _ a7.out).mono ?_ | refine (az.calls (rd Y j) 0 (IntKind.i64.wrap (y - 1)) false _ (by rw [bE];exact a7.out)).mono ?_);rintro e w' ⟨rfl,⟨nd,rfl⟩⟩;(try exact af.W)))
         repeat (go_quiet (first | (go_at_call 89;(with_reducible first | refine (az.calls (rd X j) 0 (wrap64 (y - 1)) true _ a4.out).mono ?_ | refine (az.calls (rd X j) 0 (IntKind.i64.wrap (y - 1)) true _ (by rw [bE];exact a4.out)).mono ?_);rintro e w' ⟨rfl,⟨nd,rfl⟩⟩;(try exact af.W);have a1:0≤(j:Int):=af.D;have a2:j < (Y.length:Int):=af.D;obtain ⟨am,a5,z⟩:=Kd.cF a6.out j a1 a2;cases a5;replace z:=(HB.out.cell (World.block_lt_of_cell? w _ z)).trans z;replace a1:=eq_true a1;replace a2:=eq_true a2) | (go_at_call 89;(with_reducible first | refine (az.calls (rd Y j) 0 (wrap64 (y - 1)) false _ a7.out).mono ?_ | refine (az.calls (rd Y j) 0 (IntKind.i64.wrap (y - 1)) false _ (by rw [bE];exact a7.out)).mono ?_);rintro e w' ⟨rfl,⟨nd,rfl⟩⟩;(try exact af.W)));try go_wp2_with (first | (go_at_call 89;(with_reducible first | refine (az.calls (rd X j) 0 (wrap64 (y - 1)) true _ a4.out).mono ?_ | refine (az.calls (rd X j) 0 (IntKind.i64.wrap (y - 1)) true _ (by rw [bE];exact a4.out)).mono ?_);rintro e w' ⟨rfl,⟨nd,rfl⟩⟩;(try exact af.W);have a1:0≤(j:Int):=af.D;have a2:j < (Y.length:Int):=af.D;obtain ⟨am,a5,z⟩:=Kd.cF a6.out j a1 a2;cases a5;replace z:=(HB.out.cell (World.block_lt_of_cell? w _ z)).trans z;replace a1:=eq_true a1;replace a2:=eq_true a2) | (go_at_call 89;(with_reducible first | refine (az.calls (rd Y j) 0 (wrap64 (y - 1)) false _ a7.out).mono ?_ | refine (az.calls (rd Y j) 0 (IntKind.i64.wrap (y - 1)) false _ (by rw [bE];exact a7.out)).mono ?_);rintro e w' ⟨rfl,⟨nd,rfl⟩⟩;(try exact af.W))))
         go_ret
         exact ⟨af.E,af.L⟩
       ·replace b4:=Bool.eq_false_iff.mpr b4
        subst b4
        replace H:(some false) = some r:=by rw [if_neg (show ¬ (false = true) by decide)] at H;exact H
        obtain rfl:=Option.some.inj H
        obtain ⟨d4,d5,d6,d7,d8,d9⟩:=af.bW a3.out
        obtain ⟨b3,aw,a0,bc,bi⟩:=af.ai aB.out j
        cases aw
        try replace a0:=(HB.out.cell (World.block_lt_of_cell? w _ a0)).trans a0
        go_wp2_with (first | (go_at_call 89;(with_reducible first | refine (az.calls (rd X j) 0 (wrap64 (y - 1)) false _ a4.out).mono ?_ | refine (az.calls (rd X j) 0 (IntKind.i64.wrap (y - 1)) false _ (by rw [bE];exact a4.out)).mono ?_);rintro e w' ⟨rfl,⟨nd,rfl⟩⟩;(try exact af.W)))
        repeat (go_quiet (first | (go_at_call 89;(with_reducible first | refine (az.calls (rd X j) 0 (wrap64 (y - 1)) false _ a4.out).mono ?_ | refine (az.calls (rd X j) 0 (IntKind.i64.wrap (y - 1)) false _ (by rw [bE];exact a4.out)).mono ?_);rintro e w' ⟨rfl,⟨nd,rfl⟩⟩;(try exact af.W)));try go_wp2_with (first | (go_at_call 89;(with_reducible first | refine (az.calls (rd X j) 0 (wrap64 (y - 1)) false _ a4.out).mono ?_ | refine (az.calls (rd X j) 0 (IntKind.i64.wrap (y - 1)) false _ (by rw [bE];exact a4.out)).mono ?_);rintro e w' ⟨rfl,⟨nd,rfl⟩⟩;(try exact af.W))))
        go_ret
        exact ⟨af.E,af.L⟩
      ·rw [if_neg aF] at H
       have bs:decide (j < (X.length:Int)) = false:=decide_eq_false aF
       clear aF
       obtain rfl:=Option.some.inj H
       obtain ⟨db,dd,df,dk,dl,dp⟩:=af.bW a3.out
       go_wp2
       repeat (go_quiet (fail);try go_wp2)
       go_ret
       exact ⟨af.E,af.L⟩
def bp.l0:Nat→Int→Int→Int→Int→Option (Int)
 | 0,_,_,_,_=>none
 | k+1,j,y,z,X=>if X < y then (bp.l0 k j y (wrap64 (z * j)) (wrap64 (X+1))) else (some z)
def bp.f (k:Nat) (a0:Int) (j:Int):Option (Int):=bp.l0 k a0 j 1 0
set_option maxHeartbeats 8000000 in
set_option maxRecDepth 100000 in
theorem bp.calls (k:Nat) (a0:Int) (z:Int) (r:Int) (w:World) (h:bp.f k a0 z = some r) :
  Calls Try.prog 90 #[.int .i64 a0,.int .i64 z] w fun e w'=>e = .returned (.int .i64 r)∧bQ w w':=by
 unfold bp.f at h
 have H:=h
 clear h
 have H':=ae.mk H
 clear H
 go_enter Try.func90,Try.ntmps90
 go_wp2
 go_loopg [5,6] k (fun kq v5 v6 w'=>∃ (y:Int) (j:Int),v5 = .int .i64 y∧v6 = .int .i64 j∧ae (bp.l0 kq a0 z y j = some r)∧ae (kq≤k)∧bQ w w')
 case atStart=>exact ⟨(1),(0),af.F,af.F,H',⟨Nat.le_refl _⟩,af.G⟩
 case round =>
  clear H'
  obtain ⟨y,j,rfl,rfl,HA,X,⟨m1,rfl⟩⟩:=hrel
  cases gk with
  | zero=>exact absurd HA.out (by simp [bp.l0])
  | succ k1 =>
   have H:=HA.out
   clear HA
   simp only [bp.l0] at H
   by_cases c3:j < z
   ·rw [if_pos c3] at H
    have Y:=decide_eq_true c3
    clear c3
    have H':=ae.mk H
    clear H
    go_wp2
    go_roundg k1
    case measure=>have:=X.out;omega
    case rel=>exact ⟨(wrap64 (y * a0)),(wrap64 (j+1)),af.F,af.F,H',⟨by have:=X.out;omega⟩,af.G⟩
   ·rw [if_neg c3] at H
    have Y:decide (j < z) = false:=decide_eq_false c3
    clear c3
    obtain rfl:=Option.some.inj H
    go_wp2
    go_ret
    exact ⟨af.F,af.G⟩
def cQ.f (a0:Bool):Option (Int):=if a0 = true then (some 1) else (some 0)
set_option maxHeartbeats 8000000 in
set_option maxRecDepth 100000 in
theorem cQ.calls (a0:Bool) (r:Int) (w:World) (h:cQ.f a0 = some r) :
  Calls Try.prog 91 #[.bool a0] w fun e w'=>e = .returned (.int .i64 r)∧bQ w w':=by
 unfold cQ.f at h
 have H:=h
 clear h
 by_cases c2:a0 = true
 ·subst c2
  replace H:(some 1) = some r:=by rw [if_pos rfl] at H;exact H
  obtain rfl:=Option.some.inj H
  go_enter Try.func91,Try.ntmps91
  go_wp2
  go_ret
  exact ⟨af.F,af.G⟩
 ·replace c2:=Bool.eq_false_iff.mpr c2
  subst c2
  replace H:(some 0) = some r:=by rw [if_neg (show ¬ (false = true) by decide)] at H;exact H
  obtain rfl:=Option.some.inj H
  go_enter Try.func91,Try.ntmps91
  go_wp2
  go_ret
  exact ⟨af.F,af.G⟩
mutual
def aq.j0:Nat→Int→Bool→Int→List Int→List Int→Option (Int)
 | 0,_,_,_,_,_=>none
 | k+1,Y,a2,z,j,y=>if a2 = true then (some (-1)) else ((bp.f k Y z).bind fun t194=>(aq.l0 k Y 0 t194 0 z j y))
def aq.l0:Nat→Int→Int→Int→Int→Int→List Int→List Int→Option (Int)
 | 0,_,_,_,_,_,_,_=>none
 | k+1,Y,x5,x6,x7,z,j,y=>if x7 < x6 then (aq.l1 k Y x5 x6 x7 (([]:List Int)) x7 0 z j y) else (some x5)
def aq.l1:Nat→Int→Int→Int→Int→List Int→Int→Int→Int→List Int→List Int→Option (Int)
 | 0,_,_,_,_,_,_,_,_,_,_=>none
 | k+1,Y,x5,x6,x7,x8,x9,a0,z,j,y=>if a0 < z then (if Y = 0 then (none) else (if x8.length < 17592186044416 then (aq.l1 k Y x5 x6 x7 (x8 ++ [Int.tmod x9 Y]) (wrap64 (Int.tdiv x9 Y)) (wrap64 (a0+1)) z j y) else (none))) else (aq.l2 k Y x5 x6 x7 x8 true 0 z j y)
def aq.l2:Nat→Int→Int→Int→Int→List Int→Bool→Int→Int→List Int→List Int→Option (Int)
 | 0,_,_,_,_,_,_,_,_,_,_=>none
 | k+1,Y,x5,x6,x7,x8,a1,X,z,j,y=>if X < (j.length:Int) then (if a1 = true then (if 0≤X then (if 0≤(rd j X) then (if (rd j X) < (x8.length:Int) then (if X < (y.length:Int) then (if 0≤(rd y X) then (if (rd y X) < (x8.length:Int) then (aq.l2 k Y x5 x6 x7 x8 ((rd x8 (rd j X)) != (rd x8 (rd y X))) (wrap64 (X+1)) z j y) else (none)) else (none)) else (none)) else (none)) else (none)) else (none)) else (aq.l2 k Y x5 x6 x7 x8 false (wrap64 (X+1)) z j y)) else ((cQ.f a1).bind fun t205=>(aq.l0 k Y (wrap64 (x5+t205)) x6 (wrap64 (x7+1)) z j y))
end
def aq.f (k:Nat) (j:Int) (y:List Int) (z:List Int) (X:Int):Option (Int):=(aQ.f k j y z).bind fun t192=>(if t192 = true then ((az.f X 0 4).bind fun t193=>(aq.j0 k X (!t193) j y z)) else (aq.j0 k X true j y z))
set_option maxHeartbeats 8000000 in
set_option maxRecDepth 100000 in
theorem aq.calls (k:Nat) (X:Int) (a6:Option Addr) (a7:Nat) (y:List Int) (a8:Option Addr) (a9:Nat) (z:List Int) (a1:Int) (r:Int) (w:World) (ce:Kd.C (Kd.int .i64) w a6 y.length y) (cf:y.length≤a7) (ch:Kd.C (Kd.int .i64) w a8 z.length z) (ci:z.length≤a9) (h:aq.f k X y z a1 = some r) :
  Calls Try.prog 45 #[.agg #[.int .i64 X,.slice a6 y.length a7,.slice a8 z.length a9],.int .i64 a1] w fun e w'=>e = .returned (.int .i64 r)∧Below w.heap.size w w':=by
 have hr:=Try.underlying58
 have am:=ae.mk ce
 have aw:=ae.mk cf
 clear ce cf
 have ao:=ae.mk ch
 have aB:=ae.mk ci
 clear ch ci
 have HB:=ae.mk (Below.refl w.heap.size w)
 unfold aq.f at h
 have H:=h
 clear h
 have d8:=ae.mk H
 clear H
 go_enter Try.func45,Try.ntmps45
 go_upto_region 1 with (first | ((with_reducible refine bf (N:=2) rfl ?_);refine af.bx 2 #[.int .i64 X,.slice a6 y.length a7,.slice a8 z.length a9] 58 ?_;intro a5 hg w4 hbox hb;have j:=ae.mk hbox;have cp:=af.gw hg HB;have cq:=af.gw hg HB;replace HB:=af.lb HB hb;clear hb hbox hg))
 repeat (go_quiet (first | ((with_reducible refine bf (N:=2) rfl ?_);refine af.bx 2 #[.int .i64 X,.slice a6 y.length a7,.slice a8 z.length a9] 58 ?_;intro a5 hg w4 hbox hb;have j:=ae.mk hbox;have cp:=af.gw hg HB;have cq:=af.gw hg HB;replace HB:=af.lb HB hb;clear hb hbox hg));go_upto_region 1 with (first | ((with_reducible refine bf (N:=2) rfl ?_);refine af.bx 2 #[.int .i64 X,.slice a6 y.length a7,.slice a8 z.length a9] 58 ?_;intro a5 hg w4 hbox hb;have j:=ae.mk hbox;have cp:=af.gw hg HB;have cq:=af.gw hg HB;replace HB:=af.lb HB hb;clear hb hbox hg)))
 (try simp only [Act.put,List.setIfInBounds_toArray,List.set_cons_zero,List.set_cons_succ])
 go_cut [20] (fun v20 wc=>∃ (kq:Nat) (aS:Bool),v20 = .bool aS∧ae (aq.j0 kq a1 aS X y z = some r)∧ae (kq≤k)∧ae (wc.heap[a5]? = some (.cells #[.int .i64 X,(.slice a6 y.length a7),(.slice a8 z.length a9)] 58 (0,0)))∧ae (Below w.heap.size w wc))
 case first =>
  have H:=d8.out
  clear d8
  obtain ⟨t192,A5,H⟩:=af.be H
  (try dsimp only at H)
  by_cases c6:t192 = true
  ·subst c6
   replace H:((az.f a1 0 4).bind fun t193=>(aq.j0 k a1 (!t193) X y z)) = some r:=by rw [if_pos rfl] at H;exact H
   obtain ⟨t193,A7,H⟩:=af.be H
   (try dsimp only at H)
   have H':=ae.mk H
   clear H
   obtain ⟨g9,gb,gc,go,gs,gt⟩:=af.bW j.out
   go_wp2_with (first | (go_at_call 88;(with_reducible refine (aQ.calls k X _ _ y _ _ z true _ ?side1 ?side2 ?side3 ?side4 A5.out).mono ?_);(case side1=>exact af.Cw (Kd.aX am.out HB.out));(case side2=>exact aw.out);(case side3=>exact af.Cw (Kd.aX ao.out HB.out));(case side4=>exact aB.out);rintro e w9 ⟨rfl,hb⟩;replace j:=af.bb j hb;replace HB:=af.lb HB hb;(try clear hb);(try clear d0);(try clear hk);(try clear hi)) | (go_at_call 89;(with_reducible refine (az.calls a1 0 4 t193 _ A7.out).mono ?_);rintro e w' ⟨rfl,⟨nd,rfl⟩⟩;(try exact af.W)))
   repeat (go_quiet (first | (go_at_call 88;(with_reducible refine (aQ.calls k X _ _ y _ _ z true _ ?side1 ?side2 ?side3 ?side4 A5.out).mono ?_);(case side1=>exact af.Cw (Kd.aX am.out HB.out));(case side2=>exact aw.out);(case side3=>exact af.Cw (Kd.aX ao.out HB.out));(case side4=>exact aB.out);rintro e w9 ⟨rfl,hb⟩;replace j:=af.bb j hb;replace HB:=af.lb HB hb;(try clear hb);(try clear d0);(try clear hk);(try clear hi)) | (go_at_call 89;(with_reducible refine (az.calls a1 0 4 t193 _ A7.out).mono ?_);rintro e w' ⟨rfl,⟨nd,rfl⟩⟩;(try exact af.W)));try go_wp2_with (first | (go_at_call 88;(with_reducible refine (aQ.calls k X _ _ y _ _ z true _ ?side1 ?side2 ?side3 ?side4 A5.out).mono ?_);(case side1=>exact af.Cw (Kd.aX am.out HB.out));(case side2=>exact aw.out);(case side3=>exact af.Cw (Kd.aX ao.out HB.out));(case side4=>exact aB.out);rintro e w9 ⟨rfl,hb⟩;replace j:=af.bb j hb;replace HB:=af.lb HB hb;(try clear hb);(try clear d0);(try clear hk);(try clear hi)) | (go_at_call 89;(with_reducible refine (az.calls a1 0 4 t193 _ A7.out).mono ?_);rintro e w' ⟨rfl,⟨nd,rfl⟩⟩;(try exact af.W))))
   go_meet
   case rel=>exact ⟨_,(!t193),af.F,H',⟨by first | omega | exact Nat.le_refl _⟩,⟨af.Bw j.out⟩,⟨af.Lw HB.out⟩⟩
  ·replace c6:=Bool.eq_false_iff.mpr c6
   subst c6
   replace H:(aq.j0 k a1 true X y z) = some r:=by rw [if_neg (show ¬ (false = true) by decide)] at H;exact H
   have H':=ae.mk H
   clear H
   obtain ⟨dq,dt,du,dv,dC,dE⟩:=af.bW j.out
   go_wp2_with (first | (go_at_call 88;(with_reducible refine (aQ.calls k X _ _ y _ _ z false _ ?side1 ?side2 ?side3 ?side4 A5.out).mono ?_);(case side1=>exact af.Cw (Kd.aX am.out HB.out));(case side2=>exact aw.out);(case side3=>exact af.Cw (Kd.aX ao.out HB.out));(case side4=>exact aB.out);rintro e dT ⟨rfl,hb⟩;replace j:=af.bb j hb;replace HB:=af.lb HB hb;(try clear hb);(try clear d0);(try clear hk);(try clear hi)))
   repeat (go_quiet (first | (go_at_call 88;(with_reducible refine (aQ.calls k X _ _ y _ _ z false _ ?side1 ?side2 ?side3 ?side4 A5.out).mono ?_);(case side1=>exact af.Cw (Kd.aX am.out HB.out));(case side2=>exact aw.out);(case side3=>exact af.Cw (Kd.aX ao.out HB.out));(case side4=>exact aB.out);rintro e dT ⟨rfl,hb⟩;replace j:=af.bb j hb;replace HB:=af.lb HB hb;(try clear hb);(try clear d0);(try clear hk);(try clear hi)));try go_wp2_with (first | (go_at_call 88;(with_reducible refine (aQ.calls k X _ _ y _ _ z false _ ?side1 ?side2 ?side3 ?side4 A5.out).mono ?_);(case side1=>exact af.Cw (Kd.aX am.out HB.out));(case side2=>exact aw.out);(case side3=>exact af.Cw (Kd.aX ao.out HB.out));(case side4=>exact aB.out);rintro e dT ⟨rfl,hb⟩;replace j:=af.bb j hb;replace HB:=af.lb HB hb;(try clear hb);(try clear d0);(try clear hk);(try clear hi))))
   go_meet
   case rel=>exact ⟨_,(true),af.F,H',⟨by first | omega | exact Nat.le_refl _⟩,⟨af.Bw j.out⟩,⟨af.Lw HB.out⟩⟩
 case rest =>
  clear d8
  obtain ⟨kq,aS,rfl,HA,b0,j,HB⟩:=hcut
  cases kq with
  | zero=>exact absurd HA.out (by simp [aq.j0])
  | succ bi =>
   have H:=HA.out
   clear HA
   simp only [aq.j0] at H
   by_cases d2:aS = true
   ·subst d2
    replace H:(some (-1)) = some r:=by rw [if_pos rfl] at H;exact H
    obtain rfl:=Option.some.inj H
    go_wp2
    repeat (go_quiet (fail);try go_wp2)
    go_ret
    exact ⟨af.E,af.L⟩
   ·replace d2:=Bool.eq_false_iff.mpr d2
    subst d2
    replace H:((bp.f bi a1 X).bind fun t194=>(aq.l0 bi a1 0 t194 0 X y z)) = some r:=by rw [if_neg (show ¬ (false = true) by decide)] at H;exact H
    obtain ⟨t194,d9,H⟩:=af.be H
    (try dsimp only at H)
    have H':=ae.mk H
    clear H
    obtain ⟨e0,e1,e2,e3,e4,e8⟩:=af.bW j.out
    go_wp2_with (first | (go_at_call 90;(with_reducible refine (bp.calls bi a1 X t194 _ d9.out).mono ?_);rintro e w' ⟨rfl,⟨nd,rfl⟩⟩;(try exact af.W)))
    repeat (go_quiet (first | (go_at_call 90;(with_reducible refine (bp.calls bi a1 X t194 _ d9.out).mono ?_);rintro e w' ⟨rfl,⟨nd,rfl⟩⟩;(try exact af.W)));try go_wp2_with (first | (go_at_call 90;(with_reducible refine (bp.calls bi a1 X t194 _ d9.out).mono ?_);rintro e w' ⟨rfl,⟨nd,rfl⟩⟩;(try exact af.W))))
    go_loopg [5,7] bi (fun kq v5 v7 w'=>∃ (ab:Int) (a4:Int),v5 = .int .i64 ab∧v7 = .int .i64 a4∧ae (aq.l0 kq a1 ab t194 a4 X y z = some r)∧ae (kq≤bi)∧ae (w'.heap[a5]? = some (.cells #[.int .i64 X,(.slice a6 y.length a7),(.slice a8 z.length a9)] 58 (0,0)))∧ae (Below w.heap.size w w'))
    case atStart=>exact ⟨(0),(0),af.F,af.F,H',⟨Nat.le_refl _⟩,⟨af.Bw j.out⟩,⟨af.Lw HB.out⟩⟩
    case round =>
     clear H'
     obtain ⟨ab,a4,rfl,rfl,HA,b2,j,HB⟩:=hrel
     cases gk with
     | zero=>exact absurd HA.out (by simp [aq.l0])
     | succ k2 =>
      have H:=HA.out
      clear HA
      simp only [aq.l0] at H
      by_cases ca:a4 < t194
      ·rw [if_pos ca] at H
       have db:=decide_eq_true ca
       clear ca
       obtain ⟨d5,bm⟩:∃ y_:List Int,y_ = (([]:List Int)):=⟨_,rfl⟩
       replace H:(aq.l1 k2 a1 ab t194 a4 d5 a4 0 X y z) = some r:=by (try rw [bm]);exact af.Z
       have aF:=ae.mk bm
       clear bm
       have H':=ae.mk H
       clear H
       go_wp2_with (first | (refine af.lt (Kd.int .i64) 3 30 ?_;intro v196 ea a0 hb d1 aL;clear d1 aL;(first | rw [← aF.out] at a0 | (simp only [Int.reduceToNat] at a0;rw [← aF.out] at a0));have bo:=ae.mk (Kd.bD a0 (aA (af.Lw HB.out)));replace j:=af.bb j hb;replace HB:=af.lb HB hb;clear hb a0))
       repeat (go_quiet (first | (refine af.lt (Kd.int .i64) 3 30 ?_;intro v196 ea a0 hb d1 aL;clear d1 aL;(first | rw [← aF.out] at a0 | (simp only [Int.reduceToNat] at a0;rw [← aF.out] at a0));have bo:=ae.mk (Kd.bD a0 (aA (af.Lw HB.out)));replace j:=af.bb j hb;replace HB:=af.lb HB hb;clear hb a0));try go_wp2_with (first | (refine af.lt (Kd.int .i64) 3 30 ?_;intro v196 ea a0 hb d1 aL;clear d1 aL;(first | rw [← aF.out] at a0 | (simp only [Int.reduceToNat] at a0;rw [← aF.out] at a0));have bo:=ae.mk (Kd.bD a0 (aA (af.Lw HB.out)));replace j:=af.bb j hb;replace HB:=af.lb HB hb;clear hb a0)))
       go_loopg [8,9,10] k2 (fun kq v8 v9 v10 w'=>∃ (a2:List Int) (aa:Int) (ap:Int),v9 = .int .i64 aa∧v10 = .int .i64 ap∧ae (aq.l1 kq a1 ab t194 a4 a2 aa ap X y z = some r)∧ae (kq≤k2)∧ae (Kd.R (Kd.int .i64) 3 w' w.heap.size (fun _=>True) v8 a2)∧ae (w'.heap[a5]? = some (.cells #[.int .i64 X,(.slice a6 y.length a7),(.slice a8 z.length a9)] 58 (0,0)))∧ae (Below w.heap.size w w'))
       case atStart=>exact ⟨(d5),(a4),(0),af.F,af.F,H',⟨Nat.le_refl _⟩,⟨af.Rw bo.out⟩,⟨af.Bw j.out⟩,⟨af.Lw HB.out⟩⟩
       case round =>
        clear H'
        obtain ⟨a2,aa,ap,rfl,rfl,HA,b3,a3,j,HB⟩:=hrel
        cases gk with
        | zero=>exact absurd HA.out (by simp [aq.l1])
        | succ k3 =>
         have H:=HA.out
         clear HA
         simp only [aq.l1] at H
         by_cases cb:ap < X
         ·rw [if_pos cb] at H
          have dd:=decide_eq_true cb
          clear cb
          by_cases d3:a1 = 0
          ·rw [if_pos d3] at H
           exact absurd H (by simp)
          ·rw [if_neg d3] at H
           have h0:(a1 == 0) = false:=beq_eq_false_iff_ne.mpr d3
           have h6:(a1 != 0) = true:=bne_iff_ne.mpr d3
           obtain ⟨eb,H⟩:=af.ip H
           have bs:=ae.mk eb
           clear eb
           obtain ⟨d6,bv⟩:∃ y_:List Int,y_ = (a2 ++ [Int.tmod aa a1]):=⟨_,rfl⟩
           replace H:(aq.l1 k3 a1 ab t194 a4 d6 (wrap64 (Int.tdiv aa a1)) (wrap64 (ap+1)) X y z) = some r:=by (try rw [bv]);exact af.Z
           have c0:=ae.mk bv
           clear bv
           have H':=ae.mk H
           clear H
           obtain ⟨ed,ee,ef,eh,ej,el⟩:=af.bW j.out
           go_wp2_with (first | ((with_reducible refine cR (b:=.append) (xs:=#[.tmp 38,.tmp 42]) rfl ?_);at_builtin;refine Kd.en (Kd.int .i64) (w0:=w) w.heap.size rfl (.tmp 38) (.tmp 42) 24 3 (.int .i64 0) 8 rfl Try.underlying24 fa rfl (by decide) (by omega) u8 a2 (Int.tmod aa a1) [.int .i64 (Int.tmod aa a1)] (fun _=>True) (fun _=>False) rfl rfl (by exact rfl) (fun _ hk=>hk.elim) (by exact fun _ _=>trivial) (by exact af.Rw a3.out) (by exact af.Lw HB.out) (by exact aA (af.Lw HB.out)) (by have:=bs.out;omega) ?_;intro d7 em ho hb hg hat;rw [← c0.out] at ho;have b4:=ae.mk (cO (g:=a5) (o:=.cells #[.int .i64 X,.slice a6 y.length a7,.slice a8 z.length a9] 58 (0,0)) (af.Bw j.out) hg (Kd.gj a3.out j.out (by decide)));have ba:=ae.mk hb;have bc:=ae.mk ho;clear j;clear HB;clear a3;have j:=b4;have HB:=ba;have c1:=bc;clear b4 ba bc;clear ho hb hg hat))
           repeat (go_quiet (first | ((with_reducible refine cR (b:=.append) (xs:=#[.tmp 38,.tmp 42]) rfl ?_);at_builtin;refine Kd.en (Kd.int .i64) (w0:=w) w.heap.size rfl (.tmp 38) (.tmp 42) 24 3 (.int .i64 0) 8 rfl Try.underlying24 fa rfl (by decide) (by omega) u8 a2 (Int.tmod aa a1) [.int .i64 (Int.tmod aa a1)] (fun _=>True) (fun _=>False) rfl rfl (by exact rfl) (fun _ hk=>hk.elim) (by exact fun _ _=>trivial) (by exact af.Rw a3.out) (by exact af.Lw HB.out) (by exact aA (af.Lw HB.out)) (by have:=bs.out;omega) ?_;intro d7 em ho hb hg hat;rw [← c0.out] at ho;have b4:=ae.mk (cO (g:=a5) (o:=.cells #[.int .i64 X,.slice a6 y.length a7,.slice a8 z.length a9] 58 (0,0)) (af.Bw j.out) hg (Kd.gj a3.out j.out (by decide)));have ba:=ae.mk hb;have bc:=ae.mk ho;clear j;clear HB;clear a3;have j:=b4;have HB:=ba;have c1:=bc;clear b4 ba bc;clear ho hb hg hat));try go_wp2_with (first | ((with_reducible refine cR (b:=.append) (xs:=#[.tmp 38,.tmp 42]) rfl ?_);at_builtin;refine Kd.en (Kd.int .i64) (w0:=w) w.heap.size rfl (.tmp 38) (.tmp 42) 24 3 (.int .i64 0) 8 rfl Try.underlying24 fa rfl (by decide) (by omega) u8 a2 (Int.tmod aa a1) [.int .i64 (Int.tmod aa a1)] (fun _=>True) (fun _=>False) rfl rfl (by exact rfl) (fun _ hk=>hk.elim) (by exact fun _ _=>trivial) (by exact af.Rw a3.out) (by exact af.Lw HB.out) (by exact aA (af.Lw HB.out)) (by have:=bs.out;omega) ?_;intro d7 em ho hb hg hat;rw [← c0.out] at ho;have b4:=ae.mk (cO (g:=a5) (o:=.cells #[.int .i64 X,.slice a6 y.length a7,.slice a8 z.length a9] 58 (0,0)) (af.Bw j.out) hg (Kd.gj a3.out j.out (by decide)));have ba:=ae.mk hb;have bc:=ae.mk ho;clear j;clear HB;clear a3;have j:=b4;have HB:=ba;have c1:=bc;clear b4 ba bc;clear ho hb hg hat)))
           go_roundg k3
           case measure=>have:=b0.out;have:=b2.out;have:=b3.out;omega
           case rel=>exact ⟨(d6),(wrap64 (Int.tdiv aa a1)),(wrap64 (ap+1)),af.F,af.F,H',⟨by have:=b0.out;have:=b2.out;have:=b3.out;omega⟩,⟨af.Rw c1.out⟩,⟨af.Bw j.out⟩,⟨af.Lw HB.out⟩⟩
         ·rw [if_neg cb] at H
          have dd:decide (ap < X) = false:=decide_eq_false cb
          clear cb
          have H':=ae.mk H
          clear H
          obtain ⟨eo,eq,es,et,ev,ew⟩:=af.bW j.out
          go_wp2
          repeat (go_quiet (fail);try go_wp2)
          go_loopg [11,12] k3 (fun kq v11 v12 w'=>∃ (ar:Bool) (Y:Int),v11 = .bool ar∧v12 = .int .i64 Y∧ae (aq.l2 kq a1 ab t194 a4 a2 ar Y X y z = some r)∧ae (kq≤k3)∧ae (Kd.R (Kd.int .i64) 3 w' w.heap.size (fun _=>True) u8 a2)∧ae (w'.heap[a5]? = some (.cells #[.int .i64 X,(.slice a6 y.length a7),(.slice a8 z.length a9)] 58 (0,0)))∧ae (Below w.heap.size w w'))
          case atStart=>exact ⟨(true),(0),af.F,af.F,H',⟨Nat.le_refl _⟩,⟨af.Rw a3.out⟩,⟨af.Bw j.out⟩,⟨af.Lw HB.out⟩⟩
          case round =>
           clear H'
           obtain ⟨ar,Y,rfl,rfl,HA,cc,a3,j,HB⟩:=hrel
           cases gk with
           | zero=>exact absurd HA.out (by simp [aq.l2])
           | succ k4 =>
            have H:=HA.out
            clear HA
            simp only [aq.l2] at H
            by_cases cd:Y < (y.length:Int)
            ·rw [if_pos cd] at H
             have df:=decide_eq_true cd
             clear cd
             by_cases d4:ar = true
             ·subst d4
              replace H:(if 0≤Y then (if 0≤(rd y Y) then (if (rd y Y) < (a2.length:Int) then (if Y < (z.length:Int) then (if 0≤(rd z Y) then (if (rd z Y) < (a2.length:Int) then (aq.l2 k4 a1 ab t194 a4 a2 ((rd a2 (rd y Y)) != (rd a2 (rd z Y))) (wrap64 (Y+1)) X y z) else (none)) else (none)) else (none)) else (none)) else (none)) else (none)) = some r:=by rw [if_pos rfl] at H;exact H
              obtain ⟨ex,H⟩:=af.ip H
              have h7:=decide_eq_true ex
              clear ex
              obtain ⟨eQ,H⟩:=af.ip H
              have h8:=decide_eq_true eQ
              clear eQ
              obtain ⟨f0,H⟩:=af.ip H
              have h9:=decide_eq_true f0
              clear f0
              obtain ⟨f1,H⟩:=af.ip H
              have hj:=decide_eq_true f1
              clear f1
              obtain ⟨f2,H⟩:=af.ip H
              have hl:=decide_eq_true f2
              clear f2
              obtain ⟨f3,H⟩:=af.ip H
              have hm:=decide_eq_true f3
              clear f3
              have H':=ae.mk H
              clear H
              obtain ⟨f4,f5,f6,f7,f8,f9⟩:=af.bW j.out
              obtain ⟨hn,fd,aO,ht,hu⟩:=af.ai am.out Y
              cases fd
              try replace aO:=(HB.out.cell (World.block_lt_of_cell? w _ aO)).trans aO
              obtain ⟨hx,hz,fi⟩:=Kd.bA a3.out
              subst fi
              obtain ⟨dk,fj,fp,hA,hC⟩:=af.ai (Kd.aJ a3.out).2.2 (rd y Y)
              cases fj
              obtain ⟨hq,fs,aP,hD,hE⟩:=af.ai ao.out Y
              cases fs
              try replace aP:=(HB.out.cell (World.block_lt_of_cell? w _ aP)).trans aP
              obtain ⟨dl,ft,fw,hG,hH⟩:=af.ai (Kd.aJ a3.out).2.2 (rd z Y)
              obtain rfl:dk = dl:=(by injection ft)
              go_wp2
              repeat (go_quiet (fail);try go_wp2)
              go_roundg k4
              case measure=>have:=b0.out;have:=b2.out;have:=b3.out;have:=cc.out;omega
              case rel=>exact ⟨(((rd a2 (rd y Y)) != (rd a2 (rd z Y)))),(wrap64 (Y+1)),af.F,af.F,H',⟨by have:=b0.out;have:=b2.out;have:=b3.out;have:=cc.out;omega⟩,⟨af.Rw a3.out⟩,⟨af.Bw j.out⟩,⟨af.Lw HB.out⟩⟩
             ·replace d4:=Bool.eq_false_iff.mpr d4
              subst d4
              replace H:(aq.l2 k4 a1 ab t194 a4 a2 false (wrap64 (Y+1)) X y z) = some r:=by rw [if_neg (show ¬ (false = true) by decide)] at H;exact H
              have H':=ae.mk H
              clear H
              obtain ⟨fO,fX,fY,g0,g1,g2⟩:=af.bW j.out
              go_wp2
              repeat (go_quiet (fail);try go_wp2)
              go_roundg k4
              case measure=>have:=b0.out;have:=b2.out;have:=b3.out;have:=cc.out;omega
              case rel=>exact ⟨(false),(wrap64 (Y+1)),af.F,af.F,H',⟨by have:=b0.out;have:=b2.out;have:=b3.out;have:=cc.out;omega⟩,⟨af.Rw a3.out⟩,⟨af.Bw j.out⟩,⟨af.Lw HB.out⟩⟩
            ·rw [if_neg cd] at H
             have df:decide (Y < (y.length:Int)) = false:=decide_eq_false cd
             clear cd
             obtain ⟨t205,dp,H⟩:=af.be H
             (try dsimp only at H)
             have H':=ae.mk H
             clear H
             obtain ⟨g3,g4,g5,g6,g7,g8⟩:=af.bW j.out
             go_wp2_with (first | (go_at_call 91;(with_reducible refine (cQ.calls ar t205 _ dp.out).mono ?_);rintro e w' ⟨rfl,⟨nd,rfl⟩⟩;(try exact af.W)))
             repeat (go_quiet (first | (go_at_call 91;(with_reducible refine (cQ.calls ar t205 _ dp.out).mono ?_);rintro e w' ⟨rfl,⟨nd,rfl⟩⟩;(try exact af.W)));try go_wp2_with (first | (go_at_call 91;(with_reducible refine (cQ.calls ar t205 _ dp.out).mono ?_);rintro e w' ⟨rfl,⟨nd,rfl⟩⟩;(try exact af.W))))
             go_roundg k4
             case measure=>have:=b0.out;have:=b2.out;have:=b3.out;have:=cc.out;omega
             case rel=>exact ⟨(wrap64 (ab+t205)),(wrap64 (a4+1)),af.F,af.F,H',⟨by have:=b0.out;have:=b2.out;have:=b3.out;have:=cc.out;omega⟩,⟨af.Bw j.out⟩,⟨af.Lw HB.out⟩⟩
      ·rw [if_neg ca] at H
       have db:decide (a4 < t194) = false:=decide_eq_false ca
       clear ca
       obtain rfl:=Option.some.inj H
       go_wp2
       repeat (go_quiet (fail);try go_wp2)
       go_ret
       exact ⟨af.E,af.L⟩
def cE.f (a0:Int):Option (Bool):=if a0≥0 then (some (decide (a0≤8))) else (some false)
set_option maxHeartbeats 8000000 in
set_option maxRecDepth 100000 in
theorem cE.calls (a0:Int) (r:Bool) (w:World) (h:cE.f a0 = some r) :
  Calls Try.prog 105 #[.int .i64 a0] w fun e w'=>e = .returned (.bool r)∧bQ w w':=by
 unfold cE.f at h
 have H:=h
 clear h
 by_cases c2:a0≥0
 ·rw [if_pos c2] at H
  have j:=decide_eq_true c2
  clear c2
  obtain rfl:=Option.some.inj H
  go_enter Try.func105,Try.ntmps105
  go_wp2
  go_ret
  exact ⟨af.F,af.G⟩
 ·rw [if_neg c2] at H
  have j:decide (0≤a0) = false:=decide_eq_false c2
  clear c2
  obtain rfl:=Option.some.inj H
  go_enter Try.func105,Try.ntmps105
  go_wp2
  go_ret
  exact ⟨af.F,af.G⟩
def dz.f (a0:Int) (j:Int):Option (Bool):=(cE.f a0).bind fun t214=>(if t214 = true then (if j≥0 then (if 0≤a0 then (some (decide (j < (shl .i64 1 a0)))) else (none)) else (some false)) else (some false))
set_option maxHeartbeats 8000000 in
set_option maxRecDepth 100000 in
theorem dz.calls (a0:Int) (Y:Int) (r:Bool) (w:World) (h:dz.f a0 Y = some r) :
  Calls Try.prog 61 #[.int .i64 a0,.int .i64 Y] w fun e w'=>e = .returned (.bool r)∧bQ w w':=by
 unfold dz.f at h
 have H:=h
 clear h
 obtain ⟨t214,A3,H⟩:=af.be H
 (try dsimp only at H)
 by_cases c4:t214 = true
 ·subst c4
  replace H:(if Y≥0 then (if 0≤a0 then (some (decide (Y < (shl .i64 1 a0)))) else (none)) else (some false)) = some r:=by rw [if_pos rfl] at H;exact H
  by_cases c5:Y≥0
  ·rw [if_pos c5] at H
   have a2:=decide_eq_true c5
   clear c5
   obtain ⟨c6,H⟩:=af.ip H
   have a8:=eq_true c6
   have a9:decide (0≤a0) = true:=decide_eq_true c6
   clear c6
   obtain ⟨y,j⟩:∃ j_:Int,(shl .i64 1 a0) = j_:=⟨_,rfl⟩
   replace H:(some (decide (Y < (y)))) = some r:=by first | (rw [j] at H;exact H) | (simp only [j] at H ⊢;exact H)
   (try rw [j] at A3)
   have z:(IntKind.i64.wrap (1 * 2 ^ min a0.toNat 64)) = y:=j
   have X:a0≤64→(IntKind.i64.wrap (1 * 2 ^ a0.toNat)) = y:=ei j
   have a4:(IntKind.i64.wrap (2 ^ min a0.toNat 64)) = y:=by have h_:=z;rw [Int.one_mul] at h_;exact h_
   have a5:a0≤64→(IntKind.i64.wrap (2 ^ a0.toNat)) = y:=fun a3=>by have h_:=X a3;rw [Int.one_mul] at h_;exact h_
   have a6:(wrap64 (1 * 2 ^ min a0.toNat 64)) = y:=(bE _).symm.trans z
   have a7:a0≤64→(wrap64 (1 * 2 ^ a0.toNat)) = y:=fun h_=>(bE _).symm.trans (X h_)
   obtain rfl:=Option.some.inj H
   go_enter Try.func61,Try.ntmps61
   go_wp2_with (first | (refine af.gl (some 6) Try.func105 #[.int .i64 a0] ?_;(with_reducible refine (cE.calls a0 true _ A3.out).mono ?_);rintro e w' ⟨rfl,⟨nd,rfl⟩⟩;refine ⟨_,rfl,?_⟩))
   go_ret
   exact ⟨by first | rfl | (simp;done) | (simp only [← j] <;> (first | rfl | simp)) | (simp [*];done),af.G⟩
  ·rw [if_neg c5] at H
   have a2:decide (0≤Y) = false:=decide_eq_false c5
   clear c5
   obtain rfl:=Option.some.inj H
   go_enter Try.func61,Try.ntmps61
   go_wp2_with (first | (refine af.gl (some 6) Try.func105 #[.int .i64 a0] ?_;(with_reducible refine (cE.calls a0 true _ A3.out).mono ?_);rintro e w' ⟨rfl,⟨nd,rfl⟩⟩;refine ⟨_,rfl,?_⟩))
   go_ret
   exact ⟨af.F,af.G⟩
 ·replace c4:=Bool.eq_false_iff.mpr c4
  subst c4
  replace H:(some false) = some r:=by rw [if_neg (show ¬ (false = true) by decide)] at H;exact H
  obtain rfl:=Option.some.inj H
  go_enter Try.func61,Try.ntmps61
  go_wp2_with (first | (refine af.gl (some 6) Try.func105 #[.int .i64 a0] ?_;(with_reducible refine (cE.calls a0 false _ A3.out).mono ?_);rintro e w' ⟨rfl,⟨nd,rfl⟩⟩;refine ⟨_,rfl,?_⟩))
  go_ret
  exact ⟨af.F,af.G⟩
def bg.l0:Nat→Int→List Int→List Int→Int→Int→Option (Bool)
 | 0,_,_,_,_,_=>none
 | k+1,z,X,y,Y,j=>if j < Y then (if 0≤j then (if j < (y.length:Int) then ((dz.f z (rd y j)).bind fun t216=>(if t216 = true then (if j > 0 then (if 0≤(wrap64 (j - 1)) then (if (wrap64 (j - 1)) < (X.length:Int) then (if (rd y j)≤(rd X (wrap64 (j - 1))) then (some false) else (bg.l0 k z X y Y (wrap64 (j+1)))) else (none)) else (none)) else (bg.l0 k z X y Y (wrap64 (j+1)))) else (some false))) else (none)) else (none)) else ((cE.f z).bind fun t218=>(some t218))
def bg.f (k:Nat) (a0:Int) (l1:List Int):Option (Bool):=bg.l0 k a0 l1 l1 (l1.length:Int) 0
set_option maxHeartbeats 8000000 in
set_option maxRecDepth 100000 in
theorem bg.calls (k:Nat) (a0:Int) (A1:Option Addr) (c1:Nat) (l1:List Int) (r:Bool) (w:World) (ao:Kd.C (Kd.int .i64) w A1 l1.length l1) (ap:l1.length≤c1) (h:bg.f k a0 l1 = some r) :
  Calls Try.prog 120 #[.int .i64 a0,.slice A1 l1.length c1] w fun e w'=>e = .returned (.bool r)∧bQ w w':=by
 have a5:=ae.mk ao
 have b2:=ae.mk ap
 clear ao ap
 unfold bg.f at h
 have H:=h
 clear h
 have H':=ae.mk H
 clear H
 go_enter Try.func120,Try.ntmps120
 go_wp2
 go_loopg [9] k (fun kq v9 w'=>∃ (j:Int),v9 = .int .i64 j∧ae (bg.l0 kq a0 l1 l1 (l1.length:Int) j = some r)∧ae (kq≤k)∧bQ w w')
 case atStart=>exact ⟨(0),af.F,H',⟨Nat.le_refl _⟩,af.G⟩
 case round =>
  clear H'
  obtain ⟨j,rfl,HA,ab,⟨m1,rfl⟩⟩:=hrel
  cases gk with
  | zero=>exact absurd HA.out (by simp [bg.l0])
  | succ k1 =>
   have H:=HA.out
   clear HA
   simp only [bg.l0] at H
   by_cases c3:j < (l1.length:Int)
   ·rw [if_pos c3] at H
    have ar:=decide_eq_true c3
    clear c3
    obtain ⟨c4,H⟩:=af.ip H
    have aS:=decide_eq_true c4
    clear c4
    obtain ⟨c5,H⟩:=af.ip H
    have b0:=decide_eq_true c5
    clear c5
    obtain ⟨t216,A6,H⟩:=af.be H
    (try dsimp only at H)
    by_cases c7:t216 = true
    ·subst c7
     replace H:(if j > 0 then (if 0≤(wrap64 (j - 1)) then (if (wrap64 (j - 1)) < (l1.length:Int) then (if (rd l1 j)≤(rd l1 (wrap64 (j - 1))) then (some false) else (bg.l0 k1 a0 l1 l1 (l1.length:Int) (wrap64 (j+1)))) else (none)) else (none)) else (bg.l0 k1 a0 l1 l1 (l1.length:Int) (wrap64 (j+1)))) = some r:=by rw [if_pos rfl] at H;exact H
     by_cases c8:j > 0
     ·rw [if_pos c8] at H
      have aw:=decide_eq_true c8
      clear c8
      obtain ⟨y,a3⟩:∃ j_:Int,(wrap64 (j - 1)) = j_:=⟨_,rfl⟩
      replace H:(if 0≤(y) then (if (y) < (l1.length:Int) then (if (rd l1 j)≤(rd l1 (y)) then (some false) else (bg.l0 k1 a0 l1 l1 (l1.length:Int) (wrap64 (j+1)))) else (none)) else (none)) = some r:=by first | (rw [a3] at H;exact H) | (simp only [a3] at H ⊢;exact H)
      (try rw [a3] at A6)
      have aF:(IntKind.i64.wrap (j - 1)) = y:=(bE _).trans a3
      obtain ⟨iy,H⟩:=af.ip H
      have aL:=decide_eq_true iy
      clear iy
      obtain ⟨aB,H⟩:=af.ip H
      have aO:=decide_eq_true aB
      clear aB
      by_cases a6:(rd l1 j)≤(rd l1 (y))
      ·rw [if_pos a6] at H
       have am:=decide_eq_true a6
       clear a6
       obtain rfl:=Option.some.inj H
       obtain ⟨z,X,Y,a7,a8⟩:=af.ai a5.out j
       cases X
       go_wp2_with (first | (refine af.gl (some 16) Try.func61 #[.int .i64 a0,.int .i64 (rd l1 j)] ?_;(with_reducible refine (dz.calls a0 (rd l1 j) true _ A6.out).mono ?_);rintro e w' ⟨rfl,⟨nd,rfl⟩⟩;refine ⟨_,rfl,?_⟩;have a1:0≤((y):Int):=af.D;have a2:(y) < (l1.length:Int):=af.D;obtain ⟨a4,a9,aa⟩:=Kd.cF a5.out (y) a1 a2;obtain rfl:z = a4:=(by injection a9);replace a1:=eq_true a1;replace a2:=eq_true a2))
       go_ret
       exact ⟨by first | rfl | (simp;done) | (simp only [← a3] <;> (first | rfl | simp)) | (simp [*];done),af.G⟩
      ·rw [if_neg a6] at H
       have am:decide ((rd l1 j)≤(rd l1 (y))) = false:=decide_eq_false a6
       clear a6
       have H':=ae.mk H
       clear H
       obtain ⟨z,X,Y,a7,a8⟩:=af.ai a5.out j
       cases X
       go_wp2_with (first | (refine af.gl (some 16) Try.func61 #[.int .i64 a0,.int .i64 (rd l1 j)] ?_;(with_reducible refine (dz.calls a0 (rd l1 j) true _ A6.out).mono ?_);rintro e w' ⟨rfl,⟨nd,rfl⟩⟩;refine ⟨_,rfl,?_⟩;have a1:0≤((y):Int):=af.D;have a2:(y) < (l1.length:Int):=af.D;obtain ⟨a4,a9,aa⟩:=Kd.cF a5.out (y) a1 a2;obtain rfl:z = a4:=(by injection a9);replace a1:=eq_true a1;replace a2:=eq_true a2))
       go_roundg k1
       case measure=>have:=ab.out;omega
       case rel=>exact ⟨(wrap64 (j+1)),af.F,H',⟨by have:=ab.out;omega⟩,af.G⟩
     ·rw [if_neg c8] at H
      have aw:decide (0 < j) = false:=decide_eq_false c8
      clear c8
      have H':=ae.mk H
      clear H
      obtain ⟨z,X,Y,a7,a8⟩:=af.ai a5.out j
      cases X
      go_wp2_with (first | (refine af.gl (some 16) Try.func61 #[.int .i64 a0,.int .i64 (rd l1 j)] ?_;(with_reducible refine (dz.calls a0 (rd l1 j) true _ A6.out).mono ?_);rintro e w' ⟨rfl,⟨nd,rfl⟩⟩;refine ⟨_,rfl,?_⟩))
      go_roundg k1
      case measure=>have:=ab.out;omega
      case rel=>exact ⟨(wrap64 (j+1)),af.F,H',⟨by have:=ab.out;omega⟩,af.G⟩
    ·replace c7:=Bool.eq_false_iff.mpr c7
     subst c7
     replace H:(some false) = some r:=by rw [if_neg (show ¬ (false = true) by decide)] at H;exact H
     obtain rfl:=Option.some.inj H
     obtain ⟨z,X,Y,a7,a8⟩:=af.ai a5.out j
     cases X
     go_wp2_with (first | (refine af.gl (some 16) Try.func61 #[.int .i64 a0,.int .i64 (rd l1 j)] ?_;(with_reducible refine (dz.calls a0 (rd l1 j) false _ A6.out).mono ?_);rintro e w' ⟨rfl,⟨nd,rfl⟩⟩;refine ⟨_,rfl,?_⟩))
     go_ret
     exact ⟨af.F,af.G⟩
   ·rw [if_neg c3] at H
    have ar:decide (j < (l1.length:Int)) = false:=decide_eq_false c3
    clear c3
    obtain ⟨t218,aP,H⟩:=af.be H
    (try dsimp only at H)
    obtain rfl:=Option.some.inj H
    go_wp2_with (first | (refine af.gl (some 33) Try.func105 #[.int .i64 a0] ?_;(with_reducible refine (cE.calls a0 t218 _ aP.out).mono ?_);rintro e w' ⟨rfl,⟨nd,rfl⟩⟩;refine ⟨_,rfl,?_⟩))
    go_ret
    exact ⟨af.F,af.G⟩
def bM.f (a0:Int):Option (Bool):=if a0≥0 then (some (decide (a0 < 256))) else (some false)
set_option maxHeartbeats 8000000 in
set_option maxRecDepth 100000 in
theorem bM.calls (a0:Int) (r:Bool) (w:World) (h:bM.f a0 = some r) :
  Calls Try.prog 121 #[.int .i64 a0] w fun e w'=>e = .returned (.bool r)∧bQ w w':=by
 unfold bM.f at h
 have H:=h
 clear h
 by_cases c2:a0≥0
 ·rw [if_pos c2] at H
  have j:=decide_eq_true c2
  clear c2
  obtain rfl:=Option.some.inj H
  go_enter Try.func121,Try.ntmps121
  go_wp2
  go_ret
  exact ⟨af.F,af.G⟩
 ·rw [if_neg c2] at H
  have j:decide (0≤a0) = false:=decide_eq_false c2
  clear c2
  obtain rfl:=Option.some.inj H
  go_enter Try.func121,Try.ntmps121
  go_wp2
  go_ret
  exact ⟨af.F,af.G⟩
def cN.f (a0:Int) (j:Int):Option (Bool):=(bM.f a0).bind fun t206=>(if t206 = true then (if j≥0 then (if j < 8 then (if 0≤j then (some ((Go.bits .and .i64 (shr .i64 a0 j) 1) == 1)) else (none)) else (some false)) else (some false)) else (some false))
set_option maxHeartbeats 8000000 in
set_option maxRecDepth 100000 in
theorem cN.calls (a0:Int) (y:Int) (r:Bool) (w:World) (h:cN.f a0 y = some r) :
  Calls Try.prog 82 #[.int .i64 a0,.int .i64 y] w fun e w'=>e = .returned (.bool r)∧bQ w w':=by
 unfold cN.f at h
 have H:=h
 clear h
 obtain ⟨t206,X,H⟩:=af.be H
 (try dsimp only at H)
 by_cases c4:t206 = true
 ·subst c4
  replace H:(if y≥0 then (if y < 8 then (if 0≤y then (some ((Go.bits .and .i64 (shr .i64 a0 y) 1) == 1)) else (none)) else (some false)) else (some false)) = some r:=by rw [if_pos rfl] at H;exact H
  by_cases c5:y≥0
  ·rw [if_pos c5] at H
   have Y:=decide_eq_true c5
   clear c5
   by_cases c6:y < 8
   ·rw [if_pos c6] at H
    have a2:=decide_eq_true c6
    clear c6
    obtain ⟨c7,H⟩:=af.ip H
    have a5:=eq_true c7
    have a6:decide (0≤y) = true:=decide_eq_true c7
    clear c7
    obtain ⟨z,j⟩:∃ j_:Int,(shr .i64 a0 y) = j_:=⟨_,rfl⟩
    replace H:(some ((Go.bits .and .i64 (z) 1) == 1)) = some r:=by first | (rw [j] at H;exact H) | (simp only [j] at H ⊢;exact H)
    (try rw [j] at X)
    have a3:(a0 / 2 ^ min y.toNat 64) = z:=j
    have a4:y≤64→(a0 / 2 ^ y.toNat) = z:=kk j
    obtain rfl:=Option.some.inj H
    go_enter Try.func82,Try.ntmps82
    go_wp2_with (first | (refine af.gl (some 6) Try.func121 #[.int .i64 a0] ?_;(with_reducible refine (bM.calls a0 true _ X.out).mono ?_);rintro e w' ⟨rfl,⟨nd,rfl⟩⟩;refine ⟨_,rfl,?_⟩))
    go_ret
    exact ⟨by first | rfl | (simp;done) | (simp only [← j] <;> (first | rfl | simp)) | (simp [*];done),af.G⟩
   ·rw [if_neg c6] at H
    have a2:decide (y < 8) = false:=decide_eq_false c6
    clear c6
    obtain rfl:=Option.some.inj H
    go_enter Try.func82,Try.ntmps82
    go_wp2_with (first | (refine af.gl (some 6) Try.func121 #[.int .i64 a0] ?_;(with_reducible refine (bM.calls a0 true _ X.out).mono ?_);rintro e w' ⟨rfl,⟨nd,rfl⟩⟩;refine ⟨_,rfl,?_⟩))
    go_ret
    exact ⟨af.F,af.G⟩
  ·rw [if_neg c5] at H
   have Y:decide (0≤y) = false:=decide_eq_false c5
   clear c5
   obtain rfl:=Option.some.inj H
   go_enter Try.func82,Try.ntmps82
   go_wp2_with (first | (refine af.gl (some 6) Try.func121 #[.int .i64 a0] ?_;(with_reducible refine (bM.calls a0 true _ X.out).mono ?_);rintro e w' ⟨rfl,⟨nd,rfl⟩⟩;refine ⟨_,rfl,?_⟩))
   go_ret
   exact ⟨af.F,af.G⟩
 ·replace c4:=Bool.eq_false_iff.mpr c4
  subst c4
  replace H:(some false) = some r:=by rw [if_neg (show ¬ (false = true) by decide)] at H;exact H
  obtain rfl:=Option.some.inj H
  go_enter Try.func82,Try.ntmps82
  go_wp2_with (first | (refine af.gl (some 6) Try.func121 #[.int .i64 a0] ?_;(with_reducible refine (bM.calls a0 false _ X.out).mono ?_);rintro e w' ⟨rfl,⟨nd,rfl⟩⟩;refine ⟨_,rfl,?_⟩))
  go_ret
  exact ⟨af.F,af.G⟩
def aD.l0:Nat→Int→List Int→Int→Option (List Int)
 | 0,_,_,_=>none
 | k+1,z,y,j=>if j < 8 then ((cN.f z j).bind fun t210=>(if t210 = true then (if y.length < 17592186044416 then (aD.l0 k z (y ++ [j]) (wrap64 (j+1))) else (none)) else (aD.l0 k z y (wrap64 (j+1))))) else (some y)
def aD.f (k:Nat) (a0:Int):Option (List Int):=aD.l0 k a0 (([]:List Int)) 0
theorem aD.fc:∀ k,af.S3 aD.l0 k
 | 0=>by and_intros <;> (repeat intro _) <;> exact af.mz rfl
 | k+1=>by
  have j:=aD.fc k
  and_intros <;> (repeat intro _) <;> unfold aD.l0 <;> exact ⟨af.mt⟩
theorem aD.mono:∀ a0 k,fu (aD.f k a0) (aD.f (k+1) a0):=by
 intro a0 k
 have j:=aD.fc k
 unfold aD.f
 exact af.mt
instance aD.m:af.V1 aD.f:=fun _ _=>⟨aD.mono _ _⟩
set_option maxHeartbeats 8000000 in
set_option maxRecDepth 100000 in
theorem aD.calls (k:Nat) (a0:Int) (r:List Int) (w:World) (h:aD.f k a0 = some r) :
  Calls Try.prog 62 #[.int .i64 a0] w fun e w'=>∃ aa:Value,e = .returned (aa)∧Kd.R (Kd.int .i64) 3 w' w.heap.size (fun _=>True) aa r∧Below w.heap.size w w':=by
 have HB:=ae.mk (Below.refl w.heap.size w)
 unfold aD.f at h
 have H:=h
 clear h
 obtain ⟨a4,z⟩:∃ y_:List Int,y_ = (([]:List Int)):=⟨_,rfl⟩
 replace H:(aD.l0 k a0 a4 0) = some r:=by (try rw [z]);exact af.Z
 have a1:=ae.mk z
 clear z
 have H':=ae.mk H
 clear H
 go_enter Try.func62,Try.ntmps62
 go_wp2_with (first | (refine af.lt (Kd.int .i64) 3 5 ?_;intro v208 w2 a2 hb ar a6;clear ar a6;(first | rw [← a1.out] at a2 | (simp only [Int.reduceToNat] at a2;rw [← a1.out] at a2));have a7:=ae.mk (Kd.bD a2 (aA (af.Lw HB.out)));replace HB:=af.lb HB hb;clear hb a2))
 go_loopg [3,4] k (fun kq v3 v4 w'=>∃ (y:List Int) (j:Int),v4 = .int .i64 j∧ae (aD.l0 kq a0 y j = some r)∧ae (kq≤k)∧ae (Kd.R (Kd.int .i64) 3 w' w.heap.size (fun _=>True) v3 y)∧ae (Below w.heap.size w w'))
 case atStart=>exact ⟨(a4),(0),af.F,H',⟨Nat.le_refl _⟩,⟨af.Rw a7.out⟩,⟨af.Lw HB.out⟩⟩
 case round =>
  clear H'
  obtain ⟨y,j,rfl,HA,a3,Y,HB⟩:=hrel
  cases gk with
  | zero=>exact absurd HA.out (by simp [aD.l0])
  | succ k1 =>
   have H:=HA.out
   clear HA
   simp only [aD.l0] at H
   by_cases c4:j < 8
   ·rw [if_pos c4] at H
    have ab:=decide_eq_true c4
    clear c4
    obtain ⟨t210,A5,H⟩:=af.be H
    (try dsimp only at H)
    by_cases c6:t210 = true
    ·subst c6
     replace H:(if y.length < 17592186044416 then (aD.l0 k1 a0 (y ++ [j]) (wrap64 (j+1))) else (none)) = some r:=by rw [if_pos rfl] at H;exact H
     obtain ⟨c7,H⟩:=af.ip H
     have am:=ae.mk c7
     clear c7
     obtain ⟨a5,X⟩:∃ y_:List Int,y_ = (y ++ [j]):=⟨_,rfl⟩
     replace H:(aD.l0 k1 a0 a5 (wrap64 (j+1))) = some r:=by (try rw [X]);exact af.Z
     have a8:=ae.mk X
     clear X
     have H':=ae.mk H
     clear H
     go_wp2_with (first | (refine af.gl (some 12) Try.func82 #[.int .i64 a0,.int .i64 j] ?_;(with_reducible refine (cN.calls a0 j true _ A5.out).mono ?_);rintro e w' ⟨rfl,⟨nd,rfl⟩⟩;refine ⟨_,rfl,?_⟩) | ((with_reducible refine cR (b:=.append) (xs:=#[.tmp 13,.tmp 15]) rfl ?_);at_builtin;refine Kd.en (Kd.int .i64) (w0:=w) w.heap.size rfl (.tmp 13) (.tmp 15) 24 3 (.int .i64 0) 8 rfl Try.underlying24 fa rfl (by decide) (by omega) u3 y j [.int .i64 j] (fun _=>True) (fun _=>False) rfl rfl (by exact rfl) (fun _ hk=>hk.elim) (by exact fun _ _=>trivial) (by exact af.Rw Y.out) (by exact af.Lw HB.out) (by exact aA (af.Lw HB.out)) (by have:=am.out;omega) ?_;intro v212 w8 ho hb hg hat;rw [← a8.out] at ho;have ao:=ae.mk hb;have ap:=ae.mk ho;clear HB;clear Y;have HB:=ao;have a9:=ap;clear ao ap;clear ho hb hg hat))
     go_roundg k1
     case measure=>have:=a3.out;omega
     case rel=>exact ⟨(a5),(wrap64 (j+1)),af.F,H',⟨by have:=a3.out;omega⟩,⟨af.Rw a9.out⟩,⟨af.Lw HB.out⟩⟩
    ·replace c6:=Bool.eq_false_iff.mpr c6
     subst c6
     replace H:(aD.l0 k1 a0 y (wrap64 (j+1))) = some r:=by rw [if_neg (show ¬ (false = true) by decide)] at H;exact H
     have H':=ae.mk H
     clear H
     go_wp2_with (first | (refine af.gl (some 12) Try.func82 #[.int .i64 a0,.int .i64 j] ?_;(with_reducible refine (cN.calls a0 j false _ A5.out).mono ?_);rintro e w' ⟨rfl,⟨nd,rfl⟩⟩;refine ⟨_,rfl,?_⟩))
     go_roundg k1
     case measure=>have:=a3.out;omega
     case rel=>exact ⟨(y),(wrap64 (j+1)),af.F,H',⟨by have:=a3.out;omega⟩,⟨af.Rw Y.out⟩,⟨af.Lw HB.out⟩⟩
   ·rw [if_neg c4] at H
    have ab:decide (j < 8) = false:=decide_eq_false c4
    clear c4
    obtain rfl:=Option.some.inj H
    go_wp2
    go_ret
    exact ⟨_,af.E,by (with_reducible repeat (first | apply Kd.bN | apply Kd.bO | apply Kd.bt));exact Y.out,af.L⟩
def b6.l0 (g:Int→Option Bool):Nat→List Int→Int→Option Int
 | 0,_,_=>none
 | k+1,y,j=>if j < (y.length:Int) then (if 0≤j then ((g (rd y j)).bind fun t=>(if t = true then (some j) else (b6.l0 g k y (wrap64 (j+1))))) else (none)) else (some (-1))
def b6.f (k:Nat) (l0:List Int) (g:Int→Option Bool):Option Int:=b6.l0 g k l0 0
set_option maxHeartbeats 8000000 in
set_option maxRecDepth 100000 in
theorem b6.calls (k:Nat) (A0:Option Addr) (c0:Nat) (l0:List Int) (fv:Value) (g:Int→Option Bool) (r:Int) (w:World) (a0:Kd.C (Kd.int .i64) w A0 l0.length l0) (hF:af.ke Try.prog w fv g) (h:b6.f k l0 g = some r) :
  Calls Try.prog 156 #[.slice A0 l0.length c0,fv] w fun e w'=>e = .returned (.int .i64 r)∧Below w.heap.size w w':=by
 have a5:=ae.mk a0
 clear a0
 have HB:=ae.mk (Below.refl w.heap.size w)
 unfold b6.f at h
 have H:=h
 clear h
 have H':=ae.mk H
 clear H
 go_enter Try.func156,Try.ntmps156
 go_wp2
 go_loopg [8] k (fun kq v8 w'=>∃ (j:Int),v8 = .int .i64 j∧ae (b6.l0 g kq l0 j = some r)∧ae (kq≤k)∧ae (Below w.heap.size w w'))
 case atStart=>exact ⟨0,rfl,H',⟨Nat.le_refl _⟩,HB⟩
 case round =>
  clear H' HB
  obtain ⟨j,rfl,HA,a1,HB⟩:=hrel
  cases gk with
  | zero=>exact absurd HA.out (by simp [b6.l0])
  | succ k1 =>
   have H:=HA.out
   clear HA
   simp only [b6.l0] at H
   by_cases c3:j < (l0.length:Int)
   ·rw [if_pos c3] at H
    have a2:=decide_eq_true c3
    clear c3
    obtain ⟨c4,H⟩:=af.ip H
    have a7:=decide_eq_true c4
    clear c4
    obtain ⟨t,a3,H⟩:=Option.bind_eq_some_iff.mp H
    have A5:=ae.mk a3
    clear a3
    have z:0≤(j:Int):=of_decide_eq_true (by assumption)
    have X:j < (l0.length:Int):=of_decide_eq_true (by assumption)
    obtain ⟨a6,a4,y⟩:=Kd.cF a5.out j z X
    cases a4
    replace y:=(HB.out.cell (World.block_lt_of_cell? w _ y)).trans y
    replace z:=eq_true z
    replace X:=eq_true X
    by_cases c6:t = true
    ·subst c6
     have H1:(some j) = some r:=by rw [if_pos rfl] at H;exact H
     clear H
     obtain rfl:=Option.some.inj H1
     clear H1
     go_wp2_with (first | (refine af.kR (some 16) rfl rfl 11 rfl hF A5.out HB.out rfl (by (try simp only [List.map_toArray,List.map_cons,List.map_nil]);first | done | rfl) ?_;intro w5 hb;have Y:=ae.mk (ax HB.out hb);clear HB;have HB:=Y;clear Y hb))
     go_ret
     exact ⟨rfl,HB.out⟩
    ·replace c6:=Bool.eq_false_iff.mpr c6
     subst c6
     have H1:(b6.l0 g k1 l0 (wrap64 (j+1))) = some r:=by rw [if_neg (show ¬ (false = true) by decide)] at H;exact H
     clear H
     have H':=ae.mk H1
     clear H1
     go_wp2_with (first | (refine af.kR (some 16) rfl rfl 11 rfl hF A5.out HB.out rfl (by (try simp only [List.map_toArray,List.map_cons,List.map_nil]);first | done | rfl) ?_;intro w5 hb;have Y:=ae.mk (ax HB.out hb);clear HB;have HB:=Y;clear Y hb))
     go_roundg k1
     case measure=>have:=a1.out;omega
     case rel=>exact ⟨(wrap64 (j+1)),rfl,H',⟨by have:=a1.out;omega⟩,HB⟩
   ·rw [if_neg c3] at H
    have a2:decide (j < (l0.length:Int)) = false:=decide_eq_false c3
    clear c3
    obtain rfl:=Option.some.inj H
    go_wp2
    go_ret
    exact ⟨rfl,HB.out⟩
def aZ.f (k:Nat) (l0:List Int) (g:Int→Option Bool):Option Bool:=(b6.f k l0 g).bind fun t=>some (decide (t≥0))
set_option maxHeartbeats 8000000 in
set_option maxRecDepth 100000 in
theorem aZ.calls (k:Nat) (y:Option Addr) (X:Nat) (l0:List Int) (fv:Value) (g:Int→Option Bool) (r:Bool) (w:World) (j:Kd.C (Kd.int .i64) w y l0.length l0) (hF:af.ke Try.prog w fv g) (h:aZ.f k l0 g = some r) :
  Calls Try.prog 132 #[.slice y l0.length X,fv] w fun e w'=>e = .returned (.bool r)∧Below w.heap.size w w':=by
 have z:=ae.mk j
 clear j
 unfold aZ.f at h
 obtain ⟨t,h1,h⟩:=Option.bind_eq_some_iff.mp h
 have Y:=ae.mk h1
 clear h1
 obtain rfl:=Option.some.inj h
 clear h
 go_enter Try.func132,Try.ntmps132
 go_wp2_with (first | (refine af.gl (some 7) Try.func156 #[.slice y l0.length X,fv] ?_;(with_reducible refine (b6.calls k _ _ l0 fv g t _ z.out hF Y.out).mono ?_);rintro e w5 ⟨rfl,hb⟩;refine ⟨_,rfl,?_⟩;have HB:=ae.mk hb;clear hb))
 go_ret
 exact ⟨rfl,HB.out⟩
def bl.l0:Nat→List Int→Int→Int→Int→Option (Int)
 | 0,_,_,_,_=>none
 | k+1,y,z,X,j=>if j < X then (if 0≤j then (if j < (y.length:Int) then (if z = (rd y j) then (some j) else (bl.l0 k y z X (wrap64 (j+1)))) else (none)) else (none)) else (some (-1))
def bl.f (k:Nat) (l0:List Int) (j:Int):Option (Int):=bl.l0 k l0 j (l0.length:Int) 0
set_option maxHeartbeats 8000000 in
set_option maxRecDepth 100000 in
theorem bl.calls (k:Nat) (A0:Option Addr) (c0:Nat) (l0:List Int) (X:Int) (r:Int) (w:World) (a0:Kd.C (Kd.int .i64) w A0 l0.length l0) (a2:l0.length≤c0) (h:bl.f k l0 X = some r) :
  Calls Try.prog 65 #[.slice A0 l0.length c0,.int .i64 X] w fun e w'=>e = .returned (.int .i64 r)∧bQ w w':=by
 have a3:=ae.mk a0
 have am:=ae.mk a2
 clear a0 a2
 unfold bl.f at h
 have H:=h
 clear h
 have H':=ae.mk H
 clear H
 go_enter Try.func65,Try.ntmps65
 go_wp2
 go_loopg [8] k (fun kq v8 w'=>∃ (j:Int),v8 = .int .i64 j∧ae (bl.l0 kq l0 X (l0.length:Int) j = some r)∧ae (kq≤k)∧bQ w w')
 case atStart=>exact ⟨(0),af.F,H',⟨Nat.le_refl _⟩,af.G⟩
 case round =>
  clear H'
  obtain ⟨j,rfl,HA,a4,⟨m1,rfl⟩⟩:=hrel
  cases gk with
  | zero=>exact absurd HA.out (by simp [bl.l0])
  | succ k1 =>
   have H:=HA.out
   clear HA
   simp only [bl.l0] at H
   by_cases c3:j < (l0.length:Int)
   ·rw [if_pos c3] at H
    have a5:=decide_eq_true c3
    clear c3
    obtain ⟨c4,H⟩:=af.ip H
    have aa:=decide_eq_true c4
    clear c4
    obtain ⟨c5,H⟩:=af.ip H
    have ab:=decide_eq_true c5
    clear c5
    by_cases c6:X = (rd l0 j)
    ·rw [if_pos c6] at H
     have a6:(X == (rd l0 j)) = true:=beq_iff_eq.mpr c6
     have a7:(X != (rd l0 j)) = false:=bne_eq_false_iff_eq.mpr c6
     clear c6
     obtain rfl:=Option.some.inj H
     obtain ⟨Y,y,z,a8,a9⟩:=af.ai a3.out j
     cases y
     go_wp2
     go_ret
     exact ⟨af.F,af.G⟩
    ·rw [if_neg c6] at H
     have a6:(X == (rd l0 j)) = false:=beq_eq_false_iff_ne.mpr c6
     have a7:(X != (rd l0 j)) = true:=bne_iff_ne.mpr c6
     have H':=ae.mk H
     clear H
     obtain ⟨Y,y,z,a8,a9⟩:=af.ai a3.out j
     cases y
     go_wp2
     go_roundg k1
     case measure=>have:=a4.out;omega
     case rel=>exact ⟨(wrap64 (j+1)),af.F,H',⟨by have:=a4.out;omega⟩,af.G⟩
   ·rw [if_neg c3] at H
    have a5:decide (j < (l0.length:Int)) = false:=decide_eq_false c3
    clear c3
    obtain rfl:=Option.some.inj H
    go_wp2
    go_ret
    exact ⟨af.F,af.G⟩
def cx.f (k:Nat) (l0:List Int) (j:Int):Option (Bool):=(bl.f k l0 j).bind fun t220=>(some (decide (t220≥0)))
set_option maxHeartbeats 8000000 in
set_option maxRecDepth 100000 in
theorem cx.calls (k:Nat) (X:Option Addr) (Y:Nat) (l0:List Int) (z:Int) (r:Bool) (w:World) (j:Kd.C (Kd.int .i64) w X l0.length l0) (y:l0.length≤Y) (h:cx.f k l0 z = some r) :
  Calls Try.prog 146 #[.slice X l0.length Y,.int .i64 z] w fun e w'=>e = .returned (.bool r)∧bQ w w':=by
 have a0:=ae.mk j
 have a2:=ae.mk y
 clear j y
 unfold cx.f at h
 have H:=h
 clear h
 obtain ⟨t220,A3,H⟩:=af.be H
 (try dsimp only at H)
 obtain rfl:=Option.some.inj H
 go_enter Try.func146,Try.ntmps146
 go_wp2_with (first | (refine af.gl (some 7) Try.func65 #[.slice X l0.length Y,.int .i64 z] ?_;(with_reducible refine (bl.calls k _ _ l0 z t220 _ ?side1 ?side2 A3.out).mono ?_);(case side1=>exact af.Cw a0.out);(case side2=>exact a2.out);rintro e w' ⟨rfl,⟨nd,rfl⟩⟩;refine ⟨_,rfl,?_⟩))
 go_ret
 exact ⟨af.F,af.G⟩
def dY.f (k:Nat) (l0:List Int) (j:Int):Option (Bool):=(cx.f k l0 j).bind fun t221=>(some t221)
set_option maxHeartbeats 8000000 in
set_option maxRecDepth 100000 in
theorem dY.calls (k:Nat) (X:Option Addr) (Y:Nat) (l0:List Int) (z:Int) (r:Bool) (w:World) (j:Kd.C (Kd.int .i64) w X l0.length l0) (y:l0.length≤Y) (h:dY.f k l0 z = some r) :
  Calls Try.prog 122 #[.slice X l0.length Y,.int .i64 z] w fun e w'=>e = .returned (.bool r)∧bQ w w':=by
 have a0:=ae.mk j
 have a2:=ae.mk y
 clear j y
 unfold dY.f at h
 have H:=h
 clear h
 obtain ⟨t221,A3,H⟩:=af.be H
 (try dsimp only at H)
 obtain rfl:=Option.some.inj H
 go_enter Try.func122,Try.ntmps122
 go_wp2_with (first | (refine af.gl (some 7) Try.func146 #[.slice X l0.length Y,.int .i64 z] ?_;(with_reducible refine (cx.calls k _ _ l0 z t221 _ ?side1 ?side2 A3.out).mono ?_);(case side1=>exact af.Cw a0.out);(case side2=>exact a2.out);rintro e w' ⟨rfl,⟨nd,rfl⟩⟩;refine ⟨_,rfl,?_⟩))
 go_ret
 exact ⟨af.F,af.G⟩
def bq.f (k:Nat) (l:List Int) (a e f:Int):Option Bool:=if 0≤e then (if 0≤f then (dY.f k l (Go.bits .or .i64 (Go.bits .andNot .i64 a (shl .i64 1 e)) (shl .i64 1 f))) else (none)) else (none)
mutual
def av.l0:Nat→Int→List Int→Int→Option (Int×Int×Int×Bool)
 | 0,_,_,_=>none
 | k+1,n,l,x=>if x < (l.length:Int) then (if 0≤x then (av.l1 k n l x (rd l x) 0) else (none)) else (some (0,0,0,false))
def av.l1:Nat→Int→List Int→Int→Int→Int→Option (Int×Int×Int×Bool)
 | 0,_,_,_,_,_=>none
 | k+1,n,l,x,a,y=>if y < (l.length:Int) then (if 0≤y then ((aD.f k (Go.bits .andNot .i64 a (rd l y))).bind fun es=>(av.l2 k n l x a y (rd l y) es 0)) else (none)) else (av.l0 k n l (wrap64 (x+1)))
def av.l2:Nat→Int→List Int→Int→Int→Int→Int→List Int→Int→Option (Int×Int×Int×Bool)
 | 0,_,_,_,_,_,_,_,_=>none
 | k+1,n,l,x,a,y,b,es,z=>if z < (es.length:Int) then (if 0≤z then ((aD.f k (Go.bits .andNot .i64 b a)).bind fun fs=>((aZ.f k fs (fun f=>bq.f k l a (rd es z) f)).bind fun t=>(if t = true then (av.l2 k n l x a y b es (wrap64 (z+1))) else (some (a,b,rd es z,true))))) else (none)) else (av.l1 k n l x a (wrap64 (y+1)))
end
def av.f (k:Nat) (j:Int) (y:List Int):Option (Int×Int×Int×Bool):=(bg.f k j y).bind fun t=>(if t = true then (av.l0 k j y 0) else (some (0,0,0,false)))
set_option maxHeartbeats 8000000 in
set_option maxRecDepth 100000 in
theorem bq.calls (k:Nat) (ao:Int) (a5:Option Addr) (a6:Nat) (j:List Int) (a e f:Int) (b:Bool) (am ap ar:Nat) (w:World) (h1:w.heap[am]? = some (.cells #[.int .i64 ao,(.slice a5 j.length a6)] 35 (0,0))) (h5:w.heap[ap]? = some (.cells #[.int .i64 a] 3 (0,0))) (h9:w.heap[ar]? = some (.cells #[.int .i64 e] 3 (0,0))) (a7:Kd.C (Kd.int .i64) w a5 j.length j) (a8:j.length≤a6) (h:bq.f k j a e f = some b) :
  Calls Try.prog 145 #[.int .i64 f,.pointer (some ⟨am,0,none⟩),.pointer (some ⟨ap,0,none⟩),.pointer (some ⟨ar,0,none⟩)] w fun e w'=>e = .returned (.bool b)∧Below w.heap.size w w':=by
 have bs:=Try.underlying35
 have HR:=ae.mk a7
 have HC:=ae.mk a8
 have aw:w.cell? ⟨am,0,none⟩ = some (.int .i64 ao):=(ah h1 0).trans rfl
 have aB:w.cell? ⟨am,1,none⟩ = some (.slice a5 j.length a6):=(ah h1 1).trans rfl
 have aF:w.cell? ⟨ap,0,none⟩ = some (.int .i64 a):=(ah h5 0).trans rfl
 have aL:w.cell? ⟨ar,0,none⟩ = some (.int .i64 e):=(ah h9 0).trans rfl
 clear a7 a8 h1 h5 h9
 have H:=h
 clear h
 unfold bq.f at H
 by_cases a9:0≤e
 case neg=>rw [if_neg a9] at H;exact absurd H (by simp)
 rw [if_pos a9] at H
 have bc:=eq_true a9
 have bi:decide (0≤e) = true:=decide_eq_true a9
 clear a9
 by_cases aa:0≤f
 case neg=>rw [if_neg aa] at H;exact absurd H (by simp)
 rw [if_pos aa] at H
 have bm:=eq_true aa
 have bo:decide (0≤f) = true:=decide_eq_true aa
 clear aa
 obtain ⟨y,X⟩:∃ j_:Int,(shl .i64 1 e) = j_:=⟨_,rfl⟩
 rw [X] at H
 have a1:(IntKind.i64.wrap (1 * 2 ^ min e.toNat 64)) = y:=X
 have a2:e≤64→(IntKind.i64.wrap (1 * 2 ^ e.toNat)) = y:=ei X
 have aO:(IntKind.i64.wrap (2 ^ min e.toNat 64)) = y:=by have Y:=a1;rw [Int.one_mul] at Y;exact Y
 have aP:e≤64→(IntKind.i64.wrap (2 ^ e.toNat)) = y:=fun ab=>by have Y:=a2 ab;rw [Int.one_mul] at Y;exact Y
 have aS:(wrap64 (1 * 2 ^ min e.toNat 64)) = y:=(bE _).symm.trans a1
 have b0:e≤64→(wrap64 (1 * 2 ^ e.toNat)) = y:=fun Y=>(bE _).symm.trans (a2 Y)
 obtain ⟨z,a0⟩:∃ j_:Int,(shl .i64 1 f) = j_:=⟨_,rfl⟩
 rw [a0] at H
 have a3:(IntKind.i64.wrap (1 * 2 ^ min f.toNat 64)) = z:=a0
 have a4:f≤64→(IntKind.i64.wrap (1 * 2 ^ f.toNat)) = z:=ei a0
 have b2:(IntKind.i64.wrap (2 ^ min f.toNat 64)) = z:=by have Y:=a3;rw [Int.one_mul] at Y;exact Y
 have b3:f≤64→(IntKind.i64.wrap (2 ^ f.toNat)) = z:=fun ab=>by have Y:=a4 ab;rw [Int.one_mul] at Y;exact Y
 have b4:(wrap64 (1 * 2 ^ min f.toNat 64)) = z:=(bE _).symm.trans a3
 have ba:f≤64→(wrap64 (1 * 2 ^ f.toNat)) = z:=fun Y=>(bE _).symm.trans (a4 Y)
 have A1:=ae.mk H
 clear H
 go_enter Try.func145,Try.ntmps145
 go_wp2_with fail
 go_quiet (first | (go_at_call 122;(with_reducible refine (dY.calls k _ _ j (Go.bits .or .i64 (Go.bits .andNot .i64 a y) z) b _ ?side1 ?side2 A1.out).mono ?_);(case side1=>repeat (first | exact HR.out | (with_reducible refine Kd.nq ?_ _) | (with_reducible refine Kd.nr ?_ _) | (with_reducible refine Kd.oN ?_)));(case side2=>exact HC.out);rintro e w' ⟨rfl,⟨nd,rfl⟩⟩;(first | exact ⟨rfl,_,World.drewN_drewN _ _ _⟩ | exact ⟨rfl,_,Eq.trans (World.drewN_drewN _ _ _) (congrArg (World.drewN _) (Nat.add_assoc _ _ _))⟩)))
 go_wp2
 go_ret
 exact ⟨rfl,by first | exact cI (Below.refl _ _) _ | exact Below.refl _ _⟩
theorem bq.mH (k:Nat) (a1:Int) (y:Option Addr) (z:Nat) (j:List Int) (a e:Int) (X Y a0:Nat) (w:World) (h1:w.heap[X]? = some (.cells #[.int .i64 a1,(.slice y j.length z)] 35 (0,0))) (h5:w.heap[Y]? = some (.cells #[.int .i64 a] 3 (0,0))) (h9:w.heap[a0]? = some (.cells #[.int .i64 e] 3 (0,0))) (a2:Kd.C (Kd.int .i64) w y j.length j) (a3:j.length≤z) :
  af.ke Try.prog w (.func (.func 145) #[] #[.pointer (some ⟨X,0,none⟩),.pointer (some ⟨Y,0,none⟩),.pointer (some ⟨a0,0,none⟩)]) (fun f=>bq.f k j a e f) :=
 ⟨⟨145,#[.pointer (some ⟨X,0,none⟩),.pointer (some ⟨Y,0,none⟩),.pointer (some ⟨a0,0,none⟩)],Try.f145,rfl,Try.func145,by kernel_rfl,rfl,fun f b w' hw hg=>bq.calls k a1 y z j a e f b X Y a0 w' (aU h1 hw) (aU h5 hw) (aU h9 hw) (Kd.aX a2 hw) a3 hg⟩⟩
set_option maxHeartbeats 8000000 in
set_option maxRecDepth 100000 in
theorem av.calls (k:Nat) (aw:Int) (aO:Option Addr) (aF:Nat) (a3:List Int) (r1:Int) (r2:Int) (r3:Int) (r4:Bool) (w:World) (bv:Kd.C (Kd.int .i64) w aO a3.length a3) (c0:a3.length≤aF) (h:av.f k aw a3 = some (r1,r2,r3,r4)) :
  Calls Try.prog 119 #[.agg #[.int .i64 aw,.slice aO a3.length aF]] w fun e w'=>e = .returned (.tuple #[.agg #[.int .i64 r1,.int .i64 r2,.int .i64 r3],.bool r4])∧Below w.heap.size w w':=by
 have dk:=Try.underlying35
 have dl:=Try.underlying108
 have HR:=ae.mk bv
 have HC:=ae.mk c0
 have HB:=ae.mk (Below.refl w.heap.size w)
 clear bv c0
 unfold av.f at h
 obtain ⟨t,h1,h⟩:=Option.bind_eq_some_iff.mp h
 have A1:=ae.mk h1
 clear h1
 cases t with
 | false =>
  rw [if_neg (by decide)] at h
  simp only [Option.some.injEq,Prod.mk.injEq] at h
  obtain ⟨rfl,rfl,rfl,rfl⟩:=h
  go_enter Try.func119,Try.ntmps119
  go_wp2_with (first | ((with_reducible refine bf (N:=1) rfl ?_);refine af.bx 1 #[.int .i64 aw,.slice aO a3.length aF] 35 ?_;intro aB hg w3 hbox hb;have cp:=ae.mk ((by rw [hg];exact aA HB.out):w.heap.size≤aB);replace HB:=ae.mk (ax HB.out hb);have y:=ae.mk hbox;have X:w3.cell? ⟨aB,0,none⟩ = some ((.int .i64 aw)):=(ah y.out 0).trans rfl;have Y:=aj y.out 0;have a0:w3.cell? ⟨aB,1,none⟩ = some ((.slice aO a3.length aF)):=(ah y.out 1).trans rfl;have a1:=aj y.out 1;clear hb hbox hg) | ((with_reducible refine bf (N:=2) rfl ?_);refine af.bx 2 #[.int .i64 0,.int .i64 0,.int .i64 0] 108 ?_;intro ao hg w4 hbox hb;have bm:=ae.mk ((by rw [hg];exact aA HB.out):w.heap.size≤ao);replace HB:=ae.mk (ax HB.out hb);have j:=ae.mk hbox;have m_:=ae.mk (aU y.out hb);clear y;have y:=m_;clear m_;have X:w4.cell? ⟨aB,0,none⟩ = some ((.int .i64 aw)):=(ah y.out 0).trans rfl;have Y:=aj y.out 0;have a0:w4.cell? ⟨aB,1,none⟩ = some ((.slice aO a3.length aF)):=(ah y.out 1).trans rfl;have a1:=aj y.out 1;have a4:w4.cell? ⟨ao,0,none⟩ = some (.int .i64 0):=(ah j.out 0).trans rfl;have a5:=aj j.out 0;have a6:w4.cell? ⟨ao,1,none⟩ = some (.int .i64 0):=(ah j.out 1).trans rfl;have a7:=aj j.out 1;have a8:w4.cell? ⟨ao,2,none⟩ = some (.int .i64 0):=(ah j.out 2).trans rfl;have a9:=aj j.out 2;clear hb hbox hg) | ((with_reducible refine b8 (f:=120) rfl ?_);refine af.gl (some 15) Try.func120 #[.int .i64 aw,.slice aO a3.length aF] ?_;(with_reducible refine (bg.calls k aw _ _ a3 false _ ?side1 ?side2 A1.out).mono ?_);(case side1=>exact Kd.aX HR.out HB.out);(case side2=>exact HC.out);rintro e w5 ⟨rfl,hd⟩;refine ⟨_,rfl,?_⟩;have hb:=hd.below;clear hd;replace HB:=ae.mk (ax HB.out hb);have m_:=ae.mk (aU y.out hb);clear y;have y:=m_;clear m_;have m_:=ae.mk (aU j.out hb);clear j;have j:=m_;clear m_;clear hb;have X:w5.cell? ⟨aB,0,none⟩ = some ((.int .i64 aw)):=(ah y.out 0).trans rfl;have Y:=aj y.out 0;have a0:w5.cell? ⟨aB,1,none⟩ = some ((.slice aO a3.length aF)):=(ah y.out 1).trans rfl;have a1:=aj y.out 1;have a4:w5.cell? ⟨ao,0,none⟩ = some (.int .i64 0):=(ah j.out 0).trans rfl;have a5:=aj j.out 0;have a6:w5.cell? ⟨ao,1,none⟩ = some (.int .i64 0):=(ah j.out 1).trans rfl;have a7:=aj j.out 1;have a8:w5.cell? ⟨ao,2,none⟩ = some (.int .i64 0):=(ah j.out 2).trans rfl;have a9:=aj j.out 2))
  refine bodyPost_ret (de rfl _ _ ao 108 #[.int .i64 0,.int .i64 0,.int .i64 0] (0,0) _ rfl (by refine dQ (cs:=#[.int .i64 0,.int .i64 0,.int .i64 0]) ?_ 2 _ rfl;refine dQ (cs:=#[.int .i64 0,.int .i64 0,.int .i64 0]) ?_ 1 _ rfl;refine dQ (cs:=#[.int .i64 0,.int .i64 0,.int .i64 0]) ?_ 0 _ rfl;exact j.out) Try.underlying108 rfl (by kernel_rfl)) rfl ?_
  exact ⟨rfl,by repeat (first | exact HB.out | refine ct ?_ bm.out)⟩
 | true =>
  rw [if_pos rfl] at h
  have H':=ae.mk h
  clear h
  go_enter Try.func119,Try.ntmps119
  go_wp2_with (first | ((with_reducible refine bf (N:=1) rfl ?_);refine af.bx 1 #[.int .i64 aw,.slice aO a3.length aF] 35 ?_;intro aB hg w3 hbox hb;have cp:=ae.mk ((by rw [hg];exact aA HB.out):w.heap.size≤aB);replace HB:=ae.mk (ax HB.out hb);have y:=ae.mk hbox;have X:w3.cell? ⟨aB,0,none⟩ = some ((.int .i64 aw)):=(ah y.out 0).trans rfl;have Y:=aj y.out 0;have a0:w3.cell? ⟨aB,1,none⟩ = some ((.slice aO a3.length aF)):=(ah y.out 1).trans rfl;have a1:=aj y.out 1;clear hb hbox hg) | ((with_reducible refine bf (N:=2) rfl ?_);refine af.bx 2 #[.int .i64 0,.int .i64 0,.int .i64 0] 108 ?_;intro ao hg w4 hbox hb;have bm:=ae.mk ((by rw [hg];exact aA HB.out):w.heap.size≤ao);replace HB:=ae.mk (ax HB.out hb);have j:=ae.mk hbox;have m_:=ae.mk (aU y.out hb);clear y;have y:=m_;clear m_;have X:w4.cell? ⟨aB,0,none⟩ = some ((.int .i64 aw)):=(ah y.out 0).trans rfl;have Y:=aj y.out 0;have a0:w4.cell? ⟨aB,1,none⟩ = some ((.slice aO a3.length aF)):=(ah y.out 1).trans rfl;have a1:=aj y.out 1;have a4:w4.cell? ⟨ao,0,none⟩ = some (.int .i64 0):=(ah j.out 0).trans rfl;have a5:=aj j.out 0;have a6:w4.cell? ⟨ao,1,none⟩ = some (.int .i64 0):=(ah j.out 1).trans rfl;have a7:=aj j.out 1;have a8:w4.cell? ⟨ao,2,none⟩ = some (.int .i64 0):=(ah j.out 2).trans rfl;have a9:=aj j.out 2;clear hb hbox hg) | ((with_reducible refine b8 (f:=120) rfl ?_);refine af.gl (some 15) Try.func120 #[.int .i64 aw,.slice aO a3.length aF] ?_;(with_reducible refine (bg.calls k aw _ _ a3 true _ ?side1 ?side2 A1.out).mono ?_);(case side1=>exact Kd.aX HR.out HB.out);(case side2=>exact HC.out);rintro e w5 ⟨rfl,hd⟩;refine ⟨_,rfl,?_⟩;have hb:=hd.below;clear hd;replace HB:=ae.mk (ax HB.out hb);have m_:=ae.mk (aU y.out hb);clear y;have y:=m_;clear m_;have m_:=ae.mk (aU j.out hb);clear j;have j:=m_;clear m_;clear hb;have X:w5.cell? ⟨aB,0,none⟩ = some ((.int .i64 aw)):=(ah y.out 0).trans rfl;have Y:=aj y.out 0;have a0:w5.cell? ⟨aB,1,none⟩ = some ((.slice aO a3.length aF)):=(ah y.out 1).trans rfl;have a1:=aj y.out 1;have a4:w5.cell? ⟨ao,0,none⟩ = some (.int .i64 0):=(ah j.out 0).trans rfl;have a5:=aj j.out 0;have a6:w5.cell? ⟨ao,1,none⟩ = some (.int .i64 0):=(ah j.out 1).trans rfl;have a7:=aj j.out 1;have a8:w5.cell? ⟨ao,2,none⟩ = some (.int .i64 0):=(ah j.out 2).trans rfl;have a9:=aj j.out 2))
  clear X a0 Y a1 a4 a6 a8 a5 a7 a9
  go_loopg [21] k (fun kq v21 w'=>∃ (x1:Int),v21 = .int .i64 x1∧ae (av.l0 kq aw a3 x1 = some (r1,r2,r3,r4))∧ae (kq≤k)∧ae (w'.heap[aB]? = some (.cells #[.int .i64 aw,(.slice aO a3.length aF)] 35 (0,0)))∧ae (w'.heap[ao]? = some (.cells #[.int .i64 0,.int .i64 0,.int .i64 0] 108 (0,0)))∧ae (Below w.heap.size w w'))
  case atStart=>exact ⟨0,rfl,H',⟨Nat.le_refl _⟩,y,j,HB⟩
  case round =>
   clear H' y j HB
   obtain ⟨x1,rfl,HA,bo,y,j,HB⟩:=hrel
   cases gk with
   | zero=>exact absurd HA.out (by simp [av.l0])
   | succ k1 =>
    have H:=HA.out
    clear HA
    simp only [av.l0] at H
    by_cases c3:x1 < (a3.length:Int)
    case neg =>
     rw [if_neg c3] at H
     have ch:decide (x1 < (a3.length:Int)) = false:=decide_eq_false c3
     clear c3
     simp only [Option.some.injEq,Prod.mk.injEq] at H
     obtain ⟨rfl,rfl,rfl,rfl⟩:=H
     have a4:wr.cell? ⟨ao,0,none⟩ = some (.int .i64 0):=(ah j.out 0).trans rfl
     have a5:=aj j.out 0
     have a6:wr.cell? ⟨ao,1,none⟩ = some (.int .i64 0):=(ah j.out 1).trans rfl
     have a7:=aj j.out 1
     have a8:wr.cell? ⟨ao,2,none⟩ = some (.int .i64 0):=(ah j.out 2).trans rfl
     have a9:=aj j.out 2
     go_wp2
     refine bodyPost_ret (de rfl _ _ ao 108 #[.int .i64 0,.int .i64 0,.int .i64 0] (0,0) _ rfl (by refine dQ (cs:=#[.int .i64 0,.int .i64 0,.int .i64 0]) ?_ 2 _ rfl;refine dQ (cs:=#[.int .i64 0,.int .i64 0,.int .i64 0]) ?_ 1 _ rfl;refine dQ (cs:=#[.int .i64 0,.int .i64 0,.int .i64 0]) ?_ 0 _ rfl;exact j.out) Try.underlying108 rfl (by kernel_rfl)) rfl ?_
     exact ⟨rfl,by repeat (first | exact HB.out | refine ct ?_ bm.out)⟩
    rw [if_pos c3] at H
    have ch:=decide_eq_true c3
    clear c3
    by_cases c4:0≤x1
    case neg=>rw [if_neg c4] at H;exact absurd H (by simp)
    rw [if_pos c4] at H
    have d2:=decide_eq_true c4
    clear c4
    obtain ⟨aa,cq⟩:∃ j_:Int,rd a3 x1 = j_:=⟨_,rfl⟩
    rw [cq] at H
    have H':=ae.mk H
    clear H
    have p1:0≤(x1:Int):=of_decide_eq_true (by assumption)
    have q1:x1 < (a3.length:Int):=of_decide_eq_true (by assumption)
    obtain ⟨b3,e1,b4⟩:=Kd.cF HR.out x1 p1 q1
    rw [cq] at b4
    clear cq
    cases e1
    replace b4:=(HB.out.cell (World.block_lt_of_cell? w _ b4)).trans b4
    replace p1:=eq_true p1
    replace q1:=eq_true q1
    have X:wr.cell? ⟨aB,0,none⟩ = some ((.int .i64 aw)):=(ah y.out 0).trans rfl
    have Y:=aj y.out 0
    have a0:wr.cell? ⟨aB,1,none⟩ = some ((.slice (some b3) a3.length aF)):=(ah y.out 1).trans rfl
    have a1:=aj y.out 1
    go_wp2_with (first | ((with_reducible refine bf (N:=5) rfl ?_);refine af.bx 5 #[.int .i64 0] 3 ?_;intro aP hg w7 hbox hb;have dd:=ae.mk ((by rw [hg];exact aA HB.out):w.heap.size≤aP);have d3:=ae.mk hg;have d4:=ae.mk hb;have z:=ae.mk hbox;clear hb hg hbox;have ab:w7.cell? ⟨aP,0,none⟩ = some (.int .i64 0):=(ah z.out 0).trans rfl;have am:=aj z.out 0) | ((with_reducible refine dh (t:=3) (p:=5) rfl ?_);refine cU (t:=3) (p:=5) (v:=?vo1) (w1:=(w7.setCell ⟨aP,0,none⟩ (.int .i64 aa))) ?hg ?ho ?hn ?hr ?_;(case ho=>rfl);(case hg=>rfl);(case hn=>rfl);(case hr=>first | (go_simp;done) | (go_simp;rfl));intro w8 hw;have hb:Below wr.heap.size wr w8:=(by rw [hw];exact ct d4.out (Nat.le_of_eq d3.out.symm));have m5:ae (w8.heap[aP]? = some (.cells #[.int .i64 aa] 3 (0,0))):=⟨by rw [hw];exact dQ z.out 0 _ rfl⟩;clear z hw ab am;have z:=m5;clear m5;replace HB:=ae.mk (ax HB.out hb);have m_:=ae.mk (aU y.out hb);clear y;have y:=m_;clear m_;have m_:=ae.mk (aU j.out hb);clear j;have j:=m_;clear m_;clear hb d4 d3;have X:w8.cell? ⟨aB,0,none⟩ = some ((.int .i64 aw)):=(ah y.out 0).trans rfl;have Y:=aj y.out 0;have a0:w8.cell? ⟨aB,1,none⟩ = some ((.slice (some b3) a3.length aF)):=(ah y.out 1).trans rfl;have a1:=aj y.out 1))
    clear p1 q1 ch d2 b4 X a0 Y a1
    go_loopg [28] k1 (fun kq v28 w'=>∃ (x2:Int),v28 = .int .i64 x2∧ae (av.l1 kq aw a3 x1 aa x2 = some (r1,r2,r3,r4))∧ae (kq≤k1)∧ae (w'.heap[aB]? = some (.cells #[.int .i64 aw,(.slice (some b3) a3.length aF)] 35 (0,0)))∧ae (w'.heap[ao]? = some (.cells #[.int .i64 0,.int .i64 0,.int .i64 0] 108 (0,0)))∧ae (w'.heap[aP]? = some (.cells #[.int .i64 aa] 3 (0,0)))∧ae (Below w.heap.size w w'))
    case atStart=>exact ⟨0,rfl,H',⟨Nat.le_refl _⟩,y,j,z,HB⟩
    case round =>
     clear H' y j z HB
     obtain ⟨x2,rfl,HA,bs,y,j,z,HB⟩:=hrel
     cases gk with
     | zero=>exact absurd HA.out (by simp [av.l1])
     | succ k2 =>
      have H:=HA.out
      clear HA
      simp only [av.l1] at H
      by_cases c5:x2 < (a3.length:Int)
      case neg =>
       rw [if_neg c5] at H
       have ci:decide (x2 < (a3.length:Int)) = false:=decide_eq_false c5
       clear c5
       have H':=ae.mk H
       clear H
       go_wp2
       go_roundg k2
       case measure=>have:=bo.out;have:=bs.out;omega
       case rel=>exact ⟨(wrap64 (x1+1)),rfl,H',⟨by have:=bo.out;have:=bs.out;omega⟩,y,j,HB⟩
      rw [if_pos c5] at H
      have ci:=decide_eq_true c5
      clear c5
      by_cases c6:0≤x2
      case neg=>rw [if_neg c6] at H;exact absurd H (by simp)
      rw [if_pos c6] at H
      have d5:=decide_eq_true c6
      clear c6
      obtain ⟨bb,hbb⟩:∃ j_:Int,rd a3 x2 = j_:=⟨_,rfl⟩
      rw [hbb] at H
      obtain ⟨es,d6,H⟩:=Option.bind_eq_some_iff.mp H
      have A2:=ae.mk d6
      clear d6
      have H':=ae.mk H
      clear H
      have p2:0≤(x2:Int):=of_decide_eq_true (by assumption)
      have q2:x2 < (a3.length:Int):=of_decide_eq_true (by assumption)
      obtain ⟨df,e2,ba⟩:=Kd.cF HR.out x2 p2 q2
      obtain rfl:b3 = df:=(by injection e2)
      clear e2
      rw [hbb] at ba
      clear hbb
      replace ba:=(HB.out.cell (World.block_lt_of_cell? w _ ba)).trans ba
      replace p2:=eq_true p2
      replace q2:=eq_true q2
      have X:wr.cell? ⟨aB,0,none⟩ = some ((.int .i64 aw)):=(ah y.out 0).trans rfl
      have Y:=aj y.out 0
      have a0:wr.cell? ⟨aB,1,none⟩ = some ((.slice (some b3) a3.length aF)):=(ah y.out 1).trans rfl
      have a1:=aj y.out 1
      have ab:wr.cell? ⟨aP,0,none⟩ = some (.int .i64 aa):=(ah z.out 0).trans rfl
      have am:=aj z.out 0
      go_wp2_with (first | ((with_reducible refine b8 (f:=62) rfl ?_);refine af.gl (some 35) Try.func62 #[.int .i64 (Go.bits .andNot .i64 aa bb)] ?_;(with_reducible refine (aD.calls k2 (Go.bits .andNot .i64 aa bb) es _ A2.out).mono ?_);rintro e w9 ⟨v1,rfl,ho,hb⟩;refine ⟨_,rfl,?_⟩;have aL:=ae.mk (Kd.bD ho (aA HB.out));have d7:=ae.mk (ax HB.out hb);clear HB;have HB:=d7;clear d7 ho;have m_:=ae.mk (aU y.out hb);clear y;have y:=m_;clear m_;have m_:=ae.mk (aU j.out hb);clear j;have j:=m_;clear m_;have m_:=ae.mk (aU z.out hb);clear z;have z:=m_;clear m_;clear hb X a0 Y a1 ab am ba;obtain ⟨Ae,ce,eo⟩:=Kd.bA aL.out;subst eo))
      clear p2 q2 ci d5
      go_loopg [37] k2 (fun kq v37 w'=>∃ (x3:Int),v37 = .int .i64 x3∧ae (av.l2 kq aw a3 x1 aa x2 bb es x3 = some (r1,r2,r3,r4))∧ae (kq≤k2)∧ae (w'.heap[aB]? = some (.cells #[.int .i64 aw,(.slice (some b3) a3.length aF)] 35 (0,0)))∧ae (w'.heap[ao]? = some (.cells #[.int .i64 0,.int .i64 0,.int .i64 0] 108 (0,0)))∧ae (w'.heap[aP]? = some (.cells #[.int .i64 aa] 3 (0,0)))∧ae (Kd.R (Kd.int .i64) 3 w' w.heap.size (fun _=>True) (.slice Ae es.length ce) es)∧ae (Below w.heap.size w w'))
      case atStart=>exact ⟨0,rfl,H',⟨Nat.le_refl _⟩,y,j,z,aL,HB⟩
      case round =>
       clear H' y j z aL HB
       obtain ⟨x3,rfl,HA,cd,y,j,z,aL,HB⟩:=hrel
       cases gk with
       | zero=>exact absurd HA.out (by simp [av.l2])
       | succ k3 =>
        have H:=HA.out
        clear HA
        simp only [av.l2] at H
        by_cases c7:x3 < (es.length:Int)
        case neg =>
         rw [if_neg c7] at H
         have d8:decide (x3 < (es.length:Int)) = false:=decide_eq_false c7
         clear c7
         have H':=ae.mk H
         clear H
         go_wp2
         go_roundg k3
         case measure=>have:=bo.out;have:=bs.out;have:=cd.out;omega
         case rel=>exact ⟨(wrap64 (x2+1)),rfl,H',⟨by have:=bo.out;have:=bs.out;have:=cd.out;omega⟩,y,j,z,HB⟩
        rw [if_pos c7] at H
        have d8:=decide_eq_true c7
        clear c7
        by_cases c8:0≤x3
        case neg=>rw [if_neg c8] at H;exact absurd H (by simp)
        rw [if_pos c8] at H
        have dp:=decide_eq_true c8
        clear c8
        obtain ⟨ee,hee⟩:∃ j_:Int,rd es x3 = j_:=⟨_,rfl⟩
        rw [hee] at H
        obtain ⟨fs,d9,H⟩:=Option.bind_eq_some_iff.mp H
        have A3:=ae.mk d9
        clear d9
        obtain ⟨t,db,H⟩:=Option.bind_eq_some_iff.mp H
        have A4:=ae.mk db
        clear db
        have p3:0≤(x3:Int):=of_decide_eq_true (by assumption)
        have q3:x3 < (es.length:Int):=of_decide_eq_true (by assumption)
        obtain ⟨dq,e3,d0⟩:=Kd.cF (Kd.aJ aL.out).2.2 x3 p3 q3
        rw [hee] at d0
        clear hee
        cases e3
        replace p3:=eq_true p3
        replace q3:=eq_true q3
        cases t with
        | true =>
         rw [if_pos rfl] at H
         have H':=ae.mk H
         clear H
         have ab:wr.cell? ⟨aP,0,none⟩ = some (.int .i64 aa):=(ah z.out 0).trans rfl
         have am:=aj z.out 0
         have X:wr.cell? ⟨aB,0,none⟩ = some ((.int .i64 aw)):=(ah y.out 0).trans rfl
         have Y:=aj y.out 0
         have a0:wr.cell? ⟨aB,1,none⟩ = some ((.slice (some b3) a3.length aF)):=(ah y.out 1).trans rfl
         have a1:=aj y.out 1
         have a4:wr.cell? ⟨ao,0,none⟩ = some (.int .i64 0):=(ah j.out 0).trans rfl
         have a5:=aj j.out 0
         have a6:wr.cell? ⟨ao,1,none⟩ = some (.int .i64 0):=(ah j.out 1).trans rfl
         have a7:=aj j.out 1
         have a8:wr.cell? ⟨ao,2,none⟩ = some (.int .i64 0):=(ah j.out 2).trans rfl
         have a9:=aj j.out 2
         go_wp2_with (first | ((with_reducible refine bf (N:=9) rfl ?_);refine af.bx 9 #[.int .i64 0] 3 ?_;intro aS hg c1 hbox hb;have d1:=ae.mk ((by rw [hg];exact aA HB.out):w.heap.size≤aS);have ca:=ae.mk hg;have cb:=ae.mk hb;have a2:=ae.mk hbox;clear hb hg hbox;have ap:c1.cell? ⟨aS,0,none⟩ = some (.int .i64 0):=(ah a2.out 0).trans rfl;have ar:=aj a2.out 0) | ((with_reducible refine dh (t:=3) (p:=9) rfl ?_);refine cU (t:=3) (p:=9) (v:=?vo2) (w1:=(c1.setCell ⟨aS,0,none⟩ (.int .i64 ee))) ?hg ?ho ?hn ?hr ?_;(case ho=>rfl);(case hg=>rfl);(case hn=>rfl);(case hr=>first | (go_simp;done) | (go_simp;rfl));intro b0 hw;have hb:Below wr.heap.size wr b0:=(by rw [hw];exact ct cb.out (Nat.le_of_eq ca.out.symm));have m5:ae (b0.heap[aS]? = some (.cells #[.int .i64 ee] 3 (0,0))):=⟨by rw [hw];exact dQ a2.out 0 _ rfl⟩;clear a2 hw ap ar;have a2:=m5;clear m5;replace HB:=ae.mk (ax HB.out hb);have m_:=ae.mk (Kd.bK aL.out hb);clear aL;have aL:=m_;clear m_;have m_:=ae.mk (aU y.out hb);clear y;have y:=m_;clear m_;have m_:=ae.mk (aU j.out hb);clear j;have j:=m_;clear m_;have m_:=ae.mk (aU z.out hb);clear z;have z:=m_;clear m_;clear hb cb ca;have X:b0.cell? ⟨aB,0,none⟩ = some ((.int .i64 aw)):=(ah y.out 0).trans rfl;have Y:=aj y.out 0;have a0:b0.cell? ⟨aB,1,none⟩ = some ((.slice (some b3) a3.length aF)):=(ah y.out 1).trans rfl;have a1:=aj y.out 1;have a4:b0.cell? ⟨ao,0,none⟩ = some (.int .i64 0):=(ah j.out 0).trans rfl;have a5:=aj j.out 0;have a6:b0.cell? ⟨ao,1,none⟩ = some (.int .i64 0):=(ah j.out 1).trans rfl;have a7:=aj j.out 1;have a8:b0.cell? ⟨ao,2,none⟩ = some (.int .i64 0):=(ah j.out 2).trans rfl;have a9:=aj j.out 2;have ab:b0.cell? ⟨aP,0,none⟩ = some (.int .i64 aa):=(ah z.out 0).trans rfl;have am:=aj z.out 0;have ap:b0.cell? ⟨aS,0,none⟩ = some (.int .i64 ee):=(ah a2.out 0).trans rfl;have ar:=aj a2.out 0) | ((with_reducible refine b8 (f:=62) rfl ?_);refine af.gl (some 44) Try.func62 #[.int .i64 (Go.bits .andNot .i64 bb aa)] ?_;(with_reducible refine (aD.calls k3 (Go.bits .andNot .i64 bb aa) fs _ A3.out).mono ?_);rintro e b2 ⟨v1,rfl,ho,hb⟩;refine ⟨_,rfl,?_⟩;obtain ⟨Af,cf,ef⟩:=Kd.bA ho;subst ef;have bc:=ae.mk (Kd.aJ ho).2.2;clear ho;replace HB:=ae.mk (ax HB.out hb);have m_:=ae.mk (Kd.bK aL.out hb);clear aL;have aL:=m_;clear m_;have m_:=ae.mk (aU y.out hb);clear y;have y:=m_;clear m_;have m_:=ae.mk (aU j.out hb);clear j;have j:=m_;clear m_;have m_:=ae.mk (aU z.out hb);clear z;have z:=m_;clear m_;have m_:=ae.mk (aU a2.out hb);clear a2;have a2:=m_;clear m_;have cc:=bc;clear bc;clear hb X a0 Y a1 ab am a4 a6 a8 a5 a7 a9 ap ar;have X:b2.cell? ⟨aB,0,none⟩ = some ((.int .i64 aw)):=(ah y.out 0).trans rfl;have Y:=aj y.out 0;have a0:b2.cell? ⟨aB,1,none⟩ = some ((.slice (some b3) a3.length aF)):=(ah y.out 1).trans rfl;have a1:=aj y.out 1;have a4:b2.cell? ⟨ao,0,none⟩ = some (.int .i64 0):=(ah j.out 0).trans rfl;have a5:=aj j.out 0;have a6:b2.cell? ⟨ao,1,none⟩ = some (.int .i64 0):=(ah j.out 1).trans rfl;have a7:=aj j.out 1;have a8:b2.cell? ⟨ao,2,none⟩ = some (.int .i64 0):=(ah j.out 2).trans rfl;have a9:=aj j.out 2;have ab:b2.cell? ⟨aP,0,none⟩ = some (.int .i64 aa):=(ah z.out 0).trans rfl;have am:=aj z.out 0;have ap:b2.cell? ⟨aS,0,none⟩ = some (.int .i64 ee):=(ah a2.out 0).trans rfl;have ar:=aj a2.out 0) | ((with_reducible refine b8 (f:=132) rfl ?_);refine af.gl (some 46) Try.func132 #[.slice Af fs.length cf,.func (.func 145) #[] #[.pointer (some ⟨aB,0,none⟩),.pointer (some ⟨aP,0,none⟩),.pointer (some ⟨aS,0,none⟩)]] ?_;(with_reducible refine (aZ.calls k3 _ _ fs _ (fun f=>bq.f k3 a3 aa ee f) true _ cc.out (bq.mH k3 aw (some b3) aF a3 aa ee aB aP aS _ y.out z.out a2.out (Kd.aX HR.out HB.out) HC.out) A4.out).mono ?_);rintro e bi ⟨rfl,hb⟩;refine ⟨_,rfl,?_⟩;replace HB:=ae.mk (ax HB.out hb);have m_:=ae.mk (Kd.bK aL.out hb);clear aL;have aL:=m_;clear m_;have m_:=ae.mk (aU y.out hb);clear y;have y:=m_;clear m_;have m_:=ae.mk (aU j.out hb);clear j;have j:=m_;clear m_;have m_:=ae.mk (aU z.out hb);clear z;have z:=m_;clear m_;have m_:=ae.mk (aU a2.out hb);clear a2;have a2:=m_;clear m_;clear hb X a0 Y a1 ab am a4 a6 a8 a5 a7 a9 ap ar;have a4:bi.cell? ⟨ao,0,none⟩ = some (.int .i64 0):=(ah j.out 0).trans rfl;have a5:=aj j.out 0;have a6:bi.cell? ⟨ao,1,none⟩ = some (.int .i64 0):=(ah j.out 1).trans rfl;have a7:=aj j.out 1;have a8:bi.cell? ⟨ao,2,none⟩ = some (.int .i64 0):=(ah j.out 2).trans rfl;have a9:=aj j.out 2;have ab:bi.cell? ⟨aP,0,none⟩ = some (.int .i64 aa):=(ah z.out 0).trans rfl;have am:=aj z.out 0;have ap:bi.cell? ⟨aS,0,none⟩ = some (.int .i64 ee):=(ah a2.out 0).trans rfl;have ar:=aj a2.out 0))
         go_roundg k3
         case measure=>have:=bo.out;have:=bs.out;have:=cd.out;omega
         case rel=>exact ⟨(wrap64 (x3+1)),rfl,H',⟨by have:=bo.out;have:=bs.out;have:=cd.out;omega⟩,y,j,z,aL,HB⟩
        | false =>
         rw [if_neg (by decide)] at H
         simp only [Option.some.injEq,Prod.mk.injEq] at H
         obtain ⟨rfl,rfl,rfl,rfl⟩:=H
         have ab:wr.cell? ⟨aP,0,none⟩ = some (.int .i64 aa):=(ah z.out 0).trans rfl
         have am:=aj z.out 0
         have X:wr.cell? ⟨aB,0,none⟩ = some ((.int .i64 aw)):=(ah y.out 0).trans rfl
         have Y:=aj y.out 0
         have a0:wr.cell? ⟨aB,1,none⟩ = some ((.slice (some b3) a3.length aF)):=(ah y.out 1).trans rfl
         have a1:=aj y.out 1
         have a4:wr.cell? ⟨ao,0,none⟩ = some (.int .i64 0):=(ah j.out 0).trans rfl
         have a5:=aj j.out 0
         have a6:wr.cell? ⟨ao,1,none⟩ = some (.int .i64 0):=(ah j.out 1).trans rfl
         have a7:=aj j.out 1
         have a8:wr.cell? ⟨ao,2,none⟩ = some (.int .i64 0):=(ah j.out 2).trans rfl
         have a9:=aj j.out 2
         go_wp2_with (first | ((with_reducible refine bf (N:=9) rfl ?_);refine af.bx 9 #[.int .i64 0] 3 ?_;intro aS hg c1 hbox hb;have d1:=ae.mk ((by rw [hg];exact aA HB.out):w.heap.size≤aS);have ca:=ae.mk hg;have cb:=ae.mk hb;have a2:=ae.mk hbox;clear hb hg hbox;have ap:c1.cell? ⟨aS,0,none⟩ = some (.int .i64 0):=(ah a2.out 0).trans rfl;have ar:=aj a2.out 0) | ((with_reducible refine dh (t:=3) (p:=9) rfl ?_);refine cU (t:=3) (p:=9) (v:=?vo3) (w1:=(c1.setCell ⟨aS,0,none⟩ (.int .i64 ee))) ?hg ?ho ?hn ?hr ?_;(case ho=>rfl);(case hg=>rfl);(case hn=>rfl);(case hr=>first | (go_simp;done) | (go_simp;rfl));intro b0 hw;have hb:Below wr.heap.size wr b0:=(by rw [hw];exact ct cb.out (Nat.le_of_eq ca.out.symm));have m5:ae (b0.heap[aS]? = some (.cells #[.int .i64 ee] 3 (0,0))):=⟨by rw [hw];exact dQ a2.out 0 _ rfl⟩;clear a2 hw ap ar;have a2:=m5;clear m5;replace HB:=ae.mk (ax HB.out hb);have m_:=ae.mk (Kd.bK aL.out hb);clear aL;have aL:=m_;clear m_;have m_:=ae.mk (aU y.out hb);clear y;have y:=m_;clear m_;have m_:=ae.mk (aU j.out hb);clear j;have j:=m_;clear m_;have m_:=ae.mk (aU z.out hb);clear z;have z:=m_;clear m_;clear hb cb ca;have X:b0.cell? ⟨aB,0,none⟩ = some ((.int .i64 aw)):=(ah y.out 0).trans rfl;have Y:=aj y.out 0;have a0:b0.cell? ⟨aB,1,none⟩ = some ((.slice (some b3) a3.length aF)):=(ah y.out 1).trans rfl;have a1:=aj y.out 1;have a4:b0.cell? ⟨ao,0,none⟩ = some (.int .i64 0):=(ah j.out 0).trans rfl;have a5:=aj j.out 0;have a6:b0.cell? ⟨ao,1,none⟩ = some (.int .i64 0):=(ah j.out 1).trans rfl;have a7:=aj j.out 1;have a8:b0.cell? ⟨ao,2,none⟩ = some (.int .i64 0):=(ah j.out 2).trans rfl;have a9:=aj j.out 2;have ab:b0.cell? ⟨aP,0,none⟩ = some (.int .i64 aa):=(ah z.out 0).trans rfl;have am:=aj z.out 0;have ap:b0.cell? ⟨aS,0,none⟩ = some (.int .i64 ee):=(ah a2.out 0).trans rfl;have ar:=aj a2.out 0) | ((with_reducible refine b8 (f:=62) rfl ?_);refine af.gl (some 44) Try.func62 #[.int .i64 (Go.bits .andNot .i64 bb aa)] ?_;(with_reducible refine (aD.calls k3 (Go.bits .andNot .i64 bb aa) fs _ A3.out).mono ?_);rintro e b2 ⟨v1,rfl,ho,hb⟩;refine ⟨_,rfl,?_⟩;obtain ⟨Af,cf,ef⟩:=Kd.bA ho;subst ef;have bc:=ae.mk (Kd.aJ ho).2.2;clear ho;replace HB:=ae.mk (ax HB.out hb);have m_:=ae.mk (Kd.bK aL.out hb);clear aL;have aL:=m_;clear m_;have m_:=ae.mk (aU y.out hb);clear y;have y:=m_;clear m_;have m_:=ae.mk (aU j.out hb);clear j;have j:=m_;clear m_;have m_:=ae.mk (aU z.out hb);clear z;have z:=m_;clear m_;have m_:=ae.mk (aU a2.out hb);clear a2;have a2:=m_;clear m_;have cc:=bc;clear bc;clear hb X a0 Y a1 ab am a4 a6 a8 a5 a7 a9 ap ar;have X:b2.cell? ⟨aB,0,none⟩ = some ((.int .i64 aw)):=(ah y.out 0).trans rfl;have Y:=aj y.out 0;have a0:b2.cell? ⟨aB,1,none⟩ = some ((.slice (some b3) a3.length aF)):=(ah y.out 1).trans rfl;have a1:=aj y.out 1;have a4:b2.cell? ⟨ao,0,none⟩ = some (.int .i64 0):=(ah j.out 0).trans rfl;have a5:=aj j.out 0;have a6:b2.cell? ⟨ao,1,none⟩ = some (.int .i64 0):=(ah j.out 1).trans rfl;have a7:=aj j.out 1;have a8:b2.cell? ⟨ao,2,none⟩ = some (.int .i64 0):=(ah j.out 2).trans rfl;have a9:=aj j.out 2;have ab:b2.cell? ⟨aP,0,none⟩ = some (.int .i64 aa):=(ah z.out 0).trans rfl;have am:=aj z.out 0;have ap:b2.cell? ⟨aS,0,none⟩ = some (.int .i64 ee):=(ah a2.out 0).trans rfl;have ar:=aj a2.out 0) | ((with_reducible refine b8 (f:=132) rfl ?_);refine af.gl (some 46) Try.func132 #[.slice Af fs.length cf,.func (.func 145) #[] #[.pointer (some ⟨aB,0,none⟩),.pointer (some ⟨aP,0,none⟩),.pointer (some ⟨aS,0,none⟩)]] ?_;(with_reducible refine (aZ.calls k3 _ _ fs _ (fun f=>bq.f k3 a3 aa ee f) false _ cc.out (bq.mH k3 aw (some b3) aF a3 aa ee aB aP aS _ y.out z.out a2.out (Kd.aX HR.out HB.out) HC.out) A4.out).mono ?_);rintro e bi ⟨rfl,hb⟩;refine ⟨_,rfl,?_⟩;replace HB:=ae.mk (ax HB.out hb);have m_:=ae.mk (Kd.bK aL.out hb);clear aL;have aL:=m_;clear m_;have m_:=ae.mk (aU y.out hb);clear y;have y:=m_;clear m_;have m_:=ae.mk (aU j.out hb);clear j;have j:=m_;clear m_;have m_:=ae.mk (aU z.out hb);clear z;have z:=m_;clear m_;have m_:=ae.mk (aU a2.out hb);clear a2;have a2:=m_;clear m_;clear hb X a0 Y a1 ab am a4 a6 a8 a5 a7 a9 ap ar;have a4:bi.cell? ⟨ao,0,none⟩ = some (.int .i64 0):=(ah j.out 0).trans rfl;have a5:=aj j.out 0;have a6:bi.cell? ⟨ao,1,none⟩ = some (.int .i64 0):=(ah j.out 1).trans rfl;have a7:=aj j.out 1;have a8:bi.cell? ⟨ao,2,none⟩ = some (.int .i64 0):=(ah j.out 2).trans rfl;have a9:=aj j.out 2;have ab:bi.cell? ⟨aP,0,none⟩ = some (.int .i64 aa):=(ah z.out 0).trans rfl;have am:=aj z.out 0;have ap:bi.cell? ⟨aS,0,none⟩ = some (.int .i64 ee):=(ah a2.out 0).trans rfl;have ar:=aj a2.out 0))
         refine bodyPost_ret (de rfl _ _ ao 108 #[.int .i64 aa,.int .i64 bb,.int .i64 ee] (0,0) _ rfl (by refine dQ (cs:=#[.int .i64 aa,.int .i64 bb,.int .i64 0]) ?_ 2 _ rfl;refine dQ (cs:=#[.int .i64 aa,.int .i64 0,.int .i64 0]) ?_ 1 _ rfl;refine dQ (cs:=#[.int .i64 0,.int .i64 0,.int .i64 0]) ?_ 0 _ rfl;exact j.out) Try.underlying108 rfl (by kernel_rfl)) rfl ?_
         exact ⟨rfl,by repeat (first | exact HB.out | refine ct ?_ bm.out)⟩
def cz.f (k:Nat) (y:Int) (j:List Int):Option (Bool):=(av.f k y j).bind fun z=>((bg.f k y j).bind fun t228=>(if t228 = true then (if (j.length:Int) > 0 then (some (!z.2.2.2)) else (some false)) else (some false)))
set_option maxHeartbeats 8000000 in
set_option maxRecDepth 100000 in
theorem cz.calls (k:Nat) (z:Int) (a0:Option Addr) (a1:Nat) (y:List Int) (r:Bool) (w:World) (a5:Kd.C (Kd.int .i64) w a0 y.length y) (a6:y.length≤a1) (h:cz.f k z y = some r) :
  Calls Try.prog 81 #[.agg #[.int .i64 z,.slice a0 y.length a1]] w fun e w'=>e = .returned (.bool r)∧Below w.heap.size w w':=by
 have dv:=Try.underlying35
 have df:=Try.underlying108
 have a2:=ae.mk a5
 have a3:=ae.mk a6
 clear a5 a6
 have HB:=ae.mk (Below.refl w.heap.size w)
 unfold cz.f at h
 have H:=h
 clear h
 obtain ⟨⟨t223,t224,t225,t226⟩,A2,H⟩:=af.be H
 (try dsimp only at H)
 obtain ⟨t228,A3,H⟩:=af.be H
 (try dsimp only at H)
 by_cases c4:t228 = true
 ·subst c4
  replace H:(if (y.length:Int) > 0 then (some (!t226)) else (some false)) = some r:=by rw [if_pos rfl] at H;exact H
  by_cases c5:(y.length:Int) > 0
  ·rw [if_pos c5] at H
   have ao:=decide_eq_true c5
   have ap:decide (0 < y.length) = true:=decide_eq_true (by omega)
   clear c5
   obtain rfl:=Option.some.inj H
   go_enter Try.func81,Try.ntmps81
   go_wp2_with (first | ((with_reducible refine bf (N:=1) rfl ?_);(try (refine bV (by rfl) ?_;dsimp only));refine ck ?hg (N:=1) ?hd (cs:=#[.int .i64 z,.slice a0 y.length a1]) (t:=35) ?hr ?_;(case hd=>rfl);(case hg=>rfl);(case hr=>first | (go_simp;done) | (go_simp;rfl));intro a7 hg w6 hbox hb;have j:=ae.mk hbox;have a8:=af.gw hg HB;have a9:=af.gw hg HB;replace HB:=af.lb HB hb;clear hb hbox hg;obtain ⟨d8,d9,db,dd⟩:=af.cY j.out) | (refine af.gl (some 7) Try.func119 #[.agg #[.int .i64 z,.slice a0 y.length a1]] ?_;(with_reducible refine (av.calls k z _ _ y t223 t224 t225 t226 _ ?side1 ?side2 A2.out).mono ?_);(case side1=>exact af.Cw (Kd.aX a2.out HB.out));(case side2=>exact a3.out);rintro e w8 ⟨rfl,hb⟩;refine ⟨_,rfl,?_⟩;replace j:=af.bb j hb;replace HB:=ae.mk (ax af.L hb);(try clear hb);(try clear ar);(try clear hk);(try clear hi)) | ((with_reducible refine bf (N:=3) rfl ?_);(try (refine bV (by rfl) ?_;dsimp only));refine ck ?hg (N:=3) ?hd (cs:=#[.int .i64 0,.int .i64 0,.int .i64 0]) (t:=108) ?hr ?_;(case hd=>rfl);(case hg=>rfl);(case hr=>first | (go_simp;done) | (go_simp;rfl));intro aa hg w9 hbox hb;have a4:=ae.mk hbox;have ab:=af.gL (w:=w) hg af.L;have am:=af.gL (w:=w) hg af.L;replace HB:=ae.mk (ax af.L hb);have X:=af.nl hg j;have Y:=af.ng hg j;replace j:=af.bb j hb;clear hb hbox hg;have dk:=Y.out;have dl:=X.out;obtain ⟨aw,aB,aF,aL,aO,aP⟩:=af.bW a4.out;obtain ⟨aS,b0,b2,b3⟩:=af.cY j.out) | (refine af.gl (some 14) Try.func120 #[.int .i64 z,.slice a0 y.length a1] ?_;(with_reducible refine (bg.calls k z _ _ y true _ ?side1 ?side2 A3.out).mono ?_);(case side1=>exact Kd.aX a2.out af.L);(case side2=>exact a3.out);rintro e w' ⟨rfl,⟨nd,rfl⟩⟩;refine ⟨_,rfl,?_⟩))
   go_ret
   exact ⟨af.E,af.L⟩
  ·rw [if_neg c5] at H
   have ao:decide (0 < (y.length:Int)) = false:=decide_eq_false c5
   have ap:decide (0 < y.length) = false:=decide_eq_false (by omega)
   clear c5
   obtain rfl:=Option.some.inj H
   go_enter Try.func81,Try.ntmps81
   go_wp2_with (first | ((with_reducible refine bf (N:=1) rfl ?_);(try (refine bV (by rfl) ?_;dsimp only));refine ck ?hg (N:=1) ?hd (cs:=#[.int .i64 z,.slice a0 y.length a1]) (t:=35) ?hr ?_;(case hd=>rfl);(case hg=>rfl);(case hr=>first | (go_simp;done) | (go_simp;rfl));intro a7 hg dC hbox hb;have j:=ae.mk hbox;have a8:=af.gw hg HB;have a9:=af.gw hg HB;replace HB:=af.lb HB hb;clear hb hbox hg;obtain ⟨b4,ba,bc,bi⟩:=af.cY j.out) | (refine af.gl (some 7) Try.func119 #[.agg #[.int .i64 z,.slice a0 y.length a1]] ?_;(with_reducible refine (av.calls k z _ _ y t223 t224 t225 t226 _ ?side1 ?side2 A2.out).mono ?_);(case side1=>exact af.Cw (Kd.aX a2.out HB.out));(case side2=>exact a3.out);rintro e dE ⟨rfl,hb⟩;refine ⟨_,rfl,?_⟩;replace j:=af.bb j hb;replace HB:=ae.mk (ax af.L hb);(try clear hb);(try clear ar);(try clear hk);(try clear hi)) | ((with_reducible refine bf (N:=3) rfl ?_);(try (refine bV (by rfl) ?_;dsimp only));refine ck ?hg (N:=3) ?hd (cs:=#[.int .i64 0,.int .i64 0,.int .i64 0]) (t:=108) ?hr ?_;(case hd=>rfl);(case hg=>rfl);(case hr=>first | (go_simp;done) | (go_simp;rfl));intro aa hg dT hbox hb;have a4:=ae.mk hbox;have ab:=af.gL (w:=w) hg af.L;have am:=af.gL (w:=w) hg af.L;replace HB:=ae.mk (ax af.L hb);have X:=af.nl hg j;have Y:=af.ng hg j;replace j:=af.bb j hb;clear hb hbox hg;have dp:=Y.out;have dq:=X.out;obtain ⟨bm,bo,bs,bv,c0,c1⟩:=af.bW a4.out;obtain ⟨ca,cb,cc,cd⟩:=af.cY j.out) | (refine af.gl (some 14) Try.func120 #[.int .i64 z,.slice a0 y.length a1] ?_;(with_reducible refine (bg.calls k z _ _ y true _ ?side1 ?side2 A3.out).mono ?_);(case side1=>exact Kd.aX a2.out af.L);(case side2=>exact a3.out);rintro e w' ⟨rfl,⟨nd,rfl⟩⟩;refine ⟨_,rfl,?_⟩))
   go_ret
   exact ⟨af.E,af.L⟩
 ·replace c4:=Bool.eq_false_iff.mpr c4
  subst c4
  replace H:(some false) = some r:=by rw [if_neg (show ¬ (false = true) by decide)] at H;exact H
  obtain rfl:=Option.some.inj H
  go_enter Try.func81,Try.ntmps81
  go_wp2_with (first | ((with_reducible refine bf (N:=1) rfl ?_);(try (refine bV (by rfl) ?_;dsimp only));refine ck ?hg (N:=1) ?hd (cs:=#[.int .i64 z,.slice a0 y.length a1]) (t:=35) ?hr ?_;(case hd=>rfl);(case hg=>rfl);(case hr=>first | (go_simp;done) | (go_simp;rfl));intro a7 hg e0 hbox hb;have j:=ae.mk hbox;have a8:=af.gw hg HB;have a9:=af.gw hg HB;replace HB:=af.lb HB hb;clear hb hbox hg;obtain ⟨ce,cf,ch,ci⟩:=af.cY j.out) | (refine af.gl (some 7) Try.func119 #[.agg #[.int .i64 z,.slice a0 y.length a1]] ?_;(with_reducible refine (av.calls k z _ _ y t223 t224 t225 t226 _ ?side1 ?side2 A2.out).mono ?_);(case side1=>exact af.Cw (Kd.aX a2.out HB.out));(case side2=>exact a3.out);rintro e e1 ⟨rfl,hb⟩;refine ⟨_,rfl,?_⟩;replace j:=af.bb j hb;replace HB:=ae.mk (ax af.L hb);(try clear hb);(try clear ar);(try clear hk);(try clear hi)) | ((with_reducible refine bf (N:=3) rfl ?_);(try (refine bV (by rfl) ?_;dsimp only));refine ck ?hg (N:=3) ?hd (cs:=#[.int .i64 0,.int .i64 0,.int .i64 0]) (t:=108) ?hr ?_;(case hd=>rfl);(case hg=>rfl);(case hr=>first | (go_simp;done) | (go_simp;rfl));intro aa hg e2 hbox hb;have a4:=ae.mk hbox;have ab:=af.gL (w:=w) hg af.L;have am:=af.gL (w:=w) hg af.L;replace HB:=ae.mk (ax af.L hb);have X:=af.nl hg j;have Y:=af.ng hg j;replace j:=af.bb j hb;clear hb hbox hg;have dt:=Y.out;have du:=X.out;obtain ⟨cp,cq,d0,d1,d2,d3⟩:=af.bW a4.out;obtain ⟨d4,d5,d6,d7⟩:=af.cY j.out) | (refine af.gl (some 14) Try.func120 #[.int .i64 z,.slice a0 y.length a1] ?_;(with_reducible refine (bg.calls k z _ _ y false _ ?side1 ?side2 A3.out).mono ?_);(case side1=>exact Kd.aX a2.out af.L);(case side2=>exact a3.out);rintro e w' ⟨rfl,⟨nd,rfl⟩⟩;refine ⟨_,rfl,?_⟩))
  go_ret
  exact ⟨af.E,af.L⟩
def bR.l0:Nat→List Int→Int→Int→Option (Bool)
 | 0,_,_,_=>none
 | k+1,y,z,j=>if j < z then (if 0≤j then (if j < (y.length:Int) then ((bM.f (rd y j)).bind fun t230=>(if t230 = true then (bR.l0 k y z (wrap64 (j+1))) else (some false))) else (none)) else (none)) else (some true)
def bR.f (k:Nat) (l0:List Int):Option (Bool):=bR.l0 k l0 (l0.length:Int) 0
set_option maxHeartbeats 8000000 in
set_option maxRecDepth 100000 in
theorem bR.calls (k:Nat) (A0:Option Addr) (c0:Nat) (l0:List Int) (r:Bool) (w:World) (Y:Kd.C (Kd.int .i64) w A0 l0.length l0) (a0:l0.length≤c0) (h:bR.f k l0 = some r) :
  Calls Try.prog 130 #[.slice A0 l0.length c0] w fun e w'=>e = .returned (.bool r)∧bQ w w':=by
 have a1:=ae.mk Y
 have a8:=ae.mk a0
 clear Y a0
 unfold bR.f at h
 have H:=h
 clear h
 have H':=ae.mk H
 clear H
 go_enter Try.func130,Try.ntmps130
 go_wp2
 go_loopg [7] k (fun kq v7 w'=>∃ (j:Int),v7 = .int .i64 j∧ae (bR.l0 kq l0 (l0.length:Int) j = some r)∧ae (kq≤k)∧bQ w w')
 case atStart=>exact ⟨(0),af.F,H',⟨Nat.le_refl _⟩,af.G⟩
 case round =>
  clear H'
  obtain ⟨j,rfl,HA,a2,⟨m1,rfl⟩⟩:=hrel
  cases gk with
  | zero=>exact absurd HA.out (by simp [bR.l0])
  | succ k1 =>
   have H:=HA.out
   clear HA
   simp only [bR.l0] at H
   by_cases c2:j < (l0.length:Int)
   ·rw [if_pos c2] at H
    have a3:=decide_eq_true c2
    clear c2
    obtain ⟨c3,H⟩:=af.ip H
    have a6:=decide_eq_true c3
    clear c3
    obtain ⟨c4,H⟩:=af.ip H
    have a7:=decide_eq_true c4
    clear c4
    obtain ⟨t230,A5,H⟩:=af.be H
    (try dsimp only at H)
    by_cases c6:t230 = true
    ·subst c6
     replace H:(bR.l0 k1 l0 (l0.length:Int) (wrap64 (j+1))) = some r:=by rw [if_pos rfl] at H;exact H
     have H':=ae.mk H
     clear H
     obtain ⟨X,y,z,a4,a5⟩:=af.ai a1.out j
     cases y
     go_wp2_with (first | (refine af.gl (some 12) Try.func121 #[.int .i64 (rd l0 j)] ?_;(with_reducible refine (bM.calls (rd l0 j) true _ A5.out).mono ?_);rintro e w' ⟨rfl,⟨nd,rfl⟩⟩;refine ⟨_,rfl,?_⟩))
     go_roundg k1
     case measure=>have:=a2.out;omega
     case rel=>exact ⟨(wrap64 (j+1)),af.F,H',⟨by have:=a2.out;omega⟩,af.G⟩
    ·replace c6:=Bool.eq_false_iff.mpr c6
     subst c6
     replace H:(some false) = some r:=by rw [if_neg (show ¬ (false = true) by decide)] at H;exact H
     obtain rfl:=Option.some.inj H
     obtain ⟨X,y,z,a4,a5⟩:=af.ai a1.out j
     cases y
     go_wp2_with (first | (refine af.gl (some 12) Try.func121 #[.int .i64 (rd l0 j)] ?_;(with_reducible refine (bM.calls (rd l0 j) false _ A5.out).mono ?_);rintro e w' ⟨rfl,⟨nd,rfl⟩⟩;refine ⟨_,rfl,?_⟩))
     go_ret
     exact ⟨af.F,af.G⟩
   ·rw [if_neg c2] at H
    have a3:decide (j < (l0.length:Int)) = false:=decide_eq_false c2
    clear c2
    obtain rfl:=Option.some.inj H
    go_wp2
    go_ret
    exact ⟨af.F,af.G⟩
end Go.Proofs.Ytmpodackojmojaa.Pr
end
section
namespace Go.Proofs.Ytmpodackojmojaa.Lay
open Go.Shelf Go.Proofs
def kS:Go.Shelf.Ren:=⟨fun | 189=>154 | 125=>164 | 257=>163 | 128=>177 | 129=>178 | 294=>168 | 295=>169 | 296=>170 | 297=>171 | 298=>172 | 299=>173 | 216=>174 | 300=>175 | 301=>176 | 328=>179 | 329=>180 | 330=>181 | 331=>182 | 332=>183 | 215=>184 | 343=>185 | n=>n,fun | 28=>24 | 3=>3 | 46=>97 | 0=>0 | 51=>128 | 53=>130 | 4=>4 | 183=>139 | 182=>138 | 131=>41 | 5=>5 | 9=>9 | 218=>144 | 222=>148 | 228=>150 | 229=>151 | n=>n,fun | n=>n⟩
theorem lK:Go.Proofs.Lays.n189 Try.prog kS:={
 mixed:=by kernel_rfl
 f125:=Try.func164.trans (congrArg some (by kernel_rfl))
 f128:=Try.func177.trans (congrArg some (by kernel_rfl))
 f129:=Try.func178.trans (congrArg some (by kernel_rfl))
 f189:=Try.func154.trans (congrArg some (by kernel_rfl))
 f215:=Try.func184.trans (congrArg some (by kernel_rfl))
 f216:=Try.func174.trans (congrArg some (by kernel_rfl))
 f257:=Try.func163.trans (congrArg some (by kernel_rfl))
 f294:=Try.func168.trans (congrArg some (by kernel_rfl))
 f295:=Try.func169.trans (congrArg some (by kernel_rfl))
 f296:=Try.func170.trans (congrArg some (by kernel_rfl))
 f297:=Try.func171.trans (congrArg some (by kernel_rfl))
 f298:=Try.func172.trans (congrArg some (by kernel_rfl))
 f299:=Try.func173.trans (congrArg some (by kernel_rfl))
 f300:=Try.func175.trans (congrArg some (by kernel_rfl))
 f301:=Try.func176.trans (congrArg some (by kernel_rfl))
 f328:=Try.func179.trans (congrArg some (by kernel_rfl))
 f329:=Try.func180.trans (congrArg some (by kernel_rfl))
 f330:=Try.func181.trans (congrArg some (by kernel_rfl))
 f331:=Try.func182.trans (congrArg some (by kernel_rfl))
 f332:=Try.func183.trans (congrArg some (by kernel_rfl))
 f343:=Try.func185.trans (congrArg some (by kernel_rfl))
 t0:=Try.underlying0
 a0:=Try.isAgg0
 z0:=Try.sizeOf0
 v0:=Try.zeroValue0
 t3:=Try.underlying3
 a3:=Try.isAgg3
 z3:=Try.sizeOf3
 v3:=Try.zeroValue3
 t4:=Try.underlying4
 a4:=Try.isAgg4
 z4:=Try.sizeOf4
 v4:=Try.zeroValue4
 t5:=Try.underlying5
 a5:=Try.isAgg5
 z5:=Try.sizeOf5
 v5:=Try.zeroValue5
 t9:=Try.underlying9
 a9:=Try.isAgg9
 z9:=Try.sizeOf9
 v9:=Try.zeroValue9
 t28:=Try.underlying24
 a28:=Try.isAgg24
 z28:=Try.sizeOf24
 v28:=Try.zeroValue24
 t46:=Try.underlying97
 a46:=Try.isAgg97
 z46:=Try.sizeOf97
 v46:=Try.zeroValue97
 t51:=Try.underlying128
 a51:=Try.isAgg128
 z51:=Try.sizeOf128
 v51:=Try.zeroValue128
 t53:=Try.underlying130
 a53:=Try.isAgg130
 z53:=Try.sizeOf130
 v53:=Try.zeroValue130
 t131:=Try.underlying41
 a131:=Try.isAgg41
 z131:=Try.sizeOf41
 v131:=Try.zeroValue41
 t182:=Try.underlying138
 a182:=Try.isAgg138
 z182:=Try.sizeOf138
 v182:=Try.zeroValue138
 t183:=Try.underlying139
 a183:=Try.isAgg139
 z183:=Try.sizeOf139
 v183:=Try.zeroValue139
 t218:=Try.underlying144
 a218:=Try.isAgg144
 z218:=Try.sizeOf144
 v218:=Try.zeroValue144
 t222:=Try.underlying148
 a222:=Try.isAgg148
 z222:=Try.sizeOf148
 v222:=Try.zeroValue148
 t228:=Try.underlying150
 a228:=Try.isAgg150
 z228:=Try.sizeOf150
 v228:=Try.zeroValue150
 t229:=Try.underlying151
 a229:=Try.isAgg151
 z229:=Try.sizeOf151
 v229:=Try.zeroValue151 }
def jd:Go.Shelf.Ren:=⟨fun | 20=>155 | n=>n,fun | 22=>24 | 3=>3 | 4=>4 | 0=>0 | n=>n,fun | n=>n⟩
theorem j5:Go.Proofs.Lays2.n20 Try.prog jd:={
 mixed:=by kernel_rfl
 f20:=Try.func155.trans (congrArg some (by kernel_rfl))
 t0:=Try.underlying0
 a0:=Try.isAgg0
 z0:=Try.sizeOf0
 v0:=Try.zeroValue0
 t3:=Try.underlying3
 a3:=Try.isAgg3
 z3:=Try.sizeOf3
 v3:=Try.zeroValue3
 t4:=Try.underlying4
 a4:=Try.isAgg4
 z4:=Try.sizeOf4
 v4:=Try.zeroValue4
 t22:=Try.underlying24
 a22:=Try.isAgg24
 z22:=Try.sizeOf24
 v22:=Try.zeroValue24
 i3:=by kernel_rfl }
end Go.Proofs.Ytmpodackojmojaa.Lay
end
section
namespace Go.Proofs.Ytmpodackojmojaa.iP
open Go.RowKit Go.Shelf Go.Sort Go.Proofs.ag.aT
def sorted (xs:List Int):List Int:=xs.mergeSort fun x y=>decide (x≤y)
theorem eE (xs:List Int):(sorted xs).length = xs.length:=List.length_mergeSort xs
theorem mI {w:World} {base:Nat} {ok:Nat→Prop} {v:Value} {xs:List Int} (h:(Kd.int .i64).R 3 w base ok v xs) (hs:xs.length < 4611686018427387904) :
  Calls Try.prog 154 #[v] w fun e w'=>e = .returned (.tuple #[])∧(Kd.int .i64).R 3 w' base ok v (sorted xs)∧(∀ w0:World,Below base w0 w→Below base w0 w')∧w.grownBy w' v.ownBlock:=by
 have ho:=Kd.iA h
 rcases ho.2 with ⟨rfl,h0⟩ | ⟨g,cap,cur,rfl,hbase,hb,h1,h2,h3,h4⟩
 ·have hx:xs = []:=List.length_eq_zero_iff.1 h0
  subst hx
  refine (Any.slices_Sort_int_none Lay.lK none 0 w).mono ?_
  rintro e w' ⟨rfl,rfl⟩
  exact ⟨rfl,by simpa [sorted] using h,fun _ hb=>hb,⟨rfl,rfl,rfl,Nat.le_refl _,fun _ _ _=>rfl⟩⟩
 ·have hH:Holds (Value.int .i64) w g 0 xs.toArray:=by
   obtain ⟨g',cap',he,_,_,_,_,_,hH⟩:=Lib.holds_of_ownsRow ho (by simp)
   injection he with y _ _
   injection y with y
   injection y with y _ _
   subst y
   exact hH
  have hlt:g < w.heap.size:=(Array.getElem?_eq_some_iff.1 hb).1
  refine (Any.slices_Sort_int Lay.lK g 0 cap xs w hH hlt hs).mono ?_
  rintro e w' ⟨rfl,n,os,rfl⟩
  have hown:=ownsRow_sortedI (n:=n) (os:=os) (ts:=sorted xs) (eE xs) hbase hb h1 h2 h3
  rw [← eE xs] at hown
  have hg:w.grownBy (grow (putRow (Value.int .i64) (Sort.ahead w n) g 0 (sorted xs).toArray) os) (some g):=grownBy_sortedI _
  refine ⟨rfl,?_,fun w0 z=>?_,?_⟩
  ·have:=Kd.jw (enc:=Value.int .i64) (h1:=fun _=>rfl) (ok:=ok) hown (fun k hk=>h.1 k (by simpa [Value.ownBlock] using hk))
   rw [eE xs] at this
   exact this
  ·exact z.grown hg (by omega) (fun j hj=>by cases hj;exact hbase)
  ·exact hg
theorem kf {w:World} {base:Nat} {ok:Nat→Prop} {v:Value} {xs:List Int} (h:(Kd.int .i64).R 3 w base ok v xs) (hs:xs.length≤9223372036854775807) :
  Calls Try.prog 155 #[v] w fun e w'=>∃ v',e = .returned v'∧(Kd.int .i64).R 3 w' base ok v' (Lib.compact xs)∧(∀ w0:World,Below base w0 w→Below base w0 w'):=by
 have ho:=Kd.iA h
 rcases ho.2 with ⟨rfl,h0⟩ | ⟨g,cap,cur,rfl,hbase,hb,h1,h2,h3,h4⟩
 ·have hx:xs = []:=List.length_eq_zero_iff.1 h0
  subst hx
  refine (Any.slices_Compact_int_empty Lay.j5 none 0 w).mono ?_
  rintro e w' ⟨rfl,rfl⟩
  exact ⟨_,rfl,by simpa [Lib.compact,Lib.compactUpTo] using h,fun _ hb=>hb⟩
 ·have hH:Holds (Value.int .i64) w g 0 xs.toArray:=by
   obtain ⟨g',cap',he,_,_,_,_,_,hH⟩:=Lib.holds_of_ownsRow ho (by simp)
   injection he with j _ _
   injection j with j
   injection j with j _ _
   subst j
   exact hH
  refine (Any.slices_Compact_int Lay.j5 g 0 cap xs w hH hs h1).mono ?_
  rintro e w' ⟨rfl,q,rfl⟩
  have hle:=Lib.compact_length_le xs
  have hc:=Lib.ownsRow_putRow (q:=q) (k:=(Lib.compact xs).length) (ys:=Lib.compact xs ++ List.replicate (xs.length - (Lib.compact xs).length) 0) ho (by simp;omega) hle
  rw [List.take_left] at hc
  refine ⟨_,rfl,?_,fun w0 y=>Lib.below_putRow y hbase⟩
  exact Kd.jw (enc:=Value.int .i64) (h1:=fun _=>rfl) (ok:=ok) hc (fun k hk=>h.1 k (by simpa [Value.ownBlock] using hk))
end Go.Proofs.Ytmpodackojmojaa.iP
end
section
namespace Go.Proofs.Ytmpodackojmojaa.Pr
open Go.RowKit Go.Proofs.ag.aT Go.Proofs.ag.bu Go.Proofs.ag.bw
attribute [local go_sem] gp gq iE iF fz fA gr gu
set_option linter.unusedVariables false
set_option linter.unusedSimpArgs false
def dA.f (l0:List Int):Option (List Int):=if l0.length < 17592186044416 then (some (Lib.compact (iP.sorted l0))) else (none)
set_option maxHeartbeats 8000000 in
set_option maxRecDepth 100000 in
theorem dA.calls (A0:Option Addr) (c0:Nat) (l0:List Int) (r:List Int) (w:World) (z:Kd.C (Kd.int .i64) w A0 l0.length l0) (X:l0.length≤c0) (h:dA.f l0 = some r) :
  Calls Try.prog 131 #[.slice A0 l0.length c0] w fun e w'=>∃ Y:Value,e = .returned (Y)∧Kd.R (Kd.int .i64) 3 w' w.heap.size (fun _=>True) Y r∧Below w.heap.size w w':=by
 unfold dA.f at h
 by_cases hl:l0.length < 17592186044416
 ·rw [if_pos hl] at h
  obtain rfl:=Option.some.inj h
  have HL:=ae.mk hl
  have HR:=ae.mk z
  have HC:=ae.mk X
  clear z X h hl
  go_enter Try.func131,Try.ntmps131
  go_wp2_with (first | (refine af.lt (Kd.int .i64) 3 4 ?_;intro v4 w1 a0 j aa y;have ab:=ae.mk a0;have a1:=ae.mk j;have am:=ae.mk (Kd.aX HR.out j);clear aa y a0 j) | ((with_reducible refine cR (b:=.append) (xs:=#[.tmp 4,.tmp 5]) rfl ?_);at_builtin;refine Kd.k7 (Kd.int .i64) (w0:=w) w.heap.size rfl (.tmp 4) (.tmp 5) 24 3 (.int .i64 0) 8 rfl Try.underlying24 fa rfl (by decide) (by omega) v4 ([]:List Int) l0 _ _ _ (fun _=>True) (fun _=>False) rfl rfl ab.out am.out (fun _ _ h=>h) (fun _ h=>h.elim) (fun _ _=>trivial) a1.out a1.out.size (by have:=HL.out;simp;omega) ?_;intro v6 w2 a2 a3 ao a4;have a5:=ae.mk a2;have ap:=ae.mk a3;clear a2 a3 ao a4;simp only [List.nil_append] at a5) | (refine af.gl (some 8) Try.func154 #[v6] ?_;(with_reducible refine (iP.mI a5.out (by have:=HL.out;omega)).mono ?_);rintro e w3 ⟨rfl,a6,a7,ar⟩;refine ⟨_,rfl,?_⟩;have aw:=ae.mk a6;have aB:=ae.mk (a7 w ap.out);clear a6 a7 ar) | (refine af.gl (some 10) Try.func155 #[v6] ?_;(with_reducible refine (iP.kf aw.out (by have:=HL.out;have:=iP.eE l0;omega)).mono ?_);rintro e w4 ⟨v10,rfl,a8,a9⟩;refine ⟨_,rfl,?_⟩;have aF:=ae.mk a8;have aL:=ae.mk (a9 w aB.out);clear a8 a9))
  go_ret
  exact ⟨_,rfl,aF.out,aL.out⟩
 ·rw [if_neg hl] at h
  exact absurd h (by simp)
def dB.f (a0:Int) (z:Int):Option (Bool):=(bM.f a0).bind fun j=>(if j = true then ((bM.f z).bind fun y=>(if y = true then (some ((Go.bits .andNot .i64 a0 z) == 0)) else (some false))) else (some false))
set_option maxHeartbeats 8000000 in
set_option maxRecDepth 100000 in
theorem dB.calls (a0:Int) (y:Int) (r:Bool) (w:World) (h:dB.f a0 y = some r) :
  Calls Try.prog 134 #[.int .i64 a0,.int .i64 y] w fun e w'=>e = .returned (.bool r)∧bQ w w':=by
 unfold dB.f at h
 have H:=h
 clear h
 obtain ⟨z,X,H⟩:=af.be H
 (try dsimp only at H)
 by_cases c4:z = true
 ·subst c4
  replace H:((bM.f y).bind fun j=>(if j = true then (some ((Go.bits .andNot .i64 a0 y) == 0)) else (some false))) = some r:=by rw [if_pos rfl] at H;exact H
  obtain ⟨j,Y,H⟩:=af.be H
  (try dsimp only at H)
  by_cases c6:j = true
  ·subst c6
   replace H:(some ((Go.bits .andNot .i64 a0 y) == 0)) = some r:=by rw [if_pos rfl] at H;exact H
   obtain rfl:=Option.some.inj H
   go_enter Try.func134,Try.ntmps134
   go_wp2_with (first | ((with_reducible refine b8 (f:=121) rfl ?_);refine af.gl (some 6) Try.func121 #[.int .i64 a0] ?_;(with_reducible refine (bM.calls a0 true _ X.out).mono ?_);rintro e w' ⟨rfl,⟨nd,rfl⟩⟩;refine ⟨_,rfl,?_⟩) | (go_at_call 121;(with_reducible refine (bM.calls y true _ Y.out).mono ?_);rintro e w' ⟨rfl,⟨nd,rfl⟩⟩))
   go_ret
   exact ⟨af.F,af.G⟩
  ·replace c6:=Bool.eq_false_iff.mpr c6
   subst c6
   replace H:(some false) = some r:=by rw [if_neg (show ¬ (false = true) by decide)] at H;exact H
   obtain rfl:=Option.some.inj H
   go_enter Try.func134,Try.ntmps134
   go_wp2_with (first | ((with_reducible refine b8 (f:=121) rfl ?_);refine af.gl (some 6) Try.func121 #[.int .i64 a0] ?_;(with_reducible refine (bM.calls a0 true _ X.out).mono ?_);rintro e w' ⟨rfl,⟨nd,rfl⟩⟩;refine ⟨_,rfl,?_⟩) | (go_at_call 121;(with_reducible refine (bM.calls y false _ Y.out).mono ?_);rintro e w' ⟨rfl,⟨nd,rfl⟩⟩))
   go_ret
   exact ⟨af.F,af.G⟩
 ·replace c4:=Bool.eq_false_iff.mpr c4
  subst c4
  replace H:(some false) = some r:=by rw [if_neg (show ¬ (false = true) by decide)] at H;exact H
  obtain rfl:=Option.some.inj H
  go_enter Try.func134,Try.ntmps134
  go_wp2_with (first | ((with_reducible refine b8 (f:=121) rfl ?_);refine af.gl (some 6) Try.func121 #[.int .i64 a0] ?_;(with_reducible refine (bM.calls a0 false _ X.out).mono ?_);rintro e w' ⟨rfl,⟨nd,rfl⟩⟩;refine ⟨_,rfl,?_⟩))
  go_ret
  exact ⟨af.F,af.G⟩
def bH.f (s t:Int):Option Bool:=if t = s then (some false) else (dB.f s t)
def bz.l0:Nat→List Int→List Int→List Int→Int→Option (List Int)
 | 0,_,_,_,_=>none
 | k+1,l,q,y,j=>if j < (q.length:Int) then (if 0≤j then ((aZ.f k l (fun t=>bH.f (rd q j) t)).bind fun b=>(if b = true then (bz.l0 k l q y (wrap64 (j+1))) else (if y.length < 17592186044416 then (bz.l0 k l q (y ++ [rd q j]) (wrap64 (j+1))) else (none)))) else (none)) else (some y)
def bz.f (k:Nat) (l0:List Int):Option (List Int):=(bR.f k l0).bind fun t=>(if t = true then ((dA.f l0).bind fun q=>(bz.l0 k l0 q [] 0)) else (some []))
set_option maxHeartbeats 8000000 in
set_option maxRecDepth 100000 in
theorem bH.calls (s t:Int) (b:Bool) (gb:Nat) (w:World) (hbk:w.heap[gb]? = some (.cells #[.int .i64 s] 3 (0,0))) (h:bH.f s t = some b) :
  Calls Try.prog 133 #[.int .i64 t,.pointer (some ⟨gb,0,none⟩)] w fun e w'=>e = .returned (.bool b)∧Below w.heap.size w w':=by
 have j:w.cell? ⟨gb,0,none⟩ = some (.int .i64 s):=(ah hbk 0).trans rfl
 clear hbk
 unfold bH.f at h
 by_cases c:t = s
 ·rw [if_pos c] at h
  obtain rfl:=Option.some.inj h
  have y:(t != s) = false:=by simp [c]
  clear h c
  go_enter Try.func133,Try.ntmps133
  go_wp2
  go_ret
  exact ⟨rfl,Below.refl _ _⟩
 ·rw [if_neg c] at h
  have y:(t != s) = true:=by simp [c]
  have z:=ae.mk h
  clear h c
  go_enter Try.func133,Try.ntmps133
  go_wp2_with (first | (go_at_call 134;(with_reducible refine (dB.calls s t b _ z.out).mono ?_);rintro e X ⟨rfl,hd⟩;have HB:=ae.mk hd.below;clear hd))
  go_ret
  exact ⟨rfl,HB.out⟩
theorem bH.mH (s:Int) (gb:Nat) (w:World) (hbk:w.heap[gb]? = some (.cells #[.int .i64 s] 3 (0,0))) :
  af.ke Try.prog w (.func (.func 133) #[] #[.pointer (some ⟨gb,0,none⟩)]) (fun t=>bH.f s t) :=
 ⟨⟨133,#[.pointer (some ⟨gb,0,none⟩)],Try.f133,rfl,Try.func133,by kernel_rfl,rfl,fun t b w' hw hg=>bH.calls s t b gb w' (aU hbk hw) hg⟩⟩
set_option maxHeartbeats 8000000 in
set_option maxRecDepth 100000 in
theorem bz.calls (k:Nat) (A0:Option Addr) (c0:Nat) (l0:List Int) (r:List Int) (w:World) (aP:Kd.C (Kd.int .i64) w A0 l0.length l0) (aS:l0.length≤c0) (h:bz.f k l0 = some r) :
  Calls Try.prog 109 #[.slice A0 l0.length c0] w fun e w'=>∃ b0:Value,e = .returned (b0)∧Kd.R (Kd.int .i64) 3 w' w.heap.size (fun _=>True) b0 r∧Below w.heap.size w w':=by
 have HR:=ae.mk aP
 have HC:=ae.mk aS
 have HB:=ae.mk (Below.refl w.heap.size w)
 clear aP aS
 unfold bz.f at h
 obtain ⟨t,h1,h⟩:=Option.bind_eq_some_iff.mp h
 have A1:=ae.mk h1
 clear h1
 cases t with
 | false =>
  rw [if_neg (by decide)] at h
  obtain rfl:=Option.some.inj h
  clear h
  go_enter Try.func109,Try.ntmps109
  go_wp2_with (first | ((with_reducible refine bf (N:=6) rfl ?_);refine Kd.jx (Kd.int .i64) _ 3 ?hg (N:=6) ?hd (xs:=[]) (inner:=[]) (ok:=fun _=>True) (okp:=fun _=>True) ?hr ?hp (fun _ hk=>hk) trivial (Below.refl _ _) (Nat.le_refl _) (by simp) ?_;(case hd=>rfl);(case hg=>rfl);(case hr=>first | (go_simp;done) | (go_simp;rfl));(case hp=>exact (cl.none _ _));intro b2 a6 ho hb aw am;clear aw am;have ab:=ae.mk (Kd.bD ho (aA HB.out));replace HB:=ae.mk (ax HB.out hb);have j:=ab;clear ab ho hb) | ((with_reducible refine b8 (f:=130) rfl ?_);refine af.gl (some 8) Try.func130 #[.slice A0 l0.length c0] ?_;(with_reducible refine (bR.calls k _ _ l0 false _ (Kd.aX HR.out HB.out) HC.out A1.out).mono ?_);rintro e a3 ⟨rfl,ao⟩;refine ⟨_,rfl,?_⟩;have hb:=ao.below;clear ao;have Y:=ae.mk (Kd.bK j.out hb);clear j;have j:=Y;clear Y;replace HB:=ae.mk (ax HB.out hb);clear hb))
  go_ret
  exact ⟨_,rfl,Kd.ki _ _ _ _ _,HB.out⟩
 | true =>
  rw [if_pos rfl] at h
  obtain ⟨q,h2,h⟩:=Option.bind_eq_some_iff.mp h
  have A2:=ae.mk h2
  have H':=ae.mk h
  clear h h2
  go_enter Try.func109,Try.ntmps109
  go_wp2_with (first | ((with_reducible refine bf (N:=6) rfl ?_);refine Kd.jx (Kd.int .i64) _ 3 ?hg (N:=6) ?hd (xs:=[]) (inner:=[]) (ok:=fun _=>True) (okp:=fun _=>True) ?hr ?hp (fun _ hk=>hk) trivial (Below.refl _ _) (Nat.le_refl _) (by simp) ?_;(case hd=>rfl);(case hg=>rfl);(case hr=>first | (go_simp;done) | (go_simp;rfl));(case hp=>exact (cl.none _ _));intro b2 a6 ho hb aw am;clear aw am;have ab:=ae.mk (Kd.bD ho (aA HB.out));replace HB:=ae.mk (ax HB.out hb);have j:=ab;clear ab ho hb) | ((with_reducible refine b8 (f:=130) rfl ?_);refine af.gl (some 8) Try.func130 #[.slice A0 l0.length c0] ?_;(with_reducible refine (bR.calls k _ _ l0 true _ (Kd.aX HR.out HB.out) HC.out A1.out).mono ?_);rintro e a3 ⟨rfl,ao⟩;refine ⟨_,rfl,?_⟩;have hb:=ao.below;clear ao;have Y:=ae.mk (Kd.bK j.out hb);clear j;have j:=Y;clear Y;replace HB:=ae.mk (ax HB.out hb);clear hb) | ((with_reducible refine b8 (f:=131) rfl ?_);refine af.gl (some 11) Try.func131 #[.slice A0 l0.length c0] ?_;(with_reducible refine (dA.calls _ _ l0 q _ (Kd.aX HR.out HB.out) HC.out A2.out).mono ?_);rintro e a5 ⟨vq,rfl,b3,hb⟩;refine ⟨_,rfl,?_⟩;have Nq:=ae.mk (Kd.bD (Kd.aH (ok':=fun k_=>a3.heap.size≤k_∧k_ < a5.heap.size) (Kd.dZ b3) (fun _ hk=>⟨hk.2.1,hk.2.2.1⟩)) (aA HB.out));have Y:=ae.mk (Kd.aH (ok':=fun k_=>k_ < a3.heap.size∨a5.heap.size≤k_) (Kd.dZ j.out) (fun _ hk=>.inl hk.2.2.1));clear j;have j:=Y;clear Y;have HS:=ae.mk hb.size;have Y:=ae.mk (Kd.bK j.out hb);clear j;have j:=Y;clear Y;replace HB:=ae.mk (ax HB.out hb);have a1:=Nq;clear Nq b3;clear hb;obtain ⟨Aq,cq,c1⟩:=Kd.bA a1.out;subst c1))
  obtain ⟨n1,b4⟩:∃ n,n = a3.heap.size:=⟨_,rfl⟩
  obtain ⟨n2,ap⟩:∃ n,n = a5.heap.size:=⟨_,rfl⟩
  have aB:=ae.mk (Nat.le_of_eq ap)
  have a2:=ae.mk (show n2≤a5.heap.size from Nat.le_of_eq ap)
  rw [← b4,← ap] at j a1
  clear b4 ap HS aB
  have aB:ae (n2≤n2):=⟨Nat.le_refl _⟩
  go_loopg [3,13] k (fun kq v3 ca w'=>∃ (a9:List Int) (a0:Int),ca = .int .i64 a0∧ae (bz.l0 kq l0 q a9 a0 = some r)∧ae (kq≤k)∧ae (Kd.R (Kd.int .i64) 3 w' w.heap.size (fun k_=>k_ < n1∨n2≤k_) v3 a9)∧ae (Kd.R (Kd.int .i64) 3 w' w.heap.size (fun k_=>n1≤k_∧k_ < n2) (.slice Aq q.length cq) q)∧ae (n2≤w'.heap.size)∧ae (Below w.heap.size w w'))
  case atStart=>exact ⟨[],0,rfl,H',⟨Nat.le_refl _⟩,j,a1,a2,HB⟩
  case round =>
   clear H' j a1 a2 HB
   obtain ⟨a9,a0,rfl,HA,ar,j,a1,a2,HB⟩:=hrel
   cases gk with
   | zero=>exact absurd HA.out (by simp [bz.l0])
   | succ k1 =>
    have H:=HA.out
    clear HA
    simp only [bz.l0] at H
    by_cases c3:a0 < (q.length:Int)
    case neg =>
     rw [if_neg c3] at H
     have ba:decide (a0 < (q.length:Int)) = false:=decide_eq_false c3
     clear c3
     obtain rfl:=Option.some.inj H
     go_wp2
     go_ret
     exact ⟨_,rfl,Kd.aH j.out (fun _ _=>trivial),HB.out⟩
    rw [if_pos c3] at H
    have ba:=decide_eq_true c3
    clear c3
    by_cases c4:0≤a0
    case neg=>rw [if_neg c4] at H;exact absurd H (by simp)
    rw [if_pos c4] at H
    have cb:=decide_eq_true c4
    clear c4
    obtain ⟨aa,aF⟩:∃ j_:Int,rd q a0 = j_:=⟨_,rfl⟩
    rw [aF] at H
    obtain ⟨t,bc,H⟩:=Option.bind_eq_some_iff.mp H
    have A4:=ae.mk bc
    clear bc
    have p1:0≤(a0:Int):=of_decide_eq_true (by assumption)
    have q1:a0 < (q.length:Int):=of_decide_eq_true (by assumption)
    obtain ⟨cc,e1,aL⟩:=Kd.cF (Kd.aJ a1.out).2.2 a0 p1 q1
    rw [aF] at aL
    clear aF
    cases e1
    replace p1:=eq_true p1
    replace q1:=eq_true q1
    cases t with
    | true =>
     rw [if_pos rfl] at H
     have H':=ae.mk H
     clear H
     go_wp2_with (first | ((with_reducible refine bf (N:=5) rfl ?_);refine af.bx 5 #[.int .i64 0] 3 ?_;intro a4 hg a6 hbox hb;have aO:=ae.mk ((by rw [hg];exact aA HB.out):w.heap.size≤a4);have a7:=ae.mk hg;have a8:=ae.mk hb;have y:=ae.mk hbox;clear hb hg hbox;have z:a6.cell? ⟨a4,0,none⟩ = some (.int .i64 0):=(ah y.out 0).trans rfl;have X:=aj y.out 0) | ((with_reducible refine dh (t:=3) (p:=5) rfl ?_);refine cU (t:=3) (p:=5) (v:=?vo1) (w1:=(a6.setCell ⟨a4,0,none⟩ (.int .i64 aa))) ?hg ?ho ?hn ?hr ?_;(case ho=>rfl);(case hg=>rfl);(case hn=>rfl);(case hr=>first | (go_simp;done) | (go_simp;rfl));intro a3 hw;have hb:=(show Below _ _ a3 from (by rw [hw];exact ct a8.out (Nat.le_of_eq a7.out.symm)));have m5:ae (a3.heap[a4]? = some (.cells #[.int .i64 aa] 3 (0,0))):=⟨by rw [hw];exact dQ y.out 0 _ rfl⟩;clear y hw z X;have Y:=ae.mk (Kd.bK j.out hb);clear j;have j:=Y;clear Y;have Y:=ae.mk (Kd.bK a1.out hb);clear a1;have a1:=Y;clear Y;have Y:=ae.mk (Nat.le_trans a2.out (hb).size);clear a2;have a2:=Y;clear Y;replace HB:=ae.mk (ax HB.out hb);have y:=m5;clear m5 hb a8 a7;have z:a3.cell? ⟨a4,0,none⟩ = some (.int .i64 aa):=(ah y.out 0).trans rfl;have X:=aj y.out 0) | ((with_reducible refine b8 (f:=132) rfl ?_);refine af.gl (some 19) Try.func132 #[.slice A0 l0.length c0,.func (.func 133) #[] #[.pointer (some ⟨a4,0,none⟩)]] ?_;(with_reducible refine (aZ.calls k1 _ _ l0 _ (fun t=>bH.f aa t) true _ (Kd.aX HR.out HB.out) (bH.mH aa a4 _ y.out) A4.out).mono ?_);rintro e a5 ⟨rfl,hb⟩;refine ⟨_,rfl,?_⟩;clear z X;have Y:=ae.mk (aU y.out hb);clear y;have y:=Y;clear Y;have Y:=ae.mk (Kd.bK j.out hb);clear j;have j:=Y;clear Y;have Y:=ae.mk (Kd.bK a1.out hb);clear a1;have a1:=Y;clear Y;have Y:=ae.mk (Nat.le_trans a2.out (hb).size);clear a2;have a2:=Y;clear Y;replace HB:=ae.mk (ax HB.out hb);clear hb;have z:a5.cell? ⟨a4,0,none⟩ = some (.int .i64 aa):=(ah y.out 0).trans rfl;have X:=aj y.out 0))
     go_roundg k1
     case measure=>have:=ar.out;omega
     case rel=>exact ⟨a9,(wrap64 (a0+1)),rfl,H',⟨by have:=ar.out;omega⟩,j,a1,a2,HB⟩
    | false =>
     rw [if_neg (by decide)] at H
     by_cases c7:a9.length < 17592186044416
     case neg=>rw [if_neg c7] at H;exact absurd H (by simp)
     rw [if_pos c7] at H
     have LM:=ae.mk c7
     have H':=ae.mk H
     clear H c7
     go_wp2_with (first | ((with_reducible refine bf (N:=5) rfl ?_);refine af.bx 5 #[.int .i64 0] 3 ?_;intro a4 hg a6 hbox hb;have aO:=ae.mk ((by rw [hg];exact aA HB.out):w.heap.size≤a4);have a7:=ae.mk hg;have a8:=ae.mk hb;have y:=ae.mk hbox;clear hb hg hbox;have z:a6.cell? ⟨a4,0,none⟩ = some (.int .i64 0):=(ah y.out 0).trans rfl;have X:=aj y.out 0) | ((with_reducible refine dh (t:=3) (p:=5) rfl ?_);refine cU (t:=3) (p:=5) (v:=?vo1) (w1:=(a6.setCell ⟨a4,0,none⟩ (.int .i64 aa))) ?hg ?ho ?hn ?hr ?_;(case ho=>rfl);(case hg=>rfl);(case hn=>rfl);(case hr=>first | (go_simp;done) | (go_simp;rfl));intro a3 hw;have hb:=(show Below _ _ a3 from (by rw [hw];exact ct a8.out (Nat.le_of_eq a7.out.symm)));have m5:ae (a3.heap[a4]? = some (.cells #[.int .i64 aa] 3 (0,0))):=⟨by rw [hw];exact dQ y.out 0 _ rfl⟩;clear y hw z X;have Y:=ae.mk (Kd.bK j.out hb);clear j;have j:=Y;clear Y;have Y:=ae.mk (Kd.bK a1.out hb);clear a1;have a1:=Y;clear Y;have Y:=ae.mk (Nat.le_trans a2.out (hb).size);clear a2;have a2:=Y;clear Y;replace HB:=ae.mk (ax HB.out hb);have y:=m5;clear m5 hb a8 a7;have z:a3.cell? ⟨a4,0,none⟩ = some (.int .i64 aa):=(ah y.out 0).trans rfl;have X:=aj y.out 0) | ((with_reducible refine b8 (f:=132) rfl ?_);refine af.gl (some 19) Try.func132 #[.slice A0 l0.length c0,.func (.func 133) #[] #[.pointer (some ⟨a4,0,none⟩)]] ?_;(with_reducible refine (aZ.calls k1 _ _ l0 _ (fun t=>bH.f aa t) false _ (Kd.aX HR.out HB.out) (bH.mH aa a4 _ y.out) A4.out).mono ?_);rintro e a5 ⟨rfl,hb⟩;refine ⟨_,rfl,?_⟩;clear z X;have Y:=ae.mk (aU y.out hb);clear y;have y:=Y;clear Y;have Y:=ae.mk (Kd.bK j.out hb);clear j;have j:=Y;clear Y;have Y:=ae.mk (Kd.bK a1.out hb);clear a1;have a1:=Y;clear Y;have Y:=ae.mk (Nat.le_trans a2.out (hb).size);clear a2;have a2:=Y;clear Y;replace HB:=ae.mk (ax HB.out hb);clear hb;have z:a5.cell? ⟨a4,0,none⟩ = some (.int .i64 aa):=(ah y.out 0).trans rfl;have X:=aj y.out 0) | ((with_reducible refine cR (b:=.append) (xs:=#[.tmp 21,.tmp 23]) rfl ?_);at_builtin;refine Kd.en (Kd.int .i64) (w0:=w) w.heap.size rfl (.tmp 21) (.tmp 23) 24 3 (.int .i64 0) 8 rfl Try.underlying24 fa rfl (by decide) (by omega) u3 a9 aa [.int .i64 aa] (fun k_=>k_ < n1∨n2≤k_) (fun _=>False) rfl rfl (by exact rfl) (fun _ hk=>hk.elim) (by exact fun k_ bi=>.inr (Nat.le_trans aB.out (Nat.le_trans a2.out bi))) (by exact j.out) (by exact HB.out) (by exact aA HB.out) (by have:=LM.out;omega) ?_;intro v9 cd ho hb hg hat;have bm:=ae.mk (Kd.nn a1.out hg (fun k_ bi e_=>by have:=j.out.1 k_ e_.symm;omega));have bo:=ae.mk hb;have bs:=ae.mk ho;have bv:=ae.mk (Nat.le_trans a2.out (Nat.le_trans (show _≤_ from Nat.le_refl _) hg.size));clear HB j a1 a2;have a2:=bv;have HB:=bo;have j:=bs;have a1:=bm;clear bo bs bm bv ho hb hg hat))
     go_roundg k1
     case measure=>have:=ar.out;omega
     case rel=>exact ⟨_,(wrap64 (a0+1)),rfl,H',⟨by have:=ar.out;omega⟩,j,a1,a2,HB⟩
def cj.f (k:Nat) (a0:Int) (l1:List Int):Option (Int×List Int×Bool):=(bz.f k l1).bind fun j=>((cz.f k a0 j).bind fun y=>(if y = true then (some (a0,j,true)) else (some (0,([]:List Int),false))))
set_option maxHeartbeats 8000000 in
set_option maxRecDepth 100000 in
theorem cj.calls (k:Nat) (a0:Int) (A1:Option Addr) (c1:Nat) (l1:List Int) (r1:Int) (r2:List Int) (r3:Bool) (w:World) (ap:Kd.C (Kd.int .i64) w A1 l1.length l1) (ar:l1.length≤c1) (h:cj.f k a0 l1 = some (r1,r2,r3)) :
  Calls Try.prog 68 #[.int .i64 a0,.slice A1 l1.length c1] w fun e w'=>∃ aw:Value,e = .returned (.tuple #[.agg #[.int .i64 r1,aw],.bool r3])∧Kd.R (Kd.int .i64) 3 w' w.heap.size (fun _=>True) aw r2∧Below w.heap.size w w':=by
 have d2:=Try.underlying35
 have aB:=ae.mk ap
 have aF:=ae.mk ar
 clear ap ar
 have HB:=ae.mk (Below.refl w.heap.size w)
 unfold cj.f at h
 have H:=h
 clear h
 obtain ⟨z,A3,H⟩:=af.be H
 (try dsimp only at H)
 obtain ⟨aL,A4,H⟩:=af.be H
 (try dsimp only at H)
 by_cases c5:aL = true
 ·subst c5
  replace H:(some (a0,z,true)) = some (r1,r2,r3):=by rw [if_pos rfl] at H;exact H
  simp only [Option.some.injEq,Prod.mk.injEq] at H
  obtain ⟨rfl,rfl,rfl⟩:=H
  go_enter Try.func68,Try.ntmps68
  go_wp2_with (first | (refine af.bx 4 #[.int .i64 0,.slice none 0 0] 35 ?_;intro a1 hg w6 hbox hb;have j:=ae.mk hbox;have a9:=af.gw hg HB;have aa:=af.gw hg HB;replace HB:=af.lb HB hb;clear hb hbox hg) | (refine af.gl (some 9) Try.func109 #[.slice A1 l1.length c1] ?_;(with_reducible refine (bz.calls k _ _ l1 z _ ?side1 ?side2 A3.out).mono ?_);(case side1=>exact af.Cw (Kd.aX aB.out HB.out));(case side2=>exact aF.out);rintro e w7 ⟨aO,rfl,a8,hb⟩;refine ⟨_,rfl,?_⟩;have y:=ae.mk (Kd.bD a8 (aA af.L));replace j:=af.bb j hb;replace HB:=ae.mk (ax af.L hb);(try clear hb);(try clear ab);(try clear hk);(try clear hi);(try clear a8);obtain ⟨a7,a5,ci⟩:=Kd.bA y.out;subst ci) | (refine af.bx 6 #[.int .i64 0,.slice none 0 0] 35 ?_;intro X hg w9 hbox hb;replace y:=af.rb y hb;have Y:=ae.mk hbox;have am:=af.gL (w:=w) hg af.L;have ao:=af.gL (w:=w) hg af.L;replace HB:=ae.mk (ax af.L hb);have a2:=af.nl hg j;have a3:=af.ng hg j;replace j:=af.bb j hb;clear hb hbox hg;have cp:=a3.out;have cq:=a2.out;obtain ⟨aP,aS,b0,b2⟩:=af.cY Y.out) | (refine af.gl (some 12) Try.func81 #[.agg #[.int .i64 a0,.slice a7 z.length a5]] ?_;(with_reducible refine (cz.calls k a0 _ _ z true _ ?side1 ?side2 A4.out).mono ?_);(case side1=>refine (Kd.aJ (e:=3) (base:=w.heap.size) (ok:=fun k_=>True) (n:=z.length) (c:=a5) ?_).2.2;exact (af.Rw ((Kd.aH (Kd.aG (p:=⟨X,1,none⟩) (Kd.aG (p:=⟨X,0,none⟩) (Kd.b7 y.out Y.out (by decide)) (fun _ hk=>hk.2) (.int .i64 a0)) (fun _ hk=>hk.2) (.slice a7 z.length a5)) (fun _ h_=>h_.1)))));(case side2=>exact (Kd.aJ y.out).2.1);rintro e d3 ⟨rfl,hb⟩;refine ⟨_,rfl,?_⟩;replace y:=ae.mk (Kd.bK (af.Rw ((Kd.aH (Kd.aG (p:=⟨X,1,none⟩) (Kd.aG (p:=⟨X,0,none⟩) (Kd.b7 y.out Y.out (by decide)) (fun _ hk=>hk.2) (.int .i64 a0)) (fun _ hk=>hk.2) (.slice a7 z.length a5)) (fun _ h_=>h_.1)))) hb);replace j:=ae.mk (aU (g:=a1) (o:=.cells #[.int .i64 0,.slice none 0 0] 35 (0,0)) af.B hb);replace Y:=ae.mk (aU (g:=X) (o:=.cells #[.int .i64 a0,.slice a7 z.length a5] 35 (0,0)) af.B hb);replace HB:=ae.mk (ax af.L hb);(try clear hb);(try clear ab);(try clear hk);(try clear hi);obtain ⟨b3,b4,ba,bc⟩:=af.cY Y.out;obtain ⟨bi,bm,bo,bs⟩:=af.cY j.out))
  refine bodyPost_ret (de rfl _ _ a1 35 #[.int .i64 a0,.slice a7 z.length a5] (0,0) _ rfl af.B Try.underlying35 rfl (by kernel_rfl)) rfl ?_
  exact ⟨_,af.E,by (with_reducible repeat (first | apply Kd.bN | apply Kd.bO | apply Kd.bt));exact Kd.aH (Kd.aG (p:=⟨a1,1,none⟩) (Kd.aG (p:=⟨a1,0,none⟩) (Kd.b7 y.out j.out (by decide)) (fun _ hk=>hk.2) (.int .i64 a0)) (fun _ hk=>hk.2) (.slice a7 z.length a5)) (fun _ hk=>trivial),af.L⟩
 ·replace c5:=Bool.eq_false_iff.mpr c5
  subst c5
  replace H:(some (0,([]:List Int),false)) = some (r1,r2,r3):=by rw [if_neg (show ¬ (false = true) by decide)] at H;exact H
  simp only [Option.some.injEq,Prod.mk.injEq] at H
  obtain ⟨rfl,rfl,rfl⟩:=H
  go_enter Try.func68,Try.ntmps68
  go_wp2_with (first | (refine af.bx 4 #[.int .i64 0,.slice none 0 0] 35 ?_;intro a1 hg d4 hbox hb;have j:=ae.mk hbox;have a9:=af.gw hg HB;have aa:=af.gw hg HB;replace HB:=af.lb HB hb;clear hb hbox hg) | (refine af.gl (some 9) Try.func109 #[.slice A1 l1.length c1] ?_;(with_reducible refine (bz.calls k _ _ l1 z _ ?side1 ?side2 A3.out).mono ?_);(case side1=>exact af.Cw (Kd.aX aB.out HB.out));(case side2=>exact aF.out);rintro e d5 ⟨aO,rfl,a8,hb⟩;refine ⟨_,rfl,?_⟩;have y:=ae.mk (Kd.bD a8 (aA af.L));replace j:=af.bb j hb;replace HB:=ae.mk (ax af.L hb);(try clear hb);(try clear ab);(try clear hk);(try clear hi);(try clear a8);obtain ⟨a6,a4,bv⟩:=Kd.bA y.out;subst bv) | (refine af.bx 6 #[.int .i64 0,.slice none 0 0] 35 ?_;intro X hg d6 hbox hb;replace y:=af.rb y hb;have Y:=ae.mk hbox;have am:=af.gL (w:=w) hg af.L;have ao:=af.gL (w:=w) hg af.L;replace HB:=ae.mk (ax af.L hb);have a2:=af.nl hg j;have a3:=af.ng hg j;replace j:=af.bb j hb;clear hb hbox hg;have d0:=a3.out;have d1:=a2.out;obtain ⟨c0,ca,cb,cc⟩:=af.cY Y.out) | (refine af.gl (some 12) Try.func81 #[.agg #[.int .i64 a0,.slice a6 z.length a4]] ?_;(with_reducible refine (cz.calls k a0 _ _ z false _ ?side1 ?side2 A4.out).mono ?_);(case side1=>refine (Kd.aJ (e:=3) (base:=w.heap.size) (ok:=fun k_=>True) (n:=z.length) (c:=a4) ?_).2.2;exact (af.Rw ((Kd.aH (Kd.aG (p:=⟨X,1,none⟩) (Kd.aG (p:=⟨X,0,none⟩) (Kd.b7 y.out Y.out (by decide)) (fun _ hk=>hk.2) (.int .i64 a0)) (fun _ hk=>hk.2) (.slice a6 z.length a4)) (fun _ h_=>h_.1)))));(case side2=>exact (Kd.aJ y.out).2.1);rintro e d7 ⟨rfl,hb⟩;refine ⟨_,rfl,?_⟩;replace y:=ae.mk (Kd.bK (af.Rw ((Kd.aH (Kd.aG (p:=⟨X,1,none⟩) (Kd.aG (p:=⟨X,0,none⟩) (Kd.b7 y.out Y.out (by decide)) (fun _ hk=>hk.2) (.int .i64 a0)) (fun _ hk=>hk.2) (.slice a6 z.length a4)) (fun _ h_=>h_.1)))) hb);replace j:=ae.mk (aU (g:=a1) (o:=.cells #[.int .i64 0,.slice none 0 0] 35 (0,0)) af.B hb);replace Y:=ae.mk (aU (g:=X) (o:=.cells #[.int .i64 a0,.slice a6 z.length a4] 35 (0,0)) af.B hb);replace HB:=ae.mk (ax af.L hb);(try clear hb);(try clear ab);(try clear hk);(try clear hi);obtain ⟨cd,ce,cf,ch⟩:=af.cY j.out))
  refine bodyPost_ret (de rfl _ _ a1 35 #[.int .i64 0,.slice none 0 0] (0,0) _ rfl af.B Try.underlying35 rfl (by kernel_rfl)) rfl ?_
  exact ⟨_,af.E,af.N,af.L⟩
def cH.f (a0:Int):Option (Int):=(cE.f a0).bind fun j=>(if j = true then (if 0≤a0 then (some (wrap64 ((shl .i64 1 a0) - 1))) else (none)) else (some 0))
set_option maxHeartbeats 8000000 in
set_option maxRecDepth 100000 in
theorem cH.calls (a0:Int) (r:Int) (w:World) (h:cH.f a0 = some r) :
  Calls Try.prog 99 #[.int .i64 a0] w fun e w'=>e = .returned (.int .i64 r)∧bQ w w':=by
 unfold cH.f at h
 have H:=h
 clear h
 obtain ⟨a1,A2,H⟩:=af.be H
 (try dsimp only at H)
 by_cases c3:a1 = true
 ·subst c3
  replace H:(if 0≤a0 then (some (wrap64 ((shl .i64 1 a0) - 1))) else (none)) = some r:=by rw [if_pos rfl] at H;exact H
  obtain ⟨c4,H⟩:=af.ip H
  have a7:=eq_true c4
  have a8:decide (0≤a0) = true:=decide_eq_true c4
  clear c4
  obtain ⟨y,j⟩:∃ j_:Int,(shl .i64 1 a0) = j_:=⟨_,rfl⟩
  replace H:(some (wrap64 ((y) - 1))) = some r:=by first | (rw [j] at H;exact H) | (simp only [j] at H ⊢;exact H)
  (try rw [j] at A2)
  have z:(IntKind.i64.wrap (1 * 2 ^ min a0.toNat 64)) = y:=j
  have X:a0≤64→(IntKind.i64.wrap (1 * 2 ^ a0.toNat)) = y:=ei j
  have a3:(IntKind.i64.wrap (2 ^ min a0.toNat 64)) = y:=by have Y:=z;rw [Int.one_mul] at Y;exact Y
  have a4:a0≤64→(IntKind.i64.wrap (2 ^ a0.toNat)) = y:=fun a2=>by have Y:=X a2;rw [Int.one_mul] at Y;exact Y
  have a5:(wrap64 (1 * 2 ^ min a0.toNat 64)) = y:=(bE _).symm.trans z
  have a6:a0≤64→(wrap64 (1 * 2 ^ a0.toNat)) = y:=fun Y=>(bE _).symm.trans (X Y)
  obtain rfl:=Option.some.inj H
  go_enter Try.func99,Try.ntmps99
  go_wp2_with (first | (refine af.gl (some 4) Try.func105 #[.int .i64 a0] ?_;(with_reducible refine (cE.calls a0 true _ A2.out).mono ?_);rintro e w' ⟨rfl,⟨nd,rfl⟩⟩;refine ⟨_,rfl,?_⟩))
  go_ret
  exact ⟨by first | rfl | (simp;done) | (simp only [← j] <;> (first | rfl | simp)) | (simp [*];done),af.G⟩
 ·replace c3:=Bool.eq_false_iff.mpr c3
  subst c3
  replace H:(some 0) = some r:=by rw [if_neg (show ¬ (false = true) by decide)] at H;exact H
  obtain rfl:=Option.some.inj H
  go_enter Try.func99,Try.ntmps99
  go_wp2_with (first | (refine af.gl (some 4) Try.func105 #[.int .i64 a0] ?_;(with_reducible refine (cE.calls a0 false _ A2.out).mono ?_);rintro e w' ⟨rfl,⟨nd,rfl⟩⟩;refine ⟨_,rfl,?_⟩))
  go_ret
  exact ⟨af.F,af.G⟩
def bn.l0 (g:Int→Option Bool):Nat→Int→List Int→Int→Option (List Int)
 | 0,_,_,_=>none
 | k+1,z,y,j=>(cH.f z).bind fun t=>(if j≤t then ((g j).bind fun b=>(if b = true then (if y.length < 17592186044416 then (bn.l0 g k z (y ++ [j]) (wrap64 (j+1))) else (none)) else (bn.l0 g k z y (wrap64 (j+1))))) else (some y))
def bn.f (k:Nat) (a0:Int) (g:Int→Option Bool):Option (List Int):=bn.l0 g k a0 [] 0
set_option maxHeartbeats 8000000 in
set_option maxRecDepth 100000 in
theorem bn.calls (k:Nat) (a0:Int) (fv:Value) (g:Int→Option Bool) (r:List Int) (w:World) (hF:af.ke Try.prog w fv g) (h:bn.f k a0 g = some r) :
  Calls Try.prog 69 #[.int .i64 a0,fv] w fun e w'=>∃ am:Value,e = .returned (am)∧Kd.R (Kd.int .i64) 3 w' w.heap.size (fun _=>True) am r∧Below w.heap.size w w':=by
 have HB:=ae.mk (Below.refl w.heap.size w)
 obtain ⟨a5,a1⟩:∃ y_:List Int,y_ = (([]:List Int)):=⟨_,rfl⟩
 have H:(bn.l0 g k a0 a5 0) = some r:=by rw [a1];exact h
 clear h
 have a7:=ae.mk a1
 clear a1
 have H':=ae.mk H
 clear H
 go_enter Try.func69,Try.ntmps69
 go_wp2_with (first | (refine af.lt (Kd.int .i64) 3 7 ?_;intro aF w2 a8 hb aB a9;clear aB a9;rw [← a7.out] at a8;have a3:=ae.mk (Kd.bD a8 (aA HB.out));replace HB:=ae.mk (ax HB.out hb);clear hb a8))
 go_loopg [5,6] k (fun kq v5 v6 w'=>∃ (Y:List Int) (y:Int),v6 = .int .i64 y∧ae (bn.l0 g kq a0 Y y = some r)∧ae (kq≤k)∧ae (Kd.R (Kd.int .i64) 3 w' w.heap.size (fun _=>True) v5 Y)∧ae (Below w.heap.size w w'))
 case atStart=>exact ⟨a5,0,rfl,H',⟨Nat.le_refl _⟩,a3,HB⟩
 case round =>
  clear H'
  try clear HB
  try clear a3
  obtain ⟨Y,y,rfl,HA,a4,j,HB⟩:=hrel
  cases gk with
  | zero=>exact absurd HA.out (by simp [bn.l0])
  | succ k1 =>
   have H:=HA.out
   clear HA
   simp only [bn.l0] at H
   obtain ⟨t,ao,H⟩:=Option.bind_eq_some_iff.mp H
   have A4:=ae.mk ao
   clear ao
   by_cases c4:y≤t
   ·rw [if_pos c4] at H
    have ap:=decide_eq_true c4
    clear c4
    obtain ⟨t127,ar,H⟩:=Option.bind_eq_some_iff.mp H
    have A5:=ae.mk ar
    clear ar
    by_cases c6:t127 = true
    ·subst c6
     replace H:(if Y.length < 17592186044416 then (bn.l0 g k1 a0 (Y ++ [y]) (wrap64 (y+1))) else (none)) = some r:=by rw [if_pos rfl] at H;exact H
     obtain ⟨c7,H⟩:=af.ip H
     have aw:=ae.mk c7
     clear c7
     obtain ⟨a6,a2⟩:∃ y_:List Int,y_ = (Y ++ [y]):=⟨_,rfl⟩
     replace H:(bn.l0 g k1 a0 a6 (wrap64 (y+1))) = some r:=by rw [a2];exact H
     have aa:=ae.mk a2
     clear a2
     have H':=ae.mk H
     clear H
     go_wp2_with (first | (refine af.gl (some 10) Try.func99 #[.int .i64 a0] ?_;(with_reducible refine (cH.calls a0 t _ A4.out).mono ?_);rintro e w' ⟨rfl,hd⟩;refine ⟨_,rfl,?_⟩;have z:=ae.mk (ax HB.out hd.below);have X:=ae.mk (Kd.bK j.out hd.below);clear HB j hd;have HB:=z;have j:=X;clear X z) | ((with_reducible refine bf (N:=16) rfl ?_);refine af.kR (some 16) rfl rfl 14 rfl hF A5.out HB.out rfl (by (try simp only [List.map_toArray,List.map_cons,List.map_nil]);first | done | rfl) ?_;intro w5 hb;have z:=ae.mk (ax HB.out hb);have X:=ae.mk (Kd.bK j.out hb);clear HB j hb;have HB:=z;have j:=X;clear X z) | ((with_reducible refine cR (b:=.append) (xs:=#[.tmp 17,.tmp 19]) rfl ?_);at_builtin;refine Kd.en (Kd.int .i64) (w0:=w) w.heap.size rfl (.tmp 17) (.tmp 19) 24 3 (.int .i64 0) 8 rfl Try.underlying24 fa rfl (by decide) (by omega) u5 Y y [.int .i64 y] (fun _=>True) (fun _=>False) rfl rfl (by exact rfl) (fun _ hk=>hk.elim) (by exact fun _ _=>trivial) (by exact by (with_reducible repeat (first | apply Kd.bN | apply Kd.bO | apply Kd.bt));exact j.out) (by exact af.L) (by exact aA af.L) (by have:=aw.out;omega) ?_;intro aL w8 ho hb hg hat;rw [← aa.out] at ho;have X:=ae.mk (hb);have z:=ae.mk (ho);clear HB;clear j;have HB:=X;have ab:=z;clear X z;clear ho hb hg hat))
     go_roundg k1
     case measure=>have:=a4.out;omega
     case rel=>exact ⟨(a6),(wrap64 (y+1)),rfl,H',⟨by have:=a4.out;omega⟩,ab,HB⟩
    ·replace c6:=Bool.eq_false_iff.mpr c6
     subst c6
     have H1:(bn.l0 g k1 a0 Y (wrap64 (y+1))) = some r:=by rw [if_neg (show ¬ (false = true) by decide)] at H;exact H
     clear H
     have H':=ae.mk H1
     clear H1
     go_wp2_with (first | (refine af.gl (some 10) Try.func99 #[.int .i64 a0] ?_;(with_reducible refine (cH.calls a0 t _ A4.out).mono ?_);rintro e w' ⟨rfl,hd⟩;refine ⟨_,rfl,?_⟩;have z:=ae.mk (ax HB.out hd.below);have X:=ae.mk (Kd.bK j.out hd.below);clear HB j hd;have HB:=z;have j:=X;clear X z) | ((with_reducible refine bf (N:=16) rfl ?_);refine af.kR (some 16) rfl rfl 14 rfl hF A5.out HB.out rfl (by (try simp only [List.map_toArray,List.map_cons,List.map_nil]);first | done | rfl) ?_;intro w5 hb;have z:=ae.mk (ax HB.out hb);have X:=ae.mk (Kd.bK j.out hb);clear HB j hb;have HB:=z;have j:=X;clear X z))
     go_roundg k1
     case measure=>have:=a4.out;omega
     case rel=>exact ⟨Y,(wrap64 (y+1)),rfl,H',⟨by have:=a4.out;omega⟩,j,HB⟩
   ·rw [if_neg c4] at H
    have ap:decide (y≤t) = false:=decide_eq_false c4
    clear c4
    obtain rfl:=Option.some.inj H
    go_wp2_with (first | (refine af.gl (some 10) Try.func99 #[.int .i64 a0] ?_;(with_reducible refine (cH.calls a0 t _ A4.out).mono ?_);rintro e w' ⟨rfl,hd⟩;refine ⟨_,rfl,?_⟩;have z:=ae.mk (ax HB.out hd.below);have X:=ae.mk (Kd.bK j.out hd.below);clear HB j hd;have HB:=z;have j:=X;clear X z))
    go_ret
    exact ⟨_,rfl,j.out,HB.out⟩
mutual
def bk.j0:Nat→Bool→Int→List Int→List Int→Option (Bool)
 | 0,_,_,_,_=>none
 | k+1,a0,z,j,y=>if a0 = true then (some false) else (bk.l0 k (j.length:Int) 0 z j y)
def bk.l0:Nat→Int→Int→Int→List Int→List Int→Option (Bool)
 | 0,_,_,_,_,_=>none
 | k+1,Y,X,z,j,y=>if X < Y then (if 0≤X then (if X < (j.length:Int) then (if (rd j X) < 0 then (some false) else (if (rd j X)≥z then (some false) else (if X < (y.length:Int) then (if (rd y X) < 0 then (some false) else (if (rd y X)≥z then (some false) else (bk.l0 k Y (wrap64 (X+1)) z j y))) else (none)))) else (none)) else (none)) else (some true)
end
def bk.f (k:Nat) (j:Int) (y:List Int) (z:List Int):Option (Bool):=if j < 0 then (bk.j0 k true j y z) else (if j > 6 then (bk.j0 k true j y z) else (if (y.length:Int) > 8 then (bk.j0 k true j y z) else (bk.j0 k ((y.length:Int) != (z.length:Int)) j y z)))
set_option maxHeartbeats 8000000 in
set_option maxRecDepth 100000 in
theorem bk.calls (k:Nat) (a1:Int) (a8:Option Addr) (a9:Nat) (Y:List Int) (aa:Option Addr) (ab:Nat) (a2:List Int) (r:Bool) (w:World) (ba:Kd.C (Kd.int .i64) w a8 Y.length Y) (bc:Y.length≤a9) (bi:Kd.C (Kd.int .i64) w aa a2.length a2) (bm:a2.length≤ab) (h:bk.f k a1 Y a2 = some r) :
  Calls Try.prog 92 #[.agg #[.int .i64 a1,.slice a8 Y.length a9,.slice aa a2.length ab]] w fun e w'=>e = .returned (.bool r)∧Below w.heap.size w w':=by
 have gb:=Try.underlying58
 have a4:=ae.mk ba
 have g4:=ae.mk bc
 clear ba bc
 have am:=ae.mk bi
 have g5:=ae.mk bm
 clear bi bm
 have HB:=ae.mk (Below.refl w.heap.size w)
 unfold bk.f at h
 have H:=h
 clear h
 have cd:=ae.mk H
 clear H
 go_enter Try.func92,Try.ntmps92
 go_upto_region 1 with (first | ((with_reducible refine bf (N:=1) rfl ?_);(try (refine bV (by rfl) ?_;dsimp only));refine ck ?hg (N:=1) ?hd (cs:=#[.int .i64 a1,.slice a8 Y.length a9,.slice aa a2.length ab]) (t:=58) ?hr ?_;(case hd=>rfl);(case hg=>rfl);(case hr=>first | (go_simp;done) | (go_simp;rfl));intro ap hg w3 hbox hb;have X:=ae.mk hbox;have bo:=af.gw hg HB;have bs:=af.gw hg HB;replace HB:=af.lb HB hb;clear hb hbox hg))
 repeat (go_quiet (first | ((with_reducible refine bf (N:=1) rfl ?_);(try (refine bV (by rfl) ?_;dsimp only));refine ck ?hg (N:=1) ?hd (cs:=#[.int .i64 a1,.slice a8 Y.length a9,.slice aa a2.length ab]) (t:=58) ?hr ?_;(case hd=>rfl);(case hg=>rfl);(case hr=>first | (go_simp;done) | (go_simp;rfl));intro ap hg w3 hbox hb;have X:=ae.mk hbox;have bo:=af.gw hg HB;have bs:=af.gw hg HB;replace HB:=af.lb HB hb;clear hb hbox hg));go_upto_region 1 with (first | ((with_reducible refine bf (N:=1) rfl ?_);(try (refine bV (by rfl) ?_;dsimp only));refine ck ?hg (N:=1) ?hd (cs:=#[.int .i64 a1,.slice a8 Y.length a9,.slice aa a2.length ab]) (t:=58) ?hr ?_;(case hd=>rfl);(case hg=>rfl);(case hr=>first | (go_simp;done) | (go_simp;rfl));intro ap hg w3 hbox hb;have X:=ae.mk hbox;have bo:=af.gw hg HB;have bs:=af.gw hg HB;replace HB:=af.lb HB hb;clear hb hbox hg)))
 (try simp only [Act.put,List.setIfInBounds_toArray,List.set_cons_zero,List.set_cons_succ])
 go_cut [26] (fun g6 wc=>∃ (kq:Nat) (ar:Bool),g6 = .bool ar∧ae (bk.j0 kq ar a1 Y a2 = some r)∧ae (kq≤k)∧ae (wc.heap[ap]? = some (.cells #[.int .i64 a1,(.slice a8 Y.length a9),(.slice aa a2.length ab)] 58 (0,0)))∧ae (Below w.heap.size w wc))
 case first =>
  have H:=cd.out
  clear cd
  by_cases c4:a1 < 0
  ·rw [if_pos c4] at H
   have aB:=decide_eq_true c4
   clear c4
   (first | rw [aB] | (simp only [bE,cG];rw [aB]) | skip)
   have H':=ae.mk H
   clear H
   obtain ⟨f6,f7,f8,f9,fd,fi⟩:=af.bW X.out
   go_wp2
   repeat (go_quiet (fail);try go_wp2)
   go_meet
   case rel=>exact ⟨_,(true),af.F,H',⟨by first | omega | exact Nat.le_refl _⟩,⟨af.Bw X.out⟩,⟨af.Lw HB.out⟩⟩
  ·rw [if_neg c4] at H
   have aB:decide (a1 < 0) = false:=decide_eq_false c4
   clear c4
   (first | rw [aB] | (simp only [bE,cG];rw [aB]) | skip)
   by_cases c6:a1 > 6
   ·rw [if_pos c6] at H
    have d0:=decide_eq_true c6
    clear c6
    have H':=ae.mk H
    clear H
    obtain ⟨fj,fp,fs,ft,fw,fO⟩:=af.bW X.out
    go_wp2
    repeat (go_quiet (fail);try go_wp2)
    go_meet
    case rel=>exact ⟨_,(true),af.F,H',⟨by first | omega | exact Nat.le_refl _⟩,⟨af.Bw X.out⟩,⟨af.Lw HB.out⟩⟩
   ·rw [if_neg c6] at H
    have d0:decide (6 < a1) = false:=decide_eq_false c6
    clear c6
    by_cases c8:(Y.length:Int) > 8
    ·rw [if_pos c8] at H
     have d1:=decide_eq_true c8
     have d2:decide (8 < Y.length) = true:=decide_eq_true (by omega)
     clear c8
     have H':=ae.mk H
     clear H
     obtain ⟨fX,fY,g0,g1,g2,g3⟩:=af.bW X.out
     go_wp2
     repeat (go_quiet (fail);try go_wp2)
     go_meet
     case rel=>exact ⟨_,(true),af.F,H',⟨by first | omega | exact Nat.le_refl _⟩,⟨af.Bw X.out⟩,⟨af.Lw HB.out⟩⟩
    ·rw [if_neg c8] at H
     have d1:decide (8 < (Y.length:Int)) = false:=decide_eq_false c8
     have d2:decide (8 < Y.length) = false:=decide_eq_false (by omega)
     clear c8
     have H':=ae.mk H
     clear H
     obtain ⟨d3,d4,d5,d6,d7,d8⟩:=af.bW X.out
     go_wp2
     repeat (go_quiet (fail);try go_wp2)
     go_meet
     case rel=>exact ⟨_,(((Y.length:Int) != (a2.length:Int))),af.F,H',⟨by first | omega | exact Nat.le_refl _⟩,⟨af.Bw X.out⟩,⟨af.Lw HB.out⟩⟩
 case rest =>
  clear cd
  obtain ⟨kq,ar,rfl,HA,d9,X,HB⟩:=hcut
  cases kq with
  | zero=>exact absurd HA.out (by simp [bk.j0])
  | succ ce =>
   have H:=HA.out
   clear HA
   simp only [bk.j0] at H
   by_cases ca:ar = true
   ·subst ca
    replace H:(some false) = some r:=by rw [if_pos rfl] at H;exact H
    obtain rfl:=Option.some.inj H
    go_wp2
    repeat (go_quiet (fail);try go_wp2)
    go_ret
    exact ⟨af.E,af.L⟩
   ·replace ca:=Bool.eq_false_iff.mpr ca
    subst ca
    replace H:(bk.l0 ce (Y.length:Int) 0 a1 Y a2) = some r:=by rw [if_neg (show ¬ (false = true) by decide)] at H;exact H
    have H':=ae.mk H
    clear H
    obtain ⟨db,dd,df,dk,dl,dp⟩:=af.bW X.out
    go_wp2
    repeat (go_quiet (fail);try go_wp2)
    go_loopg [30] ce (fun kq v30 w'=>∃ (y:Int),v30 = .int .i64 y∧ae (bk.l0 kq (Y.length:Int) y a1 Y a2 = some r)∧ae (kq≤ce)∧ae (w'.heap[ap]? = some (.cells #[.int .i64 a1,(.slice a8 Y.length a9),(.slice aa a2.length ab)] 58 (0,0)))∧ae (Below w.heap.size w w'))
    case atStart=>exact ⟨(0),af.F,H',⟨Nat.le_refl _⟩,⟨af.Bw X.out⟩,⟨af.Lw HB.out⟩⟩
    case round =>
     clear H'
     obtain ⟨y,rfl,HA,dq,X,HB⟩:=hrel
     cases gk with
     | zero=>exact absurd HA.out (by simp [bk.l0])
     | succ k2 =>
      have H:=HA.out
      clear HA
      simp only [bk.l0] at H
      by_cases aS:y < (Y.length:Int)
      ·rw [if_pos aS] at H
       have cf:=decide_eq_true aS
       clear aS
       obtain ⟨dt,H⟩:=af.ip H
       have g7:=decide_eq_true dt
       clear dt
       obtain ⟨du,H⟩:=af.ip H
       have g8:=decide_eq_true du
       clear du
       by_cases b0:(rd Y y) < 0
       ·rw [if_pos b0] at H
        have ch:=decide_eq_true b0
        clear b0
        obtain rfl:=Option.some.inj H
        obtain ⟨dv,dC,dE,dT,e0,e1⟩:=af.bW X.out
        obtain ⟨a5,a7,j,aO,aP⟩:=af.ai a4.out y
        cases a7
        try replace j:=(HB.out.cell (World.block_lt_of_cell? w _ j)).trans j
        go_wp2
        repeat (go_quiet (fail);try go_wp2)
        go_ret
        exact ⟨af.E,af.L⟩
       ·rw [if_neg b0] at H
        have ch:decide ((rd Y y) < 0) = false:=decide_eq_false b0
        clear b0
        by_cases b2:(rd Y y)≥a1
        ·rw [if_pos b2] at H
         have ci:=decide_eq_true b2
         clear b2
         obtain rfl:=Option.some.inj H
         obtain ⟨e2,e3,e4,e8,ea,eb⟩:=af.bW X.out
         obtain ⟨a5,a7,j,aO,aP⟩:=af.ai a4.out y
         cases a7
         try replace j:=(HB.out.cell (World.block_lt_of_cell? w _ j)).trans j
         obtain ⟨a6,ao,z,bv,c0⟩:=af.ai a4.out y
         obtain rfl:a5 = a6:=(by injection ao)
         try replace z:=(HB.out.cell (World.block_lt_of_cell? w _ z)).trans z
         go_wp2
         repeat (go_quiet (fail);try go_wp2)
         go_ret
         exact ⟨af.E,af.L⟩
        ·rw [if_neg b2] at H
         have ci:decide (a1≤(rd Y y)) = false:=decide_eq_false b2
         clear b2
         obtain ⟨ed,H⟩:=af.ip H
         have g9:=decide_eq_true ed
         clear ed
         by_cases b3:(rd a2 y) < 0
         ·rw [if_pos b3] at H
          have cp:=decide_eq_true b3
          clear b3
          obtain rfl:=Option.some.inj H
          obtain ⟨ee,ef,eh,ej,el,em⟩:=af.bW X.out
          obtain ⟨a5,a7,j,aO,aP⟩:=af.ai a4.out y
          cases a7
          try replace j:=(HB.out.cell (World.block_lt_of_cell? w _ j)).trans j
          obtain ⟨a6,ao,z,bv,c0⟩:=af.ai a4.out y
          obtain rfl:a5 = a6:=(by injection ao)
          try replace z:=(HB.out.cell (World.block_lt_of_cell? w _ z)).trans z
          obtain ⟨aw,aF,a0,cb,cc⟩:=af.ai am.out y
          cases aF
          try replace a0:=(HB.out.cell (World.block_lt_of_cell? w _ a0)).trans a0
          go_wp2
          repeat (go_quiet (fail);try go_wp2)
          go_ret
          exact ⟨af.E,af.L⟩
         ·rw [if_neg b3] at H
          have cp:decide ((rd a2 y) < 0) = false:=decide_eq_false b3
          clear b3
          by_cases b4:(rd a2 y)≥a1
          ·rw [if_pos b4] at H
           have cq:=decide_eq_true b4
           clear b4
           obtain rfl:=Option.some.inj H
           obtain ⟨eo,eq,es,et,ev,ew⟩:=af.bW X.out
           obtain ⟨a5,a7,j,aO,aP⟩:=af.ai a4.out y
           cases a7
           try replace j:=(HB.out.cell (World.block_lt_of_cell? w _ j)).trans j
           obtain ⟨a6,ao,z,bv,c0⟩:=af.ai a4.out y
           obtain rfl:a5 = a6:=(by injection ao)
           try replace z:=(HB.out.cell (World.block_lt_of_cell? w _ z)).trans z
           obtain ⟨aw,aF,a0,cb,cc⟩:=af.ai am.out y
           cases aF
           try replace a0:=(HB.out.cell (World.block_lt_of_cell? w _ a0)).trans a0
           obtain ⟨aL,c1,a3,ex,eQ⟩:=af.ai am.out y
           obtain rfl:aw = aL:=(by injection c1)
           try replace a3:=(HB.out.cell (World.block_lt_of_cell? w _ a3)).trans a3
           go_wp2
           repeat (go_quiet (fail);try go_wp2)
           go_ret
           exact ⟨af.E,af.L⟩
          ·rw [if_neg b4] at H
           have cq:decide (a1≤(rd a2 y)) = false:=decide_eq_false b4
           clear b4
           have H':=ae.mk H
           clear H
           obtain ⟨f0,f1,f2,f3,f4,f5⟩:=af.bW X.out
           obtain ⟨a5,a7,j,aO,aP⟩:=af.ai a4.out y
           cases a7
           try replace j:=(HB.out.cell (World.block_lt_of_cell? w _ j)).trans j
           obtain ⟨a6,ao,z,bv,c0⟩:=af.ai a4.out y
           obtain rfl:a5 = a6:=(by injection ao)
           try replace z:=(HB.out.cell (World.block_lt_of_cell? w _ z)).trans z
           obtain ⟨aw,aF,a0,cb,cc⟩:=af.ai am.out y
           cases aF
           try replace a0:=(HB.out.cell (World.block_lt_of_cell? w _ a0)).trans a0
           obtain ⟨aL,c1,a3,ex,eQ⟩:=af.ai am.out y
           obtain rfl:aw = aL:=(by injection c1)
           try replace a3:=(HB.out.cell (World.block_lt_of_cell? w _ a3)).trans a3
           go_wp2
           repeat (go_quiet (fail);try go_wp2)
           go_roundg k2
           case measure=>have:=d9.out;have:=dq.out;omega
           case rel=>exact ⟨(wrap64 (y+1)),af.F,H',⟨by have:=d9.out;have:=dq.out;omega⟩,⟨af.Bw X.out⟩,⟨af.Lw HB.out⟩⟩
      ·rw [if_neg aS] at H
       have cf:decide (y < (Y.length:Int)) = false:=decide_eq_false aS
       clear aS
       obtain rfl:=Option.some.inj H
       go_wp2
       repeat (go_quiet (fail);try go_wp2)
       go_ret
       exact ⟨af.E,af.L⟩
mutual
def aE.l0:Nat→Int→List Int→Int→Int→Int→List Int→List Int→Option (Int)
 | 0,_,_,_,_,_,_,_=>none
 | k+1,x1,x5,a7,a2,z,j,y=>if a2 < a7 then (if 0≤a2 then (if a2 < (x5.length:Int) then (aE.l0 k x1 (x5.set (a2:Int).toNat a2) a7 (wrap64 (a2+1)) z j y) else (none)) else (none)) else ((aD.f k x1).bind fun a3=>(aE.l1 k x5 z a3 (a3.length:Int) 0 z j y))
def aE.l1:Nat→List Int→Int→List Int→Int→Int→Int→List Int→List Int→Option (Int)
 | 0,_,_,_,_,_,_,_,_=>none
 | k+1,x5,x7,Y,a0,X,z,j,y=>if X < a0 then (if 0≤X then (if X < (Y.length:Int) then (if 0≤(rd Y X) then (if (rd Y X) < (j.length:Int) then (if 0≤(rd j (rd Y X)) then (if (rd j (rd Y X)) < (x5.length:Int) then (if (rd Y X) < (y.length:Int) then (if 0≤(rd y (rd Y X)) then (if (rd y (rd Y X)) < (x5.length:Int) then (if (rd x5 (rd j (rd Y X))) = (rd x5 (rd y (rd Y X))) then (aE.l1 k x5 x7 Y a0 (wrap64 (X+1)) z j y) else (aE.l2 k x5 (wrap64 (x7 - 1)) (rd x5 (rd j (rd Y X))) (rd x5 (rd y (rd Y X))) Y a0 X (x5.length:Int) 0 z j y)) else (none)) else (none)) else (none)) else (none)) else (none)) else (none)) else (none)) else (none)) else (none)) else (some x7)
def aE.l2:Nat→List Int→Int→Int→Int→List Int→Int→Int→Int→Int→Int→List Int→List Int→Option (Int)
 | 0,_,_,_,_,_,_,_,_,_,_,_,_=>none
 | k+1,x5,x7,a4,a5,Y,a0,X,a6,a1,z,j,y=>if a1 < a6 then (if 0≤a1 then (if a1 < (x5.length:Int) then (if (rd x5 a1) = a5 then (aE.l2 k (x5.set (a1:Int).toNat a4) x7 a4 a5 Y a0 X a6 (wrap64 (a1+1)) z j y) else (aE.l2 k x5 x7 a4 a5 Y a0 X a6 (wrap64 (a1+1)) z j y)) else (none)) else (none)) else (aE.l1 k x5 x7 Y a0 (wrap64 (X+1)) z j y)
end
def aE.f (k:Nat) (j:Int) (z:List Int) (X:List Int) (Y:Int):Option (Int):=if 0≤j then (if (j:Int).toNat≤35184372088832 then ((some (List.replicate (j:Int).toNat 0:List Int)).bind fun y=>(aE.l0 k Y y (y.length:Int) 0 j z X)) else (none)) else (none)
theorem aE.fc:∀ k,af.S7 aE.l0 k∧af.S8 aE.l1 k∧af.tI aE.l2 k
 | 0=>by and_intros <;> (repeat intro _) <;> exact af.mz rfl
 | k+1=>by
  obtain ⟨j,y,z⟩:=aE.fc k
  and_intros <;> (repeat intro _) <;> (first | unfold aE.l0 | unfold aE.l1 | unfold aE.l2) <;> exact ⟨af.mt⟩
theorem aE.mono:∀ a0 j a2 a3 k,fu (aE.f k a0 j a2 a3) (aE.f (k+1) a0 j a2 a3):=by
 intro a0 j a2 a3 k
 obtain ⟨y,z,X⟩:=aE.fc k
 unfold aE.f
 exact af.mt
instance aE.m:af.V4 aE.f:=fun _ _ _ _ _=>⟨aE.mono _ _ _ _ _⟩
set_option maxHeartbeats 8000000 in
set_option maxRecDepth 100000 in
theorem aE.calls (k:Nat) (a8:Int) (b4:Option Addr) (aL:Nat) (a4:List Int) (ba:Option Addr) (aO:Nat) (a3:List Int) (a1:Int) (r:Int) (w:World) (d4:Kd.C (Kd.int .i64) w b4 a4.length a4) (d5:a4.length≤aL) (d6:Kd.C (Kd.int .i64) w ba a3.length a3) (d7:a3.length≤aO) (h:aE.f k a8 a4 a3 a1 = some r) :
  Calls Try.prog 94 #[.agg #[.int .i64 a8,.slice b4 a4.length aL,.slice ba a3.length aO],.int .i64 a1] w fun e w'=>e = .returned (.int .i64 r)∧Below w.heap.size w w':=by
 have kt:=Try.underlying58
 have d8:=ae.mk d4
 have i6:=ae.mk d5
 clear d4 d5
 have d9:=ae.mk d6
 have i7:=ae.mk d7
 clear d6 d7
 have HB:=ae.mk (Below.refl w.heap.size w)
 unfold aE.f at h
 have H:=h
 clear h
 obtain ⟨c3,H⟩:=af.ip H
 have kv:=eq_true c3
 have kw:decide (0≤a8) = true:=decide_eq_true c3
 clear c3
 obtain ⟨c4,H⟩:=af.ip H
 have ky:=eq_true c4
 have l3:decide ((a8:Int).toNat≤35184372088832) = true:=decide_eq_true c4
 clear c4
 obtain ⟨aP,c0⟩:∃ y_:List Int,y_ = (List.replicate (a8:Int).toNat 0):=⟨_,rfl⟩
 replace H:(aE.l0 k a1 aP (aP.length:Int) 0 a8 a4 a3) = some r:=by (try rw [c0]);exact af.Z
 have db:=ae.mk c0
 clear c0
 have H':=ae.mk H
 clear H
 go_enter Try.func94,Try.ntmps94
 go_wp2_with (first | (refine af.bx 2 #[.int .i64 a8,.slice b4 a4.length aL,.slice ba a3.length aO] 58 ?_;intro aS hg w5 hbox hb;have X:=ae.mk hbox;have i8:=af.gw hg HB;have i9:=af.gw hg HB;replace HB:=af.lb HB hb;clear hb hbox hg;obtain ⟨hW,hX,hZ,i0,i1,i2⟩:=af.bW X.out) | ((with_reducible refine bf (N:=15) rfl ?_);refine Kd.kJ (Kd.int .i64) _ 3 rfl (N:=15) rfl 24 _ _ rfl a8 rfl rfl Try.underlying24 (.int .i64 0) 8 fa rfl (by decide) (by omega) 0 (ok:=fun _=>True) (okp:=fun _=>True) rfl (fun _ hk=>hk) trivial (af.D) (Nat.le_trans (Nat.mul_le_mul_right _ (af.D:a8.toNat≤35184372088832)) (by omega)) (Below.refl _ _) (Nat.le_refl _) ?_;intro l4 w7 dd hb ib ev;clear ib ev;(first | rw [← db.out] at dd | (simp only [Int.reduceToNat] at dd;rw [← db.out] at dd));have df:=ae.mk (Kd.bD dd (aA af.L));replace X:=af.bb X hb;replace HB:=ae.mk (ax af.L hb);clear hb dd;obtain ⟨ew,bc,ih⟩:=Kd.bA df.out;subst ih))
 go_loopg [18] k (fun kq ii w'=>∃ (ao:List Int) (a7:Int),ii = .int .i64 a7∧ae (aE.l0 kq a1 ao (aP.length:Int) a7 a8 a4 a3 = some r)∧ae (kq≤k)∧ae (Kd.R (Kd.int .i64) 3 w' w.heap.size (fun _=>True) (.slice ew aP.length bc) ao)∧ae (w'.heap[aS]? = some (.cells #[.int .i64 a8,(.slice b4 a4.length aL),(.slice ba a3.length aO)] 58 (0,0)))∧ae (Below w.heap.size w w'))
 case atStart=>exact ⟨(aP),(0),af.F,H',⟨Nat.le_refl _⟩,⟨af.Rw df.out⟩,⟨af.Bw X.out⟩,⟨af.L⟩⟩
 case round =>
  clear H'
  obtain ⟨ao,a7,rfl,HA,b3,a0,X,HB⟩:=hrel
  have z:=(Kd.aJ a0.out).1
  rw [z] at a0
  (try simp only [z])
  (try simp only [z] at X)
  cases gk with
  | zero=>exact absurd HA.out (by simp [aE.l0])
  | succ k1 =>
   have H:=HA.out
   clear HA
   simp only [aE.l0] at H
   by_cases iy:a7 < (aP.length:Int)
   ·rw [if_pos iy] at H
    have c1:=decide_eq_true iy
    clear iy
    obtain ⟨fY,H⟩:=af.ip H
    have il:=decide_eq_true fY
    clear fY
    obtain ⟨g0,H⟩:=af.ip H
    have im:=decide_eq_true g0
    clear g0
    obtain ⟨dk,ca⟩:∃ y_:List Int,y_ = (ao.set (a7:Int).toNat a7):=⟨_,rfl⟩
    replace H:(aE.l0 k1 a1 dk (aP.length:Int) (wrap64 (a7+1)) a8 a4 a3) = some r:=by (try rw [ca]);exact af.Z
    have ex:=ae.mk ca
    clear ca
    have H':=ae.mk H
    clear H
    have eQ:0≤(a7:Int):=af.D
    have cb:(a7:Int) < ((ao.length:Int):Int):=af.D
    obtain ⟨dl,la,ea,eb,g1,lc,ed⟩:=Kd.ie a0.out (by omega)
    (first | cases ea | (injection ea with ap dp dq;(first | subst ap | (injection ap with ap;subst ap));subst dq;clear dp))
    have g2:=ae.mk eb
    have le:=ae.mk ed
    clear eb g1 ed
    obtain ⟨d0,i3⟩:=Kd.eR 0 a0.out (a7:Int) eQ cb
    replace eQ:=eq_true eQ
    replace cb:=eq_true cb
    have dt:=Kd.iR a0.out (a7:Int) a7
    go_wp2_with (first | ((with_reducible refine dh (t:=3) (p:=24) rfl ?_);refine cU (t:=3) (p:=24) (v:=?vo_w15) (w1:=(wr.setCell ⟨dl,(a7:Int).toNat,none⟩ (.int .i64 a7))) ?hg ?ho ?hn ?hr ?_;(case ho=>rfl);(case hg=>rfl);(case hn=>rfl);(case hr=>first | (go_simp;done) | (go_simp;rfl));intro f0 hw;have hg:wr.grownBy f0 (some dl):=(by rw [hw];exact dt.2);have du:Kd.R (Kd.int .i64) 3 f0 w.heap.size (fun _=>True) (.slice (some ⟨dl,0,none⟩) ao.length bc) dk:=(by rw [hw,ex.out];exact dt.1);clear dt;replace X:=ae.mk (cO (g:=aS) (o:=.cells #[.int .i64 a8,.slice b4 a4.length aL,.slice ba a3.length aO] 58 (0,0)) (af.Bw X.out) hg (Kd.gj a0.out X.out (by decide)));replace a0:=ae.mk du;replace HB:=ae.mk ((by rw [hw];exact ct (HB.out) g2.out:Below w.heap.size w f0));clear hg hw du))
    (try simp only [← z])
    go_roundg k1
    case measure=>have:=b3.out;omega
    case rel=>exact ⟨(dk),(wrap64 (a7+1)),af.F,H',⟨by have:=b3.out;omega⟩,⟨by (try simp only [z]);(with_reducible repeat (first | apply Kd.bN | apply Kd.bO | apply Kd.bt));exact a0.out⟩,⟨by (try simp only [z]);(with_reducible repeat (first | refine cC ?_ _ | refine bC ?_ | refine bU ?_ _));exact X.out⟩,⟨af.L⟩⟩
   ·rw [if_neg iy] at H
    have c1:decide (a7 < (aP.length:Int)) = false:=decide_eq_false iy
    have f1:=c1;(try simp only [← z] at f1)
    have f2:=c1;(try simp only [z] at f2)
    clear iy
    obtain ⟨y,io,H⟩:=af.be H
    (try dsimp only at H)
    have H':=ae.mk H
    clear H
    obtain ⟨g3,g4,g5,g6,g7,g8⟩:=af.bW X.out
    go_wp2_with (first | (refine af.gl (some 29) Try.func62 #[.int .i64 a1] ?_;(with_reducible refine (aD.calls k1 a1 y _ io.out).mono ?_);rintro e ln ⟨lh,rfl,f3,hb⟩;refine ⟨_,rfl,?_⟩;have dv:=ae.mk (Kd.bD (Kd.cX f3 (Kd.dW (af.Rw a0.out))) (aA af.L));replace a0:=ae.mk (Kd.dI (af.Rw a0.out) (Kd.cP f3) hb);replace X:=af.bb X hb;replace HB:=ae.mk (ax af.L hb);(try clear hb);(try clear lo);(try clear hk);(try clear hi);(try clear f3);obtain ⟨ee,bo,g9⟩:=Kd.bA dv.out;subst g9))
    go_loopg [7,31] k1 (fun kq v7 v31 w'=>∃ (a2:List Int) (b0:Int) (j:Int),v7 = .int .i64 b0∧v31 = .int .i64 j∧ae (aE.l1 kq a2 b0 y (y.length:Int) j a8 a4 a3 = some r)∧ae (kq≤k1)∧ae (Kd.R (Kd.int .i64) 3 w' w.heap.size (fun k_=>some k_≠((.slice ee y.length bo):Value).ownBlock) (.slice ew ao.length bc) a2)∧ae (Kd.R (Kd.int .i64) 3 w' w.heap.size (fun k_=>some k_≠((.slice ew ao.length bc):Value).ownBlock) (.slice ee y.length bo) y)∧ae (w'.heap[aS]? = some (.cells #[.int .i64 a8,(.slice b4 a4.length aL),(.slice ba a3.length aO)] 58 (0,0)))∧ae (Below w.heap.size w w'))
    case atStart=>exact ⟨(ao),(a8),(0),af.F,af.F,H',⟨Nat.le_refl _⟩,⟨by (try simp only [z]);(with_reducible repeat (first | apply Kd.bN | apply Kd.bO | apply Kd.bt));exact Kd.aH a0.out (fun _ hk=>hk.2)⟩,⟨by (try simp only [z]);(with_reducible repeat (first | apply Kd.bN | apply Kd.bO | apply Kd.bt));exact Kd.aH dv.out (fun _ hk=>hk.2)⟩,⟨by (try simp only [z]);(with_reducible repeat (first | refine cC ?_ _ | refine bC ?_ | refine bU ?_ _));exact X.out⟩,⟨af.L⟩⟩
    case round =>
     clear H'
     try clear q1
     try clear it
     try clear cb
     try clear gb
     try clear gc
     try clear d0
     try clear cb
     obtain ⟨a2,b0,j,rfl,rfl,HA,bs,a0,ab,X,HB⟩:=hrel
     have Y:=(Kd.aJ a0.out).1
     rw [Y] at a0
     (try simp only [Y])
     (try simp only [Y] at X)
     (try simp only [Y] at ab)
     cases gk with
     | zero=>exact absurd HA.out (by simp [aE.l1])
     | succ k2 =>
      have H:=HA.out
      clear HA
      simp only [aE.l1] at H
      by_cases d1:j < (y.length:Int)
      ·rw [if_pos d1] at H
       have bi:=decide_eq_true d1
       clear d1
       obtain ⟨go,H⟩:=af.ip H
       have ix:=decide_eq_true go
       clear go
       obtain ⟨gs,H⟩:=af.ip H
       have jp:=decide_eq_true gs
       clear gs
       obtain ⟨gt,H⟩:=af.ip H
       have k0:=decide_eq_true gt
       clear gt
       obtain ⟨h0,H⟩:=af.ip H
       have k4:=decide_eq_true h0
       clear h0
       obtain ⟨h6,H⟩:=af.ip H
       have ka:=decide_eq_true h6
       clear h6
       obtain ⟨h7,H⟩:=af.ip H
       have kb:=decide_eq_true h7
       clear h7
       obtain ⟨h8,H⟩:=af.ip H
       have kc:=decide_eq_true h8
       clear h8
       obtain ⟨h9,H⟩:=af.ip H
       have kd:=decide_eq_true h9
       clear h9
       obtain ⟨hj,H⟩:=af.ip H
       have kh:=decide_eq_true hj
       clear hj
       by_cases cc:(rd a2 (rd a4 (rd y j))) = (rd a2 (rd a3 (rd y j)))
       ·rw [if_pos cc] at H
        have f4:((rd a2 (rd a4 (rd y j))) == (rd a2 (rd a3 (rd y j)))) = true:=beq_iff_eq.mpr cc
        have f5:((rd a2 (rd a4 (rd y j))) != (rd a2 (rd a3 (rd y j)))) = false:=bne_eq_false_iff_eq.mpr cc
        clear cc
        have H':=ae.mk H
        clear H
        obtain ⟨bm,dC,bv,hl,ef⟩:=af.ai (Kd.aJ ab.out).2.2 j
        cases dC
        obtain ⟨hm,hq,ht,hu,hx,hz⟩:=af.bW X.out
        obtain ⟨cd,dE,a9,hA,eh⟩:=af.ai d8.out (rd y j)
        cases dE
        try replace a9:=(HB.out.cell (World.block_lt_of_cell? w _ a9)).trans a9
        obtain ⟨ce,dT,ar,hC,ej⟩:=af.ai (Kd.aJ a0.out).2.2 (rd a4 (rd y j))
        cases dT
        obtain ⟨cf,e0,aa,hD,el⟩:=af.ai d9.out (rd y j)
        cases e0
        try replace aa:=(HB.out.cell (World.block_lt_of_cell? w _ aa)).trans aa
        obtain ⟨ch,e1,aw,em,e2⟩:=af.ai (Kd.aJ a0.out).2.2 (rd a3 (rd y j))
        obtain rfl:ce = ch:=(by injection e1)
        go_wp2
        (try simp only [← Y])
        go_roundg k2
        case measure=>have:=b3.out;have:=bs.out;omega
        case rel=>exact ⟨(a2),(b0),(wrap64 (j+1)),af.F,af.F,H',⟨by have:=b3.out;have:=bs.out;omega⟩,⟨by (try simp only [z]);(try simp only [Y]);(with_reducible repeat (first | apply Kd.bN | apply Kd.bO | apply Kd.bt));exact a0.out⟩,⟨by (try simp only [z]);(try simp only [Y]);(with_reducible repeat (first | apply Kd.bN | apply Kd.bO | apply Kd.bt));exact ab.out⟩,⟨by (try simp only [z]);(try simp only [Y]);(with_reducible repeat (first | refine cC ?_ _ | refine bC ?_ | refine bU ?_ _));exact X.out⟩,⟨af.L⟩⟩
       ·rw [if_neg cc] at H
        have f4:((rd a2 (rd a4 (rd y j))) == (rd a2 (rd a3 (rd y j)))) = false:=beq_eq_false_iff_ne.mpr cc
        have f5:((rd a2 (rd a4 (rd y j))) != (rd a2 (rd a3 (rd y j)))) = true:=bne_iff_ne.mpr cc
        have H':=ae.mk H
        clear H
        obtain ⟨bm,dC,bv,hl,ef⟩:=af.ai (Kd.aJ ab.out).2.2 j
        cases dC
        obtain ⟨hE,hG,hH,hI,hL,hM⟩:=af.bW X.out
        obtain ⟨cd,dE,a9,hA,eh⟩:=af.ai d8.out (rd y j)
        cases dE
        try replace a9:=(HB.out.cell (World.block_lt_of_cell? w _ a9)).trans a9
        obtain ⟨ce,dT,ar,hC,ej⟩:=af.ai (Kd.aJ a0.out).2.2 (rd a4 (rd y j))
        cases dT
        obtain ⟨cf,e0,aa,hD,el⟩:=af.ai d9.out (rd y j)
        cases e0
        try replace aa:=(HB.out.cell (World.block_lt_of_cell? w _ aa)).trans aa
        obtain ⟨ch,e1,aw,em,e2⟩:=af.ai (Kd.aJ a0.out).2.2 (rd a3 (rd y j))
        obtain rfl:ce = ch:=(by injection e1)
        obtain ⟨aB,li,eo,-,-,-⟩:=Kd.ie a0.out (by have p_:=of_eq_true em;have q_:=of_eq_true e2;omega)
        (first | cases eo | (injection eo with ap dp dq;(first | subst ap | (injection ap with ap;subst ap));subst dq;clear dp))
        try simp only [add_plain] at ar
        try simp only [add_plain] at aw
        go_wp2
        try simp only [add_plain]
        go_loopg [58] k2 (fun kq kl w'=>∃ (am:List Int) (a5:Int),kl = .int .i64 a5∧ae (aE.l2 kq am (wrap64 (b0 - 1)) (rd a2 (rd a4 (rd y j))) (rd a2 (rd a3 (rd y j))) y (y.length:Int) j (a2.length:Int) a5 a8 a4 a3 = some r)∧ae (kq≤k2)∧ae (Kd.R (Kd.int .i64) 3 w' w.heap.size (fun k_=>some k_≠((.slice (some bm) y.length bo):Value).ownBlock) (.slice (some (⟨aB,0,none⟩:Addr)) a2.length bc) am)∧ae (Kd.R (Kd.int .i64) 3 w' w.heap.size (fun k_=>some k_≠((.slice (some (⟨aB,0,none⟩:Addr)) a2.length bc):Value).ownBlock) (.slice (some bm) y.length bo) y)∧ae (w'.heap[aS]? = some (.cells #[.int .i64 a8,(.slice (some cd) a4.length aL),(.slice (some cf) a3.length aO)] 58 (0,0)))∧ae (Below w.heap.size w w'))
        case atStart=>exact ⟨(a2),(0),af.F,H',⟨Nat.le_refl _⟩,⟨by (try simp only [z]);(try simp only [Y]);(with_reducible repeat (first | apply Kd.bN | apply Kd.bO | apply Kd.bt));exact a0.out⟩,⟨by (try simp only [z]);(try simp only [Y]);(with_reducible repeat (first | apply Kd.bN | apply Kd.bO | apply Kd.bt));exact ab.out⟩,⟨by (try simp only [z]);(try simp only [Y]);(with_reducible repeat (first | refine cC ?_ _ | refine bC ?_ | refine bU ?_ _));exact X.out⟩,⟨af.L⟩⟩
        case round =>
         clear H'
         try clear q1
         try clear it
         try clear q3
         try clear lr
         try clear cb
         try clear gb
         try clear gc
         try clear d0
         try clear bv
         try clear a9
         try clear ar
         try clear aa
         try clear aw
         try clear q1
         try clear cb
         try clear ef
         try clear eh
         try clear ej
         try clear el
         try clear e2
         obtain ⟨am,a5,rfl,HA,d2,a0,ab,X,HB⟩:=hrel
         have a6:=(Kd.aJ a0.out).1
         rw [a6] at a0
         (try simp only [a6])
         (try simp only [a6] at X)
         (try simp only [a6] at ab)
         cases gk with
         | zero=>exact absurd HA.out (by simp [aE.l2])
         | succ k3 =>
          have H:=HA.out
          clear HA
          simp only [aE.l2] at H
          by_cases d3:a5 < (a2.length:Int)
          ·rw [if_pos d3] at H
           have b2:=decide_eq_true d3
           clear d3
           obtain ⟨hO,H⟩:=af.ip H
           have km:=decide_eq_true hO
           clear hO
           obtain ⟨hP,H⟩:=af.ip H
           have ks:=decide_eq_true hP
           clear hP
           by_cases ci:(rd am a5) = (rd a2 (rd a3 (rd y j)))
           ·rw [if_pos ci] at H
            have f6:((rd am a5) == (rd a2 (rd a3 (rd y j)))) = true:=beq_iff_eq.mpr ci
            have f7:((rd am a5) != (rd a2 (rd a3 (rd y j)))) = false:=bne_eq_false_iff_eq.mpr ci
            clear ci
            obtain ⟨e3,cp⟩:∃ y_:List Int,y_ = (am.set (a5:Int).toNat (rd a2 (rd a4 (rd y j)))):=⟨_,rfl⟩
            replace H:(aE.l2 k3 e3 (wrap64 (b0 - 1)) (rd a2 (rd a4 (rd y j))) (rd a2 (rd a3 (rd y j))) y (y.length:Int) j (a2.length:Int) (wrap64 (a5+1)) a8 a4 a3) = some r:=by (try rw [cp]);exact af.Z
            have f8:=ae.mk cp
            clear cp
            have H':=ae.mk H
            clear H
            obtain ⟨cq,e4,aF,hR,hT⟩:=af.ai (Kd.aJ a0.out).2.2 a5
            obtain rfl:(⟨aB,0,none⟩:Addr) = cq:=(by injection e4)
            (try simp only [add_plain] at aF)
            have f9:0≤(a5:Int):=af.D
            have fd:(a5:Int) < ((am.length:Int):Int):=af.D
            obtain ⟨lj,lk,eq,es,hU,ll,et⟩:=Kd.ie a0.out (by omega)
            (first | cases eq | (injection eq with ap dp dq;(first | subst ap | (injection ap with ap;subst ap));subst dq;clear dp))
            have hV:=ae.mk es
            have lm:=ae.mk et
            clear es hU et
            (first | simp only [add_plain] at ar | skip)
            (first | simp only [add_plain] at aw | skip)
            (first | simp only [add_plain] at aF | skip)
            obtain ⟨i4,i5⟩:=Kd.eR 0 a0.out (a5:Int) f9 fd
            replace f9:=eq_true f9
            replace fd:=eq_true fd
            have e8:=Kd.iR a0.out (a5:Int) (rd a2 (rd a4 (rd y j)))
            go_wp2_with (first | ((with_reducible refine dh (t:=3) (p:=70) rfl ?_);refine cU (t:=3) (p:=70) (v:=?vo_w39) (w1:=(wr.setCell ⟨aB,(a5:Int).toNat,none⟩ (.int .i64 (rd a2 (rd a4 (rd y j)))))) ?hg ?ho ?hn ?hr ?_;(case ho=>rfl);(case hg=>rfl);(case hn=>rfl);(case hr=>first | (go_simp;done) | (go_simp;rfl));intro fi hw;have hg:wr.grownBy fi (some aB):=(by rw [hw];exact e8.2);have du:Kd.R (Kd.int .i64) 3 fi w.heap.size (fun k_=>some k_≠(.slice (some bm) y.length bo:Value).ownBlock) (.slice (some ⟨aB,0,none⟩) am.length bc) e3:=(by rw [hw,f8.out];exact e8.1);clear e8;replace ab:=ae.mk (Kd.gF (v:=(.slice (some ⟨aB,0,none⟩) am.length bc)) (v1:=(.slice (some ⟨aB,0,none⟩) am.length bc)) (ok:=(fun _=>True)) (af.Rw (Kd.aH ab.out (fun _ hk=>⟨trivial,hk⟩))) hg (.inl rfl));replace X:=ae.mk (cO (g:=aS) (o:=.cells #[.int .i64 a8,.slice (some cd) a4.length aL,.slice (some cf) a3.length aO] 58 (0,0)) (af.Bw X.out) hg (Kd.gj a0.out X.out (by decide)));replace a0:=ae.mk du;replace HB:=ae.mk ((by rw [hw];exact ct (HB.out) hV.out:Below w.heap.size w fi));clear hg hw du))
            (try simp only [← a6])
            go_roundg k3
            case measure=>have:=b3.out;have:=bs.out;have:=d2.out;omega
            case rel=>exact ⟨(e3),(wrap64 (a5+1)),af.F,H',⟨by have:=b3.out;have:=bs.out;have:=d2.out;omega⟩,⟨by (try simp only [z]);(try simp only [Y]);(try simp only [a6]);(with_reducible repeat (first | apply Kd.bN | apply Kd.bO | apply Kd.bt));exact a0.out⟩,⟨by (try simp only [z]);(try simp only [Y]);(try simp only [a6]);(with_reducible repeat (first | apply Kd.bN | apply Kd.bO | apply Kd.bt));exact Kd.aH ab.out (fun _ hk=>hk.2)⟩,⟨by (try simp only [z]);(try simp only [Y]);(try simp only [a6]);(with_reducible repeat (first | refine cC ?_ _ | refine bC ?_ | refine bU ?_ _));exact X.out⟩,⟨af.L⟩⟩
           ·rw [if_neg ci] at H
            have f6:((rd am a5) == (rd a2 (rd a3 (rd y j)))) = false:=beq_eq_false_iff_ne.mpr ci
            have f7:((rd am a5) != (rd a2 (rd a3 (rd y j)))) = true:=bne_iff_ne.mpr ci
            have H':=ae.mk H
            clear H
            obtain ⟨cq,e4,aF,hR,hT⟩:=af.ai (Kd.aJ a0.out).2.2 a5
            obtain rfl:(⟨aB,0,none⟩:Addr) = cq:=(by injection e4)
            (try simp only [add_plain] at aF)
            go_wp2
            (try simp only [← a6])
            go_roundg k3
            case measure=>have:=b3.out;have:=bs.out;have:=d2.out;omega
            case rel=>exact ⟨(am),(wrap64 (a5+1)),af.F,H',⟨by have:=b3.out;have:=bs.out;have:=d2.out;omega⟩,⟨by (try simp only [z]);(try simp only [Y]);(try simp only [a6]);(with_reducible repeat (first | apply Kd.bN | apply Kd.bO | apply Kd.bt));exact a0.out⟩,⟨by (try simp only [z]);(try simp only [Y]);(try simp only [a6]);(with_reducible repeat (first | apply Kd.bN | apply Kd.bO | apply Kd.bt));exact ab.out⟩,⟨by (try simp only [z]);(try simp only [Y]);(try simp only [a6]);(with_reducible repeat (first | refine cC ?_ _ | refine bC ?_ | refine bU ?_ _));exact X.out⟩,⟨af.L⟩⟩
          ·rw [if_neg d3] at H
           have b2:decide (a5 < (a2.length:Int)) = false:=decide_eq_false d3
           have fj:=b2;(try simp only [← z,← Y,← a6] at fj)
           have fp:=b2;(try simp only [← Y,← a6] at fp)
           have fs:=b2;(try simp only [← a6] at fs)
           have ft:=b2;(try simp only [z,Y,a6] at ft)
           clear d3
           have H':=ae.mk H
           clear H
           go_wp2
           (try simp only [← Y,← a6])
           go_roundg k3
           case measure=>have:=b3.out;have:=bs.out;have:=d2.out;omega
           case rel=>exact ⟨(am),((wrap64 (b0 - 1))),(wrap64 (j+1)),af.F,af.F,H',⟨by have:=b3.out;have:=bs.out;have:=d2.out;omega⟩,⟨by (try simp only [z]);(try simp only [Y]);(try simp only [a6]);(with_reducible repeat (first | apply Kd.bN | apply Kd.bO | apply Kd.bt));exact a0.out⟩,⟨by (try simp only [z]);(try simp only [Y]);(try simp only [a6]);(with_reducible repeat (first | apply Kd.bN | apply Kd.bO | apply Kd.bt));exact ab.out⟩,⟨by (try simp only [z]);(try simp only [Y]);(try simp only [a6]);(with_reducible repeat (first | refine cC ?_ _ | refine bC ?_ | refine bU ?_ _));exact X.out⟩,⟨af.L⟩⟩
      ·rw [if_neg d1] at H
       have bi:decide (j < (y.length:Int)) = false:=decide_eq_false d1
       have fw:=bi;(try simp only [← z,← Y] at fw)
       have fO:=bi;(try simp only [← Y] at fO)
       have fX:=bi;(try simp only [z,Y] at fX)
       clear d1
       obtain rfl:=Option.some.inj H
       go_wp2
       go_ret
       exact ⟨af.E,af.L⟩
def dK.f (a0:Int):Option (Int):=some (Go.bits .and .i64 (wrap64 (IntKind.u64.wrap ((IntKind.u64.wrap ((IntKind.u64.wrap ((Go.bits .and .u64 (IntKind.u64.wrap (((IntKind.u64.wrap ((Go.bits .and .u64 ((IntKind.u64.wrap ((Go.bits .and .u64 (a0 / 2) 6148914691236517205)+(Go.bits .and .u64 a0 6148914691236517205))) / 4) 3689348814741910323)+(Go.bits .and .u64 (IntKind.u64.wrap ((Go.bits .and .u64 (a0 / 2) 6148914691236517205)+(Go.bits .and .u64 a0 6148914691236517205))) 3689348814741910323))) / 16)+(IntKind.u64.wrap ((Go.bits .and .u64 ((IntKind.u64.wrap ((Go.bits .and .u64 (a0 / 2) 6148914691236517205)+(Go.bits .and .u64 a0 6148914691236517205))) / 4) 3689348814741910323)+(Go.bits .and .u64 (IntKind.u64.wrap ((Go.bits .and .u64 (a0 / 2) 6148914691236517205)+(Go.bits .and .u64 a0 6148914691236517205))) 3689348814741910323))))) 1085102592571150095)+((Go.bits .and .u64 (IntKind.u64.wrap (((IntKind.u64.wrap ((Go.bits .and .u64 ((IntKind.u64.wrap ((Go.bits .and .u64 (a0 / 2) 6148914691236517205)+(Go.bits .and .u64 a0 6148914691236517205))) / 4) 3689348814741910323)+(Go.bits .and .u64 (IntKind.u64.wrap ((Go.bits .and .u64 (a0 / 2) 6148914691236517205)+(Go.bits .and .u64 a0 6148914691236517205))) 3689348814741910323))) / 16)+(IntKind.u64.wrap ((Go.bits .and .u64 ((IntKind.u64.wrap ((Go.bits .and .u64 (a0 / 2) 6148914691236517205)+(Go.bits .and .u64 a0 6148914691236517205))) / 4) 3689348814741910323)+(Go.bits .and .u64 (IntKind.u64.wrap ((Go.bits .and .u64 (a0 / 2) 6148914691236517205)+(Go.bits .and .u64 a0 6148914691236517205))) 3689348814741910323))))) 1085102592571150095) / 256)))+((IntKind.u64.wrap ((Go.bits .and .u64 (IntKind.u64.wrap (((IntKind.u64.wrap ((Go.bits .and .u64 ((IntKind.u64.wrap ((Go.bits .and .u64 (a0 / 2) 6148914691236517205)+(Go.bits .and .u64 a0 6148914691236517205))) / 4) 3689348814741910323)+(Go.bits .and .u64 (IntKind.u64.wrap ((Go.bits .and .u64 (a0 / 2) 6148914691236517205)+(Go.bits .and .u64 a0 6148914691236517205))) 3689348814741910323))) / 16)+(IntKind.u64.wrap ((Go.bits .and .u64 ((IntKind.u64.wrap ((Go.bits .and .u64 (a0 / 2) 6148914691236517205)+(Go.bits .and .u64 a0 6148914691236517205))) / 4) 3689348814741910323)+(Go.bits .and .u64 (IntKind.u64.wrap ((Go.bits .and .u64 (a0 / 2) 6148914691236517205)+(Go.bits .and .u64 a0 6148914691236517205))) 3689348814741910323))))) 1085102592571150095)+((Go.bits .and .u64 (IntKind.u64.wrap (((IntKind.u64.wrap ((Go.bits .and .u64 ((IntKind.u64.wrap ((Go.bits .and .u64 (a0 / 2) 6148914691236517205)+(Go.bits .and .u64 a0 6148914691236517205))) / 4) 3689348814741910323)+(Go.bits .and .u64 (IntKind.u64.wrap ((Go.bits .and .u64 (a0 / 2) 6148914691236517205)+(Go.bits .and .u64 a0 6148914691236517205))) 3689348814741910323))) / 16)+(IntKind.u64.wrap ((Go.bits .and .u64 ((IntKind.u64.wrap ((Go.bits .and .u64 (a0 / 2) 6148914691236517205)+(Go.bits .and .u64 a0 6148914691236517205))) / 4) 3689348814741910323)+(Go.bits .and .u64 (IntKind.u64.wrap ((Go.bits .and .u64 (a0 / 2) 6148914691236517205)+(Go.bits .and .u64 a0 6148914691236517205))) 3689348814741910323))))) 1085102592571150095) / 256))) / 65536)))+((IntKind.u64.wrap ((IntKind.u64.wrap ((Go.bits .and .u64 (IntKind.u64.wrap (((IntKind.u64.wrap ((Go.bits .and .u64 ((IntKind.u64.wrap ((Go.bits .and .u64 (a0 / 2) 6148914691236517205)+(Go.bits .and .u64 a0 6148914691236517205))) / 4) 3689348814741910323)+(Go.bits .and .u64 (IntKind.u64.wrap ((Go.bits .and .u64 (a0 / 2) 6148914691236517205)+(Go.bits .and .u64 a0 6148914691236517205))) 3689348814741910323))) / 16)+(IntKind.u64.wrap ((Go.bits .and .u64 ((IntKind.u64.wrap ((Go.bits .and .u64 (a0 / 2) 6148914691236517205)+(Go.bits .and .u64 a0 6148914691236517205))) / 4) 3689348814741910323)+(Go.bits .and .u64 (IntKind.u64.wrap ((Go.bits .and .u64 (a0 / 2) 6148914691236517205)+(Go.bits .and .u64 a0 6148914691236517205))) 3689348814741910323))))) 1085102592571150095)+((Go.bits .and .u64 (IntKind.u64.wrap (((IntKind.u64.wrap ((Go.bits .and .u64 ((IntKind.u64.wrap ((Go.bits .and .u64 (a0 / 2) 6148914691236517205)+(Go.bits .and .u64 a0 6148914691236517205))) / 4) 3689348814741910323)+(Go.bits .and .u64 (IntKind.u64.wrap ((Go.bits .and .u64 (a0 / 2) 6148914691236517205)+(Go.bits .and .u64 a0 6148914691236517205))) 3689348814741910323))) / 16)+(IntKind.u64.wrap ((Go.bits .and .u64 ((IntKind.u64.wrap ((Go.bits .and .u64 (a0 / 2) 6148914691236517205)+(Go.bits .and .u64 a0 6148914691236517205))) / 4) 3689348814741910323)+(Go.bits .and .u64 (IntKind.u64.wrap ((Go.bits .and .u64 (a0 / 2) 6148914691236517205)+(Go.bits .and .u64 a0 6148914691236517205))) 3689348814741910323))))) 1085102592571150095) / 256)))+((IntKind.u64.wrap ((Go.bits .and .u64 (IntKind.u64.wrap (((IntKind.u64.wrap ((Go.bits .and .u64 ((IntKind.u64.wrap ((Go.bits .and .u64 (a0 / 2) 6148914691236517205)+(Go.bits .and .u64 a0 6148914691236517205))) / 4) 3689348814741910323)+(Go.bits .and .u64 (IntKind.u64.wrap ((Go.bits .and .u64 (a0 / 2) 6148914691236517205)+(Go.bits .and .u64 a0 6148914691236517205))) 3689348814741910323))) / 16)+(IntKind.u64.wrap ((Go.bits .and .u64 ((IntKind.u64.wrap ((Go.bits .and .u64 (a0 / 2) 6148914691236517205)+(Go.bits .and .u64 a0 6148914691236517205))) / 4) 3689348814741910323)+(Go.bits .and .u64 (IntKind.u64.wrap ((Go.bits .and .u64 (a0 / 2) 6148914691236517205)+(Go.bits .and .u64 a0 6148914691236517205))) 3689348814741910323))))) 1085102592571150095)+((Go.bits .and .u64 (IntKind.u64.wrap (((IntKind.u64.wrap ((Go.bits .and .u64 ((IntKind.u64.wrap ((Go.bits .and .u64 (a0 / 2) 6148914691236517205)+(Go.bits .and .u64 a0 6148914691236517205))) / 4) 3689348814741910323)+(Go.bits .and .u64 (IntKind.u64.wrap ((Go.bits .and .u64 (a0 / 2) 6148914691236517205)+(Go.bits .and .u64 a0 6148914691236517205))) 3689348814741910323))) / 16)+(IntKind.u64.wrap ((Go.bits .and .u64 ((IntKind.u64.wrap ((Go.bits .and .u64 (a0 / 2) 6148914691236517205)+(Go.bits .and .u64 a0 6148914691236517205))) / 4) 3689348814741910323)+(Go.bits .and .u64 (IntKind.u64.wrap ((Go.bits .and .u64 (a0 / 2) 6148914691236517205)+(Go.bits .and .u64 a0 6148914691236517205))) 3689348814741910323))))) 1085102592571150095) / 256))) / 65536))) / 4294967296)))) 127)
set_option maxHeartbeats 8000000 in
set_option maxRecDepth 100000 in
theorem dK.calls (a0:Int) (r:Int) (w:World) (h:dK.f a0 = some r) :
  Calls Try.prog 152 #[.int .u64 a0] w fun e w'=>e = .returned (.int .i64 r)∧bQ w w':=by
 unfold dK.f at h
 have H:=h
 clear h
 obtain rfl:=Option.some.inj H
 go_enter Try.func152,Try.ntmps152
 go_wp2
 go_ret
 exact ⟨af.F,af.G⟩
def dL.f (a0:Int):Option (Int):=(dK.f a0).bind fun j=>(some j)
set_option maxHeartbeats 8000000 in
set_option maxRecDepth 100000 in
theorem dL.calls (a0:Int) (r:Int) (w:World) (h:dL.f a0 = some r) :
  Calls Try.prog 127 #[.int .u64 a0] w fun e w'=>e = .returned (.int .i64 r)∧bQ w w':=by
 unfold dL.f at h
 have H:=h
 clear h
 obtain ⟨j,y,H⟩:=af.be H
 (try dsimp only at H)
 obtain rfl:=Option.some.inj H
 go_enter Try.func127,Try.ntmps127
 go_wp2_with (first | (refine af.gl (some 7) Try.func152 #[.int .u64 a0] ?_;(with_reducible refine (dK.calls a0 j _ y.out).mono ?_);rintro e w' ⟨rfl,⟨nd,rfl⟩⟩;refine ⟨_,rfl,?_⟩))
 go_ret
 exact ⟨af.F,af.G⟩
def cm.f (a0:Int):Option (Int):=(bM.f a0).bind fun j=>(if j = true then ((dL.f (IntKind.u64.wrap (a0))).bind fun y=>(some y)) else (some 0))
set_option maxHeartbeats 8000000 in
set_option maxRecDepth 100000 in
theorem cm.calls (a0:Int) (r:Int) (w:World) (h:cm.f a0 = some r) :
  Calls Try.prog 95 #[.int .i64 a0] w fun e w'=>e = .returned (.int .i64 r)∧bQ w w':=by
 unfold cm.f at h
 have H:=h
 clear h
 obtain ⟨y,z,H⟩:=af.be H
 (try dsimp only at H)
 by_cases c3:y = true
 ·subst c3
  replace H:((dL.f (IntKind.u64.wrap (a0))).bind fun j=>(some j)) = some r:=by rw [if_pos rfl] at H;exact H
  obtain ⟨j,X,H⟩:=af.be H
  (try dsimp only at H)
  obtain rfl:=Option.some.inj H
  go_enter Try.func95,Try.ntmps95
  go_wp2_with (first | (refine af.gl (some 4) Try.func121 #[.int .i64 a0] ?_;(with_reducible refine (bM.calls a0 true _ z.out).mono ?_);rintro e w' ⟨rfl,⟨nd,rfl⟩⟩;refine ⟨_,rfl,?_⟩) | (refine af.gl (some 8) Try.func127 #[.int .u64 (IntKind.u64.wrap (a0))] ?_;(with_reducible refine (dL.calls (IntKind.u64.wrap (a0)) j _ X.out).mono ?_);rintro e w' ⟨rfl,⟨nd,rfl⟩⟩;refine ⟨_,rfl,?_⟩))
  go_ret
  exact ⟨af.F,af.G⟩
 ·replace c3:=Bool.eq_false_iff.mpr c3
  subst c3
  replace H:(some 0) = some r:=by rw [if_neg (show ¬ (false = true) by decide)] at H;exact H
  obtain rfl:=Option.some.inj H
  go_enter Try.func95,Try.ntmps95
  go_wp2_with (first | (refine af.gl (some 4) Try.func121 #[.int .i64 a0] ?_;(with_reducible refine (bM.calls a0 false _ z.out).mono ?_);rintro e w' ⟨rfl,⟨nd,rfl⟩⟩;refine ⟨_,rfl,?_⟩))
  go_ret
  exact ⟨af.F,af.G⟩
def b5.f (k:Nat) (a0:Int) (j:Int) (y:List Int) (z:List Int):Option (Bool):=(aE.f k j y z a0).bind fun X=>((cm.f a0).bind fun Y=>(some ((wrap64 (j - X)) == Y)))
theorem b5.mono:∀ a0 j a2 a3 k,fu (b5.f k a0 j a2 a3) (b5.f (k+1) a0 j a2 a3):=by
 intro a0 j a2 a3 k
 unfold b5.f
 repeat' first
   | (with_reducible exact aE.mono _ _ _ _ _)
   | (with_reducible exact fu.refl _)
   | (with_reducible exact fu.none _)
   | (with_reducible refine fu.ite ?_ ?_)
   | (with_reducible refine fu.bind ?_ (fun _=>?_))
   | exact aE.mono _ _ _ _ _
   | exact fu.none _
   | refine fu.ite ?_ ?_
   | refine fu.bind ?_ (fun _=>?_)
def b5.T1:Bool×List (List Nat×List Nat):=(true,[([],[]),([0],[0]),([],[]),([],[]),([2,3],[2,3]),([1,4],[1,4]),([],[]),([6,4],[6]),([5,7],[5,7]),([8,7,0,1,2,3,4,5,6,7,8],[8])])
def b5.B1:List Nat:=[0,1,0,0,12,31,0,92,255,511]
theorem b5.th:ep .any (opsOf Try.f93 1) = b5.T1:=by kernel_rfl
theorem b5.sI:ec b5.T1.2 b5.B1 = true:=by kernel_rfl
set_option maxHeartbeats 8000000 in
set_option maxRecDepth 100000 in
theorem b5.calls (k:Nat) (a0:Int) (Y:Int) (a1:Option Addr) (a2:Nat) (y:List Int) (a3:Option Addr) (a4:Nat) (z:List Int) (r:Bool) (w:World) (gb:Nat) (hbk:w.heap[gb]? = some (.cells #[.int .i64 Y,.slice a1 y.length a2,.slice a3 z.length a4] 58 (0,0))) (a5:Kd.C (Kd.int .i64) w a1 y.length y) (a6:y.length≤a2) (a7:Kd.C (Kd.int .i64) w a3 z.length z) (a8:z.length≤a4) (h:b5.f k a0 Y y z = some r) :
  Calls Try.prog 93 #[.int .i64 a0,.pointer (some ⟨gb,0,none⟩)] w fun e w'=>e = .returned (.bool r)∧Below w.heap.size w w':=by
 have aw:=Try.underlying58
 have a9:=ae.mk a5
 have aa:=ae.mk a6
 clear a5 a6
 have ab:=ae.mk a7
 have am:=ae.mk a8
 clear a7 a8
 have j:=ae.mk hbk
 clear hbk
 have HB:=ae.mk (Below.refl w.heap.size w)
 unfold b5.f at h
 have H:=h
 clear h
 obtain ⟨ao,A3,H⟩:=af.be H
 (try dsimp only at H)
 obtain ⟨ap,A4,H⟩:=af.be H
 (try dsimp only at H)
 obtain rfl:=Option.some.inj H
 go_enter Try.func93,Try.ntmps93
 try go_wp2
 replace j:=ae.mk (bC j.out)
 replace HB:=ae.mk (cu HB.out)
 refine eY (n:=10) (S:=fun w'=>w'.cell? ⟨gb,0,none⟩ = some (.int .i64 Y)∧w'.cell? ⟨gb,1,none⟩ = some (.slice a1 y.length a2)∧w'.cell? ⟨gb,2,none⟩ = some (.slice a3 z.length a4)) (ds:=[]) #[false,false,false,false,false,false,false,false,false,false] (by kernel_rfl) rfl rfl ⟨(ah j.out 0).trans rfl,(ah j.out 1).trans rfl,(ah j.out 2).trans rfl⟩ (fun hHeld=>?_);refine ez b5.th b5.sI (fun X ar=>?_)
 generalize w.drew = w6 at j HB hHeld ⊢
 refine af.pu 0 4 X ?_
 refine af.pu 3 7 X ?_
 refine af.pu 6 10 X ?_
 refine af.tk 1 5 X ar hHeld ?_
 refine af.tk 2 6 X ar hHeld ?_
 refine eS (i:=4) (N:=some 8) #[true,true,true,true,true,false,true,false,false,false] rfl rfl (dJ X.out (by kernel_rfl)) (by decide) (fun K hK=>?_)
 refine eH Try.func94 (by kernel_rfl) rfl #[.agg #[.int .i64 Y,.slice a1 y.length a2,.slice a3 z.length a4],.int .i64 a0] (by rfl) rfl rfl (by (try simp only [List.map_toArray,List.map_cons,List.map_nil]);first | done | rfl) ?_
 with_reducible refine (aE.calls k Y _ _ y _ _ z a0 ao _ ?side1 ?side2 ?side3 ?side4 A3.out).mono ?_
 (case side1=>exact af.Cw (Kd.aX a9.out HB.out))
 (case side2=>exact aa.out)
 (case side3=>exact af.Cw (Kd.aX ab.out HB.out))
 (case side4=>exact am.out)
 rintro e w7 ⟨rfl,hb⟩
 refine ⟨_,rfl,?_⟩
 replace j:=af.bb j hb
 replace HB:=af.lb HB hb
 (try clear hb)
 (try clear aB)
 (try clear hk)
 (try clear hi)
 refine hK.out _ _ ⟨(ah j.out 0).trans rfl,(ah j.out 1).trans rfl,(ah j.out 2).trans rfl⟩ (fun hHeld=>?_)
 clear hK K
 refine e6 (a':=?_) ?_ ?_
 rotate_left
 ·show Act.put _ (some 8) _ = _
  simp only [Act.put,List.setIfInBounds_toArray,List.set_cons_zero,List.set_cons_succ,bE,cG]
  rfl
 refine af.pu 5 9 X ?_
 refine eS (i:=7) (N:=some 11) #[true,true,true,true,true,true,true,true,false,false] rfl rfl (dJ X.out (by kernel_rfl)) (by decide) (fun K hK=>?_)
 refine eH Try.func95 (by kernel_rfl) rfl #[.int .i64 a0] (by rfl) rfl rfl (by (try simp only [List.map_toArray,List.map_cons,List.map_nil]);first | done | rfl) ?_
 with_reducible refine (cm.calls a0 ap _ A4.out).mono ?_
 rintro e w' ⟨rfl,⟨nd,rfl⟩⟩
 refine ⟨_,rfl,?_⟩
 refine hK.out _ _ ⟨(ah j.out 0).trans rfl,(ah j.out 1).trans rfl,(ah j.out 2).trans rfl⟩ (fun hHeld=>?_)
 clear hK K
 refine e6 (a':=?_) ?_ ?_
 rotate_left
 ·show Act.put _ (some 11) _ = _
  simp only [Act.put,List.setIfInBounds_toArray,List.set_cons_zero,List.set_cons_succ,bE,cG]
  rfl
 refine af.pu 8 12 X ?_
 refine af.pu 9 3 X ?_
 refine gm (fL X.out (by kernel_rfl)) ?_
 try go_wp2
 go_ret
 exact ⟨af.E,af.L⟩
theorem b5.mH (k:Nat) (z:Int) (X:Option Addr) (Y:Nat) (j:List Int) (a0:Option Addr) (a1:Nat) (y:List Int) (gb:Nat) (w:World) (hbk:w.heap[gb]? = some (.cells #[.int .i64 z,.slice X j.length Y,.slice a0 y.length a1] 58 (0,0))) (a2:Kd.C (Kd.int .i64) w X j.length j) (a3:j.length≤Y) (a4:Kd.C (Kd.int .i64) w a0 y.length y) (a5:y.length≤a1) :
  af.ke Try.prog w (.func (.func 93) #[] #[.pointer (some ⟨gb,0,none⟩)]) (fun s=>b5.f k s z j y) :=
 ⟨⟨93,#[.pointer (some ⟨gb,0,none⟩)],Try.f93,rfl,Try.func93,by kernel_rfl,rfl,fun s b w' hw hg=>b5.calls k s z X Y j a0 a1 y b w' gb (aU hbk hw) (Kd.aX a2 hw) a3 (Kd.aX a4 hw) a5 hg⟩⟩
def cr.f (k:Nat) (z:Int) (j:List Int) (X:List Int):Option (Int×List Int):=(bk.f k z j X).bind fun Y=>(if Y = true then ((bn.f k (j.length:Int) (fun s=>b5.f k s z j X)).bind fun a0=>((cj.f k (j.length:Int) a0).bind fun y=>(some (y.1,y.2.1)))) else (some (0,([]:List Int))))
set_option maxHeartbeats 8000000 in
set_option maxRecDepth 100000 in
theorem cr.calls (k:Nat) (Y:Int) (a6:Option Addr) (a3:Nat) (z:List Int) (a7:Option Addr) (a4:Nat) (X:List Int) (r1:Int) (r2:List Int) (w:World) (aS:Kd.C (Kd.int .i64) w a6 z.length z) (b0:z.length≤a3) (b2:Kd.C (Kd.int .i64) w a7 X.length X) (b3:X.length≤a4) (h:cr.f k Y z X = some (r1,r2)) :
  Calls Try.prog 46 #[.agg #[.int .i64 Y,.slice a6 z.length a3,.slice a7 X.length a4]] w fun e w'=>∃ ca:Value,e = .returned (.agg #[.int .i64 r1,ca])∧Kd.R (Kd.int .i64) 3 w' w.heap.size (fun _=>True) ca r2∧Below w.heap.size w w':=by
 have ej:=Try.underlying58
 have el:=Try.underlying35
 have ab:=ae.mk aS
 have am:=ae.mk b0
 clear aS b0
 have ao:=ae.mk b2
 have ap:=ae.mk b3
 clear b2 b3
 have HB:=ae.mk (Below.refl w.heap.size w)
 unfold cr.f at h
 have H:=h
 clear h
 obtain ⟨cb,A2,H⟩:=af.be H
 (try dsimp only at H)
 by_cases c3:cb = true
 ·subst c3
  replace H:((bn.f k (z.length:Int) (fun s=>b5.f k s Y z X)).bind fun aa=>((cj.f k (z.length:Int) aa).bind fun b4=>(some (b4.1,b4.2.1)))) = some (r1,r2):=by rw [if_pos rfl] at H;exact H
  obtain ⟨aa,A4,H⟩:=af.be H
  (try dsimp only at H)
  obtain ⟨⟨aL,aO,cc⟩,A5,H⟩:=af.be H
  (try dsimp only at H)
  simp only [Option.some.injEq,Prod.mk.injEq] at H
  obtain ⟨rfl,rfl⟩:=H
  go_enter Try.func46,Try.ntmps46
  go_wp2_with (first | (refine af.bx 1 #[.int .i64 Y,.slice a6 z.length a3,.slice a7 X.length a4] 58 ?_;intro a8 hg w6 hbox hb;have j:=ae.mk hbox;have bo:=af.gw hg HB;have bs:=af.gw hg HB;replace HB:=af.lb HB hb;clear hb hbox hg) | (refine af.bx 2 #[.int .i64 0,.slice none 0 0] 35 ?_;intro a5 hg w7 hbox hb;have y:=ae.mk hbox;have bv:=af.gw hg HB;have c0:=af.gw hg HB;replace HB:=af.lb HB hb;have a1:=af.nl hg j;have a2:=af.ng hg j;replace j:=af.bb j hb;clear hb hbox hg;have em:=a1.out;have eo:=a2.out;obtain ⟨dE,dT,e0,e1,e2,e3⟩:=af.bW j.out) | (refine af.gl (some 7) Try.func92 #[.agg #[.int .i64 Y,.slice a6 z.length a3,.slice a7 X.length a4]] ?_;(with_reducible refine (bk.calls k Y _ _ z _ _ X true _ ?side1 ?side2 ?side3 ?side4 A2.out).mono ?_);(case side1=>exact af.Cw (Kd.aX ab.out HB.out));(case side2=>exact am.out);(case side3=>exact af.Cw (Kd.aX ao.out HB.out));(case side4=>exact ap.out);rintro e et ⟨rfl,hb⟩;refine ⟨_,rfl,?_⟩;replace j:=af.bb j hb;replace y:=af.bb y hb;replace HB:=af.lb HB hb;(try clear hb);(try clear c1);(try clear hk);(try clear hi);obtain ⟨cd,ce,cf,ch,ci,cp⟩:=af.bW j.out) | (refine af.gl (some 17) Try.func69 #[.int .i64 (z.length:Int),.func (.func 93) #[] #[.pointer (some ⟨a8,0,none⟩)]] ?_;(with_reducible refine (bn.calls k (z.length:Int) (.func (.func 93) #[] #[.pointer (some ⟨a8,0,none⟩)]) (fun s=>b5.f k s Y z X) aa _ (b5.mH k Y _ a3 z _ a4 X a8 _ j.out (Kd.aX ab.out HB.out) am.out (Kd.aX ao.out HB.out) ap.out) A4.out).mono ?_);rintro e ev ⟨eq,rfl,aP,hb⟩;refine ⟨_,rfl,?_⟩;have a0:=ae.mk (Kd.bD aP (aA (af.Lw HB.out)));replace j:=af.bb j hb;replace y:=af.bb y hb;replace HB:=af.lb HB hb;(try clear hb);(try clear c1);(try clear hk);(try clear hi);(try clear aP);obtain ⟨cq,d0,d1⟩:=Kd.bA a0.out;subst d1) | (refine af.gl (some 18) Try.func68 #[.int .i64 (z.length:Int),.slice cq aa.length d0] ?_;(with_reducible refine (cj.calls k (z.length:Int) _ _ aa aL aO cc _ ?side1 ?side2 A5.out).mono ?_);(case side1=>exact af.Cw ((Kd.aJ a0.out).2.2));(case side2=>exact (Kd.aJ a0.out).2.1);rintro e ew ⟨es,rfl,aP,hb⟩;refine ⟨_,rfl,?_⟩;have a9:=ae.mk (Kd.bD (Kd.cX aP (Kd.dW (af.Rw a0.out))) (aA (af.Lw HB.out)));replace a0:=ae.mk (Kd.dI (af.Rw a0.out) (Kd.cP aP) hb);replace j:=af.bb j hb;replace y:=af.bb y hb;replace HB:=af.lb HB hb;(try clear hb);(try clear c1);(try clear hk);(try clear hi);(try clear aP)) | (refine af.bx 4 #[.int .i64 0,.slice none 0 0] 35 ?_;intro ba hg ex hbox hb;replace a0:=af.rb a0 hb;replace a9:=af.rb a9 hb;have bc:=ae.mk hbox;have e4:=af.gw hg HB;have e8:=af.gw hg HB;replace HB:=af.lb HB hb;have ar:=af.nl hg j;have aw:=af.ng hg j;replace j:=af.bb j hb;have aB:=af.nl hg y;have aF:=af.ng hg y;replace y:=af.bb y hb;clear hb hbox hg;have ea:=aw.out;have eb:=ar.out;have ed:=aF.out;have ee:=aB.out;obtain ⟨d2,d3,d4,d5⟩:=af.cY bc.out;obtain ⟨bi,bm,d6⟩:=Kd.bA a9.out;subst d6;obtain ⟨d7,d8,d9,db⟩:=af.cY y.out))
  refine bodyPost_ret (results_cell_row rfl _ _ a5 35 #[.int .i64 aL,.slice bi aO.length bm] (0,0) _ rfl af.B Try.underlying35 rfl (by kernel_rfl)) rfl ?_
  exact ⟨_,af.E,by (with_reducible repeat (first | apply Kd.bN | apply Kd.bO | apply Kd.bt));exact Kd.aH (Kd.aG (p:=⟨a5,1,none⟩) (Kd.aG (p:=⟨a5,0,none⟩) (Kd.aG (p:=⟨ba,1,none⟩) (Kd.aG (p:=⟨ba,0,none⟩) (Kd.b7 (Kd.b7 a9.out bc.out (by decide)) y.out (by decide)) (fun _ hk=>hk.1.2) (.int .i64 aL)) (fun _ hk=>hk.1.2) (.slice bi aO.length bm)) (fun _ hk=>hk.2) (.int .i64 aL)) (fun _ hk=>hk.2) (.slice bi aO.length bm)) (fun _ hk=>trivial),af.L⟩
 ·replace c3:=Bool.eq_false_iff.mpr c3
  subst c3
  replace H:(some (0,([]:List Int))) = some (r1,r2):=by rw [if_neg (show ¬ (false = true) by decide)] at H;exact H
  simp only [Option.some.injEq,Prod.mk.injEq] at H
  obtain ⟨rfl,rfl⟩:=H
  go_enter Try.func46,Try.ntmps46
  go_wp2_with (first | (refine af.bx 1 #[.int .i64 Y,.slice a6 z.length a3,.slice a7 X.length a4] 58 ?_;intro a8 hg eQ hbox hb;have j:=ae.mk hbox;have bo:=af.gw hg HB;have bs:=af.gw hg HB;replace HB:=af.lb HB hb;clear hb hbox hg) | (refine af.bx 2 #[.int .i64 0,.slice none 0 0] 35 ?_;intro a5 hg f0 hbox hb;have y:=ae.mk hbox;have bv:=af.gw hg HB;have c0:=af.gw hg HB;replace HB:=af.lb HB hb;have a1:=af.nl hg j;have a2:=af.ng hg j;replace j:=af.bb j hb;clear hb hbox hg;have ef:=a1.out;have eh:=a2.out;obtain ⟨dd,df,dk,dl,dp,dq⟩:=af.bW j.out) | (refine af.gl (some 7) Try.func92 #[.agg #[.int .i64 Y,.slice a6 z.length a3,.slice a7 X.length a4]] ?_;(with_reducible refine (bk.calls k Y _ _ z _ _ X false _ ?side1 ?side2 ?side3 ?side4 A2.out).mono ?_);(case side1=>exact af.Cw (Kd.aX ab.out HB.out));(case side2=>exact am.out);(case side3=>exact af.Cw (Kd.aX ao.out HB.out));(case side4=>exact ap.out);rintro e f1 ⟨rfl,hb⟩;refine ⟨_,rfl,?_⟩;replace j:=af.bb j hb;replace y:=af.bb y hb;replace HB:=af.lb HB hb;(try clear hb);(try clear c1);(try clear hk);(try clear hi);obtain ⟨dt,du,dv,dC⟩:=af.cY y.out))
  refine bodyPost_ret (results_cell_row rfl _ _ a5 35 #[.int .i64 0,.slice none 0 0] (0,0) _ rfl af.B Try.underlying35 rfl (by kernel_rfl)) rfl ?_
  exact ⟨_,af.E,af.N,af.L⟩
def bP.f (a0:Int) (z:Int):Option (Bool):=(az.f a0 0 8).bind fun j=>(if j = true then (if 0≤(IntKind.u64.wrap (a0)) then ((az.f z 0 (wrap64 ((shl .i64 1 (IntKind.u64.wrap (a0))) - 1))).bind fun y=>(some y)) else (none)) else (some false))
set_option maxHeartbeats 8000000 in
set_option maxRecDepth 100000 in
theorem bP.calls (a0:Int) (a1:Int) (r:Bool) (w:World) (h:bP.f a0 a1 = some r) :
  Calls Try.prog 56 #[.int .i64 a0,.int .i64 a1] w fun e w'=>e = .returned (.bool r)∧bQ w w':=by
 unfold bP.f at h
 have H:=h
 clear h
 obtain ⟨a4,A3,H⟩:=af.be H
 (try dsimp only at H)
 by_cases c4:a4 = true
 ·subst c4
  replace H:(if 0≤(IntKind.u64.wrap (a0)) then ((az.f a1 0 (wrap64 ((shl .i64 1 (IntKind.u64.wrap (a0))) - 1))).bind fun y=>(some y)) else (none)) = some r:=by rw [if_pos rfl] at H;exact H
  obtain ⟨j,Y⟩:∃ j_:Int,(IntKind.u64.wrap (a0)) = j_:=⟨_,rfl⟩
  replace H:(if 0≤(j) then ((az.f a1 0 (wrap64 ((shl .i64 1 (j)) - 1))).bind fun y=>(some y)) else (none)) = some r:=by first | (rw [Y] at H;exact H) | (simp only [Y] at H ⊢;exact H)
  (try rw [Y] at A3)
  obtain ⟨c6,H⟩:=af.ip H
  have aa:=eq_true c6
  have ab:decide (0≤(j)) = true:=decide_eq_true c6
  clear c6
  obtain ⟨X,z⟩:∃ j_:Int,(shl .i64 1 (j)) = j_:=⟨_,rfl⟩
  replace H:((az.f a1 0 (wrap64 ((X) - 1))).bind fun y=>(some y)) = some r:=by first | (rw [z] at H;exact H) | (simp only [z] at H ⊢;exact H)
  (try rw [z] at A3)
  have a2:(IntKind.i64.wrap (1 * 2 ^ min (j).toNat 64)) = X:=z
  have a3:(j)≤64→(IntKind.i64.wrap (1 * 2 ^ (j).toNat)) = X:=ei z
  have a6:(IntKind.i64.wrap (2 ^ min (j).toNat 64)) = X:=by have h_:=a2;rw [Int.one_mul] at h_;exact h_
  have a7:(j)≤64→(IntKind.i64.wrap (2 ^ (j).toNat)) = X:=fun a5=>by have h_:=a3 a5;rw [Int.one_mul] at h_;exact h_
  have a8:(wrap64 (1 * 2 ^ min (j).toNat 64)) = X:=(bE _).symm.trans a2
  have a9:(j)≤64→(wrap64 (1 * 2 ^ (j).toNat)) = X:=fun h_=>(bE _).symm.trans (a3 h_)
  obtain ⟨y,A8,H⟩:=af.be H
  (try dsimp only at H)
  obtain rfl:=Option.some.inj H
  go_enter Try.func56,Try.ntmps56
  go_wp2_with (first | ((with_reducible refine b8 (f:=89) rfl ?_);refine af.gl (some 6) Try.func89 #[.int .i64 a0,.int .i64 0,.int .i64 8] ?_;(with_reducible refine (az.calls a0 0 8 true _ A3.out).mono ?_);rintro e w' ⟨rfl,⟨nd,rfl⟩⟩;refine ⟨_,rfl,?_⟩) | (go_at_call 89;(with_reducible refine (az.calls a1 0 (wrap64 ((X) - 1)) y _ A8.out).mono ?_);rintro e w' ⟨rfl,⟨nd,rfl⟩⟩))
  go_ret
  exact ⟨by first | rfl | (simp;done) | (simp only [← Y,← z] <;> (first | rfl | simp)) | (simp [*];done),af.G⟩
 ·replace c4:=Bool.eq_false_iff.mpr c4
  subst c4
  replace H:(some false) = some r:=by rw [if_neg (show ¬ (false = true) by decide)] at H;exact H
  obtain rfl:=Option.some.inj H
  go_enter Try.func56,Try.ntmps56
  go_wp2_with (first | ((with_reducible refine b8 (f:=89) rfl ?_);refine af.gl (some 6) Try.func89 #[.int .i64 a0,.int .i64 0,.int .i64 8] ?_;(with_reducible refine (az.calls a0 0 8 false _ A3.out).mono ?_);rintro e w' ⟨rfl,⟨nd,rfl⟩⟩;refine ⟨_,rfl,?_⟩))
  go_ret
  exact ⟨af.F,af.G⟩
end Go.Proofs.Ytmpodackojmojaa.Pr
end
