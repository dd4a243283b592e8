/- The claim FnLattice: every text that its row comes to, laid together by slim.py (the words of the kit's print, the printed walks, the pure law, the row). -/
import Derived.Test.YtmpodackojmojaaGreatYFnLattice0
section
namespace Go.Proofs.YtmpodackojmojaaGreat.Pr
open Go.RowKit Go.Proofs.ag.aX Go.Proofs.ag.bU Go.Proofs.ag.bQ
attribute [local go_sem] je jf jW jX iF iG jg jh
set_option linter.unusedVariables false
set_option linter.unusedSimpArgs false
def bW.l0:Nat→Int→Int→Int→Int→List Int→Option (Int)
 | 0,_,_,_,_,_=>none
 | k+1,X,Y,z,y,j=>if z < (j.length:Int) then (if 0≤z then ((bC.f k (Go.bits .and .i64 (rd j z) X)).bind fun t134=>((fg.f Y t134).bind fun t135=>(bW.l0 k X t135 (wrap64 (z+1)) y j))) else (none)) else (some Y)
def bW.f (k:Nat) (j:Int) (y:List Int) (z:Int):Option (Int):=bW.l0 k z 0 0 j y
set_option maxHeartbeats 8000000 in
set_option maxRecDepth 100000 in
theorem bW.calls (k:Nat) (Y:Int) (a2:Option Addr) (a3:Nat) (j:List Int) (a1:Int) (r:Int) (w:World) (a4:Kd.C (Kd.int .i64) w a2 j.length j) (a5:j.length≤a3) (h:bW.f k Y j a1 = some r) :
  Calls Tryz.prog 109 #[.agg #[.int .i64 Y,.slice a2 j.length a3],.int .i64 a1] w fun e w'=>e = .returned (.int .i64 r)∧Below w.heap.size w w':=by
 have aS:=Tryz.underlying30
 have a6:=ae.mk a4
 have aL:=ae.mk a5
 clear a4 a5
 have HB:=ae.mk (Below.refl w.heap.size w)
 unfold bW.f at h
 have H:=h
 clear h
 have H':=ae.mk H
 clear H
 go_enter Tryz.func109,Tryz.ntmps109
 go_wp2_with (first | (refine af.bx 2 #[.int .i64 Y,.slice a2 j.length a3] 30 ?_;intro a7 hg w3 hbox hb;have z:=ae.mk hbox;have aO:=af.gw hg HB;have aP:=af.gw hg HB;replace HB:=af.lb HB hb;clear hb hbox hg))
 go_loopg [5,6] k (fun kq v5 v6 w'=>∃ (a0:Int) (y:Int),v5 = .int .i64 a0∧v6 = .int .i64 y∧ae (bW.l0 kq a1 a0 y Y j = some r)∧ae (kq≤k)∧ae (w'.heap[a7]? = some (.cells #[.int .i64 Y,(.slice a2 j.length a3)] 30 (0,0)))∧ae (Below w.heap.size w w'))
 case atStart=>exact ⟨(0),(0),af.F,af.F,H',⟨Nat.le_refl _⟩,⟨af.Bw z.out⟩,⟨af.Lw HB.out⟩⟩
 case round =>
  clear H'
  obtain ⟨a0,y,rfl,rfl,HA,a8,z,HB⟩:=hrel
  cases gk with
  | zero=>exact absurd HA.out (by simp [bW.l0])
  | succ k1 =>
   have H:=HA.out
   clear HA
   simp only [bW.l0] at H
   by_cases c4:y < (j.length:Int)
   ·rw [if_pos c4] at H
    have a9:=decide_eq_true c4
    clear c4
    obtain ⟨c5,H⟩:=af.ip H
    have b0:=decide_eq_true c5
    clear c5
    obtain ⟨t134,A6,H⟩:=af.be H
    (try dsimp only at H)
    obtain ⟨t135,A7,H⟩:=af.be H
    (try dsimp only at H)
    have H':=ae.mk H
    clear H
    obtain ⟨ab,am,ao,ap⟩:=af.bw z.out
    obtain ⟨aR,aa,X,b2,b3⟩:=af.ai a6.out y
    cases aa
    try replace X:=(HB.out.cell (World.block_lt_of_cell? w _ X)).trans X
    go_wp2_with (first | (refine af.gl (some 22) Tryz.func25 #[.int .i64 (Go.bits .and .i64 (rd j y) a1)] ?_;(with_reducible refine (bC.calls k1 (Go.bits .and .i64 (rd j y) a1) t134 _ A6.out).mono ?_);rintro e w' ⟨rfl,⟨nd,rfl⟩⟩;refine ⟨_,rfl,?_⟩) | (refine af.gl (some 23) Tryz.func121 #[.int .i64 a0,.int .i64 t134] ?_;(with_reducible refine (fg.calls a0 t134 t135 _ A7.out).mono ?_);rintro e w' ⟨rfl,⟨nd,rfl⟩⟩;refine ⟨_,rfl,?_⟩))
    go_roundg k1
    case measure=>have:=a8.out;omega
    case rel=>exact ⟨(t135),(wrap64 (y+1)),af.F,af.F,H',⟨by have:=a8.out;omega⟩,⟨af.Bw z.out⟩,⟨af.Lw HB.out⟩⟩
   ·rw [if_neg c4] at H
    have a9:decide (y < (j.length:Int)) = false:=decide_eq_false c4
    clear c4
    obtain rfl:=Option.some.inj H
    obtain ⟨ar,aw,aB,aF⟩:=af.bw z.out
    go_wp2
    go_ret
    exact ⟨af.E,af.L⟩
def cj.l0:Nat→Int→Int→Int→Int→Int→List Int→Option (Int)
 | 0,_,_,_,_,_,_=>none
 | k+1,X,Y,x6,z,j,y=>if z < j then (if 0≤(IntKind.u64.wrap (z)) then ((bW.f k j y (Go.bits .or .i64 X (shl .i64 1 (IntKind.u64.wrap (z))))).bind fun t138=>(if t138 = x6 then (cj.l0 k X (Go.bits .or .i64 Y (shl .i64 1 (IntKind.u64.wrap (z)))) x6 (wrap64 (z+1)) j y) else (cj.l0 k X Y x6 (wrap64 (z+1)) j y))) else (none)) else (some Y)
def cj.f (k:Nat) (j:Int) (y:List Int) (z:Int):Option (Int):=(bW.f k j y z).bind fun t137=>(cj.l0 k z z t137 0 j y)
set_option maxHeartbeats 8000000 in
set_option maxRecDepth 100000 in
theorem cj.calls (k:Nat) (y:Int) (a4:Option Addr) (a5:Nat) (j:List Int) (a1:Int) (r:Int) (w:World) (ab:Kd.C (Kd.int .i64) w a4 j.length j) (am:j.length≤a5) (h:cj.f k y j a1 = some r) :
  Calls Tryz.prog 112 #[.agg #[.int .i64 y,.slice a4 j.length a5],.int .i64 a1] w fun e w'=>e = .returned (.int .i64 r)∧Below w.heap.size w w':=by
 have d0:=Tryz.underlying30
 have a6:=ae.mk ab
 have a7:=ae.mk am
 clear ab am
 have HB:=ae.mk (Below.refl w.heap.size w)
 unfold cj.f at h
 have H:=h
 clear h
 obtain ⟨t137,A3,H⟩:=af.be H
 (try dsimp only at H)
 have H':=ae.mk H
 clear H
 go_enter Tryz.func112,Tryz.ntmps112
 go_wp2_with (first | (refine af.bx 2 #[.int .i64 y,.slice a4 j.length a5] 30 ?_;intro ar hg w4 hbox hb;have z:=ae.mk hbox;have cf:=af.gw hg HB;have ci:=af.gw hg HB;replace HB:=af.lb HB hb;clear hb hbox hg;obtain ⟨bs,bv,c0,c1⟩:=af.bw z.out) | (refine af.gl (some 11) Tryz.func109 #[.agg #[.int .i64 y,.slice a4 j.length a5],.int .i64 a1] ?_;(with_reducible refine (bW.calls k y _ _ j a1 t137 _ ?side1 ?side2 A3.out).mono ?_);(case side1=>exact af.Cw (Kd.aT a6.out HB.out));(case side2=>exact a7.out);rintro e w6 ⟨rfl,hb⟩;refine ⟨_,rfl,?_⟩;replace z:=af.bb z hb;replace HB:=af.lb HB hb;(try clear hb);(try clear aF);(try clear hk);(try clear hi)))
 go_loopg [5,7] k (fun kq v5 v7 w'=>∃ (a3:Int) (Y:Int),v5 = .int .i64 a3∧v7 = .int .i64 Y∧ae (cj.l0 kq a1 a3 t137 Y y j = some r)∧ae (kq≤k)∧ae (w'.heap[ar]? = some (.cells #[.int .i64 y,(.slice a4 j.length a5)] 30 (0,0)))∧ae (Below w.heap.size w w'))
 case atStart=>exact ⟨(a1),(0),af.F,af.F,H',⟨Nat.le_refl _⟩,⟨af.Bw z.out⟩,⟨af.Lw HB.out⟩⟩
 case round =>
  clear H'
  obtain ⟨a3,Y,rfl,rfl,HA,ao,z,HB⟩:=hrel
  cases gk with
  | zero=>exact absurd HA.out (by simp [cj.l0])
  | succ k1 =>
   have H:=HA.out
   clear HA
   simp only [cj.l0] at H
   by_cases c7:Y < y
   ·rw [if_pos c7] at H
    have aL:=decide_eq_true c7
    clear c7
    obtain ⟨a0,ap⟩:∃ j_:Int,(IntKind.u64.wrap (Y)) = j_:=⟨_,rfl⟩
    replace H:(if 0≤(a0) then ((bW.f k1 y j (Go.bits .or .i64 a1 (shl .i64 1 (a0)))).bind fun t138=>(if t138 = t137 then (cj.l0 k1 a1 (Go.bits .or .i64 a3 (shl .i64 1 (a0))) t137 (wrap64 (Y+1)) y j) else (cj.l0 k1 a1 a3 t137 (wrap64 (Y+1)) y j))) else (none)) = some r:=by first | (rw [ap] at H;exact H) | (simp only [ap] at H ⊢;exact H)
    obtain ⟨c9,H⟩:=af.ip H
    have d1:=eq_true c9
    have d2:decide (0≤(a0)) = true:=decide_eq_true c9
    clear c9
    obtain ⟨X,a2⟩:∃ j_:Int,(shl .i64 1 (a0)) = j_:=⟨_,rfl⟩
    replace H:((bW.f k1 y j (Go.bits .or .i64 a1 (X))).bind fun t138=>(if t138 = t137 then (cj.l0 k1 a1 (Go.bits .or .i64 a3 (X)) t137 (wrap64 (Y+1)) y j) else (cj.l0 k1 a1 a3 t137 (wrap64 (Y+1)) y j))) = some r:=by first | (rw [a2] at H;exact H) | (simp only [a2] at H ⊢;exact H)
    have a9:(IntKind.i64.wrap (1 * 2 ^ min (a0).toNat 64)) = X:=a2
    have aa:(a0)≤64→(IntKind.i64.wrap (1 * 2 ^ (a0).toNat)) = X:=fI a2
    have ca:(IntKind.i64.wrap (2 ^ min (a0).toNat 64)) = X:=by have h_:=a9;rw [Int.one_mul] at h_;exact h_
    have cb:(a0)≤64→(IntKind.i64.wrap (2 ^ (a0).toNat)) = X:=fun aO=>by have h_:=aa aO;rw [Int.one_mul] at h_;exact h_
    have cc:(wrap64 (1 * 2 ^ min (a0).toNat 64)) = X:=(aM _).symm.trans a9
    have ce:(a0)≤64→(wrap64 (1 * 2 ^ (a0).toNat)) = X:=fun h_=>(aM _).symm.trans (aa h_)
    obtain ⟨t138,aP,H⟩:=af.be H
    (try dsimp only at H)
    by_cases a8:t138 = t137
    ·rw [if_pos a8] at H
     have aw:(t138 == t137) = true:=beq_iff_eq.mpr a8
     have aB:(t138 != t137) = false:=bne_eq_false_iff_eq.mpr a8
     clear a8
     have cp:=eq_true (af.D:0≤(a0))
     have H':=ae.mk H
     clear H
     obtain ⟨aR,aS,b0,b2⟩:=af.bw z.out
     go_wp2_with (first | ((with_reducible refine aA (f:=109) rfl ?_);refine nH (some 24) rfl rfl Tryz.func109 (by kernel_rfl) rfl #[.agg #[.int .i64 y,.slice a4 j.length a5],.int .i64 (Go.bits .or .i64 a1 (X))] rfl (by (try simp only [List.map_toArray,List.map_cons,List.map_nil]);first | done | (simp only [a2];rfl) | rfl | (simp only [List.length_drop,List.length_take];rfl)) ?_;(with_reducible refine (bW.calls k1 y _ _ j (Go.bits .or .i64 a1 (X)) t138 _ ?side1 ?side2 aP.out).mono ?_);(case side1=>exact af.Cw (Kd.aT a6.out HB.out));(case side2=>exact a7.out);rintro e d3 ⟨rfl,hb⟩;refine ⟨_,rfl,?_⟩;replace z:=af.bb z hb;replace HB:=af.lb HB hb;(try clear hb);(try clear aF);(try clear hk);(try clear hi)))
     go_roundg k1
     case measure=>have:=ao.out;omega
     case rel=>exact ⟨(Go.bits .or .i64 a3 (X)),(wrap64 (Y+1)),(by first | rfl | (simp;done) | (simp only [← a2] <;> (first | rfl | simp)) | (simp [*];done)),af.F,H',⟨by have:=ao.out;omega⟩,⟨af.Bw z.out⟩,⟨af.Lw HB.out⟩⟩
    ·rw [if_neg a8] at H
     have aw:(t138 == t137) = false:=beq_eq_false_iff_ne.mpr a8
     have aB:(t138 != t137) = true:=bne_iff_ne.mpr a8
     have H':=ae.mk H
     clear H
     obtain ⟨b3,b4,b5,ba⟩:=af.bw z.out
     go_wp2_with (first | ((with_reducible refine aA (f:=109) rfl ?_);refine nH (some 24) rfl rfl Tryz.func109 (by kernel_rfl) rfl #[.agg #[.int .i64 y,.slice a4 j.length a5],.int .i64 (Go.bits .or .i64 a1 (X))] rfl (by (try simp only [List.map_toArray,List.map_cons,List.map_nil]);first | done | (simp only [a2];rfl) | rfl | (simp only [List.length_drop,List.length_take];rfl)) ?_;(with_reducible refine (bW.calls k1 y _ _ j (Go.bits .or .i64 a1 (X)) t138 _ ?side1 ?side2 aP.out).mono ?_);(case side1=>exact af.Cw (Kd.aT a6.out HB.out));(case side2=>exact a7.out);rintro e d4 ⟨rfl,hb⟩;refine ⟨_,rfl,?_⟩;replace z:=af.bb z hb;replace HB:=af.lb HB hb;(try clear hb);(try clear aF);(try clear hk);(try clear hi)))
     go_roundg k1
     case measure=>have:=ao.out;omega
     case rel=>exact ⟨(a3),(wrap64 (Y+1)),af.F,af.F,H',⟨by have:=ao.out;omega⟩,⟨af.Bw z.out⟩,⟨af.Lw HB.out⟩⟩
   ·rw [if_neg c7] at H
    have aL:decide (Y < y) = false:=decide_eq_false c7
    clear c7
    obtain rfl:=Option.some.inj H
    obtain ⟨bc,bi,bm,bo⟩:=af.bw z.out
    go_wp2
    go_ret
    exact ⟨af.E,af.L⟩
def cG.l0:Nat→List Int→Int→Int→List Int→Option (List Int)
 | 0,_,_,_,_=>none
 | k+1,X,z,j,y=>(cF.f j).bind fun t143=>(if z≤t143 then ((cj.f k j y z).bind fun t144=>(if t144 = z then (if X.length < 17592186044416 then (cG.l0 k (X ++ [z]) (wrap64 (z+1)) j y) else (none)) else (cG.l0 k X (wrap64 (z+1)) j y))) else (some X))
def cG.f (k:Nat) (j:Int) (y:List Int):Option (List Int):=cG.l0 k (([]:List Int)) 0 j y
set_option maxHeartbeats 8000000 in
set_option maxRecDepth 100000 in
theorem cG.calls (k:Nat) (z:Int) (a0:Option Addr) (a1:Nat) (X:List Int) (r:List Int) (w:World) (a5:Kd.C (Kd.int .i64) w a0 X.length X) (a6:X.length≤a1) (h:cG.f k z X = some r) :
  Calls Tryz.prog 108 #[.agg #[.int .i64 z,.slice a0 X.length a1]] w fun e w'=>∃ aL:Value,e = .returned (aL)∧Kd.R (Kd.int .i64) 3 w' w.heap.size (fun _=>True) aL r∧Below w.heap.size w w':=by
 have ci:=Tryz.underlying30
 have a7:=ae.mk a5
 have a8:=ae.mk a6
 clear a5 a6
 have HB:=ae.mk (Below.refl w.heap.size w)
 unfold cG.f at h
 have H:=h
 clear h
 obtain ⟨ao,a3⟩:∃ y_:List Int,y_ = (([]:List Int)):=⟨_,rfl⟩
 replace H:(cG.l0 k ao 0 z X) = some r:=by (try rw [a3]);exact af.Z
 have a9:=ae.mk a3
 clear a3
 have H':=ae.mk H
 clear H
 go_enter Tryz.func108,Tryz.ntmps108
 go_wp2_with (first | (refine af.bx 1 #[.int .i64 z,.slice a0 X.length a1] 30 ?_;intro aa hg w2 hbox hb;have j:=ae.mk hbox;have cb:=af.gw hg HB;have cc:=af.gw hg HB;replace HB:=af.lb HB hb;clear hb hbox hg) | (refine af.lt (Kd.int .i64) 3 5 ?_;intro v141 w3 ab hb ce ar;clear ce ar;(first | rw [← a9.out] at ab | (simp only [Int.reduceToNat] at ab;rw [← a9.out] at ab));have aw:=ae.mk (Kd.aV ab (av (af.Lw HB.out)));replace j:=af.bb j hb;replace HB:=af.lb HB hb;clear hb ab))
 go_loopg [3,4] k (fun kq v3 v4 w'=>∃ (a2:List Int) (y:Int),v4 = .int .i64 y∧ae (cG.l0 kq a2 y z X = some r)∧ae (kq≤k)∧ae (Kd.R (Kd.int .i64) 3 w' w.heap.size (fun _=>True) v3 a2)∧ae (w'.heap[aa]? = some (.cells #[.int .i64 z,(.slice a0 X.length a1)] 30 (0,0)))∧ae (Below w.heap.size w w'))
 case atStart=>exact ⟨(ao),(0),af.F,H',⟨Nat.le_refl _⟩,⟨af.Rw aw.out⟩,⟨af.Bw j.out⟩,⟨af.Lw HB.out⟩⟩
 case round =>
  clear H'
  obtain ⟨a2,y,rfl,HA,am,Y,j,HB⟩:=hrel
  cases gk with
  | zero=>exact absurd HA.out (by simp [cG.l0])
  | succ k1 =>
   have H:=HA.out
   clear HA
   simp only [cG.l0] at H
   obtain ⟨t143,A5,H⟩:=af.be H
   (try dsimp only at H)
   by_cases c6:y≤t143
   ·rw [if_pos c6] at H
    have aO:=decide_eq_true c6
    clear c6
    obtain ⟨t144,A7,H⟩:=af.be H
    (try dsimp only at H)
    by_cases c8:t144 = y
    ·rw [if_pos c8] at H
     have aP:(t144 == y) = true:=beq_iff_eq.mpr c8
     have aR:(t144 != y) = false:=bne_eq_false_iff_eq.mpr c8
     clear c8
     obtain ⟨c9,H⟩:=af.ip H
     have aS:=ae.mk c9
     clear c9
     obtain ⟨ap,a4⟩:∃ y_:List Int,y_ = (a2 ++ [y]):=⟨_,rfl⟩
     replace H:(cG.l0 k1 ap (wrap64 (y+1)) z X) = some r:=by (try rw [a4]);exact af.Z
     have aB:=ae.mk a4
     clear a4
     have H':=ae.mk H
     clear H
     obtain ⟨b0,b2,b3,b4⟩:=af.bw j.out
     go_wp2_with (first | (refine af.gl (some 9) Tryz.func24 #[.int .i64 z] ?_;(with_reducible refine (cF.calls z t143 _ A5.out).mono ?_);rintro e w' ⟨rfl,⟨nd,rfl⟩⟩;refine ⟨_,rfl,?_⟩) | (refine af.gl (some 15) Tryz.func112 #[.agg #[.int .i64 z,.slice a0 X.length a1],.int .i64 y] ?_;(with_reducible refine (cj.calls k1 z _ _ X y t144 _ ?side1 ?side2 A7.out).mono ?_);(case side1=>exact af.Cw (Kd.aT a7.out HB.out));(case side2=>exact a8.out);rintro e cp ⟨rfl,hb⟩;refine ⟨_,rfl,?_⟩;replace Y:=af.rb Y hb;replace j:=af.bb j hb;replace HB:=af.lb HB hb;(try clear hb);(try clear cf);(try clear hk);(try clear hi)) | ((with_reducible refine cP (b:=.append) (xs:=#[.tmp 18,.tmp 20]) rfl ?_);at_builtin;refine Kd.eE (Kd.int .i64) (w0:=w) w.heap.size rfl (.tmp 18) (.tmp 20) 28 3 (.int .i64 0) 8 rfl Tryz.underlying28 eI rfl (by decide) (by omega) u3 a2 y [.int .i64 y] (fun _=>True) (fun _=>False) rfl rfl (by exact rfl) (fun _ hk=>hk.elim) (by exact fun _ _=>trivial) (by exact af.Rw Y.out) (by exact af.Lw HB.out) (by exact av (af.Lw HB.out)) (by have:=aS.out;omega) ?_;intro v146 d0 ho hb hg hat;rw [← aB.out] at ho;have b5:=ae.mk (dJ (g:=aa) (o:=.cells #[.int .i64 z,.slice a0 X.length a1] 30 (0,0)) (af.Bw j.out) hg (Kd.fS Y.out j.out (by decide)));have ba:=ae.mk hb;have bc:=ae.mk ho;clear j;clear HB;clear Y;have j:=b5;have HB:=ba;have aF:=bc;clear b5 ba bc;clear ho hb hg hat))
     go_roundg k1
     case measure=>have:=am.out;omega
     case rel=>exact ⟨(ap),(wrap64 (y+1)),af.F,H',⟨by have:=am.out;omega⟩,⟨af.Rw aF.out⟩,⟨af.Bw j.out⟩,⟨af.Lw HB.out⟩⟩
    ·rw [if_neg c8] at H
     have aP:(t144 == y) = false:=beq_eq_false_iff_ne.mpr c8
     have aR:(t144 != y) = true:=bne_iff_ne.mpr c8
     have H':=ae.mk H
     clear H
     obtain ⟨bi,bm,bo,bs⟩:=af.bw j.out
     go_wp2_with (first | (refine af.gl (some 9) Tryz.func24 #[.int .i64 z] ?_;(with_reducible refine (cF.calls z t143 _ A5.out).mono ?_);rintro e w' ⟨rfl,⟨nd,rfl⟩⟩;refine ⟨_,rfl,?_⟩) | (refine af.gl (some 15) Tryz.func112 #[.agg #[.int .i64 z,.slice a0 X.length a1],.int .i64 y] ?_;(with_reducible refine (cj.calls k1 z _ _ X y t144 _ ?side1 ?side2 A7.out).mono ?_);(case side1=>exact af.Cw (Kd.aT a7.out HB.out));(case side2=>exact a8.out);rintro e d1 ⟨rfl,hb⟩;refine ⟨_,rfl,?_⟩;replace Y:=af.rb Y hb;replace j:=af.bb j hb;replace HB:=af.lb HB hb;(try clear hb);(try clear cf);(try clear hk);(try clear hi)))
     go_roundg k1
     case measure=>have:=am.out;omega
     case rel=>exact ⟨(a2),(wrap64 (y+1)),af.F,H',⟨by have:=am.out;omega⟩,⟨af.Rw Y.out⟩,⟨af.Bw j.out⟩,⟨af.Lw HB.out⟩⟩
   ·rw [if_neg c6] at H
    have aO:decide (y≤t143) = false:=decide_eq_false c6
    clear c6
    obtain rfl:=Option.some.inj H
    obtain ⟨bv,c0,c1,ca⟩:=af.bw j.out
    go_wp2_with (first | (refine af.gl (some 9) Tryz.func24 #[.int .i64 z] ?_;(with_reducible refine (cF.calls z t143 _ A5.out).mono ?_);rintro e w' ⟨rfl,⟨nd,rfl⟩⟩;refine ⟨_,rfl,?_⟩))
    go_ret
    exact ⟨_,af.E,by (with_reducible repeat (first | apply Kd.cH | apply Kd.cI | apply Kd.bl));exact Y.out,af.L⟩
def cL.f (k:Nat) (j:Int) (y:List Int):Option (List Int):=(bI.f k j y).bind fun t149=>(if t149 = true then ((cG.f k j y).bind fun t150=>(some t150)) else (some (([]:List Int))))
set_option maxHeartbeats 8000000 in
set_option maxRecDepth 100000 in
theorem cL.calls (k:Nat) (z:Int) (X:Option Addr) (Y:Nat) (y:List Int) (r:List Int) (w:World) (a4:Kd.C (Kd.int .i64) w X y.length y) (a5:y.length≤Y) (h:cL.f k z y = some r) :
  Calls Tryz.prog 43 #[.agg #[.int .i64 z,.slice X y.length Y]] w fun e w'=>∃ ao:Value,e = .returned (ao)∧Kd.R (Kd.int .i64) 3 w' w.heap.size (fun _=>True) ao r∧Below w.heap.size w w':=by
 have bc:=Tryz.underlying30
 have a1:=ae.mk a4
 have a2:=ae.mk a5
 clear a4 a5
 have HB:=ae.mk (Below.refl w.heap.size w)
 unfold cL.f at h
 have H:=h
 clear h
 obtain ⟨t149,A2,H⟩:=af.be H
 (try dsimp only at H)
 by_cases c3:t149 = true
 ·subst c3
  replace H:((cG.f k z y).bind fun t150=>(some t150)) = some r:=by rw [if_pos rfl] at H;exact H
  obtain ⟨t150,A4,H⟩:=af.be H
  (try dsimp only at H)
  obtain rfl:=Option.some.inj H
  go_enter Tryz.func43,Tryz.ntmps43
  go_wp2_with (first | (refine af.bx 1 #[.int .i64 z,.slice X y.length Y] 30 ?_;intro a7 hg w5 hbox hb;have j:=ae.mk hbox;have a8:=af.gw hg HB;have a9:=af.gw hg HB;replace HB:=af.lb HB hb;clear hb hbox hg;obtain ⟨aP,aR,aS,b0⟩:=af.bw j.out) | (refine af.gl (some 4) Tryz.func26 #[.agg #[.int .i64 z,.slice X y.length Y]] ?_;(with_reducible refine (bI.calls k z _ _ y true _ ?side1 ?side2 A2.out).mono ?_);(case side1=>exact af.Cw (Kd.aT a1.out HB.out));(case side2=>exact a2.out);rintro e w7 ⟨rfl,hb⟩;refine ⟨_,rfl,?_⟩;replace j:=af.bb j hb;replace HB:=af.lb HB hb;(try clear hb);(try clear ap);(try clear hk);(try clear hi);obtain ⟨b2,b3,b4,b5⟩:=af.bw j.out) | (refine af.gl (some 8) Tryz.func108 #[.agg #[.int .i64 z,.slice X y.length Y]] ?_;(with_reducible refine (cG.calls k z _ _ y t150 _ ?side1 ?side2 A4.out).mono ?_);(case side1=>exact af.Cw (Kd.aT a1.out HB.out));(case side2=>exact a2.out);rintro e w9 ⟨bi,rfl,ar,hb⟩;refine ⟨_,rfl,?_⟩;have aa:=ae.mk (Kd.aV ar (av (af.Lw HB.out)));replace j:=af.bb j hb;replace HB:=af.lb HB hb;(try clear hb);(try clear ap);(try clear hk);(try clear hi);(try clear ar)))
  go_ret
  exact ⟨_,af.E,by (with_reducible repeat (first | apply Kd.cH | apply Kd.cI | apply Kd.bl));exact aa.out,af.L⟩
 ·replace c3:=Bool.eq_false_iff.mpr c3
  subst c3
  replace H:(some (([]:List Int))) = some r:=by rw [if_neg (show ¬ (false = true) by decide)] at H;exact H
  obtain ⟨aw,a3⟩:∃ y_:List Int,y_ = (([]:List Int)):=⟨_,rfl⟩
  replace H:(some aw) = some r:=by (try rw [a3]);exact af.Z
  have a6:=ae.mk a3
  clear a3
  obtain rfl:=Option.some.inj H
  go_enter Tryz.func43,Tryz.ntmps43
  go_wp2_with (first | (refine af.bx 1 #[.int .i64 z,.slice X y.length Y] 30 ?_;intro a7 hg bm hbox hb;have j:=ae.mk hbox;have a8:=af.gw hg HB;have a9:=af.gw hg HB;replace HB:=af.lb HB hb;clear hb hbox hg;obtain ⟨aB,aF,aL,aO⟩:=af.bw j.out) | (refine af.gl (some 4) Tryz.func26 #[.agg #[.int .i64 z,.slice X y.length Y]] ?_;(with_reducible refine (bI.calls k z _ _ y false _ ?side1 ?side2 A2.out).mono ?_);(case side1=>exact af.Cw (Kd.aT a1.out HB.out));(case side2=>exact a2.out);rintro e bo ⟨rfl,hb⟩;refine ⟨_,rfl,?_⟩;replace j:=af.bb j hb;replace HB:=af.lb HB hb;(try clear hb);(try clear ap);(try clear hk);(try clear hi)) | (refine af.lt (Kd.int .i64) 3 6 ?_;intro v154 bs a0 hb ba ab;clear ba ab;(first | rw [← a6.out] at a0 | (simp only [Int.reduceToNat] at a0;rw [← a6.out] at a0));have am:=ae.mk (Kd.aV a0 (av (af.Lw HB.out)));replace j:=af.bb j hb;replace HB:=af.lb HB hb;clear hb a0))
  go_ret
  exact ⟨_,af.E,by (with_reducible repeat (first | apply Kd.cH | apply Kd.cI | apply Kd.bl));exact am.out,af.L⟩
def aj (w0 W:World) (g:Nat) (f0:List Int) (f1:Int) (f2:Int):Prop:=∃ j y,W.heap[g]? = some (.cells #[.slice j f0.length y,.int .i64 f1,.int .i64 f2] 109 (0,0))∧w0.heap.size≤g∧Kd.C (Kd.int .u8) w0 j f0.length f0
theorem aj.grown {w0 W:World} {g:Nat} {f0:List Int} {f1:Int} {f2:Int} {W1:World} {row:Option Nat} (h:aj w0 W g f0 f1 f2) (hw:W.grownBy W1 row) (hne:some g≠row):aj w0 W1 g f0 f1 f2:=by
 obtain ⟨y,z,hb,hg,j⟩:=h
 exact ⟨y,z,dJ hb hw hne,hg,j⟩
theorem aj.kept {w0 W:World} {g:Nat} {f0:List Int} {f1:Int} {f2:Int} {W1:World} {S:Nat→Prop} (h:aj w0 W g f0 f1 f2) (hk:Kept W W1 S) (hne:¬ S g):aj w0 W1 g f0 f1 f2:=by
 obtain ⟨y,z,hb,hg,j⟩:=h
 exact ⟨y,z,rK hb hk hne,hg,j⟩
theorem aj.below {w0 W:World} {g:Nat} {f0:List Int} {f1:Int} {f2:Int} {W1:World} (h:aj w0 W g f0 f1 f2) (hw:Below W.heap.size W W1):aj w0 W1 g f0 f1 f2:=h.grown (jE hw none) (by simp)
theorem aj.alloc {w0 W:World} {g:Nat} {f0:List Int} {f1:Int} {f2:Int} (h:aj w0 W g f0 f1 f2) (o:Obj):aj w0 (W.alloc o) g f0 f1 f2:=h.below (dX (Below.refl _ _) o)
theorem aj.drewN {w0 W:World} {g:Nat} {f0:List Int} {f1:Int} {f2:Int} (h:aj w0 W g f0 f1 f2) (m:Nat):aj w0 (W.drewN m) g f0 f1 f2:=h
theorem aj.drew {w0 W:World} {g:Nat} {f0:List Int} {f1:Int} {f2:Int} (h:aj w0 W g f0 f1 f2):aj w0 W.drew g f0 f1 f2:=h
theorem aj.at_ {w0 W:World} {g:Nat} {f0:List Int} {f1:Int} {f2:Int} {w':World} {m:Nat} (hq:W.drewN m = w') (h:aj w0 W g f0 f1 f2):aj w0 w' g f0 f1 f2:=by subst hq;exact aj.drewN h m
theorem aj.apart {w0 W:World} {g:Nat} {f0:List Int} {f1:Int} {f2:Int} {α:Type} {d:Kd α} {e:Nat} {base:Nat} {ok:Nat→Prop} {v:Value} {xs:List α} (h:aj w0 W g f0 f1 f2) (ho:d.R e W base ok v xs) (ht:∀ q,q∈e :: d.E→q≠109):d.R e W base (fun k=>ok k∧k≠g) v xs:=by
 obtain ⟨y,z,hb,hg,j⟩:=h
 exact Kd.bS ho hb ht
theorem aj.fU {w0 W:World} {g:Nat} {f0:List Int} {f1:Int} {f2:Int} {α:Type} {d:Kd α} {e:Nat} {base:Nat} {ok:Nat→Prop} {v:Value} {xs:List α} (h:aj w0 W g f0 f1 f2) (ho:d.R e W base ok v xs) (ht:e≠109):some g≠v.ownBlock:=by
 obtain ⟨y,z,hb,hg,j⟩:=h
 exact Kd.fS ho hb ht
theorem aj.lt {w0 W:World} {g:Nat} {f0:List Int} {f1:Int} {f2:Int} (h:aj w0 W g f0 f1 f2):g < W.heap.size:=by
 obtain ⟨y,z,hb,hg,j⟩:=h
 exact jF hb
theorem aj.ge {w0 W:World} {g:Nat} {f0:List Int} {f1:Int} {f2:Int} (h:aj w0 W g f0 f1 f2):w0.heap.size≤g:=by
 obtain ⟨y,z,hb,hg,j⟩:=h
 exact hg
theorem aj.ja {w0 W:World} {g:Nat} {f0:List Int} {f1:Int} {f2:Int} {a:Nat} {cs:Array Value} {t:TypeId} {fr:Nat×Nat} (h:aj w0 W g f0 f1 f2) (j:W.heap[a]? = some (.cells cs t fr)) (ht:t≠109):g≠a:=by
 obtain ⟨X,Y,hb,hg,z⟩:=h
 rintro rfl
 rw [hb] at j
 injection j with j
 injection j with _ y
 exact ht y.symm
theorem aj.wV {w0 W:World} {g:Nat} {f0:List Int} {f1:Int} {f2:Int} {p:Addr} (h:aj w0 W g f0 f1 f2) (hne:g≠p.block) (u:Value):aj w0 (W.setCell p u) g f0 f1 f2:=by
 obtain ⟨y,z,hb,hg,j⟩:=h
 exact ⟨y,z,lU hb hne u,hg,j⟩
theorem mg {W:World} {g:Nat} {j:Option Addr} {y:Nat} {f0:List Int} {f1:Int} {f2:Int} (h:W.heap[g]? = some (.cells #[.slice j f0.length y,.int .i64 f1,.int .i64 f2] 109 (0,0))):W.cell? ⟨g,0,none⟩ = some (.slice j f0.length y):=(ak h 0).trans rfl
theorem mh {W:World} {g:Nat} {j:Option Addr} {y:Nat} {f0:List Int} {f1:Int} {f2:Int} (h:W.heap[g]? = some (.cells #[.slice j f0.length y,.int .i64 f1,.int .i64 f2] 109 (0,0))):W.cell? ⟨g,1,none⟩ = some (.int .i64 f1):=(ak h 1).trans rfl
theorem aj.vM {w0 W:World} {g:Nat} {f0:List Int} {f1:Int} {f2:Int} (h:aj w0 W g f0 f1 f2) (x:Int):aj w0 (W.setCell ⟨g,1,none⟩ (.int .i64 x)) g f0 x f2:=by
 obtain ⟨y,z,hb,hg,j⟩:=h
 exact ⟨y,z,by simpa using nA hb 1 (.int .i64 x),hg,j⟩
theorem mj {W:World} {g:Nat} {j:Option Addr} {y:Nat} {f0:List Int} {f1:Int} {f2:Int} (h:W.heap[g]? = some (.cells #[.slice j f0.length y,.int .i64 f1,.int .i64 f2] 109 (0,0))):W.cell? ⟨g,2,none⟩ = some (.int .i64 f2):=(ak h 2).trans rfl
theorem aj.vN {w0 W:World} {g:Nat} {f0:List Int} {f1:Int} {f2:Int} (h:aj w0 W g f0 f1 f2) (x:Int):aj w0 (W.setCell ⟨g,2,none⟩ (.int .i64 x)) g f0 f1 x:=by
 obtain ⟨y,z,hb,hg,j⟩:=h
 exact ⟨y,z,by simpa using nA hb 2 (.int .i64 x),hg,j⟩
theorem aj.new (w0 W:World) (j:Option Addr) (z:Nat) (f0:List Int) (f1:Int) (f2:Int) (hB:Below w0.heap.size w0 W) (y:Kd.C (Kd.int .u8) w0 j f0.length f0):aj w0 (W.alloc (.cells #[.slice j f0.length z,.int .i64 f1,.int .i64 f2] 109)) W.heap.size f0 f1 f2:=⟨j,z,by simpa using heap_alloc_new W _,hB.size,y⟩
def dj.l0:Nat→List Int→Int→Int→Option (List Int×Int×Int)
 | 0,_,_,_=>none
 | k+1,j,z,y=>if y < (j.length:Int) then (if y < 4000 then (if 0≤y then (dj.l0 k j (Go.bits .and .i64 (wrap64 ((wrap64 ((wrap64 (z * 131))+(wrap64 (rd j y))))+7)) 1073741823) (wrap64 (y+1))) else (none)) else (some (j,0,z))) else (some (j,0,z))
def dj.f (k:Nat) (l0:List Int):Option (List Int×Int×Int):=dj.l0 k l0 (wrap64 (26583+(l0.length:Int))) 0
set_option maxHeartbeats 8000000 in
set_option maxRecDepth 100000 in
theorem dj.calls (k:Nat) (A0:Option Addr) (c0:Nat) (l0:List Int) (r1:List Int) (r2:Int) (r3:Int) (w0 w:World) (hB:Below w0.heap.size w0 w) (a4:Kd.C (Kd.int .u8) w0 A0 l0.length l0) (a5:l0.length≤c0) (h:dj.f k l0 = some (r1,r2,r3)) :
  Calls Tryz.prog 74 #[.slice A0 l0.length c0] w fun e w'=>∃ g_:Nat,e = .returned (.pointer (some ⟨g_,0,none⟩))∧aj w0 w' g_ r1 r2 r3∧Below w0.heap.size w0 w'∧Below w.heap.size w w':=by
 have ab:=Tryz.underlying109
 have a1:=ae.mk a4
 have aO:=ae.mk a5
 clear a4 a5
 have y:=ae.mk (Below.refl w.heap.size w)
 have a6:=ae.mk hB.size
 have HB:=ae.mk hB
 clear hB
 unfold dj.f at h
 have H:=h
 clear h
 have H':=ae.mk H
 clear H
 go_enter Tryz.func74,Tryz.ntmps74
 go_wp2
 go_loopg [3,4] k (fun kq v3 v4 w'=>∃ (z:Int) (j:Int),v3 = .int .i64 z∧v4 = .int .i64 j∧ae (dj.l0 kq l0 z j = some (r1,r2,r3))∧ae (kq≤k)∧ae (Below w0.heap.size w0 w')∧ae (Below w.heap.size w w'))
 case atStart=>exact ⟨(wrap64 (26583+(l0.length:Int))),(0),af.F,af.F,H',⟨Nat.le_refl _⟩,⟨af.Lw HB.out⟩,⟨af.Lw y.out⟩⟩
 case round =>
  clear H'
  obtain ⟨z,j,rfl,rfl,HA,a7,HB,y⟩:=hrel
  cases gk with
  | zero=>exact absurd HA.out (by simp [dj.l0])
  | succ k1 =>
   have H:=HA.out
   clear HA
   simp only [dj.l0] at H
   by_cases c2:j < (l0.length:Int)
   ·rw [if_pos c2] at H
    have a8:=decide_eq_true c2
    clear c2
    by_cases c3:j < 4000
    ·rw [if_pos c3] at H
     have a9:=decide_eq_true c3
     clear c3
     obtain ⟨c4,H⟩:=af.ip H
     have aB:=decide_eq_true c4
     clear c4
     have H':=ae.mk H
     clear H
     obtain ⟨am,aa,a0,aF,aL⟩:=af.ai a1.out j
     cases aa
     replace a0:=gE HB.out a0
     go_wp2
     go_roundg k1
     case measure=>have:=a7.out;omega
     case rel=>exact ⟨(Go.bits .and .i64 (wrap64 ((wrap64 ((wrap64 (z * 131))+(wrap64 (rd l0 j))))+7)) 1073741823),(wrap64 (j+1)),af.F,af.F,H',⟨by have:=a7.out;omega⟩,⟨af.Lw HB.out⟩,⟨af.Lw y.out⟩⟩
    ·rw [if_neg c3] at H
     have a9:decide (j < 4000) = false:=decide_eq_false c3
     clear c3
     simp only [Option.some.injEq,Prod.mk.injEq] at H
     obtain ⟨rfl,rfl,rfl⟩:=H
     go_wp2_with (first | (refine af.bx 31 #[.slice A0 l0.length c0,.int .i64 0,.int .i64 z] 109 ?_;intro X hg w5 hbox hb;replace HB:=af.lb HB hb;have ao:=ae.mk hbox;have ap:=ae.mk ((by rw [hg];exact (av (af.Lw y.out)):w.heap.size≤X));have a2:=ae.mk ((Nat.le_trans a6.out (by rw [hg];exact (av (af.Lw y.out)):w.heap.size≤X):w0.heap.size≤X));replace y:=ae.mk (ax y.out hb);clear hb hbox hg))
     go_ret
     exact ⟨_,rfl,(show aj w0 _ X l0 0 z from ⟨_,_,af.B,a2.out,a1.out⟩),af.L,af.J y⟩
   ·rw [if_neg c2] at H
    have a8:decide (j < (l0.length:Int)) = false:=decide_eq_false c2
    clear c2
    simp only [Option.some.injEq,Prod.mk.injEq] at H
    obtain ⟨rfl,rfl,rfl⟩:=H
    go_wp2_with (first | (refine af.bx 31 #[.slice A0 l0.length c0,.int .i64 0,.int .i64 z] 109 ?_;intro Y hg w6 hbox hb;replace HB:=af.lb HB hb;have ar:=ae.mk hbox;have aw:=ae.mk ((by rw [hg];exact (av (af.Lw y.out)):w.heap.size≤Y));have a3:=ae.mk ((Nat.le_trans a6.out (by rw [hg];exact (av (af.Lw y.out)):w.heap.size≤Y):w0.heap.size≤Y));replace y:=ae.mk (ax y.out hb);clear hb hbox hg))
    go_ret
    exact ⟨_,rfl,(show aj w0 _ Y l0 0 z from ⟨_,_,af.B,a3.out,a1.out⟩),af.L,af.J y⟩
def dZ.f (z:List Int) (y:Int) (j:Int):Option (Int×Int×Int):=if y < (z.length:Int) then (if 0≤y then (some (Go.bits .and .i64 (wrap64 ((Go.bits .and .i64 (Go.bits .xor .i64 ((wrap64 ((wrap64 (j * 6364136223846793005))+1442695040888963407)) / 8589934592) ((wrap64 ((wrap64 (j * 6364136223846793005))+1442695040888963407)) / 35184372088832)) 255)+(wrap64 (rd z y)))) 255,wrap64 (y+1),wrap64 ((wrap64 (j * 6364136223846793005))+1442695040888963407))) else (none)) else (some (Go.bits .and .i64 (Go.bits .xor .i64 ((wrap64 ((wrap64 (j * 6364136223846793005))+1442695040888963407)) / 8589934592) ((wrap64 ((wrap64 (j * 6364136223846793005))+1442695040888963407)) / 35184372088832)) 255,y,wrap64 ((wrap64 (j * 6364136223846793005))+1442695040888963407)))
set_option maxHeartbeats 8000000 in
set_option maxRecDepth 100000 in
theorem dZ.calls (g:Nat) (X:List Int) (z:Int) (a1:Int) (r1:Int) (r2:Int) (r3:Int) (w0 w:World) (hI:aj w0 w g X z a1) (hB:Below w0.heap.size w0 w) (h:dZ.f X z a1 = some (r1,r2,r3)) :
  Calls Tryz.prog 131 #[.pointer (some ⟨g,0,none⟩)] w fun e w'=>e = .returned (.int .i64 r1)∧aj w0 w' g X r2 r3∧Below w0.heap.size w0 w'∧an w w' g none:=by
 have a5:=ae.mk hI
 have HK:=ae.mk (an.refl w g none)
 have HL:=ae.mk hB.size
 clear hI
 have b5:=ae.mk hB.size
 have HB:=ae.mk hB
 clear hB
 unfold dZ.f at h
 have H:=h
 clear h
 by_cases c2:z < (X.length:Int)
 ·rw [if_pos c2] at H
  have a7:=decide_eq_true c2
  clear c2
  obtain ⟨c3,H⟩:=af.ip H
  have b4:=decide_eq_true c3
  clear c3
  simp only [Option.some.injEq,Prod.mk.injEq] at H
  obtain ⟨rfl,rfl,rfl⟩:=H
  obtain ⟨am,ao,Y,a8,a4⟩:=a5.out
  have ap:=mg Y
  have ar:=mh Y
  have aw:=mj Y
  have aB:=au Y 1
  have aF:=au Y 2
  clear Y a8
  have a2:0≤(z:Int):=af.D
  have a3:z < (X.length:Int):=af.D
  obtain ⟨a6,a9,j⟩:=Kd.ey a4 z a2 a3
  cases a9
  have y:a6.block≠g:=Nat.ne_of_lt (Nat.lt_of_lt_of_le (by have:=World.block_lt_of_cell? _ _ j;first | rwa [ep] at this | exact this) (aj.ge a5.out))
  replace j:=gE HB.out j
  replace j:=(cell_far (p:=⟨g,2,none⟩) (by first | (rw [ep];exact y) | (show (Addr.add _ _).block≠_;rw [ep];exact y) | exact y) (.int .i64 (wrap64 ((wrap64 (a1 * 6364136223846793005))+1442695040888963407)))).trans j
  (try have aa:=fun (n_:Nat)=>(show (((w.drewN n_).setCell ⟨g,2,none⟩ (.int .i64 (wrap64 ((wrap64 (a1 * 6364136223846793005))+1442695040888963407))))).cell? _ = some _ from j))
  clear y
  replace a2:=eq_true a2
  replace a3:=eq_true a3
  go_enter Tryz.func131,Tryz.ntmps131
  go_wp2
  repeat (go_quiet (fail);try go_wp2)
  go_ret
  exact ⟨af.E,af.I,af.J HB,af.K HK⟩
 ·rw [if_neg c2] at H
  have a7:decide (z < (X.length:Int)) = false:=decide_eq_false c2
  clear c2
  simp only [Option.some.injEq,Prod.mk.injEq] at H
  obtain ⟨rfl,rfl,rfl⟩:=H
  obtain ⟨aL,aO,a0,ab,aP⟩:=a5.out
  have aR:=mg a0
  have aS:=mh a0
  have b0:=mj a0
  have b2:=au a0 1
  have b3:=au a0 2
  clear a0 ab
  go_enter Tryz.func131,Tryz.ntmps131
  go_wp2
  repeat (go_quiet (fail);try go_wp2)
  go_ret
  exact ⟨af.E,af.I,af.J HB,af.K HK⟩
def aH.f (j:List Int) (a2:Int) (a3:Int) (a1:Int):Option (Int×Int×Int):=if a1≤0 then (some (0,a2,a3)) else (if a1≤256 then ((dZ.f j a2 a3).bind fun y=>(if a1 = 0 then (none) else (some (Int.tmod y.1 a1,y.2.1,y.2.2)))) else ((dZ.f j a2 a3).bind fun z=>((dZ.f j z.2.1 z.2.2).bind fun X=>((dZ.f j X.2.1 X.2.2).bind fun Y=>((dZ.f j Y.2.1 Y.2.2).bind fun a0=>(if a1 = 0 then (none) else (some (Int.tmod (wrap64 ((wrap64 ((wrap64 ((wrap64 (z.1 * 16777216))+(wrap64 (X.1 * 65536))))+(wrap64 (Y.1 * 256))))+a0.1)) a1,a0.2.1,a0.2.2))))))))
set_option maxHeartbeats 8000000 in
set_option maxRecDepth 100000 in
theorem aH.calls (g:Nat) (j:List Int) (y:Int) (z:Int) (X:Int) (r1:Int) (r2:Int) (r3:Int) (w0 w:World) (hI:aj w0 w g j y z) (hB:Below w0.heap.size w0 w) (h:aH.f j y z X = some (r1,r2,r3)) :
  Calls Tryz.prog 80 #[.pointer (some ⟨g,0,none⟩),.int .i64 X] w fun e w'=>e = .returned (.int .i64 r1)∧aj w0 w' g j r2 r3∧Below w0.heap.size w0 w'∧an w w' g none:=by
 have Y:=ae.mk hI
 have HK:=ae.mk (an.refl w g none)
 have HL:=ae.mk hB.size
 clear hI
 have ab:=ae.mk hB.size
 have HB:=ae.mk hB
 clear hB
 unfold aH.f at h
 have H:=h
 clear h
 by_cases c3:X≤0
 ·rw [if_pos c3] at H
  have a3:=decide_eq_true c3
  clear c3
  simp only [Option.some.injEq,Prod.mk.injEq] at H
  obtain ⟨rfl,rfl,rfl⟩:=H
  go_enter Tryz.func80,Tryz.ntmps80
  go_wp2
  go_ret
  exact ⟨af.E,af.I,af.J HB,af.K HK⟩
 ·rw [if_neg c3] at H
  have a3:decide (X≤0) = false:=decide_eq_false c3
  clear c3
  by_cases c4:X≤256
  ·rw [if_pos c4] at H
   have a4:=decide_eq_true c4
   clear c4
   obtain ⟨⟨t160,t161,t162⟩,A5,H⟩:=af.be H
   (try dsimp only at H)
   by_cases c6:X = 0
   ·rw [if_pos c6] at H
    exact absurd H (by simp)
   ·rw [if_neg c6] at H
    have a9:(X == 0) = false:=beq_eq_false_iff_ne.mpr c6
    have aa:(X != 0) = true:=bne_iff_ne.mpr c6
    simp only [Option.some.injEq,Prod.mk.injEq] at H
    obtain ⟨rfl,rfl,rfl⟩:=H
    go_enter Tryz.func80,Tryz.ntmps80
    go_wp2_with (first | (refine af.gl (some 14) Tryz.func131 #[.pointer (some ⟨g,0,none⟩)] ?_;(with_reducible refine (dZ.calls g j y z t160 t161 t162 w0 _ ?side1 ?side2 A5.out).mono ?_);(case side1=>exact af.I);(case side2=>exact af.J HB);rintro e w7 ⟨rfl,hi,hb,hk⟩;refine ⟨_,rfl,?_⟩;replace HK:=ae.mk (an.trans (af.K HK) hk (.inl rfl));replace HB:=ae.mk hb;replace Y:=ae.mk hi;(try clear hb);(try clear a0);(try clear hk);(try clear hi)))
    go_ret
    exact ⟨af.E,af.I,af.J HB,af.K HK⟩
  ·rw [if_neg c4] at H
   have a4:decide (X≤256) = false:=decide_eq_false c4
   clear c4
   obtain ⟨⟨t163,t164,t165⟩,A8,H⟩:=af.be H
   (try dsimp only at H)
   obtain ⟨⟨t166,t167,t168⟩,A9,H⟩:=af.be H
   (try dsimp only at H)
   obtain ⟨⟨t169,t170,t171⟩,a5,H⟩:=af.be H
   (try dsimp only at H)
   obtain ⟨⟨t172,t173,t174⟩,a6,H⟩:=af.be H
   (try dsimp only at H)
   by_cases a2:X = 0
   ·rw [if_pos a2] at H
    exact absurd H (by simp)
   ·rw [if_neg a2] at H
    have a7:(X == 0) = false:=beq_eq_false_iff_ne.mpr a2
    have a8:(X != 0) = true:=bne_iff_ne.mpr a2
    simp only [Option.some.injEq,Prod.mk.injEq] at H
    obtain ⟨rfl,rfl,rfl⟩:=H
    go_enter Tryz.func80,Tryz.ntmps80
    go_wp2_with (first | (refine af.gl (some 18) Tryz.func131 #[.pointer (some ⟨g,0,none⟩)] ?_;(with_reducible refine (dZ.calls g j y z t163 t164 t165 w0 _ ?side1 ?side2 A8.out).mono ?_);(case side1=>exact af.I);(case side2=>exact af.J HB);rintro e am ⟨rfl,hi,hb,hk⟩;refine ⟨_,rfl,?_⟩;replace HK:=ae.mk (an.trans (af.K HK) hk (.inl rfl));replace HB:=ae.mk hb;replace Y:=ae.mk hi;(try clear hb);(try clear a0);(try clear hk);(try clear hi)) | (refine af.gl (some 20) Tryz.func131 #[.pointer (some ⟨g,0,none⟩)] ?_;(with_reducible refine (dZ.calls g j t164 t165 t166 t167 t168 w0 _ ?side1 ?side2 A9.out).mono ?_);(case side1=>exact af.I);(case side2=>exact af.J HB);rintro e ao ⟨rfl,hi,hb,hk⟩;refine ⟨_,rfl,?_⟩;replace HK:=ae.mk (an.trans (af.K HK) hk (.inl rfl));replace HB:=ae.mk hb;replace Y:=ae.mk hi;(try clear hb);(try clear a0);(try clear hk);(try clear hi)) | (refine af.gl (some 22) Tryz.func131 #[.pointer (some ⟨g,0,none⟩)] ?_;(with_reducible refine (dZ.calls g j t167 t168 t169 t170 t171 w0 _ ?side1 ?side2 a5.out).mono ?_);(case side1=>exact af.I);(case side2=>exact af.J HB);rintro e ap ⟨rfl,hi,hb,hk⟩;refine ⟨_,rfl,?_⟩;replace HK:=ae.mk (an.trans (af.K HK) hk (.inl rfl));replace HB:=ae.mk hb;replace Y:=ae.mk hi;(try clear hb);(try clear a0);(try clear hk);(try clear hi)) | (refine af.gl (some 24) Tryz.func131 #[.pointer (some ⟨g,0,none⟩)] ?_;(with_reducible refine (dZ.calls g j t170 t171 t172 t173 t174 w0 _ ?side1 ?side2 a6.out).mono ?_);(case side1=>exact af.I);(case side2=>exact af.J HB);rintro e ar ⟨rfl,hi,hb,hk⟩;refine ⟨_,rfl,?_⟩;replace HK:=ae.mk (an.trans (af.K HK) hk (.inl rfl));replace HB:=ae.mk hb;replace Y:=ae.mk hi;(try clear hb);(try clear a0);(try clear hk);(try clear hi)))
    go_ret
    exact ⟨af.E,af.I,af.J HB,af.K HK⟩
def e9.f (y:List Int) (z:Int) (X:Int) (Y:Int):Option (Bool×Int×Int):=(aH.f y z X Y).bind fun j=>(some ((j.1 == 0),j.2.1,j.2.2))
set_option maxHeartbeats 8000000 in
set_option maxRecDepth 100000 in
theorem e9.calls (g:Nat) (j:List Int) (y:Int) (z:Int) (X:Int) (r1:Bool) (r2:Int) (r3:Int) (w0 w:World) (hI:aj w0 w g j y z) (hB:Below w0.heap.size w0 w) (h:e9.f j y z X = some (r1,r2,r3)) :
  Calls Tryz.prog 134 #[.pointer (some ⟨g,0,none⟩),.int .i64 X] w fun e w'=>e = .returned (.bool r1)∧aj w0 w' g j r2 r3∧Below w0.heap.size w0 w'∧an w w' g none:=by
 have Y:=ae.mk hI
 have HK:=ae.mk (an.refl w g none)
 have HL:=ae.mk hB.size
 clear hI
 have a0:=ae.mk hB.size
 have HB:=ae.mk hB
 clear hB
 unfold e9.f at h
 have H:=h
 clear h
 obtain ⟨⟨t179,t180,t181⟩,A3,H⟩:=af.be H
 (try dsimp only at H)
 simp only [Option.some.injEq,Prod.mk.injEq] at H
 obtain ⟨rfl,rfl,rfl⟩:=H
 go_enter Tryz.func134,Tryz.ntmps134
 go_wp2_with (first | (refine af.gl (some 7) Tryz.func80 #[.pointer (some ⟨g,0,none⟩),.int .i64 X] ?_;(with_reducible refine (aH.calls g j y z X t179 t180 t181 w0 _ ?side1 ?side2 A3.out).mono ?_);(case side1=>exact af.I);(case side2=>exact af.J HB);rintro e w4 ⟨rfl,hi,hb,hk⟩;refine ⟨_,rfl,?_⟩;replace HK:=ae.mk (an.trans (af.K HK) hk (.inl rfl));replace HB:=ae.mk hb;replace Y:=ae.mk hi;(try clear hb);(try clear a2);(try clear hk);(try clear hi)))
 go_ret
 exact ⟨af.E,af.I,af.J HB,af.K HK⟩
def cQ.f (y:List Int) (z:Int) (X:Int) (l1:List Int):Option (Int×Int×Int):=(aH.f y z X (l1.length:Int)).bind fun j=>(if 0≤j.1 then (if j.1 < (l1.length:Int) then (some (rd l1 j.1,j.2.1,j.2.2)) else (none)) else (none))
set_option maxHeartbeats 8000000 in
set_option maxRecDepth 100000 in
theorem cQ.calls (g:Nat) (y:List Int) (z:Int) (X:Int) (A1:Option Addr) (c1:Nat) (l1:List Int) (r1:Int) (r2:Int) (r3:Int) (w0 w:World) (hI:aj w0 w g y z X) (hB:Below w0.heap.size w0 w) (a3:Kd.C (Kd.int .i64) w A1 l1.length l1) (a4:l1.length≤c1) (a1:∀ ad,A1 = some ad→0 < l1.length→ad.block≠g) (h:cQ.f y z X l1 = some (r1,r2,r3)) :
  Calls Tryz.prog 119 #[.pointer (some ⟨g,0,none⟩),.slice A1 l1.length c1] w fun e w'=>e = .returned (.int .i64 r1)∧aj w0 w' g y r2 r3∧Below w0.heap.size w0 w'∧an w w' g none:=by
 have a6:=ae.mk a3
 have aa:=ae.mk a4
 clear a3 a4
 have a7:=ae.mk hI
 have HK:=ae.mk (an.refl w g none)
 have HL:=ae.mk hB.size
 clear hI
 have ab:=ae.mk hB.size
 have HB:=ae.mk hB
 clear hB
 unfold cQ.f at h
 have H:=h
 clear h
 obtain ⟨⟨t175,t176,t177⟩,A3,H⟩:=af.be H
 (try dsimp only at H)
 obtain ⟨c4,H⟩:=af.ip H
 have a8:=decide_eq_true c4
 clear c4
 obtain ⟨c5,H⟩:=af.ip H
 have a9:=decide_eq_true c5
 clear c5
 simp only [Option.some.injEq,Prod.mk.injEq] at H
 obtain ⟨rfl,rfl,rfl⟩:=H
 go_enter Tryz.func119,Tryz.ntmps119
 go_wp2_with (first | (refine af.gl (some 9) Tryz.func80 #[.pointer (some ⟨g,0,none⟩),.int .i64 (l1.length:Int)] ?_;(with_reducible refine (aH.calls g y z X (l1.length:Int) t175 t176 t177 w0 _ ?side1 ?side2 A3.out).mono ?_);(case side1=>exact af.I);(case side2=>exact af.J HB);rintro e w6 ⟨rfl,hi,hb,hk⟩;refine ⟨_,rfl,?_⟩;replace HK:=ae.mk (an.trans (af.K HK) hk (.inl rfl));replace HB:=ae.mk hb;replace a7:=ae.mk hi;(try clear hb);(try clear am);(try clear hk);(try clear hi);have Y:0≤(t175:Int):=af.D;have a0:t175 < (l1.length:Int):=af.D;obtain ⟨a2,a5,j⟩:=Kd.ey a6.out t175 Y a0;cases a5;replace j:=iE HK.out j (by first | (rw [ep];exact a1 _ rfl (by omega)) | exact a1 _ rfl (by omega) | exact a1 a2 rfl (by omega));replace Y:=eq_true Y;replace a0:=eq_true a0))
 go_ret
 exact ⟨af.E,af.I,af.J HB,af.K HK⟩
def gq.f (y:List Int) (z:Int) (X:Int):Option (Int×Int×Int):=(aH.f y z X 256).bind fun j=>(some (j.1,j.2.1,j.2.2))
set_option maxHeartbeats 8000000 in
set_option maxRecDepth 100000 in
theorem gq.calls (g:Nat) (j:List Int) (y:Int) (z:Int) (Y:Int) (r2:Int) (r3:Int) (w0 w:World) (hI:aj w0 w g j y z) (hB:Below w0.heap.size w0 w) (h:gq.f j y z = some (Y,r2,r3)) :
  Calls Tryz.prog 135 #[.pointer (some ⟨g,0,none⟩)] w fun e w'=>e = .returned (.int .i64 Y)∧aj w0 w' g j r2 r3∧Below w0.heap.size w0 w'∧an w w' g none:=by
 have X:=ae.mk hI
 have HK:=ae.mk (an.refl w g none)
 have HL:=ae.mk hB.size
 clear hI
 have a0:=ae.mk hB.size
 have HB:=ae.mk hB
 clear hB
 unfold gq.f at h
 have H:=h
 clear h
 obtain ⟨⟨t182,t183,t184⟩,A2,H⟩:=af.be H
 (try dsimp only at H)
 simp only [Option.some.injEq,Prod.mk.injEq] at H
 obtain ⟨rfl,rfl,rfl⟩:=H
 go_enter Tryz.func135,Tryz.ntmps135
 go_wp2_with (first | (refine af.gl (some 4) Tryz.func80 #[.pointer (some ⟨g,0,none⟩),.int .i64 256] ?_;(with_reducible refine (aH.calls g j y z 256 t182 t183 t184 w0 _ ?side1 ?side2 A2.out).mono ?_);(case side1=>exact af.I);(case side2=>exact af.J HB);rintro e w3 ⟨rfl,hi,hb,hk⟩;refine ⟨_,rfl,?_⟩;replace HK:=ae.mk (an.trans (af.K HK) hk (.inl rfl));replace HB:=ae.mk hb;replace X:=ae.mk hi;(try clear hb);(try clear a1);(try clear hk);(try clear hi)))
 go_ret
 exact ⟨af.E,af.I,af.J HB,af.K HK⟩
def eF.f (X:List Int) (Y:Int) (a0:Int):Option (Int×Int×Int):=(e9.f X Y a0 8).bind fun j=>(if j.1 = true then ((cQ.f X j.2.1 j.2.2 (([(-1),256,1000,(-9223372036854775808)]:List Int))).bind fun y=>(some (y.1,y.2.1,y.2.2))) else ((gq.f X j.2.1 j.2.2).bind fun z=>(some (z.1,z.2.1,z.2.2))))
set_option maxHeartbeats 8000000 in
set_option maxRecDepth 100000 in
theorem eF.calls (g:Nat) (j:List Int) (a0:Int) (a1:Int) (r1:Int) (r2:Int) (r3:Int) (w0 w:World) (hI:aj w0 w g j a0 a1) (hB:Below w0.heap.size w0 w) (h:eF.f j a0 a1 = some (r1,r2,r3)) :
  Calls Tryz.prog 90 #[.pointer (some ⟨g,0,none⟩)] w fun e w'=>e = .returned (.int .i64 r1)∧aj w0 w' g j r2 r3∧Below w0.heap.size w0 w'∧an w w' g none:=by
 have a2:=ae.mk hI
 have HK:=ae.mk (an.refl w g none)
 have HL:=ae.mk hB.size
 clear hI
 have ap:=ae.mk hB.size
 have HB:=ae.mk hB
 clear hB
 unfold eF.f at h
 have H:=h
 clear h
 obtain ⟨⟨t185,t186,t187⟩,A2,H⟩:=af.be H
 (try dsimp only at H)
 by_cases c3:t185 = true
 ·subst c3
  replace H:((cQ.f j t186 t187 (([(-1),256,1000,(-9223372036854775808)]:List Int))).bind fun y=>(some (y.1,y.2.1,y.2.2))) = some (r1,r2,r3):=by rw [if_pos rfl] at H;exact H
  obtain ⟨a3,X⟩:∃ y_:List Int,y_ = (([(-1),256,1000,(-9223372036854775808)]:List Int)):=⟨_,rfl⟩
  replace H:((cQ.f j t186 t187 a3).bind fun y=>(some (y.1,y.2.1,y.2.2))) = some (r1,r2,r3):=by (try rw [X]);exact af.Z
  have a4:=ae.mk X
  clear X
  obtain ⟨⟨t191,t192,t193⟩,A4,H⟩:=af.be H
  (try dsimp only at H)
  simp only [Option.some.injEq,Prod.mk.injEq] at H
  obtain ⟨rfl,rfl,rfl⟩:=H
  go_enter Tryz.func90,Tryz.ntmps90
  go_wp2_with (first | (refine af.gl (some 4) Tryz.func134 #[.pointer (some ⟨g,0,none⟩),.int .i64 8] ?_;(with_reducible refine (e9.calls g j a0 a1 8 true t186 t187 w0 _ ?side1 ?side2 A2.out).mono ?_);(case side1=>exact af.I);(case side2=>exact af.J HB);rintro e w5 ⟨rfl,hi,hb,hk⟩;refine ⟨_,rfl,?_⟩;replace HK:=ae.mk (an.trans (af.K HK) hk (.inl rfl));replace HB:=ae.mk hb;replace a2:=ae.mk hi;(try clear hb);(try clear a6);(try clear hk);(try clear hi)) | ((with_reducible refine bh (N:=6) rfl ?_);refine Kd.jH (Kd.int .i64) _ 3 ?hg (N:=6) ?hd (xs:=([(-1),256,1000,(-9223372036854775808)]:List Int)) (inner:=[.int .i64 (-1),.int .i64 256,.int .i64 1000,.int .i64 (-9223372036854775808)]) (ok:=fun _=>True) (okp:=fun _=>True) ?hr ?hp (fun _ hk=>hk) trivial (Below.refl _ _) (Nat.le_refl _) (by simp) ?_;(case hd=>rfl);(case hg=>rfl);(case hr=>first | (go_simp;done) | (go_simp;rfl));(case hp=>exact (cV.one (show Kd.M (Kd.int .i64) _ _ _ (-1) [.int .i64 (-1)] from rfl) (cV.one (show Kd.M (Kd.int .i64) _ _ _ 256 [.int .i64 256] from rfl) (cV.one (show Kd.M (Kd.int .i64) _ _ _ 1000 [.int .i64 1000] from rfl) (cV.one (show Kd.M (Kd.int .i64) _ _ _ (-9223372036854775808) [.int .i64 (-9223372036854775808)] from rfl) (cV.none _ _))))));intro ao w6 a5 hb a8 a7;clear a8 a7;(first | rw [← a4.out] at a5 | (simp only [Int.reduceToNat] at a5;rw [← a4.out] at a5));have z:=ae.mk (Kd.aV a5 (b9 (w:=w) (g:=g) (row:=none) (af.K HK)));replace HK:=ae.mk (an.trans (af.K HK) (an.cW hb g none) (.inl rfl));replace HB:=ae.mk (ax (af.J HB) hb);replace a2:=ae.mk (aj.below af.I hb);clear hb a5;obtain ⟨a9,aa,ab⟩:=Kd.aK z.out;subst ab) | (refine af.gl (some 7) Tryz.func119 #[.pointer (some ⟨g,0,none⟩),.slice a9 a3.length aa] ?_;(with_reducible refine (cQ.calls g j t186 t187 _ _ a3 t191 t192 t193 w0 _ ?side1 ?side2 ?side3 ?side4 ?side5 A4.out).mono ?_);(case side1=>exact af.I);(case side2=>exact af.J HB);(case side3=>exact af.Cw ((Kd.ah z.out).2.2));(case side4=>exact (Kd.ah z.out).2.1);(case side5=>exact jU (aj.fU a2.out z.out (by decide)));rintro e w9 ⟨rfl,hi,hb,hk⟩;refine ⟨_,rfl,?_⟩;replace z:=ae.mk (Kd.aC (Kd.dA (aj.apart (show aj w0 _ g j t186 t187 from af.I) (af.Rw z.out) (by decide)) hk (fun _ h=>h.2)) (fun _ h=>h.1));replace HK:=ae.mk (an.trans (af.K HK) hk (.inl rfl));replace HB:=ae.mk hb;replace a2:=ae.mk hi;(try clear hb);(try clear a6);(try clear hk);(try clear hi)))
  go_ret
  exact ⟨af.E,af.I,af.J HB,af.K HK⟩
 ·replace c3:=Bool.eq_false_iff.mpr c3
  subst c3
  replace H:((gq.f j t186 t187).bind fun Y=>(some (Y.1,Y.2.1,Y.2.2))) = some (r1,r2,r3):=by rw [if_neg (show ¬ (false = true) by decide)] at H;exact H
  obtain ⟨⟨t194,t195,t196⟩,am,H⟩:=af.be H
  (try dsimp only at H)
  simp only [Option.some.injEq,Prod.mk.injEq] at H
  obtain ⟨rfl,rfl,rfl⟩:=H
  go_enter Tryz.func90,Tryz.ntmps90
  go_wp2_with (first | (refine af.gl (some 4) Tryz.func134 #[.pointer (some ⟨g,0,none⟩),.int .i64 8] ?_;(with_reducible refine (e9.calls g j a0 a1 8 false t186 t187 w0 _ ?side1 ?side2 A2.out).mono ?_);(case side1=>exact af.I);(case side2=>exact af.J HB);rintro e ar ⟨rfl,hi,hb,hk⟩;refine ⟨_,rfl,?_⟩;replace HK:=ae.mk (an.trans (af.K HK) hk (.inl rfl));replace HB:=ae.mk hb;replace a2:=ae.mk hi;(try clear hb);(try clear a6);(try clear hk);(try clear hi)) | (refine af.gl (some 9) Tryz.func135 #[.pointer (some ⟨g,0,none⟩)] ?_;(with_reducible refine (gq.calls g j t186 t187 t194 t195 t196 w0 _ ?side1 ?side2 am.out).mono ?_);(case side1=>exact af.I);(case side2=>exact af.J HB);rintro e aw ⟨rfl,hi,hb,hk⟩;refine ⟨_,rfl,?_⟩;replace HK:=ae.mk (an.trans (af.K HK) hk (.inl rfl));replace HB:=ae.mk hb;replace a2:=ae.mk hi;(try clear hb);(try clear a6);(try clear hk);(try clear hi)))
  go_ret
  exact ⟨af.E,af.I,af.J HB,af.K HK⟩
mutual
def bV.j0:Nat→Int→Int→Bool→Option (Int×List Int)
 | 0,_,_,_=>none
 | k+1,X,z,a0=>if a0 = true then (some (0,([]:List Int))) else (bV.l0 k X z 0 z ([]:List Int))
def bV.l0:Nat→Int→Int→Int→Int→List Int→Option (Int×List Int)
 | 0,_,_,_,_,_=>none
 | k+1,X,z,Y,y,j=>(cF.f z).bind fun t201=>(if Y≤t201 then ((bC.f k Y).bind fun t202=>(if t202 = X then (if j.length < 17592186044416 then (bV.l0 k X z (wrap64 (Y+1)) y (j ++ [Y])) else (none)) else (bV.l0 k X z (wrap64 (Y+1)) y j))) else (some (y,j)))
end
def bV.f (k:Nat) (a0:Int) (j:Int):Option (Int×List Int):=(cC.f j 0 8).bind fun t198=>(if t198 = true then ((cC.f a0 0 j).bind fun t199=>(bV.j0 k a0 j (!t199))) else (bV.j0 k a0 j true))
set_option maxHeartbeats 8000000 in
set_option maxRecDepth 100000 in
theorem bV.calls (k:Nat) (a0:Int) (a1:Int) (r1:Int) (r2:List Int) (w:World) (h:bV.f k a0 a1 = some (r1,r2)) :
  Calls Tryz.prog 163 #[.int .i64 a0,.int .i64 a1] w fun e w'=>∃ cc:Value,e = .returned (.agg #[.int .i64 r1,cc])∧Kd.R (Kd.int .i64) 3 w' w.heap.size (fun _=>True) cc r2∧Below w.heap.size w w':=by
 have ed:=Tryz.underlying30
 have HB:=ae.mk (Below.refl w.heap.size w)
 unfold bV.f at h
 have H:=h
 clear h
 have bm:=ae.mk H
 clear H
 go_enter Tryz.func163,Tryz.ntmps163
 go_upto_region 1 with (first | ((with_reducible refine bh (N:=4) rfl ?_);refine af.bx 4 #[.int .i64 0,.slice none 0 0] 30 ?_;intro a2 hg w4 hbox hb;have j:=ae.mk hbox;have e1:=af.gw hg HB;have e2:=af.gw hg HB;replace HB:=af.lb HB hb;clear hb hbox hg))
 (try simp only [Act.put,List.setIfInBounds_toArray,List.set_cons_zero,List.set_cons_succ])
 go_cut [15] (fun e3 wc=>∃ (kq:Nat) (aO:Bool),e3 = .bool aO∧ae (bV.j0 kq a0 a1 aO = some (r1,r2))∧ae (kq≤k)∧ae (wc.heap[a2]? = some (.cells #[.int .i64 0,(.slice none 0 0)] 30 (0,0)))∧ae (Below w.heap.size w wc))
 case first =>
  have H:=bm.out
  clear bm
  obtain ⟨t198,A5,H⟩:=af.be H
  (try dsimp only at H)
  by_cases c6:t198 = true
  ·subst c6
   replace H:((cC.f a0 0 a1).bind fun t199=>(bV.j0 k a0 a1 (!t199))) = some (r1,r2):=by rw [if_pos rfl] at H;exact H
   obtain ⟨t199,A7,H⟩:=af.be H
   (try dsimp only at H)
   have H':=ae.mk H
   clear H
   go_wp2_with (first | ((with_reducible refine aA (f:=94) rfl ?_);refine af.gl (some 8) Tryz.func94 #[.int .i64 a1,.int .i64 0,.int .i64 8] ?_;(with_reducible refine (cC.calls a1 0 8 true _ A5.out).mono ?_);rintro e w' ⟨rfl,⟨nd,rfl⟩⟩;refine ⟨_,rfl,?_⟩) | (go_at_call 94;(with_reducible refine (cC.calls a0 0 a1 t199 _ A7.out).mono ?_);rintro e w' ⟨rfl,⟨nd,rfl⟩⟩))
   go_meet
   case rel=>exact ⟨_,(!t199),af.F,H',⟨by first | omega | exact Nat.le_refl _⟩,⟨af.Bw j.out⟩,⟨af.L⟩⟩
  ·replace c6:=Bool.eq_false_iff.mpr c6
   subst c6
   replace H:(bV.j0 k a0 a1 true) = some (r1,r2):=by rw [if_neg (show ¬ (false = true) by decide)] at H;exact H
   have H':=ae.mk H
   clear H
   go_wp2_with (first | ((with_reducible refine aA (f:=94) rfl ?_);refine af.gl (some 8) Tryz.func94 #[.int .i64 a1,.int .i64 0,.int .i64 8] ?_;(with_reducible refine (cC.calls a1 0 8 false _ A5.out).mono ?_);rintro e w' ⟨rfl,⟨nd,rfl⟩⟩;refine ⟨_,rfl,?_⟩))
   go_meet
   case rel=>exact ⟨_,(true),af.F,H',⟨by first | omega | exact Nat.le_refl _⟩,⟨af.Bw j.out⟩,⟨af.L⟩⟩
 case rest =>
  clear bm
  obtain ⟨kq,aO,rfl,HA,b3,j,HB⟩:=hcut
  cases kq with
  | zero=>exact absurd HA.out (by simp [bV.j0])
  | succ bo =>
   have H:=HA.out
   clear HA
   simp only [bV.j0] at H
   by_cases c8:aO = true
   ·subst c8
    replace H:(some (0,([]:List Int))) = some (r1,r2):=by rw [if_pos rfl] at H;exact H
    simp only [Option.some.injEq,Prod.mk.injEq] at H
    obtain ⟨rfl,rfl⟩:=H
    obtain ⟨dC,dE,dT,e0⟩:=af.bw j.out
    go_wp2
    refine bodyPost_ret (results_cell_row rfl _ _ a2 30 #[.int .i64 0,.slice none 0 0] (0,0) _ rfl af.B Tryz.underlying30 rfl (by kernel_rfl)) rfl ?_
    exact ⟨_,af.E,af.N,af.L⟩
   ·replace c8:=Bool.eq_false_iff.mpr c8
    subst c8
    replace H:(bV.l0 bo a0 a1 0 a1 ([]:List Int)) = some (r1,r2):=by rw [if_neg (show ¬ (false = true) by decide)] at H;exact H
    have H':=ae.mk H
    clear H
    go_wp2_with (first | ((with_reducible refine bh (N:=5) rfl ?_);refine af.bx 5 #[.int .i64 0,.slice none 0 0] 30 ?_;intro a3 hg ef hbox hb;have z:=ae.mk hbox;have e4:=af.gL (w:=w) hg af.L;have e5:=af.gL (w:=w) hg af.L;replace HB:=ae.mk (ax af.L hb);have a6:=af.nl hg j;have a7:=af.ng hg j;replace j:=af.bb j hb;clear hb hbox hg;have e6:=a7.out;have e7:=a6.out;obtain ⟨ce,cf,ci,cp⟩:=af.bw z.out))
    go_loopg [6] bo (fun kq v6 w'=>∃ (a4:Int) (X:List Int) (Y:Value),v6 = .int .i64 a4∧ae (bV.l0 kq a0 a1 a4 a1 X = some (r1,r2))∧ae (kq≤bo)∧ae (Kd.R (Kd.int .i64) 3 w' w.heap.size (fun _=>True) Y X)∧ae (w'.heap[a2]? = some (.cells #[.int .i64 0,(.slice none 0 0)] 30 (0,0)))∧ae (w'.heap[a3]? = some (.cells #[.int .i64 a1,Y] 30 (0,0)))∧ae (Below w.heap.size w w'))
    case atStart=>exact ⟨(0),(([]:List Int)),(.slice none 0 0),af.F,H',⟨Nat.le_refl _⟩,⟨af.N⟩,⟨af.B⟩,⟨af.B⟩,⟨af.L⟩⟩
    case round =>
     clear H'
     obtain ⟨a4,X,Y,rfl,HA,b4,y,j,z,HB⟩:=hrel
     cases gk with
     | zero=>exact absurd HA.out (by simp [bV.l0])
     | succ k2 =>
      have H:=HA.out
      clear HA
      simp only [bV.l0] at H
      obtain ⟨t201,bs,H⟩:=af.be H
      (try dsimp only at H)
      by_cases b0:a4≤t201
      ·rw [if_pos b0] at H
       have bv:=decide_eq_true b0
       clear b0
       obtain ⟨t202,d0,H⟩:=af.be H
       (try dsimp only at H)
       by_cases aP:t202 = a0
       ·rw [if_pos aP] at H
        have c0:(t202 == a0) = true:=beq_iff_eq.mpr aP
        have c1:(t202 != a0) = false:=bne_eq_false_iff_eq.mpr aP
        clear aP
        obtain ⟨d1,H⟩:=af.ip H
        have ca:=ae.mk d1
        clear d1
        obtain ⟨aS,aR⟩:∃ y_:List Int,y_ = (X ++ [a4]):=⟨_,rfl⟩
        replace H:(bV.l0 k2 a0 a1 (wrap64 (a4+1)) a1 aS) = some (r1,r2):=by (try rw [aR]);exact af.Z
        have cb:=ae.mk aR
        clear aR
        have H':=ae.mk H
        clear H
        go_wp2_with (first | ((with_reducible refine aA (f:=24) rfl ?_);refine af.gl (some 21) Tryz.func24 #[.int .i64 a1] ?_;(with_reducible refine (cF.calls a1 t201 _ bs.out).mono ?_);rintro e w' ⟨rfl,⟨nd,rfl⟩⟩;refine ⟨_,rfl,?_⟩;(try (rw [fD wr];generalize a5:World.drewN wr _ = wr;have a8:ae (Kd.R (Kd.int .i64) 3 wr w.heap.size (fun _=>True) Y X):=⟨by rw [← a5];exact (af.Rw y.out)⟩;have a9:ae (wr.heap[a2]? = some (.cells #[.int .i64 0,.slice none 0 0] 30 (0,0))):=⟨by rw [← a5];exact (af.Bw j.out)⟩;have aa:ae (wr.heap[a3]? = some (.cells #[.int .i64 a1,Y] 30 (0,0))):=⟨by rw [← a5];exact (af.Bw z.out)⟩;have ab:ae (Below w.heap.size w wr):=⟨by rw [← a5];exact af.L⟩;clear y j z HB a5;have y:=a8;have j:=a9;have z:=aa;have HB:=ab;clear a8 a9 aa ab;have am:wr.cell? ⟨a2,0,none⟩ = some (.int .i64 0):=(ak j.out 0).trans rfl;have ao:=au j.out 0;have ap:wr.cell? ⟨a2,1,none⟩ = some (.slice none 0 0):=(ak j.out 1).trans rfl;have ar:=au j.out 1;have aw:wr.cell? ⟨a3,0,none⟩ = some (.int .i64 a1):=(ak z.out 0).trans rfl;have aB:=au z.out 0;have aF:wr.cell? ⟨a3,1,none⟩ = some (Y):=(ak z.out 1).trans rfl;have aL:=au z.out 1))) | ((with_reducible refine aA (f:=25) rfl ?_);refine af.gl (some 26) Tryz.func25 #[.int .i64 a4] ?_;(with_reducible refine (bC.calls k2 a4 t202 _ d0.out).mono ?_);rintro e w' ⟨rfl,⟨nd,rfl⟩⟩;refine ⟨_,rfl,?_⟩;(try (rw [fD wr];generalize a5:World.drewN wr _ = wr;have a8:ae (Kd.R (Kd.int .i64) 3 wr w.heap.size (fun _=>True) Y X):=⟨by rw [← a5];exact (af.Rw y.out)⟩;have a9:ae (wr.heap[a2]? = some (.cells #[.int .i64 0,.slice none 0 0] 30 (0,0))):=⟨by rw [← a5];exact (af.Bw j.out)⟩;have aa:ae (wr.heap[a3]? = some (.cells #[.int .i64 a1,Y] 30 (0,0))):=⟨by rw [← a5];exact (af.Bw z.out)⟩;have ab:ae (Below w.heap.size w wr):=⟨by rw [← a5];exact af.L⟩;clear y j z HB a5;have y:=a8;have j:=a9;have z:=aa;have HB:=ab;clear a8 a9 aa ab;have am:wr.cell? ⟨a2,0,none⟩ = some (.int .i64 0):=(ak j.out 0).trans rfl;have ao:=au j.out 0;have ap:wr.cell? ⟨a2,1,none⟩ = some (.slice none 0 0):=(ak j.out 1).trans rfl;have ar:=au j.out 1;have aw:wr.cell? ⟨a3,0,none⟩ = some (.int .i64 a1):=(ak z.out 0).trans rfl;have aB:=au z.out 0;have aF:wr.cell? ⟨a3,1,none⟩ = some (Y):=(ak z.out 1).trans rfl;have aL:=au z.out 1));have e8:=a7.out;have ea:=a6.out;obtain ⟨d2,d3,d4,d5⟩:=af.bw z.out) | ((with_reducible refine cP (b:=.append) (xs:=#[.tmp 30,.tmp 32]) rfl ?_);at_builtin;refine Kd.eE (Kd.int .i64) (w0:=w) w.heap.size rfl (.tmp 30) (.tmp 32) 28 3 (.int .i64 0) 8 rfl Tryz.underlying28 eI rfl (by decide) (by omega) Y X a4 [.int .i64 a4] (fun _=>True) (fun _=>False) rfl rfl (by exact rfl) (fun _ hk=>hk.elim) (by exact fun _ _=>trivial) (by exact af.Rw y.out) (by exact af.L) (by exact av af.L) (by have:=ca.out;omega) ?_;intro ee eh ho hb hg hat;rw [← cb.out] at ho;have a8:=ae.mk (dJ (g:=a2) (o:=.cells #[.int .i64 0,.slice none 0 0] 30 (0,0)) (af.Bw j.out) hg (Kd.fS y.out j.out (by decide)));have a9:=ae.mk (dJ (g:=a3) (o:=.cells #[.int .i64 a1,Y] 30 (0,0)) (af.Bw z.out) hg (Kd.fS y.out z.out (by decide)));have aa:=ae.mk hb;have ab:=ae.mk ho;clear j;clear z;clear HB;clear y;have j:=a8;have z:=a9;have HB:=aa;have b2:=ab;clear a8 a9 aa ab;clear ho hb hg hat;obtain ⟨b5,ba,d6⟩:=Kd.aK b2.out;subst d6;obtain ⟨d7,d8,d9,db⟩:=af.bw z.out))
        go_roundg k2
        case measure=>have:=b3.out;have:=b4.out;omega
        case rel=>exact ⟨(wrap64 (a4+1)),(aS),(.slice b5 aS.length ba),af.F,H',⟨by have:=b3.out;have:=b4.out;omega⟩,⟨af.Rw (Kd.aC (Kd.bD (p:=⟨a3,1,none⟩) (Kd.bS b2.out z.out (by decide)) (fun _ hk=>hk.2) (.slice b5 aS.length ba)) (fun _ hk=>trivial))⟩,⟨af.B⟩,⟨af.B⟩,⟨af.L⟩⟩
       ·rw [if_neg aP] at H
        have c0:(t202 == a0) = false:=beq_eq_false_iff_ne.mpr aP
        have c1:(t202 != a0) = true:=bne_iff_ne.mpr aP
        have H':=ae.mk H
        clear H
        go_wp2_with (first | ((with_reducible refine aA (f:=24) rfl ?_);refine af.gl (some 21) Tryz.func24 #[.int .i64 a1] ?_;(with_reducible refine (cF.calls a1 t201 _ bs.out).mono ?_);rintro e w' ⟨rfl,⟨nd,rfl⟩⟩;refine ⟨_,rfl,?_⟩) | ((with_reducible refine aA (f:=25) rfl ?_);refine af.gl (some 26) Tryz.func25 #[.int .i64 a4] ?_;(with_reducible refine (bC.calls k2 a4 t202 _ d0.out).mono ?_);rintro e w' ⟨rfl,⟨nd,rfl⟩⟩;refine ⟨_,rfl,?_⟩))
        go_roundg k2
        case measure=>have:=b3.out;have:=b4.out;omega
        case rel=>exact ⟨(wrap64 (a4+1)),(X),(Y),af.F,H',⟨by have:=b3.out;have:=b4.out;omega⟩,⟨af.Rw y.out⟩,⟨af.Bw j.out⟩,⟨af.Bw z.out⟩,⟨af.L⟩⟩
      ·rw [if_neg b0] at H
       have bv:decide (a4≤t201) = false:=decide_eq_false b0
       clear b0
       simp only [Option.some.injEq,Prod.mk.injEq] at H
       obtain ⟨rfl,rfl⟩:=H
       go_wp2_with (first | ((with_reducible refine aA (f:=24) rfl ?_);refine af.gl (some 21) Tryz.func24 #[.int .i64 a1] ?_;(with_reducible refine (cF.calls a1 t201 _ bs.out).mono ?_);rintro e w' ⟨rfl,⟨nd,rfl⟩⟩;refine ⟨_,rfl,?_⟩;(try (rw [fD wr];generalize a5:World.drewN wr _ = wr;have a8:ae (Kd.R (Kd.int .i64) 3 wr w.heap.size (fun _=>True) Y X):=⟨by rw [← a5];exact (af.Rw y.out)⟩;have a9:ae (wr.heap[a2]? = some (.cells #[.int .i64 0,.slice none 0 0] 30 (0,0))):=⟨by rw [← a5];exact (af.Bw j.out)⟩;have aa:ae (wr.heap[a3]? = some (.cells #[.int .i64 a1,Y] 30 (0,0))):=⟨by rw [← a5];exact (af.Bw z.out)⟩;have ab:ae (Below w.heap.size w wr):=⟨by rw [← a5];exact af.L⟩;clear y j z HB a5;have y:=a8;have j:=a9;have z:=aa;have HB:=ab;clear a8 a9 aa ab;have am:wr.cell? ⟨a2,0,none⟩ = some (.int .i64 0):=(ak j.out 0).trans rfl;have ao:=au j.out 0;have ap:wr.cell? ⟨a2,1,none⟩ = some (.slice none 0 0):=(ak j.out 1).trans rfl;have ar:=au j.out 1;have aw:wr.cell? ⟨a3,0,none⟩ = some (.int .i64 a1):=(ak z.out 0).trans rfl;have aB:=au z.out 0;have aF:wr.cell? ⟨a3,1,none⟩ = some (Y):=(ak z.out 1).trans rfl;have aL:=au z.out 1));have eb:=a7.out;have ec:=a6.out;obtain ⟨dd,df,dk,dl⟩:=af.bw z.out;obtain ⟨dp,dq,dt,du⟩:=af.bw j.out;obtain ⟨bc,bi,dv⟩:=Kd.aK y.out;subst dv))
       refine bodyPost_ret (results_cell_row rfl _ _ a2 30 #[.int .i64 a1,.slice bc X.length bi] (0,0) _ rfl af.B Tryz.underlying30 rfl (by kernel_rfl)) rfl ?_
       exact ⟨_,af.E,by (with_reducible repeat (first | apply Kd.cH | apply Kd.cI | apply Kd.bl));exact Kd.aC (Kd.bD (p:=⟨a2,1,none⟩) (Kd.bD (p:=⟨a2,0,none⟩) (Kd.bS y.out j.out (by decide)) (fun _ hk=>hk.2) (.int .i64 a1)) (fun _ hk=>hk.2) (.slice bc X.length bi)) (fun _ hk=>trivial),af.L⟩
def bz.l0:Nat→ByteArray→Int→List ByteArray→Int→Int→Option (List ByteArray)
 | 0,_,_,_,_,_=>none
 | k+1,y,Y,X,z,j=>if j≤(y.size:Int) then (if j = (y.size:Int) then (if 0≤z then (if z≤j then (if X.length < 8796093022208 then (bz.l0 k y Y (X ++ [y.extract (z:Int).toNat (j:Int).toNat]) (wrap64 (j+1)) (wrap64 (j+1))) else (none)) else (none)) else (none)) else (if 0≤j then (if j < (y.size:Int) then (if (bt y j) = Y then (if 0≤z then (if z≤j then (if X.length < 8796093022208 then (bz.l0 k y Y (X ++ [y.extract (z:Int).toNat (j:Int).toNat]) (wrap64 (j+1)) (wrap64 (j+1))) else (none)) else (none)) else (none)) else (bz.l0 k y Y X z (wrap64 (j+1)))) else (none)) else (none))) else (some X)
def bz.f (k:Nat) (a0:ByteArray) (j:Int):Option (List ByteArray):=bz.l0 k a0 j (([]:List ByteArray)) 0 0
theorem bz.cX:∀ k,af.S5 bz.l0 k
 | 0=>by and_intros <;> (repeat intro _) <;> exact af.mz rfl
 | k+1=>by
  have j:=bz.cX k
  and_intros <;> (repeat intro _) <;> unfold bz.l0 <;> exact ⟨af.mt⟩
theorem bz.mono:∀ a0 j k,ic (bz.f k a0 j) (bz.f (k+1) a0 j):=by
 intro a0 j k
 have y:=bz.cX k
 unfold bz.f
 exact af.mt
instance bz.m:af.V2 bz.f:=fun _ _ _=>⟨bz.mono _ _ _⟩
set_option maxHeartbeats 8000000 in
set_option maxRecDepth 100000 in
theorem bz.calls (k:Nat) (a0:ByteArray) (a1:Int) (r:List ByteArray) (w:World) (h:bz.f k a0 a1 = some r) :
  Calls Tryz.prog 183 #[.string a0,.int .u8 a1] w fun e w'=>∃ b4:Value,e = .returned (b4)∧Kd.R Kd.string 9 w' w.heap.size (fun _=>True) b4 r∧Below w.heap.size w w':=by
 have HB:=ae.mk (Below.refl w.heap.size w)
 unfold bz.f at h
 have H:=h
 clear h
 obtain ⟨am,Y⟩:∃ y_:List ByteArray,y_ = (([]:List ByteArray)):=⟨_,rfl⟩
 replace H:(bz.l0 k a0 a1 am 0 0) = some r:=by (try rw [Y]);exact af.Z
 have a6:=ae.mk Y
 clear Y
 have H':=ae.mk H
 clear H
 go_enter Tryz.func183,Tryz.ntmps183
 go_wp2_with (first | (refine af.lt Kd.string 9 8 ?_;intro ci w3 a7 hb bv ar;clear bv ar;(first | rw [← a6.out] at a7 | (simp only [Int.reduceToNat] at a7;rw [← a6.out] at a7));have aw:=ae.mk (Kd.aV a7 (av (af.Lw HB.out)));replace HB:=af.lb HB hb;clear hb a7))
 go_loopg [5,6,7] k (fun kq v5 v6 v7 w'=>∃ (z:List ByteArray) (y:Int) (j:Int),v6 = .int .i64 y∧v7 = .int .i64 j∧ae (bz.l0 kq a0 a1 z y j = some r)∧ae (kq≤k)∧ae (Kd.R Kd.string 9 w' w.heap.size (fun _=>True) v5 z)∧ae (Below w.heap.size w w'))
 case atStart=>exact ⟨(am),(0),(0),af.F,af.F,H',⟨Nat.le_refl _⟩,⟨af.Rw aw.out⟩,⟨af.Lw HB.out⟩⟩
 case round =>
  clear H'
  obtain ⟨z,y,j,rfl,rfl,HA,a5,X,HB⟩:=hrel
  cases gk with
  | zero=>exact absurd HA.out (by simp [bz.l0])
  | succ k1 =>
   have H:=HA.out
   clear HA
   simp only [bz.l0] at H
   by_cases c5:j≤(a0.size:Int)
   ·rw [if_pos c5] at H
    have b5:=decide_eq_true c5
    clear c5
    by_cases c6:j = (a0.size:Int)
    ·rw [if_pos c6] at H
     have ba:(j == (a0.size:Int)) = true:=beq_iff_eq.mpr c6
     have bc:(j != (a0.size:Int)) = false:=bne_eq_false_iff_eq.mpr c6
     clear c6
     obtain ⟨c7,H⟩:=af.ip H
     have cp:=eq_true c7
     have d0:decide (0≤y) = true:=decide_eq_true c7
     clear c7
     obtain ⟨c8,H⟩:=af.ip H
     have d1:=eq_true c8
     have d2:decide (y≤j) = true:=decide_eq_true c8
     clear c8
     have d3:=eq_true (af.D:j≤(a0.size:Int))
     obtain ⟨gX,H⟩:=af.ip H
     have aB:=ae.mk gX
     clear gX
     obtain ⟨ao,a2⟩:∃ y_:List ByteArray,y_ = (z ++ [a0.extract (y:Int).toNat (j:Int).toNat]):=⟨_,rfl⟩
     replace H:(bz.l0 k1 a0 a1 ao (wrap64 (j+1)) (wrap64 (j+1))) = some r:=by (try rw [a2]);exact af.Z
     have aF:=ae.mk a2
     clear a2
     have H':=ae.mk H
     clear H
     go_wp2_with (first | ((with_reducible refine cP (b:=.append) (xs:=#[.tmp 26,.tmp 31]) rfl ?_);at_builtin;refine Kd.eE Kd.string (w0:=w) w.heap.size rfl (.tmp 26) (.tmp 31) 132 9 (.string ⟨#[]⟩) 16 rfl Tryz.underlying132 rR rfl (by decide) (by omega) u5 z (a0.extract (y:Int).toNat (j:Int).toNat) [.string (a0.extract (y:Int).toNat (j:Int).toNat)] (fun _=>True) (fun _=>False) rfl rfl (by exact rfl) (fun _ hk=>hk.elim) (by exact fun _ _=>trivial) (by exact af.Rw X.out) (by exact af.Lw HB.out) (by exact av (af.Lw HB.out)) (by have:=aB.out;omega) ?_;intro v210 d5 ho hb hg hat;rw [← aF.out] at ho;have a8:=ae.mk hb;have a9:=ae.mk ho;clear HB;clear X;have HB:=a8;have aL:=a9;clear a8 a9;clear ho hb hg hat))
     go_roundg k1
     case measure=>have:=a5.out;omega
     case rel=>exact ⟨(ao),(wrap64 (j+1)),(wrap64 (j+1)),af.F,af.F,H',⟨by have:=a5.out;omega⟩,⟨af.Rw aL.out⟩,⟨af.Lw HB.out⟩⟩
    ·rw [if_neg c6] at H
     have ba:(j == (a0.size:Int)) = false:=beq_eq_false_iff_ne.mpr c6
     have bc:(j != (a0.size:Int)) = true:=bne_iff_ne.mpr c6
     obtain ⟨bi,H⟩:=af.ip H
     have c0:=decide_eq_true bi
     clear bi
     obtain ⟨bm,H⟩:=af.ip H
     have c1:=decide_eq_true bm
     clear bm
     by_cases a3:(bt a0 j) = a1
     ·rw [if_pos a3] at H
      have aO:((bt a0 j) == a1) = true:=beq_iff_eq.mpr a3
      have aP:((bt a0 j) != a1) = false:=bne_eq_false_iff_eq.mpr a3
      clear a3
      obtain ⟨aR,H⟩:=af.ip H
      have ca:=eq_true aR
      have cb:decide (0≤y) = true:=decide_eq_true aR
      clear aR
      obtain ⟨aS,H⟩:=af.ip H
      have cc:=eq_true aS
      have ce:decide (y≤j) = true:=decide_eq_true aS
      clear aS
      have cf:=eq_true (af.D:j≤(a0.size:Int))
      obtain ⟨bo,H⟩:=af.ip H
      have b0:=ae.mk bo
      clear bo
      obtain ⟨ap,a4⟩:∃ y_:List ByteArray,y_ = (z ++ [a0.extract (y:Int).toNat (j:Int).toNat]):=⟨_,rfl⟩
      replace H:(bz.l0 k1 a0 a1 ap (wrap64 (j+1)) (wrap64 (j+1))) = some r:=by (try rw [a4]);exact af.Z
      have b2:=ae.mk a4
      clear a4
      have H':=ae.mk H
      clear H
      have aa:0≤(j:Int):=af.D
      have ab:j < (a0.size:Int):=af.D
      have bs:=iL a0 j
      replace aa:=eq_true aa
      replace ab:=eq_true ab
      go_wp2_with (first | ((with_reducible refine cP (b:=.append) (xs:=#[.tmp 26,.tmp 31]) rfl ?_);at_builtin;refine Kd.eE Kd.string (w0:=w) w.heap.size rfl (.tmp 26) (.tmp 31) 132 9 (.string ⟨#[]⟩) 16 rfl Tryz.underlying132 rR rfl (by decide) (by omega) u5 z (a0.extract (y:Int).toNat (j:Int).toNat) [.string (a0.extract (y:Int).toNat (j:Int).toNat)] (fun _=>True) (fun _=>False) rfl rfl (by exact rfl) (fun _ hk=>hk.elim) (by exact fun _ _=>trivial) (by exact af.Rw X.out) (by exact af.Lw HB.out) (by exact av (af.Lw HB.out)) (by have:=b0.out;omega) ?_;intro d4 d6 ho hb hg hat;rw [← b2.out] at ho;have a8:=ae.mk hb;have a9:=ae.mk ho;clear HB;clear X;have HB:=a8;have b3:=a9;clear a8 a9;clear ho hb hg hat))
      go_roundg k1
      case measure=>have:=a5.out;omega
      case rel=>exact ⟨(ap),(wrap64 (j+1)),(wrap64 (j+1)),af.F,af.F,H',⟨by have:=a5.out;omega⟩,⟨af.Rw b3.out⟩,⟨af.Lw HB.out⟩⟩
     ·rw [if_neg a3] at H
      have aO:((bt a0 j) == a1) = false:=beq_eq_false_iff_ne.mpr a3
      have aP:((bt a0 j) != a1) = true:=bne_iff_ne.mpr a3
      have H':=ae.mk H
      clear H
      have aa:0≤(j:Int):=af.D
      have ab:j < (a0.size:Int):=af.D
      have bs:=iL a0 j
      replace aa:=eq_true aa
      replace ab:=eq_true ab
      go_wp2
      go_roundg k1
      case measure=>have:=a5.out;omega
      case rel=>exact ⟨(z),(y),(wrap64 (j+1)),af.F,af.F,H',⟨by have:=a5.out;omega⟩,⟨af.Rw X.out⟩,⟨af.Lw HB.out⟩⟩
   ·rw [if_neg c5] at H
    have b5:decide (j≤(a0.size:Int)) = false:=decide_eq_false c5
    clear c5
    obtain rfl:=Option.some.inj H
    go_wp2
    go_ret
    exact ⟨_,af.E,by (with_reducible repeat (first | apply Kd.cH | apply Kd.cI | apply Kd.bl));exact X.out,af.L⟩
def bA.l0:Nat→Int→Bool→ByteArray→Option (ByteArray)
 | 0,_,_,_=>none
 | k+1,X,Y,z=>if X = 0 then (if Y = true then (if 1+z.size≤9223372036854775807 then (some ((⟨#[45]⟩:ByteArray) ++ z)) else (none)) else (some z)) else (if (Int.tmod X 10) < 0 then ((some (([(wrap64 (48+(wrap64 (-(Int.tmod X 10))))) % 256]:List Int):List Int)).bind fun j=>(if (strOfNums j).size+z.size≤9223372036854775807 then (bA.l0 k (wrap64 (Int.tdiv X 10)) Y ((strOfNums j) ++ z)) else (none))) else ((some (([(wrap64 (48+(Int.tmod X 10))) % 256]:List Int):List Int)).bind fun y=>(if (strOfNums y).size+z.size≤9223372036854775807 then (bA.l0 k (wrap64 (Int.tdiv X 10)) Y ((strOfNums y) ++ z)) else (none))))
def bA.f (k:Nat) (a0:Int):Option (ByteArray):=if a0 = 0 then (some (⟨#[48]⟩:ByteArray)) else (bA.l0 k a0 (decide (a0 < 0)) (⟨#[]⟩:ByteArray))
theorem bA.cX:∀ k,af.S3 bA.l0 k
 | 0=>by and_intros <;> (repeat intro _) <;> exact af.mz rfl
 | k+1=>by
  have j:=bA.cX k
  and_intros <;> (repeat intro _) <;> unfold bA.l0 <;> exact ⟨af.mt⟩
theorem bA.mono:∀ a0 k,ic (bA.f k a0) (bA.f (k+1) a0):=by
 intro a0 k
 have j:=bA.cX k
 unfold bA.f
 exact af.mt
instance bA.m:af.V1 bA.f:=fun _ _=>⟨bA.mono _ _⟩
set_option maxHeartbeats 8000000 in
set_option maxRecDepth 100000 in
theorem bA.calls (k:Nat) (a0:Int) (r:ByteArray) (w:World) (h:bA.f k a0 = some r) :
  Calls Tryz.prog 202 #[.int .i64 a0] w fun e w'=>e = .returned (.string r)∧Below w.heap.size w w':=by
 have HB:=ae.mk (Below.refl w.heap.size w)
 unfold bA.f at h
 have H:=h
 clear h
 by_cases c2:a0 = 0
 ·rw [if_pos c2] at H
  have ao:(a0 == 0) = true:=beq_iff_eq.mpr c2
  have ap:(a0 != 0) = false:=bne_eq_false_iff_eq.mpr c2
  clear c2
  obtain rfl:=Option.some.inj H
  go_enter Tryz.func202,Tryz.ntmps202
  go_wp2
  go_ret
  exact ⟨af.E,af.L⟩
 ·rw [if_neg c2] at H
  have ao:(a0 == 0) = false:=beq_eq_false_iff_ne.mpr c2
  have ap:(a0 != 0) = true:=bne_iff_ne.mpr c2
  have H':=ae.mk H
  clear H
  go_enter Tryz.func202,Tryz.ntmps202
  go_wp2
  go_loopg [0,4] k (fun kq v0 v4 w'=>∃ (j:Int) (y:ByteArray),v0 = .int .i64 j∧v4 = .string y∧ae (bA.l0 kq j (decide (a0 < 0)) y = some r)∧ae (kq≤k)∧ae (Below w.heap.size w w'))
  case atStart=>exact ⟨(a0),((⟨#[]⟩:ByteArray)),af.F,af.F,H',⟨Nat.le_refl _⟩,⟨af.Lw HB.out⟩⟩
  case round =>
   clear H'
   obtain ⟨j,y,rfl,rfl,HA,a8,HB⟩:=hrel
   cases gk with
   | zero=>exact absurd HA.out (by simp [bA.l0])
   | succ k1 =>
    have H:=HA.out
    clear HA
    simp only [bA.l0] at H
    by_cases c3:j = 0
    ·rw [if_pos c3] at H
     have ar:(j == 0) = true:=beq_iff_eq.mpr c3
     have aw:(j != 0) = false:=bne_eq_false_iff_eq.mpr c3
     clear c3
     by_cases c4:(decide (a0 < 0)) = true
     ·rw [if_pos c4] at H
      have a4:(decide (a0 < 0)) = true:=c4
      clear c4
      obtain ⟨c5,H⟩:=af.ip H
      have aS:=eq_true c5
      have b0:decide (1+y.size≤9223372036854775807) = true:=decide_eq_true c5
      try have b2:(9223372036854775807 < 1+y.size) = False:=eq_false (Nat.not_lt.2 c5)
      obtain rfl:=Option.some.inj H
      rw [a4]
      go_wp2
      go_ret
      exact ⟨af.E,af.L⟩
     ·rw [if_neg c4] at H
      have a4:(decide (a0 < 0)) = false:=by simpa using c4
      clear c4
      obtain rfl:=Option.some.inj H
      rw [a4]
      go_wp2
      go_ret
      exact ⟨af.E,af.L⟩
    ·rw [if_neg c3] at H
     have ar:(j == 0) = false:=beq_eq_false_iff_ne.mpr c3
     have aw:(j != 0) = true:=bne_iff_ne.mpr c3
     by_cases c6:(Int.tmod j 10) < 0
     ·rw [if_pos c6] at H
      have aB:=decide_eq_true c6
      clear c6
      obtain ⟨z,a1⟩:∃ y_:List Int,y_ = (([(wrap64 (48+(wrap64 (-(Int.tmod j 10))))) % 256]:List Int)):=⟨_,rfl⟩
      replace H:(if (strOfNums z).size+y.size≤9223372036854775807 then (bA.l0 k1 (wrap64 (Int.tdiv j 10)) (decide (a0 < 0)) ((strOfNums z) ++ y)) else (none)) = some r:=by (try rw [a1]);exact af.Z
      have a5:=ae.mk a1
      clear a1
      obtain ⟨c7,H⟩:=af.ip H
      have b3:=eq_true c7
      have b4:decide ((strOfNums z).size+y.size≤9223372036854775807) = true:=decide_eq_true c7
      try have b5:(9223372036854775807 < (strOfNums z).size+y.size) = False:=eq_false (Nat.not_lt.2 c7)
      have H':=ae.mk H
      clear H
      go_wp2_with (first | ((with_reducible refine bh (N:=21) rfl ?_);refine Kd.jH (Kd.int .u8) _ 5 ?hg (N:=21) ?hd (xs:=([(wrap64 (48+(wrap64 (-(Int.tmod j 10))))) % 256]:List Int)) (inner:=[.int .u8 ((wrap64 (48+(wrap64 (-(Int.tmod j 10))))) % 256)]) (ok:=fun _=>True) (okp:=fun _=>True) ?hr ?hp (fun _ hk=>hk) trivial (Below.refl _ _) (Nat.le_refl _) (by simp) ?_;(case hd=>rfl);(case hg=>rfl);(case hr=>first | (go_simp;done) | (go_simp;rfl));(case hp=>exact (cV.one (show Kd.M (Kd.int .u8) _ _ _ ((wrap64 (48+(wrap64 (-(Int.tmod j 10))))) % 256) [.int .u8 ((wrap64 (48+(wrap64 (-(Int.tmod j 10))))) % 256)] from rfl) (cV.none _ _)));intro ba w8 a6 hb a9 a2;clear a9 a2;(first | rw [← a5.out] at a6 | (simp only [Int.reduceToNat] at a6;rw [← a5.out] at a6));have aa:=ae.mk (Kd.aV a6 (av (af.Lw HB.out)));replace HB:=af.lb HB hb;clear hb a6;have aF:=kC (P:=Tryz.prog) Tryz.underlying22 Tryz.underlying5 Tryz.underlying9 (Kd.iv aa.out)))
      go_roundg k1
      case measure=>have:=a8.out;omega
      case rel=>exact ⟨(wrap64 (Int.tdiv j 10)),((strOfNums z) ++ y),af.F,af.F,H',⟨by have:=a8.out;omega⟩,⟨af.Lw HB.out⟩⟩
     ·rw [if_neg c6] at H
      have aB:decide ((Int.tmod j 10) < 0) = false:=decide_eq_false c6
      clear c6
      obtain ⟨X,a3⟩:∃ y_:List Int,y_ = (([(wrap64 (48+(Int.tmod j 10))) % 256]:List Int)):=⟨_,rfl⟩
      replace H:(if (strOfNums X).size+y.size≤9223372036854775807 then (bA.l0 k1 (wrap64 (Int.tdiv j 10)) (decide (a0 < 0)) ((strOfNums X) ++ y)) else (none)) = some r:=by (try rw [a3]);exact af.Z
      have a7:=ae.mk a3
      clear a3
      obtain ⟨ab,H⟩:=af.ip H
      have aL:=eq_true ab
      have aO:decide ((strOfNums X).size+y.size≤9223372036854775807) = true:=decide_eq_true ab
      try have aP:(9223372036854775807 < (strOfNums X).size+y.size) = False:=eq_false (Nat.not_lt.2 ab)
      have H':=ae.mk H
      clear H
      go_wp2_with (first | ((with_reducible refine bh (N:=21) rfl ?_);refine Kd.jH (Kd.int .u8) _ 5 ?hg (N:=21) ?hd (xs:=([(wrap64 (48+(Int.tmod j 10))) % 256]:List Int)) (inner:=[.int .u8 ((wrap64 (48+(Int.tmod j 10))) % 256)]) (ok:=fun _=>True) (okp:=fun _=>True) ?hr ?hp (fun _ hk=>hk) trivial (Below.refl _ _) (Nat.le_refl _) (by simp) ?_;(case hd=>rfl);(case hg=>rfl);(case hr=>first | (go_simp;done) | (go_simp;rfl));(case hp=>exact (cV.one (show Kd.M (Kd.int .u8) _ _ _ ((wrap64 (48+(Int.tmod j 10))) % 256) [.int .u8 ((wrap64 (48+(Int.tmod j 10))) % 256)] from rfl) (cV.none _ _)));intro bc bi Y hb a9 a2;clear a9 a2;(first | rw [← a7.out] at Y | (simp only [Int.reduceToNat] at Y;rw [← a7.out] at Y));have am:=ae.mk (Kd.aV Y (av (af.Lw HB.out)));replace HB:=af.lb HB hb;clear hb Y;have aR:=kC (P:=Tryz.prog) Tryz.underlying22 Tryz.underlying5 Tryz.underlying9 (Kd.iv am.out)))
      go_roundg k1
      case measure=>have:=a8.out;omega
      case rel=>exact ⟨(wrap64 (Int.tdiv j 10)),((strOfNums X) ++ y),af.F,af.F,H',⟨by have:=a8.out;omega⟩,⟨af.Lw HB.out⟩⟩
mutual
def bk.j0:Nat→ByteArray→Int→Bool→Option (Int×Bool)
 | 0,_,_,_=>none
 | k+1,j,x1,z=>if z = true then (if 1≤(j.size:Int) then (bk.j1 k j x1 z (j.extract 1 j.size)) else (none)) else (bk.j1 k j x1 z j)
def bk.j1:Nat→ByteArray→Int→Bool→ByteArray→Option (Int×Bool)
 | 0,_,_,_,_=>none
 | k+1,j,x1,z,y=>if (y.size:Int) < 1 then (bk.j2 k j z y true) else (bk.j2 k j z y (decide ((y.size:Int) > x1)))
def bk.j2:Nat→ByteArray→Bool→ByteArray→Bool→Option (Int×Bool)
 | 0,_,_,_,_=>none
 | k+1,j,z,y,a0=>if a0 = true then (some (0,false)) else (bk.l0 k j z y 0 0)
def bk.l0:Nat→ByteArray→Bool→ByteArray→Int→Int→Option (Int×Bool)
 | 0,_,_,_,_,_=>none
 | k+1,j,z,y,Y,X=>if X < (y.size:Int) then (if 0≤X then (if (bt y X) < 48 then (some (0,false)) else (if (bt y X) > 57 then (some (0,false)) else (bk.l0 k j z y (wrap64 ((wrap64 (10 * Y))+(((bt y X) - 48) % 256))) (wrap64 (X+1))))) else (none)) else (if z = true then ((bA.f k (wrap64 (-Y))).bind fun t221=>(if t221.toList = j.toList then (some (wrap64 (-Y),true)) else (some (0,false)))) else ((bA.f k Y).bind fun t222=>(if t222.toList = j.toList then (some (Y,true)) else (some (0,false)))))
end
def bk.f (k:Nat) (a0:ByteArray) (j:Int):Option (Int×Bool):=if (a0.size:Int) > 0 then (if 0 < (a0.size:Int) then (bk.j0 k a0 j ((bt a0 0) == 45)) else (none)) else (bk.j0 k a0 j false)
theorem bk.cX:∀ k,af.S3 bk.j0 k∧af.S4 bk.j1 k∧af.S4 bk.j2 k∧af.S5 bk.l0 k
 | 0=>by and_intros <;> (repeat intro _) <;> exact af.mz rfl
 | k+1=>by
  obtain ⟨j,y,z,X⟩:=bk.cX k
  and_intros <;> (repeat intro _) <;> (first | unfold bk.j0 | unfold bk.j1 | unfold bk.j2 | unfold bk.l0) <;> exact ⟨af.mt⟩
theorem bk.mono:∀ a0 j k,ic (bk.f k a0 j) (bk.f (k+1) a0 j):=by
 intro a0 j k
 obtain ⟨y,z,X,Y⟩:=bk.cX k
 unfold bk.f
 exact af.mt
instance bk.m:af.V2 bk.f:=fun _ _ _=>⟨bk.mono _ _ _⟩
set_option maxHeartbeats 8000000 in
set_option maxRecDepth 100000 in
theorem bk.calls (k:Nat) (a0:ByteArray) (a1:Int) (r1:Int) (r2:Bool) (w:World) (h:bk.f k a0 a1 = some (r1,r2)) :
  Calls Tryz.prog 199 #[.string a0,.int .i64 a1] w fun e w'=>e = .returned (.tuple #[.int .i64 r1,.bool r2])∧Below w.heap.size w w':=by
 have HB:=ae.mk (Below.refl w.heap.size w)
 unfold bk.f at h
 have H:=h
 clear h
 have aR:=ae.mk H
 clear H
 go_enter Tryz.func199,Tryz.ntmps199
 go_upto_region 1 with (fail)
 go_cut [6] (fun v6 wc=>∃ (kq:Nat) (X:Bool),v6 = .bool X∧ae (bk.j0 kq a0 a1 X = some (r1,r2))∧ae (kq≤k)∧ae (Below w.heap.size w wc))
 case first =>
  have H:=aR.out
  clear aR
  by_cases c4:(a0.size:Int) > 0
  ·rw [if_pos c4] at H
   have a3:=decide_eq_true c4
   have bv:decide (0 < a0.size) = true:=decide_eq_true (by omega)
   clear c4
   (first | rw [a3] | (simp only [aM,b8];rw [a3]) | skip)
   obtain ⟨c5,H⟩:=af.ip H
   have d1:=decide_eq_true c5
   have d2:decide (0 < a0.size) = true:=decide_eq_true (by omega)
   clear c5
   have H':=ae.mk H
   clear H
   have p6:0≤(0:Int):=(by omega)
   have q6:0 < a0.size:=(by have:(0:Int) < (a0.size:Int):=af.D;omega)
   have aw:∀ h:0 < a0.size,((a0[0]'h).toNat:Int) = bt a0 0:=iL a0 0
   clear p6
   have aB:(0 < (a0.size:Int)) = True:=eq_true (af.D)
   replace q6:=eq_true q6
   go_wp2
   go_meet
   case rel=>exact ⟨_,(((bt a0 0) == 45)),af.F,H',⟨by first | omega | exact Nat.le_refl _⟩,⟨af.Lw HB.out⟩⟩
  ·rw [if_neg c4] at H
   have a3:decide (0 < (a0.size:Int)) = false:=decide_eq_false c4
   have bv:decide (0 < a0.size) = false:=decide_eq_false (by omega)
   clear c4
   (first | rw [a3] | (simp only [aM,b8];rw [a3]) | skip)
   have H':=ae.mk H
   clear H
   go_wp2
   go_meet
   case rel=>exact ⟨_,(false),af.F,H',⟨by first | omega | exact Nat.le_refl _⟩,⟨af.Lw HB.out⟩⟩
 case rest =>
  clear aR
  try clear q6
  try clear aw
  try clear aB
  try clear q6
  obtain ⟨kq,X,rfl,HA,a8,HB⟩:=hcut
  cases kq with
  | zero=>exact absurd HA.out (by simp [bk.j0])
  | succ aS =>
   have H:=HA.out
   clear HA
   simp only [bk.j0] at H
   have b0:=ae.mk H
   clear H
   go_upto_if 19 with (fail)
   go_cut [7] (fun v7 wc=>∃ (kq:Nat) (j:ByteArray),v7 = .string j∧ae (bk.j1 kq a0 a1 X j = some (r1,r2))∧ae (kq≤aS)∧ae (Below w.heap.size w wc))
   case first =>
    have H:=b0.out
    clear b0
    by_cases c8:X = true
    ·subst c8
     replace H:(if 1≤(a0.size:Int) then (bk.j1 aS a0 a1 true (a0.extract 1 a0.size)) else (none)) = some (r1,r2):=by rw [if_pos rfl] at H;exact H
     obtain ⟨c9,H⟩:=af.ip H
     have d3:=eq_true c9
     have d4:decide (1≤(a0.size:Int)) = true:=decide_eq_true c9
     clear c9
     have H':=ae.mk H
     clear H
     go_wp2
     go_meet
     case rel=>exact ⟨_,(a0.extract 1 a0.size),af.F,H',⟨by have:=a8.out;first | omega | exact Nat.le_refl _⟩,⟨af.Lw HB.out⟩⟩
    ·replace c8:=Bool.eq_false_iff.mpr c8
     subst c8
     replace H:(bk.j1 aS a0 a1 false a0) = some (r1,r2):=by rw [if_neg (show ¬ (false = true) by decide)] at H;exact H
     have H':=ae.mk H
     clear H
     go_wp2
     go_meet
     case rel=>exact ⟨_,(a0),af.F,H',⟨by have:=a8.out;first | omega | exact Nat.le_refl _⟩,⟨af.Lw HB.out⟩⟩
   case rest =>
    clear b0
    try clear q6
    try clear aw
    try clear aB
    try clear q6
    obtain ⟨kq,j,rfl,HA,aF,HB⟩:=hcut
    cases kq with
    | zero=>exact absurd HA.out (by simp [bk.j1])
    | succ cp =>
     have H:=HA.out
     clear HA
     simp only [bk.j1] at H
     have ao:=ae.mk H
     clear H
     go_upto_region 5 with (fail)
     go_cut [30] (fun v30 wc=>∃ (kq:Nat) (a2:Bool),v30 = .bool a2∧ae (bk.j2 kq a0 X j a2 = some (r1,r2))∧ae (kq≤cp)∧ae (Below w.heap.size w wc))
     case first =>
      have H:=ao.out
      clear ao
      by_cases a9:(j.size:Int) < 1
      ·rw [if_pos a9] at H
       have Y:=decide_eq_true a9
       have b2:decide (j.size < 1) = true:=decide_eq_true (by omega)
       clear a9
       (first | rw [Y] | (simp only [aM,b8];rw [Y]) | skip)
       have H':=ae.mk H
       clear H
       go_wp2
       go_meet
       case rel=>exact ⟨_,(true),af.F,H',⟨by have:=a8.out;have:=aF.out;first | omega | exact Nat.le_refl _⟩,⟨af.Lw HB.out⟩⟩
      ·rw [if_neg a9] at H
       have Y:decide ((j.size:Int) < 1) = false:=decide_eq_false a9
       have b2:decide (j.size < 1) = false:=decide_eq_false (by omega)
       clear a9
       (first | rw [Y] | (simp only [aM,b8];rw [Y]) | skip)
       have H':=ae.mk H
       clear H
       go_wp2
       go_meet
       case rel=>exact ⟨_,(decide ((j.size:Int) > a1)),af.F,H',⟨by have:=a8.out;have:=aF.out;first | omega | exact Nat.le_refl _⟩,⟨af.Lw HB.out⟩⟩
     case rest =>
      clear ao
      try clear q6
      try clear aw
      try clear aB
      try clear q6
      obtain ⟨kq,a2,rfl,HA,c0,HB⟩:=hcut
      cases kq with
      | zero=>exact absurd HA.out (by simp [bk.j2])
      | succ b3 =>
       have H:=HA.out
       clear HA
       simp only [bk.j2] at H
       by_cases aL:a2 = true
       ·subst aL
        replace H:(some (0,false)) = some (r1,r2):=by rw [if_pos rfl] at H;exact H
        simp only [Option.some.injEq,Prod.mk.injEq] at H
        obtain ⟨rfl,rfl⟩:=H
        go_wp2
        go_ret2
        exact ⟨af.E,af.L⟩
       ·replace aL:=Bool.eq_false_iff.mpr aL
        subst aL
        replace H:(bk.l0 b3 a0 X j 0 0) = some (r1,r2):=by rw [if_neg (show ¬ (false = true) by decide)] at H;exact H
        have H':=ae.mk H
        clear H
        go_wp2
        go_loopg [8,9] b3 (fun kq v8 v9 w'=>∃ (z:Int) (y:Int),v8 = .int .i64 z∧v9 = .int .i64 y∧ae (bk.l0 kq a0 X j z y = some (r1,r2))∧ae (kq≤b3)∧ae (Below w.heap.size w w'))
        case atStart=>exact ⟨(0),(0),af.F,af.F,H',⟨Nat.le_refl _⟩,⟨af.Lw HB.out⟩⟩
        case round =>
         clear H'
         try clear q6
         try clear aw
         try clear aB
         try clear q6
         obtain ⟨z,y,rfl,rfl,HA,c1,HB⟩:=hrel
         cases gk with
         | zero=>exact absurd HA.out (by simp [bk.l0])
         | succ k4 =>
          have H:=HA.out
          clear HA
          simp only [bk.l0] at H
          by_cases aa:y < (j.size:Int)
          ·rw [if_pos aa] at H
           have b4:=decide_eq_true aa
           clear aa
           obtain ⟨ca,H⟩:=af.ip H
           have d0:=decide_eq_true ca
           clear ca
           by_cases ab:(bt j y) < 48
           ·rw [if_pos ab] at H
            have b5:=decide_eq_true ab
            clear ab
            simp only [Option.some.injEq,Prod.mk.injEq] at H
            obtain ⟨rfl,rfl⟩:=H
            have a4:0≤(y:Int):=af.D
            have a5:y < (j.size:Int):=af.D
            have aP:=iL j y
            replace a4:=eq_true a4
            replace a5:=eq_true a5
            go_wp2
            go_ret2
            exact ⟨af.E,af.L⟩
           ·rw [if_neg ab] at H
            have b5:decide ((bt j y) < 48) = false:=decide_eq_false ab
            clear ab
            by_cases am:(bt j y) > 57
            ·rw [if_pos am] at H
             have ba:=decide_eq_true am
             clear am
             simp only [Option.some.injEq,Prod.mk.injEq] at H
             obtain ⟨rfl,rfl⟩:=H
             have a4:0≤(y:Int):=af.D
             have a5:y < (j.size:Int):=af.D
             have aP:=iL j y
             replace a4:=eq_true a4
             replace a5:=eq_true a5
             have ap:0≤(y:Int):=af.D
             have ar:y < (j.size:Int):=af.D
             have cb:=iL j y
             replace ap:=eq_true ap
             replace ar:=eq_true ar
             go_wp2
             go_ret2
             exact ⟨af.E,af.L⟩
            ·rw [if_neg am] at H
             have ba:decide (57 < (bt j y)) = false:=decide_eq_false am
             clear am
             have H':=ae.mk H
             clear H
             have a4:0≤(y:Int):=af.D
             have a5:y < (j.size:Int):=af.D
             have aP:=iL j y
             replace a4:=eq_true a4
             replace a5:=eq_true a5
             have ap:0≤(y:Int):=af.D
             have ar:y < (j.size:Int):=af.D
             have cb:=iL j y
             replace ap:=eq_true ap
             replace ar:=eq_true ar
             have cc:0≤(y:Int):=af.D
             have ce:y < (j.size:Int):=af.D
             have d5:=iL j y
             replace cc:=eq_true cc
             replace ce:=eq_true ce
             go_wp2
             go_roundg k4
             case measure=>have:=a8.out;have:=aF.out;have:=c0.out;have:=c1.out;omega
             case rel=>exact ⟨(wrap64 ((wrap64 (10 * z))+(((bt j y) - 48) % 256))),(wrap64 (y+1)),af.F,af.F,H',⟨by have:=a8.out;have:=aF.out;have:=c0.out;have:=c1.out;omega⟩,⟨af.Lw HB.out⟩⟩
          ·rw [if_neg aa] at H
           have b4:decide (y < (j.size:Int)) = false:=decide_eq_false aa
           clear aa
           by_cases aO:X = true
           ·subst aO
            replace H:((bA.f k4 (wrap64 (-z))).bind fun t221=>(if t221.toList = a0.toList then (some (wrap64 (-z),true)) else (some (0,false)))) = some (r1,r2):=by rw [if_pos rfl] at H;exact H
            obtain ⟨t221,cf,H⟩:=af.be H
            (try dsimp only at H)
            by_cases a6:t221.toList = a0.toList
            ·rw [if_pos a6] at H
             have bc:(t221.toList == a0.toList) = true:=beq_iff_eq.mpr a6
             have bi:(t221.toList != a0.toList) = false:=bne_eq_false_iff_eq.mpr a6
             clear a6
             simp only [Option.some.injEq,Prod.mk.injEq] at H
             obtain ⟨rfl,rfl⟩:=H
             go_wp2_with (first | (refine af.gl (some 59) Tryz.func202 #[.int .i64 (wrap64 (-z))] ?_;(with_reducible refine (bA.calls k4 (wrap64 (-z)) t221 _ cf.out).mono ?_);rintro e d6 ⟨rfl,hb⟩;refine ⟨_,rfl,?_⟩;replace HB:=af.lb HB hb;(try clear hb);(try clear bm);(try clear hk);(try clear hi)))
             go_ret2
             exact ⟨af.E,af.L⟩
            ·rw [if_neg a6] at H
             have bc:(t221.toList == a0.toList) = false:=beq_eq_false_iff_ne.mpr a6
             have bi:(t221.toList != a0.toList) = true:=bne_iff_ne.mpr a6
             simp only [Option.some.injEq,Prod.mk.injEq] at H
             obtain ⟨rfl,rfl⟩:=H
             go_wp2_with (first | (refine af.gl (some 59) Tryz.func202 #[.int .i64 (wrap64 (-z))] ?_;(with_reducible refine (bA.calls k4 (wrap64 (-z)) t221 _ cf.out).mono ?_);rintro e d7 ⟨rfl,hb⟩;refine ⟨_,rfl,?_⟩;replace HB:=af.lb HB hb;(try clear hb);(try clear bm);(try clear hk);(try clear hi)))
             go_ret2
             exact ⟨af.E,af.L⟩
           ·replace aO:=Bool.eq_false_iff.mpr aO
            subst aO
            replace H:((bA.f k4 z).bind fun t222=>(if t222.toList = a0.toList then (some (z,true)) else (some (0,false)))) = some (r1,r2):=by rw [if_neg (show ¬ (false = true) by decide)] at H;exact H
            obtain ⟨t222,ci,H⟩:=af.be H
            (try dsimp only at H)
            by_cases a7:t222.toList = a0.toList
            ·rw [if_pos a7] at H
             have bo:(t222.toList == a0.toList) = true:=beq_iff_eq.mpr a7
             have bs:(t222.toList != a0.toList) = false:=bne_eq_false_iff_eq.mpr a7
             clear a7
             simp only [Option.some.injEq,Prod.mk.injEq] at H
             obtain ⟨rfl,rfl⟩:=H
             go_wp2_with (first | (refine af.gl (some 59) Tryz.func202 #[.int .i64 z] ?_;(with_reducible refine (bA.calls k4 z t222 _ ci.out).mono ?_);rintro e d8 ⟨rfl,hb⟩;refine ⟨_,rfl,?_⟩;replace HB:=af.lb HB hb;(try clear hb);(try clear bm);(try clear hk);(try clear hi)))
             go_ret2
             exact ⟨af.E,af.L⟩
            ·rw [if_neg a7] at H
             have bo:(t222.toList == a0.toList) = false:=beq_eq_false_iff_ne.mpr a7
             have bs:(t222.toList != a0.toList) = true:=bne_iff_ne.mpr a7
             simp only [Option.some.injEq,Prod.mk.injEq] at H
             obtain ⟨rfl,rfl⟩:=H
             go_wp2_with (first | (refine af.gl (some 59) Tryz.func202 #[.int .i64 z] ?_;(with_reducible refine (bA.calls k4 z t222 _ ci.out).mono ?_);rintro e d9 ⟨rfl,hb⟩;refine ⟨_,rfl,?_⟩;replace HB:=af.lb HB hb;(try clear hb);(try clear bm);(try clear hk);(try clear hi)))
             go_ret2
             exact ⟨af.E,af.L⟩
def dG.f (k:Nat) (a0:ByteArray):Option (Int×Bool):=(bk.f k a0 12).bind fun j=>(some (j.1,j.2))
theorem dG.mono:∀ a0 k,ic (dG.f k a0) (dG.f (k+1) a0):=by
 intro a0 k
 unfold dG.f
 exact af.mt
instance dG.m:af.V1 dG.f:=fun _ _=>⟨dG.mono _ _⟩
set_option maxHeartbeats 8000000 in
set_option maxRecDepth 100000 in
theorem dG.calls (k:Nat) (a0:ByteArray) (j:Int) (y:Bool) (w:World) (h:dG.f k a0 = some (j,y)) :
  Calls Tryz.prog 184 #[.string a0] w fun e w'=>e = .returned (.tuple #[.int .i64 j,.bool y])∧Below w.heap.size w w':=by
 have HB:=ae.mk (Below.refl w.heap.size w)
 unfold dG.f at h
 have H:=h
 clear h
 obtain ⟨⟨t223,t224⟩,z,H⟩:=af.be H
 (try dsimp only at H)
 simp only [Option.some.injEq,Prod.mk.injEq] at H
 obtain ⟨rfl,rfl⟩:=H
 go_enter Tryz.func184,Tryz.ntmps184
 go_wp2_with (first | (refine af.gl (some 5) Tryz.func199 #[.string a0,.int .i64 12] ?_;(with_reducible refine (bk.calls k a0 12 t223 t224 _ z.out).mono ?_);rintro e Y ⟨rfl,hb⟩;refine ⟨_,rfl,?_⟩;replace HB:=af.lb HB hb;(try clear hb);(try clear X);(try clear hk);(try clear hi)))
 go_ret2
 exact ⟨af.E,af.L⟩
def fA.f (a0:Int) (j:Int):Option (Int):=(bN.f 8 a0).bind fun t225=>(if t225 = true then ((cC.f j 0 7).bind fun t226=>(if t226 = true then (if 0≤(IntKind.u64.wrap (j)) then (some (Go.bits .or .i64 a0 (shl .i64 1 (IntKind.u64.wrap (j))))) else (none)) else (some a0))) else (some a0))
set_option maxHeartbeats 8000000 in
set_option maxRecDepth 100000 in
theorem fA.calls (a0:Int) (a1:Int) (r:Int) (w:World) (h:fA.f a0 a1 = some r) :
  Calls Tryz.prog 66 #[.int .i64 a0,.int .i64 a1] w fun e w'=>e = .returned (.int .i64 r)∧cS w w':=by
 unfold fA.f at h
 have H:=h
 clear h
 obtain ⟨t225,A3,H⟩:=af.be H
 (try dsimp only at H)
 by_cases c4:t225 = true
 ·subst c4
  replace H:((cC.f a1 0 7).bind fun t226=>(if t226 = true then (if 0≤(IntKind.u64.wrap (a1)) then (some (Go.bits .or .i64 a0 (shl .i64 1 (IntKind.u64.wrap (a1))))) else (none)) else (some a0))) = some r:=by rw [if_pos rfl] at H;exact H
  obtain ⟨t226,A5,H⟩:=af.be H
  (try dsimp only at H)
  by_cases c6:t226 = true
  ·subst c6
   replace H:(if 0≤(IntKind.u64.wrap (a1)) then (some (Go.bits .or .i64 a0 (shl .i64 1 (IntKind.u64.wrap (a1))))) else (none)) = some r:=by rw [if_pos rfl] at H;exact H
   obtain ⟨j,z⟩:∃ j_:Int,(IntKind.u64.wrap (a1)) = j_:=⟨_,rfl⟩
   replace H:(if 0≤(j) then (some (Go.bits .or .i64 a0 (shl .i64 1 (j)))) else (none)) = some r:=by first | (rw [z] at H;exact H) | (simp only [z] at H ⊢;exact H)
   (try rw [z] at A3)
   (try rw [z] at A5)
   obtain ⟨c8,H⟩:=af.ip H
   have a8:=eq_true c8
   have a9:decide (0≤(j)) = true:=decide_eq_true c8
   clear c8
   obtain ⟨X,y⟩:∃ j_:Int,(shl .i64 1 (j)) = j_:=⟨_,rfl⟩
   replace H:(some (Go.bits .or .i64 a0 (X))) = some r:=by first | (rw [y] at H;exact H) | (simp only [y] at H ⊢;exact H)
   (try rw [y] at A3)
   (try rw [y] at A5)
   have Y:(IntKind.i64.wrap (1 * 2 ^ min (j).toNat 64)) = X:=y
   have a2:(j)≤64→(IntKind.i64.wrap (1 * 2 ^ (j).toNat)) = X:=fI y
   have a4:(IntKind.i64.wrap (2 ^ min (j).toNat 64)) = X:=by have h_:=Y;rw [Int.one_mul] at h_;exact h_
   have a5:(j)≤64→(IntKind.i64.wrap (2 ^ (j).toNat)) = X:=fun a3=>by have h_:=a2 a3;rw [Int.one_mul] at h_;exact h_
   have a6:(wrap64 (1 * 2 ^ min (j).toNat 64)) = X:=(aM _).symm.trans Y
   have a7:(j)≤64→(wrap64 (1 * 2 ^ (j).toNat)) = X:=fun h_=>(aM _).symm.trans (a2 h_)
   obtain rfl:=Option.some.inj H
   go_enter Tryz.func66,Tryz.ntmps66
   go_wp2_with (first | ((with_reducible refine aA (f:=87) rfl ?_);refine af.gl (some 6) Tryz.func87 #[.int .i64 8,.int .i64 a0] ?_;(with_reducible refine (bN.calls 8 a0 true _ A3.out).mono ?_);rintro e w' ⟨rfl,⟨nd,rfl⟩⟩;refine ⟨_,rfl,?_⟩) | (go_at_call 94;(with_reducible refine (cC.calls a1 0 7 true _ A5.out).mono ?_);rintro e w' ⟨rfl,⟨nd,rfl⟩⟩))
   go_ret
   exact ⟨by first | rfl | (simp;done) | (simp only [← z,← y] <;> (first | rfl | simp)) | (simp [*];done),af.G⟩
  ·replace c6:=Bool.eq_false_iff.mpr c6
   subst c6
   replace H:(some a0) = some r:=by rw [if_neg (show ¬ (false = true) by decide)] at H;exact H
   obtain rfl:=Option.some.inj H
   go_enter Tryz.func66,Tryz.ntmps66
   go_wp2_with (first | ((with_reducible refine aA (f:=87) rfl ?_);refine af.gl (some 6) Tryz.func87 #[.int .i64 8,.int .i64 a0] ?_;(with_reducible refine (bN.calls 8 a0 true _ A3.out).mono ?_);rintro e w' ⟨rfl,⟨nd,rfl⟩⟩;refine ⟨_,rfl,?_⟩) | (go_at_call 94;(with_reducible refine (cC.calls a1 0 7 false _ A5.out).mono ?_);rintro e w' ⟨rfl,⟨nd,rfl⟩⟩))
   go_ret
   exact ⟨af.F,af.G⟩
 ·replace c4:=Bool.eq_false_iff.mpr c4
  subst c4
  replace H:(some a0) = some r:=by rw [if_neg (show ¬ (false = true) by decide)] at H;exact H
  obtain rfl:=Option.some.inj H
  go_enter Tryz.func66,Tryz.ntmps66
  go_wp2_with (first | ((with_reducible refine aA (f:=87) rfl ?_);refine af.gl (some 6) Tryz.func87 #[.int .i64 8,.int .i64 a0] ?_;(with_reducible refine (bN.calls 8 a0 false _ A3.out).mono ?_);rintro e w' ⟨rfl,⟨nd,rfl⟩⟩;refine ⟨_,rfl,?_⟩))
  go_ret
  exact ⟨af.F,af.G⟩
def fJ.f (a0:Int) (j:Int):Option (Bool):=(bN.f 8 a0).bind fun t227=>(if t227 = true then ((cC.f j 0 7).bind fun t228=>(if t228 = true then ((cz.f a0 j).bind fun t229=>(some t229)) else (some false))) else (some false))
set_option maxHeartbeats 8000000 in
set_option maxRecDepth 100000 in
theorem fJ.calls (a0:Int) (j:Int) (r:Bool) (w:World) (h:fJ.f a0 j = some r) :
  Calls Tryz.prog 92 #[.int .i64 a0,.int .i64 j] w fun e w'=>e = .returned (.bool r)∧cS w w':=by
 unfold fJ.f at h
 have H:=h
 clear h
 obtain ⟨t227,y,H⟩:=af.be H
 (try dsimp only at H)
 by_cases c4:t227 = true
 ·subst c4
  replace H:((cC.f j 0 7).bind fun t228=>(if t228 = true then ((cz.f a0 j).bind fun t229=>(some t229)) else (some false))) = some r:=by rw [if_pos rfl] at H;exact H
  obtain ⟨t228,z,H⟩:=af.be H
  (try dsimp only at H)
  by_cases c6:t228 = true
  ·subst c6
   replace H:((cz.f a0 j).bind fun t229=>(some t229)) = some r:=by rw [if_pos rfl] at H;exact H
   obtain ⟨t229,X,H⟩:=af.be H
   (try dsimp only at H)
   obtain rfl:=Option.some.inj H
   go_enter Tryz.func92,Tryz.ntmps92
   go_wp2_with (first | ((with_reducible refine aA (f:=87) rfl ?_);refine af.gl (some 6) Tryz.func87 #[.int .i64 8,.int .i64 a0] ?_;(with_reducible refine (bN.calls 8 a0 true _ y.out).mono ?_);rintro e w' ⟨rfl,⟨nd,rfl⟩⟩;refine ⟨_,rfl,?_⟩) | (go_at_call 94;(with_reducible refine (cC.calls j 0 7 true _ z.out).mono ?_);rintro e w' ⟨rfl,⟨nd,rfl⟩⟩) | (go_at_call 89;(with_reducible refine (cz.calls a0 j t229 _ X.out).mono ?_);rintro e w' ⟨rfl,⟨nd,rfl⟩⟩))
   go_ret
   exact ⟨af.F,af.G⟩
  ·replace c6:=Bool.eq_false_iff.mpr c6
   subst c6
   replace H:(some false) = some r:=by rw [if_neg (show ¬ (false = true) by decide)] at H;exact H
   obtain rfl:=Option.some.inj H
   go_enter Tryz.func92,Tryz.ntmps92
   go_wp2_with (first | ((with_reducible refine aA (f:=87) rfl ?_);refine af.gl (some 6) Tryz.func87 #[.int .i64 8,.int .i64 a0] ?_;(with_reducible refine (bN.calls 8 a0 true _ y.out).mono ?_);rintro e w' ⟨rfl,⟨nd,rfl⟩⟩;refine ⟨_,rfl,?_⟩) | (go_at_call 94;(with_reducible refine (cC.calls j 0 7 false _ z.out).mono ?_);rintro e w' ⟨rfl,⟨nd,rfl⟩⟩))
   go_ret
   exact ⟨af.F,af.G⟩
 ·replace c4:=Bool.eq_false_iff.mpr c4
  subst c4
  replace H:(some false) = some r:=by rw [if_neg (show ¬ (false = true) by decide)] at H;exact H
  obtain rfl:=Option.some.inj H
  go_enter Tryz.func92,Tryz.ntmps92
  go_wp2_with (first | ((with_reducible refine aA (f:=87) rfl ?_);refine af.gl (some 6) Tryz.func87 #[.int .i64 8,.int .i64 a0] ?_;(with_reducible refine (bN.calls 8 a0 false _ y.out).mono ?_);rintro e w' ⟨rfl,⟨nd,rfl⟩⟩;refine ⟨_,rfl,?_⟩))
  go_ret
  exact ⟨af.F,af.G⟩
def bH.l0:Nat→Int→List Int→Int→Option (List Int)
 | 0,_,_,_=>none
 | k+1,z,y,j=>if j < 8 then ((fJ.f z j).bind fun t233=>(if t233 = true then (if y.length < 17592186044416 then (bH.l0 k z (y ++ [j]) (wrap64 (j+1))) else (none)) else (bH.l0 k z y (wrap64 (j+1))))) else (some y)
def bH.f (k:Nat) (a0:Int):Option (List Int):=bH.l0 k a0 (([]:List Int)) 0
theorem bH.cX:∀ k,af.S3 bH.l0 k
 | 0=>by and_intros <;> (repeat intro _) <;> exact af.mz rfl
 | k+1=>by
  have j:=bH.cX k
  and_intros <;> (repeat intro _) <;> unfold bH.l0 <;> exact ⟨af.mt⟩
theorem bH.mono:∀ a0 k,ic (bH.f k a0) (bH.f (k+1) a0):=by
 intro a0 k
 have j:=bH.cX k
 unfold bH.f
 exact af.mt
instance bH.m:af.V1 bH.f:=fun _ _=>⟨bH.mono _ _⟩
set_option maxHeartbeats 8000000 in
set_option maxRecDepth 100000 in
theorem bH.calls (k:Nat) (a0:Int) (r:List Int) (w:World) (h:bH.f k a0 = some r) :
  Calls Tryz.prog 170 #[.int .i64 a0] w fun e w'=>∃ aa:Value,e = .returned (aa)∧Kd.R (Kd.int .i64) 3 w' w.heap.size (fun _=>True) aa r∧Below w.heap.size w w':=by
 have HB:=ae.mk (Below.refl w.heap.size w)
 unfold bH.f at h
 have H:=h
 clear h
 obtain ⟨a4,z⟩:∃ y_:List Int,y_ = (([]:List Int)):=⟨_,rfl⟩
 replace H:(bH.l0 k a0 a4 0) = some r:=by (try rw [z]);exact af.Z
 have a1:=ae.mk z
 clear z
 have H':=ae.mk H
 clear H
 go_enter Tryz.func170,Tryz.ntmps170
 go_wp2_with (first | (refine af.lt (Kd.int .i64) 3 5 ?_;intro aw w2 a2 hb ar a6;clear ar a6;(first | rw [← a1.out] at a2 | (simp only [Int.reduceToNat] at a2;rw [← a1.out] at a2));have a7:=ae.mk (Kd.aV a2 (av (af.Lw HB.out)));replace HB:=af.lb HB hb;clear hb a2))
 go_loopg [3,4] k (fun kq v3 v4 w'=>∃ (y:List Int) (j:Int),v4 = .int .i64 j∧ae (bH.l0 kq a0 y j = some r)∧ae (kq≤k)∧ae (Kd.R (Kd.int .i64) 3 w' w.heap.size (fun _=>True) v3 y)∧ae (Below w.heap.size w w'))
 case atStart=>exact ⟨(a4),(0),af.F,H',⟨Nat.le_refl _⟩,⟨af.Rw a7.out⟩,⟨af.Lw HB.out⟩⟩
 case round =>
  clear H'
  obtain ⟨y,j,rfl,HA,a3,Y,HB⟩:=hrel
  cases gk with
  | zero=>exact absurd HA.out (by simp [bH.l0])
  | succ k1 =>
   have H:=HA.out
   clear HA
   simp only [bH.l0] at H
   by_cases c4:j < 8
   ·rw [if_pos c4] at H
    have ab:=decide_eq_true c4
    clear c4
    obtain ⟨t233,A5,H⟩:=af.be H
    (try dsimp only at H)
    by_cases c6:t233 = true
    ·subst c6
     replace H:(if y.length < 17592186044416 then (bH.l0 k1 a0 (y ++ [j]) (wrap64 (j+1))) else (none)) = some r:=by rw [if_pos rfl] at H;exact H
     obtain ⟨c7,H⟩:=af.ip H
     have am:=ae.mk c7
     clear c7
     obtain ⟨a5,X⟩:∃ y_:List Int,y_ = (y ++ [j]):=⟨_,rfl⟩
     replace H:(bH.l0 k1 a0 a5 (wrap64 (j+1))) = some r:=by (try rw [X]);exact af.Z
     have a8:=ae.mk X
     clear X
     have H':=ae.mk H
     clear H
     go_wp2_with (first | (refine af.gl (some 12) Tryz.func92 #[.int .i64 a0,.int .i64 j] ?_;(with_reducible refine (fJ.calls a0 j true _ A5.out).mono ?_);rintro e w' ⟨rfl,⟨nd,rfl⟩⟩;refine ⟨_,rfl,?_⟩) | ((with_reducible refine cP (b:=.append) (xs:=#[.tmp 13,.tmp 15]) rfl ?_);at_builtin;refine Kd.eE (Kd.int .i64) (w0:=w) w.heap.size rfl (.tmp 13) (.tmp 15) 28 3 (.int .i64 0) 8 rfl Tryz.underlying28 eI rfl (by decide) (by omega) u3 y j [.int .i64 j] (fun _=>True) (fun _=>False) rfl rfl (by exact rfl) (fun _ hk=>hk.elim) (by exact fun _ _=>trivial) (by exact af.Rw Y.out) (by exact af.Lw HB.out) (by exact av (af.Lw HB.out)) (by have:=am.out;omega) ?_;intro aB w8 ho hb hg hat;rw [← a8.out] at ho;have ao:=ae.mk hb;have ap:=ae.mk ho;clear HB;clear Y;have HB:=ao;have a9:=ap;clear ao ap;clear ho hb hg hat))
     go_roundg k1
     case measure=>have:=a3.out;omega
     case rel=>exact ⟨(a5),(wrap64 (j+1)),af.F,H',⟨by have:=a3.out;omega⟩,⟨af.Rw a9.out⟩,⟨af.Lw HB.out⟩⟩
    ·replace c6:=Bool.eq_false_iff.mpr c6
     subst c6
     replace H:(bH.l0 k1 a0 y (wrap64 (j+1))) = some r:=by rw [if_neg (show ¬ (false = true) by decide)] at H;exact H
     have H':=ae.mk H
     clear H
     go_wp2_with (first | (refine af.gl (some 12) Tryz.func92 #[.int .i64 a0,.int .i64 j] ?_;(with_reducible refine (fJ.calls a0 j false _ A5.out).mono ?_);rintro e w' ⟨rfl,⟨nd,rfl⟩⟩;refine ⟨_,rfl,?_⟩))
     go_roundg k1
     case measure=>have:=a3.out;omega
     case rel=>exact ⟨(y),(wrap64 (j+1)),af.F,H',⟨by have:=a3.out;omega⟩,⟨af.Rw Y.out⟩,⟨af.Lw HB.out⟩⟩
   ·rw [if_neg c4] at H
    have ab:decide (j < 8) = false:=decide_eq_false c4
    clear c4
    obtain rfl:=Option.some.inj H
    go_wp2
    go_ret
    exact ⟨_,af.E,by (with_reducible repeat (first | apply Kd.cH | apply Kd.cI | apply Kd.bl));exact Y.out,af.L⟩
def cw.l0:Nat→ByteArray→List Int→Int→Option (ByteArray)
 | 0,_,_,_=>none
 | k+1,z,y,j=>if j < (y.length:Int) then (if 0≤j then (if 0≤(rd y j) then (if (rd y j)≤(wrap64 ((rd y j)+1)) then (if (wrap64 ((rd y j)+1))≤8 then (if z.size+((⟨#[97,98,99,100,101,102,103,104]⟩:ByteArray).extract ((rd y j):Int).toNat ((wrap64 ((rd y j)+1)):Int).toNat).size≤9223372036854775807 then (cw.l0 k (z ++ ((⟨#[97,98,99,100,101,102,103,104]⟩:ByteArray).extract ((rd y j):Int).toNat ((wrap64 ((rd y j)+1)):Int).toNat)) y (wrap64 (j+1))) else (none)) else (none)) else (none)) else (none)) else (none)) else (some z)
def cw.f (k:Nat) (a0:Int):Option (ByteArray):=(bN.f 8 a0).bind fun t237=>(if t237 = true then (if a0 = 0 then (some (⟨#[45]⟩:ByteArray)) else ((bH.f k a0).bind fun t238=>(cw.l0 k (⟨#[]⟩:ByteArray) t238 0))) else (some (⟨#[]⟩:ByteArray)))
theorem cw.cX:∀ k,af.S3 cw.l0 k
 | 0=>by and_intros <;> (repeat intro _) <;> exact af.mz rfl
 | k+1=>by
  have j:=cw.cX k
  and_intros <;> (repeat intro _) <;> unfold cw.l0 <;> exact ⟨af.mt⟩
theorem cw.mono:∀ a0 k,ic (cw.f k a0) (cw.f (k+1) a0):=by
 intro a0 k
 have j:=cw.cX k
 unfold cw.f
 exact af.mt
instance cw.m:af.V1 cw.f:=fun _ _=>⟨cw.mono _ _⟩
set_option maxHeartbeats 8000000 in
set_option maxRecDepth 100000 in
theorem cw.calls (k:Nat) (a0:Int) (r:ByteArray) (w:World) (h:cw.f k a0 = some r) :
  Calls Tryz.prog 209 #[.int .i64 a0] w fun e w'=>e = .returned (.string r)∧Below w.heap.size w w':=by
 have HB:=ae.mk (Below.refl w.heap.size w)
 unfold cw.f at h
 have H:=h
 clear h
 obtain ⟨t237,A2,H⟩:=af.be H
 (try dsimp only at H)
 by_cases c3:t237 = true
 ·subst c3
  replace H:(if a0 = 0 then (some (⟨#[45]⟩:ByteArray)) else ((bH.f k a0).bind fun t238=>(cw.l0 k (⟨#[]⟩:ByteArray) t238 0))) = some r:=by rw [if_pos rfl] at H;exact H
  by_cases c4:a0 = 0
  ·rw [if_pos c4] at H
   have a5:(a0 == 0) = true:=beq_iff_eq.mpr c4
   have a6:(a0 != 0) = false:=bne_eq_false_iff_eq.mpr c4
   clear c4
   obtain rfl:=Option.some.inj H
   go_enter Tryz.func209,Tryz.ntmps209
   go_wp2_with (first | (go_at_call 87;(with_reducible refine (bN.calls 8 a0 true _ A2.out).mono ?_);rintro e w' ⟨rfl,⟨nd,rfl⟩⟩;(try exact af.W)))
   repeat (go_quiet (first | (go_at_call 87;(with_reducible refine (bN.calls 8 a0 true _ A2.out).mono ?_);rintro e w' ⟨rfl,⟨nd,rfl⟩⟩;(try exact af.W)));try go_wp2_with (first | (go_at_call 87;(with_reducible refine (bN.calls 8 a0 true _ A2.out).mono ?_);rintro e w' ⟨rfl,⟨nd,rfl⟩⟩;(try exact af.W))))
   go_ret
   exact ⟨af.E,af.L⟩
  ·rw [if_neg c4] at H
   have a5:(a0 == 0) = false:=beq_eq_false_iff_ne.mpr c4
   have a6:(a0 != 0) = true:=bne_iff_ne.mpr c4
   obtain ⟨t238,A5,H⟩:=af.be H
   (try dsimp only at H)
   have H':=ae.mk H
   clear H
   go_enter Tryz.func209,Tryz.ntmps209
   go_wp2_with (first | (go_at_call 87;(with_reducible refine (bN.calls 8 a0 true _ A2.out).mono ?_);rintro e w' ⟨rfl,⟨nd,rfl⟩⟩;(try exact af.W)) | (go_at_call 170;(with_reducible refine (bH.calls k a0 t238 _ A5.out).mono ?_);rintro e w6 ⟨a1,rfl,z,hb⟩;have Y:=ae.mk (Kd.aV z (av (af.Lw HB.out)));replace HB:=af.lb HB hb;(try clear hb);(try clear a7);(try clear hk);(try clear hi);(try clear z)))
   repeat (go_quiet (first | (go_at_call 87;(with_reducible refine (bN.calls 8 a0 true _ A2.out).mono ?_);rintro e w' ⟨rfl,⟨nd,rfl⟩⟩;(try exact af.W)) | (go_at_call 170;(with_reducible refine (bH.calls k a0 t238 _ A5.out).mono ?_);rintro e w6 ⟨a1,rfl,z,hb⟩;have Y:=ae.mk (Kd.aV z (av (af.Lw HB.out)));replace HB:=af.lb HB hb;(try clear hb);(try clear a7);(try clear hk);(try clear hi);(try clear z)));try go_wp2_with (first | (go_at_call 87;(with_reducible refine (bN.calls 8 a0 true _ A2.out).mono ?_);rintro e w' ⟨rfl,⟨nd,rfl⟩⟩;(try exact af.W)) | (go_at_call 170;(with_reducible refine (bH.calls k a0 t238 _ A5.out).mono ?_);rintro e w6 ⟨a1,rfl,z,hb⟩;have Y:=ae.mk (Kd.aV z (av (af.Lw HB.out)));replace HB:=af.lb HB hb;(try clear hb);(try clear a7);(try clear hk);(try clear hi);(try clear z))))
   go_loopg [3,5] k (fun kq v3 v5 w'=>∃ (y:ByteArray) (j:Int),v3 = .string y∧v5 = .int .i64 j∧ae (cw.l0 kq y t238 j = some r)∧ae (kq≤k)∧ae (Kd.R (Kd.int .i64) 3 w' w.heap.size (fun _=>True) a1 t238)∧ae (Below w.heap.size w w'))
   case atStart=>exact ⟨((⟨#[]⟩:ByteArray)),(0),af.F,af.F,H',⟨Nat.le_refl _⟩,⟨af.Rw Y.out⟩,⟨af.Lw HB.out⟩⟩
   case round =>
    clear H'
    obtain ⟨y,j,rfl,rfl,HA,a8,X,HB⟩:=hrel
    cases gk with
    | zero=>exact absurd HA.out (by simp [cw.l0])
    | succ k1 =>
     have H:=HA.out
     clear HA
     simp only [cw.l0] at H
     by_cases c7:j < (t238.length:Int)
     ·rw [if_pos c7] at H
      have a9:=decide_eq_true c7
      clear c7
      obtain ⟨c8,H⟩:=af.ip H
      have b0:=decide_eq_true c8
      clear c8
      obtain ⟨c9,H⟩:=af.ip H
      have b2:=eq_true c9
      have b3:decide (0≤(rd t238 j)) = true:=decide_eq_true c9
      clear c9
      obtain ⟨gX,H⟩:=af.ip H
      have aB:=eq_true gX
      have aF:decide ((rd t238 j)≤(wrap64 ((rd t238 j)+1))) = true:=decide_eq_true gX
      obtain ⟨aa,H⟩:=af.ip H
      have aL:=eq_true aa
      have aO:decide ((wrap64 ((rd t238 j)+1))≤8) = true:=decide_eq_true aa
      obtain ⟨a2,H⟩:=af.ip H
      have aP:=eq_true a2
      have aR:decide (y.size+((⟨#[97,98,99,100,101,102,103,104]⟩:ByteArray).extract ((rd t238 j):Int).toNat ((wrap64 ((rd t238 j)+1)):Int).toNat).size≤9223372036854775807) = true:=decide_eq_true a2
      try have aS:(9223372036854775807 < y.size+((⟨#[97,98,99,100,101,102,103,104]⟩:ByteArray).extract ((rd t238 j):Int).toNat ((wrap64 ((rd t238 j)+1)):Int).toNat).size) = False:=eq_false (Nat.not_lt.2 a2)
      have H':=ae.mk H
      clear H
      obtain ⟨b4,b5,ab⟩:=Kd.aK X.out
      subst ab
      obtain ⟨a3,am,ao,ba,bc⟩:=af.ai (Kd.ah X.out).2.2 j
      cases am
      obtain ⟨a4,ap,ar,bi,bm⟩:=af.ai (Kd.ah X.out).2.2 j
      obtain rfl:a3 = a4:=(by injection ap)
      go_wp2
      repeat (go_quiet (fail);try go_wp2)
      go_roundg k1
      case measure=>have:=a8.out;omega
      case rel=>exact ⟨(y ++ ((⟨#[97,98,99,100,101,102,103,104]⟩:ByteArray).extract ((rd t238 j):Int).toNat ((wrap64 ((rd t238 j)+1)):Int).toNat)),(wrap64 (j+1)),af.F,af.F,H',⟨by have:=a8.out;omega⟩,⟨af.Rw X.out⟩,⟨af.Lw HB.out⟩⟩
     ·rw [if_neg c7] at H
      have a9:decide (j < (t238.length:Int)) = false:=decide_eq_false c7
      clear c7
      obtain rfl:=Option.some.inj H
      obtain ⟨bo,bs,aw⟩:=Kd.aK X.out
      subst aw
      go_wp2
      repeat (go_quiet (fail);try go_wp2)
      go_ret
      exact ⟨af.E,af.L⟩
 ·replace c3:=Bool.eq_false_iff.mpr c3
  subst c3
  replace H:(some (⟨#[]⟩:ByteArray)) = some r:=by rw [if_neg (show ¬ (false = true) by decide)] at H;exact H
  obtain rfl:=Option.some.inj H
  go_enter Tryz.func209,Tryz.ntmps209
  go_wp2_with (first | (go_at_call 87;(with_reducible refine (bN.calls 8 a0 false _ A2.out).mono ?_);rintro e w' ⟨rfl,⟨nd,rfl⟩⟩;(try exact af.W)))
  repeat (go_quiet (first | (go_at_call 87;(with_reducible refine (bN.calls 8 a0 false _ A2.out).mono ?_);rintro e w' ⟨rfl,⟨nd,rfl⟩⟩;(try exact af.W)));try go_wp2_with (first | (go_at_call 87;(with_reducible refine (bN.calls 8 a0 false _ A2.out).mono ?_);rintro e w' ⟨rfl,⟨nd,rfl⟩⟩;(try exact af.W))))
  go_ret
  exact ⟨af.E,af.L⟩
mutual
def bL.l0:Nat→ByteArray→Int→Int→Option (Int×Bool)
 | 0,_,_,_=>none
 | k+1,j,z,y=>if y < (j.size:Int) then (bL.j1 k j z y (j.toList != ([45]:List UInt8))) else (bL.j1 k j z y false)
def bL.j1:Nat→ByteArray→Int→Int→Bool→Option (Int×Bool)
 | 0,_,_,_,_=>none
 | k+1,j,z,y,X=>if X = true then (if 0≤y then (if y < (j.size:Int) then (if (bt j y) < 97 then (some (0,false)) else (if (bt j y) > 104 then (some (0,false)) else ((fA.f z (((bt j y) - 97) % 256)).bind fun t243=>(bL.l0 k j t243 (wrap64 (y+1)))))) else (none)) else (none)) else ((cw.f k z).bind fun t244=>(if t244.toList = j.toList then (some (z,true)) else (some (0,false))))
end
def bL.f (k:Nat) (a0:ByteArray):Option (Int×Bool):=bL.l0 k a0 0 0
theorem bL.cX:∀ k,af.S3 bL.l0 k∧af.S4 bL.j1 k
 | 0=>by and_intros <;> (repeat intro _) <;> exact af.mz rfl
 | k+1=>by
  obtain ⟨j,y⟩:=bL.cX k
  and_intros <;> (repeat intro _) <;> (first | unfold bL.l0 | unfold bL.j1) <;> exact ⟨af.mt⟩
theorem bL.mono:∀ a0 k,ic (bL.f k a0) (bL.f (k+1) a0):=by
 intro a0 k
 obtain ⟨j,y⟩:=bL.cX k
 unfold bL.f
 exact af.mt
instance bL.m:af.V1 bL.f:=fun _ _=>⟨bL.mono _ _⟩
set_option maxHeartbeats 8000000 in
set_option maxRecDepth 100000 in
theorem bL.calls (k:Nat) (a0:ByteArray) (r1:Int) (r2:Bool) (w:World) (h:bL.f k a0 = some (r1,r2)) :
  Calls Tryz.prog 200 #[.string a0] w fun e w'=>e = .returned (.tuple #[.int .i64 r1,.bool r2])∧Below w.heap.size w w':=by
 have HB:=ae.mk (Below.refl w.heap.size w)
 unfold bL.f at h
 have H:=h
 clear h
 have H':=ae.mk H
 clear H
 go_enter Tryz.func200,Tryz.ntmps200
 go_wp2
 go_loopg [4,5] k (fun kq v4 v5 w'=>∃ (y:Int) (j:Int),v4 = .int .i64 y∧v5 = .int .i64 j∧ae (bL.l0 kq a0 y j = some (r1,r2))∧ae (kq≤k)∧ae (Below w.heap.size w w'))
 case atStart=>exact ⟨(0),(0),af.F,af.F,H',⟨Nat.le_refl _⟩,⟨af.Lw HB.out⟩⟩
 case round =>
  clear H'
  obtain ⟨y,j,rfl,rfl,HA,a2,HB⟩:=hrel
  cases gk with
  | zero=>exact absurd HA.out (by simp [bL.l0])
  | succ k1 =>
   have H:=HA.out
   clear HA
   simp only [bL.l0] at H
   have a3:=ae.mk H
   clear H
   go_upto_region 3 with (fail)
   go_cut [13] (fun ao wc=>∃ (kq:Nat) (z:Bool),ao = .bool z∧ae (bL.j1 kq a0 y j z = some (r1,r2))∧ae (kq≤k1)∧ae (Below w.heap.size w wc))
   case first =>
    have H:=a3.out
    clear a3
    by_cases c3:j < (a0.size:Int)
    ·rw [if_pos c3] at H
     have X:=decide_eq_true c3
     clear c3
     (first | rw [X] | (simp only [aM,b8];rw [X]) | skip)
     have H':=ae.mk H
     clear H
     go_wp2
     go_meet
     case rel=>exact ⟨_,((a0.toList != ([45]:List UInt8))),af.F,H',⟨by have:=a2.out;first | omega | exact Nat.le_refl _⟩,⟨af.Lw HB.out⟩⟩
    ·rw [if_neg c3] at H
     have X:decide (j < (a0.size:Int)) = false:=decide_eq_false c3
     clear c3
     (first | rw [X] | (simp only [aM,b8];rw [X]) | skip)
     have H':=ae.mk H
     clear H
     go_wp2
     go_meet
     case rel=>exact ⟨_,(false),af.F,H',⟨by have:=a2.out;first | omega | exact Nat.le_refl _⟩,⟨af.Lw HB.out⟩⟩
   case rest =>
    clear a3
    obtain ⟨kq,z,rfl,HA,a7,HB⟩:=hcut
    cases kq with
    | zero=>exact absurd HA.out (by simp [bL.j1])
    | succ a1 =>
     have H:=HA.out
     clear HA
     simp only [bL.j1] at H
     by_cases c4:z = true
     ·subst c4
      replace H:(if 0≤j then (if j < (a0.size:Int) then (if (bt a0 j) < 97 then (some (0,false)) else (if (bt a0 j) > 104 then (some (0,false)) else ((fA.f y (((bt a0 j) - 97) % 256)).bind fun t243=>(bL.l0 a1 a0 t243 (wrap64 (j+1)))))) else (none)) else (none)) = some (r1,r2):=by rw [if_pos rfl] at H;exact H
      obtain ⟨c5,H⟩:=af.ip H
      have aB:=decide_eq_true c5
      clear c5
      obtain ⟨c6,H⟩:=af.ip H
      have aF:=decide_eq_true c6
      clear c6
      by_cases c8:(bt a0 j) < 97
      ·rw [if_pos c8] at H
       have a8:=decide_eq_true c8
       clear c8
       simp only [Option.some.injEq,Prod.mk.injEq] at H
       obtain ⟨rfl,rfl⟩:=H
       have p7:0≤(j:Int):=af.D
       have q7:j < (a0.size:Int):=af.D
       have a9:=iL a0 j
       replace p7:=eq_true p7
       replace q7:=eq_true q7
       go_wp2
       go_ret2
       exact ⟨af.E,af.L⟩
      ·rw [if_neg c8] at H
       have a8:decide ((bt a0 j) < 97) = false:=decide_eq_false c8
       clear c8
       by_cases gX:(bt a0 j) > 104
       ·rw [if_pos gX] at H
        have a4:=decide_eq_true gX
        clear gX
        simp only [Option.some.injEq,Prod.mk.injEq] at H
        obtain ⟨rfl,rfl⟩:=H
        have p7:0≤(j:Int):=af.D
        have q7:j < (a0.size:Int):=af.D
        have a9:=iL a0 j
        replace p7:=eq_true p7
        replace q7:=eq_true q7
        have p9:0≤(j:Int):=af.D
        have q9:j < (a0.size:Int):=af.D
        have ap:=iL a0 j
        replace p9:=eq_true p9
        replace q9:=eq_true q9
        go_wp2
        go_ret2
        exact ⟨af.E,af.L⟩
       ·rw [if_neg gX] at H
        have a4:decide (104 < (bt a0 j)) = false:=decide_eq_false gX
        clear gX
        obtain ⟨t243,ar,H⟩:=af.be H
        (try dsimp only at H)
        have H':=ae.mk H
        clear H
        have p7:0≤(j:Int):=af.D
        have q7:j < (a0.size:Int):=af.D
        have a9:=iL a0 j
        replace p7:=eq_true p7
        replace q7:=eq_true q7
        have p9:0≤(j:Int):=af.D
        have q9:j < (a0.size:Int):=af.D
        have ap:=iL a0 j
        replace p9:=eq_true p9
        replace q9:=eq_true q9
        have aa:0≤(j:Int):=af.D
        have ab:j < (a0.size:Int):=af.D
        have aL:=iL a0 j
        replace aa:=eq_true aa
        replace ab:=eq_true ab
        go_wp2_with (first | (refine af.gl (some 32) Tryz.func66 #[.int .i64 y,.int .i64 (((bt a0 j) - 97) % 256)] ?_;(with_reducible refine (fA.calls y (((bt a0 j) - 97) % 256) t243 _ ar.out).mono ?_);rintro e w' ⟨rfl,⟨nd,rfl⟩⟩;refine ⟨_,rfl,?_⟩))
        go_roundg a1
        case measure=>have:=a2.out;have:=a7.out;omega
        case rel=>exact ⟨(t243),(wrap64 (j+1)),af.F,af.F,H',⟨by have:=a2.out;have:=a7.out;omega⟩,⟨af.Lw HB.out⟩⟩
     ·replace c4:=Bool.eq_false_iff.mpr c4
      subst c4
      replace H:((cw.f a1 y).bind fun t244=>(if t244.toList = a0.toList then (some (y,true)) else (some (0,false)))) = some (r1,r2):=by rw [if_neg (show ¬ (false = true) by decide)] at H;exact H
      obtain ⟨t244,am,H⟩:=af.be H
      (try dsimp only at H)
      by_cases Y:t244.toList = a0.toList
      ·rw [if_pos Y] at H
       have a5:(t244.toList == a0.toList) = true:=beq_iff_eq.mpr Y
       have a6:(t244.toList != a0.toList) = false:=bne_eq_false_iff_eq.mpr Y
       clear Y
       simp only [Option.some.injEq,Prod.mk.injEq] at H
       obtain ⟨rfl,rfl⟩:=H
       go_wp2_with (first | (refine af.gl (some 34) Tryz.func209 #[.int .i64 y] ?_;(with_reducible refine (cw.calls a1 y t244 _ am.out).mono ?_);rintro e aO ⟨rfl,hb⟩;refine ⟨_,rfl,?_⟩;replace HB:=af.lb HB hb;(try clear hb);(try clear aw);(try clear hk);(try clear hi)))
       go_ret2
       exact ⟨af.E,af.L⟩
      ·rw [if_neg Y] at H
       have a5:(t244.toList == a0.toList) = false:=beq_eq_false_iff_ne.mpr Y
       have a6:(t244.toList != a0.toList) = true:=bne_iff_ne.mpr Y
       simp only [Option.some.injEq,Prod.mk.injEq] at H
       obtain ⟨rfl,rfl⟩:=H
       go_wp2_with (first | (refine af.gl (some 34) Tryz.func209 #[.int .i64 y] ?_;(with_reducible refine (cw.calls a1 y t244 _ am.out).mono ?_);rintro e aP ⟨rfl,hb⟩;refine ⟨_,rfl,?_⟩;replace HB:=af.lb HB hb;(try clear hb);(try clear aw);(try clear hk);(try clear hi)))
       go_ret2
       exact ⟨af.E,af.L⟩
def cN.l0:Nat→Int→List Int→Int→Option (Bool)
 | 0,_,_,_=>none
 | k+1,z,y,j=>if j < (y.length:Int) then (if 0≤j then ((bN.f z (rd y j)).bind fun t246=>(if t246 = true then (cN.l0 k z y (wrap64 (j+1))) else (some false))) else (none)) else (some true)
def cN.f (k:Nat) (a0:Int) (l1:List Int):Option (Bool):=cN.l0 k a0 l1 0
theorem cN.cX:∀ k,af.S3 cN.l0 k
 | 0=>by and_intros <;> (repeat intro _) <;> exact af.mz rfl
 | k+1=>by
  have j:=cN.cX k
  and_intros <;> (repeat intro _) <;> unfold cN.l0 <;> exact ⟨af.mt⟩
theorem cN.mono:∀ a0 j k,ic (cN.f k a0 j) (cN.f (k+1) a0 j):=by
 intro a0 j k
 have y:=cN.cX k
 unfold cN.f
 exact af.mt
instance cN.m:af.V2 cN.f:=fun _ _ _=>⟨cN.mono _ _ _⟩
set_option maxHeartbeats 8000000 in
set_option maxRecDepth 100000 in
theorem cN.calls (k:Nat) (a0:Int) (A1:Option Addr) (c1:Nat) (l1:List Int) (r:Bool) (w:World) (Y:Kd.C (Kd.int .i64) w A1 l1.length l1) (a1:l1.length≤c1) (h:cN.f k a0 l1 = some r) :
  Calls Tryz.prog 136 #[.int .i64 a0,.slice A1 l1.length c1] w fun e w'=>e = .returned (.bool r)∧cS w w':=by
 have a2:=ae.mk Y
 have a8:=ae.mk a1
 clear Y a1
 unfold cN.f at h
 have H:=h
 clear h
 have H':=ae.mk H
 clear H
 go_enter Tryz.func136,Tryz.ntmps136
 go_wp2
 go_loopg [5] k (fun kq v5 w'=>∃ (j:Int),v5 = .int .i64 j∧ae (cN.l0 kq a0 l1 j = some r)∧ae (kq≤k)∧cS w w')
 case atStart=>exact ⟨(0),af.F,H',⟨Nat.le_refl _⟩,af.G⟩
 case round =>
  clear H'
  obtain ⟨j,rfl,HA,a3,⟨m1,rfl⟩⟩:=hrel
  cases gk with
  | zero=>exact absurd HA.out (by simp [cN.l0])
  | succ k1 =>
   have H:=HA.out
   clear HA
   simp only [cN.l0] at H
   by_cases c3:j < (l1.length:Int)
   ·rw [if_pos c3] at H
    have a4:=decide_eq_true c3
    clear c3
    obtain ⟨c4,H⟩:=af.ip H
    have a7:=decide_eq_true c4
    clear c4
    obtain ⟨t246,A5,H⟩:=af.be H
    (try dsimp only at H)
    by_cases c6:t246 = true
    ·subst c6
     replace H:(cN.l0 k1 a0 l1 (wrap64 (j+1))) = some r:=by rw [if_pos rfl] at H;exact H
     have H':=ae.mk H
     clear H
     obtain ⟨X,y,z,a5,a6⟩:=af.ai a2.out j
     cases y
     go_wp2_with (first | (refine af.gl (some 17) Tryz.func87 #[.int .i64 a0,.int .i64 (rd l1 j)] ?_;(with_reducible refine (bN.calls a0 (rd l1 j) true _ A5.out).mono ?_);rintro e w' ⟨rfl,⟨nd,rfl⟩⟩;refine ⟨_,rfl,?_⟩))
     go_roundg k1
     case measure=>have:=a3.out;omega
     case rel=>exact ⟨(wrap64 (j+1)),af.F,H',⟨by have:=a3.out;omega⟩,af.G⟩
    ·replace c6:=Bool.eq_false_iff.mpr c6
     subst c6
     replace H:(some false) = some r:=by rw [if_neg (show ¬ (false = true) by decide)] at H;exact H
     obtain rfl:=Option.some.inj H
     obtain ⟨X,y,z,a5,a6⟩:=af.ai a2.out j
     cases y
     go_wp2_with (first | (refine af.gl (some 17) Tryz.func87 #[.int .i64 a0,.int .i64 (rd l1 j)] ?_;(with_reducible refine (bN.calls a0 (rd l1 j) false _ A5.out).mono ?_);rintro e w' ⟨rfl,⟨nd,rfl⟩⟩;refine ⟨_,rfl,?_⟩))
     go_ret
     exact ⟨af.F,af.G⟩
   ·rw [if_neg c3] at H
    have a4:decide (j < (l1.length:Int)) = false:=decide_eq_false c3
    clear c3
    obtain rfl:=Option.some.inj H
    go_wp2
    go_ret
    exact ⟨af.F,af.G⟩
def dw.l0:Nat→List ByteArray→ByteArray→List Int→Int→Option (ByteArray)
 | 0,_,_,_,_=>none
 | k+1,z,Y,X,j=>if j < (z.length:Int) then (if j > 0 then (if X.length+Y.size < 140737488355328 then ((some (X ++ bytesOf Y:List Int)).bind fun y=>(if 0≤j then (if y.length+(fm ByteArray.empty z j).size < 140737488355328 then (dw.l0 k z Y (y ++ bytesOf (fm ByteArray.empty z j)) (wrap64 (j+1))) else (none)) else (none))) else (none)) else (if 0≤j then (if X.length+(fm ByteArray.empty z j).size < 140737488355328 then (dw.l0 k z Y (X ++ bytesOf (fm ByteArray.empty z j)) (wrap64 (j+1))) else (none)) else (none))) else (some (strOfNums X))
def dw.f (k:Nat) (l0:List ByteArray) (j:ByteArray):Option (ByteArray):=dw.l0 k l0 j (([]:List Int)) 0
theorem dw.cX:∀ k,af.S4 dw.l0 k
 | 0=>by and_intros <;> (repeat intro _) <;> exact af.mz rfl
 | k+1=>by
  have j:=dw.cX k
  and_intros <;> (repeat intro _) <;> unfold dw.l0 <;> exact ⟨af.mt⟩
theorem dw.mono:∀ a0 j k,ic (dw.f k a0 j) (dw.f (k+1) a0 j):=by
 intro a0 j k
 have y:=dw.cX k
 unfold dw.f
 exact af.mt
instance dw.m:af.V2 dw.f:=fun _ _ _=>⟨dw.mono _ _ _⟩
set_option maxHeartbeats 8000000 in
set_option maxRecDepth 100000 in
theorem dw.calls (k:Nat) (A0:Option Addr) (c0:Nat) (l0:List ByteArray) (a1:ByteArray) (r:ByteArray) (w:World) (bo:Kd.C Kd.string w A0 l0.length l0) (bs:l0.length≤c0) (h:dw.f k l0 a1 = some r) :
  Calls Tryz.prog 210 #[.slice A0 l0.length c0,.string a1] w fun e w'=>e = .returned (.string r)∧Below w.heap.size w w':=by
 have bv:=ae.mk bo
 have df:=ae.mk bs
 clear bo bs
 have HB:=ae.mk (Below.refl w.heap.size w)
 unfold dw.f at h
 have H:=h
 clear h
 obtain ⟨aR,a5⟩:∃ y_:List Int,y_ = (([]:List Int)):=⟨_,rfl⟩
 replace H:(dw.l0 k l0 a1 aR 0) = some r:=by (try rw [a5]);exact af.Z
 have a9:=ae.mk a5
 clear a5
 have H':=ae.mk H
 clear H
 go_enter Tryz.func210,Tryz.ntmps210
 go_wp2_with (first | (refine af.lt (Kd.int .u8) 5 7 ?_;intro db w3 aa hb d2 b2;clear d2 b2;(first | rw [← a9.out] at aa | (simp only [Int.reduceToNat] at aa;rw [← a9.out] at aa));have b3:=ae.mk (Kd.aV aa (av (af.Lw HB.out)));replace HB:=af.lb HB hb;clear hb aa))
 go_loopg [5,6] k (fun kq v5 v6 w'=>∃ (y:List Int) (j:Int),v6 = .int .i64 j∧ae (dw.l0 kq l0 a1 y j = some r)∧ae (kq≤k)∧ae (Kd.R (Kd.int .u8) 5 w' w.heap.size (fun _=>True) v5 y)∧ae (Below w.heap.size w w'))
 case atStart=>exact ⟨(aR),(0),af.F,H',⟨Nat.le_refl _⟩,⟨af.Rw b3.out⟩,⟨af.Lw HB.out⟩⟩
 case round =>
  clear H'
  obtain ⟨y,j,rfl,HA,aP,Y,HB⟩:=hrel
  cases gk with
  | zero=>exact absurd HA.out (by simp [dw.l0])
  | succ k1 =>
   have H:=HA.out
   clear HA
   simp only [dw.l0] at H
   by_cases c5:j < (l0.length:Int)
   ·rw [if_pos c5] at H
    have c1:=decide_eq_true c5
    clear c5
    by_cases c6:j > 0
    ·rw [if_pos c6] at H
     have ca:=decide_eq_true c6
     clear c6
     obtain ⟨c7,H⟩:=af.ip H
     have cb:=ae.mk c7
     clear c7
     obtain ⟨a0,a6⟩:∃ y_:List Int,y_ = (y ++ bytesOf a1):=⟨_,rfl⟩
     replace H:(if 0≤j then (if a0.length+(fm ByteArray.empty l0 j).size < 140737488355328 then (dw.l0 k1 l0 a1 (a0 ++ bytesOf (fm ByteArray.empty l0 j)) (wrap64 (j+1))) else (none)) else (none)) = some r:=by (try rw [a6]);exact af.Z
     have b4:=ae.mk a6
     clear a6
     obtain ⟨c8,H⟩:=af.ip H
     have dd:=decide_eq_true c8
     clear c8
     obtain ⟨c9,H⟩:=af.ip H
     have cc:=ae.mk c9
     clear c9
     obtain ⟨ab,a7⟩:∃ y_:List Int,y_ = (a0 ++ bytesOf (fm ByteArray.empty l0 j)):=⟨_,rfl⟩
     replace H:(dw.l0 k1 l0 a1 ab (wrap64 (j+1))) = some r:=by (try rw [a7]);exact af.Z
     have b5:=ae.mk a7
     clear a7
     have H':=ae.mk H
     clear H
     go_wp2_with (first | (at_builtin;refine hO (w0:=w) w.heap.size rfl (.tmp 16) _ 22 9 5 rfl Tryz.underlying22 Tryz.underlying9 rQ u5 y a1 rfl rfl ?aO ?aB ?aS ?aL ?_;(case aB=>exact (af.Lw HB.out));(case aO=>exact (Kd.iv (af.Rw Y.out)));(case aS=>exact (av (af.Lw HB.out)));(case aL=>have:=cb.out;omega);intro b0 d3 a2 hb hg;have ho:=Kd.kR (h1:=fun _=>rfl) (ok:=fun _=>True) a2 (fun _ _=>trivial);clear a2;have hat:=True.intro;rw [← b4.out] at ho;change Kd.R (Kd.int .u8) 5 d3 w.heap.size (fun _=>True) b0 a0 at ho;have a3:=ae.mk hb;have a4:=ae.mk ho;clear HB;clear Y;have HB:=a3;have am:=a4;clear a3 a4;clear ho hb hg hat;have ao:0≤(j:Int):=af.D;have ap:j < (l0.length:Int):=af.D;obtain ⟨d4,ce,z⟩:=Kd.fx bv.out j ao ap;cases ce;replace z:=(HB.out.cell (World.block_lt_of_cell? w _ z)).trans z;replace ao:=eq_true ao;replace ap:=eq_true ap) | (at_builtin;refine hO (w0:=w) w.heap.size rfl (.tmp 19) _ 22 9 5 rfl Tryz.underlying22 Tryz.underlying9 rQ b0 a0 (fm ByteArray.empty l0 j) rfl rfl ?aO ?aB ?aS ?aL ?_;(case aB=>exact (af.Lw HB.out));(case aO=>exact (Kd.iv (af.Rw am.out)));(case aS=>exact (av (af.Lw HB.out)));(case aL=>have:=cc.out;omega);intro cf d5 a2 hb hg;have ho:=Kd.kR (h1:=fun _=>rfl) (ok:=fun _=>True) a2 (fun _ _=>trivial);clear a2;have hat:=True.intro;rw [← b5.out] at ho;change Kd.R (Kd.int .u8) 5 d5 w.heap.size (fun _=>True) cf ab at ho;have a3:=ae.mk hb;have a4:=ae.mk ho;clear HB;clear am;have HB:=a3;have ba:=a4;clear a3 a4;clear ho hb hg hat))
     go_roundg k1
     case measure=>have:=aP.out;omega
     case rel=>exact ⟨(ab),(wrap64 (j+1)),af.F,H',⟨by have:=aP.out;omega⟩,⟨af.Rw ba.out⟩,⟨af.Lw HB.out⟩⟩
    ·rw [if_neg c6] at H
     have ca:decide (0 < j) = false:=decide_eq_false c6
     clear c6
     obtain ⟨ci,H⟩:=af.ip H
     have d6:=decide_eq_true ci
     clear ci
     obtain ⟨cp,H⟩:=af.ip H
     have bc:=ae.mk cp
     clear cp
     obtain ⟨ar,a8⟩:∃ y_:List Int,y_ = (y ++ bytesOf (fm ByteArray.empty l0 j)):=⟨_,rfl⟩
     replace H:(dw.l0 k1 l0 a1 ar (wrap64 (j+1))) = some r:=by (try rw [a8]);exact af.Z
     have bi:=ae.mk a8
     clear a8
     have H':=ae.mk H
     clear H
     have aw:0≤(j:Int):=af.D
     have aF:j < (l0.length:Int):=af.D
     obtain ⟨d7,d0,X⟩:=Kd.fx bv.out j aw aF
     cases d0
     try replace X:=(HB.out.cell (World.block_lt_of_cell? w _ X)).trans X
     replace aw:=eq_true aw
     replace aF:=eq_true aF
     go_wp2_with (first | (at_builtin;refine hO (w0:=w) w.heap.size rfl (.tmp 19) _ 22 9 5 rfl Tryz.underlying22 Tryz.underlying9 rQ u5 y (fm ByteArray.empty l0 j) rfl rfl ?aO ?aB ?aS ?aL ?_;(case aB=>exact (af.Lw HB.out));(case aO=>exact (Kd.iv (af.Rw Y.out)));(case aS=>exact (av (af.Lw HB.out)));(case aL=>have:=bc.out;omega);intro d1 d8 a2 hb hg;have ho:=Kd.kR (h1:=fun _=>rfl) (ok:=fun _=>True) a2 (fun _ _=>trivial);clear a2;have hat:=True.intro;rw [← bi.out] at ho;change Kd.R (Kd.int .u8) 5 d8 w.heap.size (fun _=>True) d1 ar at ho;have a3:=ae.mk hb;have a4:=ae.mk ho;clear HB;clear Y;have HB:=a3;have bm:=a4;clear a3 a4;clear ho hb hg hat))
     go_roundg k1
     case measure=>have:=aP.out;omega
     case rel=>exact ⟨(ar),(wrap64 (j+1)),af.F,H',⟨by have:=aP.out;omega⟩,⟨af.Rw bm.out⟩,⟨af.Lw HB.out⟩⟩
   ·rw [if_neg c5] at H
    have c1:decide (j < (l0.length:Int)) = false:=decide_eq_false c5
    clear c5
    obtain rfl:=Option.some.inj H
    have d9:=kC (P:=Tryz.prog) Tryz.underlying22 Tryz.underlying5 Tryz.underlying9 (Kd.iv Y.out)
    go_wp2
    go_ret
    exact ⟨af.E,af.L⟩
def bE.l0:Nat→List Int→List ByteArray→Int→Option (ByteArray)
 | 0,_,_,_=>none
 | k+1,X,Y,z=>if z < (X.length:Int) then (if 0≤z then ((cw.f k (rd X z)).bind fun j=>(if Y.length < 8796093022208 then (bE.l0 k X (Y ++ [j]) (wrap64 (z+1))) else (none))) else (none)) else ((dw.f k Y (⟨#[44]⟩:ByteArray)).bind fun y=>(some y))
def bE.f (k:Nat) (l0:List Int):Option (ByteArray):=(cN.f k 8 l0).bind fun j=>(if j = true then (if (l0.length:Int) = 0 then (some (⟨#[110,111,110,101]⟩:ByteArray)) else (bE.l0 k l0 (([]:List ByteArray)) 0)) else (some (⟨#[]⟩:ByteArray)))
theorem bE.cX:∀ k,af.S3 bE.l0 k
 | 0=>by and_intros <;> (repeat intro _) <;> exact af.mz rfl
 | k+1=>by
  have j:=bE.cX k
  and_intros <;> (repeat intro _) <;> unfold bE.l0 <;> exact ⟨af.mt⟩
theorem bE.mono:∀ a0 k,ic (bE.f k a0) (bE.f (k+1) a0):=by
 intro a0 k
 have j:=bE.cX k
 unfold bE.f
 exact af.mt
instance bE.m:af.V1 bE.f:=fun _ _=>⟨bE.mono _ _⟩
set_option maxHeartbeats 8000000 in
set_option maxRecDepth 100000 in
theorem bE.calls (k:Nat) (A0:Option Addr) (c0:Nat) (l0:List Int) (r:ByteArray) (w:World) (ao:Kd.C (Kd.int .i64) w A0 l0.length l0) (ap:l0.length≤c0) (h:bE.f k l0 = some r) :
  Calls Tryz.prog 201 #[.slice A0 l0.length c0] w fun e w'=>e = .returned (.string r)∧Below w.heap.size w w':=by
 have a4:=ae.mk ao
 have a7:=ae.mk ap
 clear ao ap
 have HB:=ae.mk (Below.refl w.heap.size w)
 unfold bE.f at h
 have H:=h
 clear h
 obtain ⟨ar,A2,H⟩:=af.be H
 (try dsimp only at H)
 by_cases c3:ar = true
 ·subst c3
  replace H:(if (l0.length:Int) = 0 then (some (⟨#[110,111,110,101]⟩:ByteArray)) else (bE.l0 k l0 (([]:List ByteArray)) 0)) = some r:=by rw [if_pos rfl] at H;exact H
  by_cases c4:(l0.length:Int) = 0
  ·rw [if_pos c4] at H
   have aw:((l0.length:Int) == 0) = true:=beq_iff_eq.mpr c4
   have aB:((l0.length:Int) != 0) = false:=bne_eq_false_iff_eq.mpr c4
   clear c4
   obtain rfl:=Option.some.inj H
   go_enter Tryz.func201,Tryz.ntmps201
   go_wp2_with (first | (refine af.gl (some 6) Tryz.func136 #[.int .i64 8,.slice A0 l0.length c0] ?_;(with_reducible refine (cN.calls k 8 _ _ l0 true _ ?side1 ?side2 A2.out).mono ?_);(case side1=>exact af.Cw a4.out);(case side2=>exact a7.out);rintro e w' ⟨rfl,⟨nd,rfl⟩⟩;refine ⟨_,rfl,?_⟩))
   go_ret
   exact ⟨af.E,af.L⟩
  ·rw [if_neg c4] at H
   have aw:((l0.length:Int) == 0) = false:=beq_eq_false_iff_ne.mpr c4
   have aB:((l0.length:Int) != 0) = true:=bne_iff_ne.mpr c4
   have bi:¬ (l0 = []):=fun h_=>c4 (by rw [h_];rfl)
   obtain ⟨a5,Y⟩:∃ y_:List ByteArray,y_ = (([]:List ByteArray)):=⟨_,rfl⟩
   replace H:(bE.l0 k l0 a5 0) = some r:=by (try rw [Y]);exact af.Z
   have a2:=ae.mk Y
   clear Y
   have H':=ae.mk H
   clear H
   go_enter Tryz.func201,Tryz.ntmps201
   go_wp2_with (first | (refine af.gl (some 6) Tryz.func136 #[.int .i64 8,.slice A0 l0.length c0] ?_;(with_reducible refine (cN.calls k 8 _ _ l0 true _ ?side1 ?side2 A2.out).mono ?_);(case side1=>exact af.Cw a4.out);(case side2=>exact a7.out);rintro e w' ⟨rfl,⟨nd,rfl⟩⟩;refine ⟨_,rfl,?_⟩) | (refine af.lt Kd.string 9 11 ?_;intro bm w5 a3 hb b4 a8;clear b4 a8;(first | rw [← a2.out] at a3 | (simp only [Int.reduceToNat] at a3;rw [← a2.out] at a3));have a9:=ae.mk (Kd.aV a3 (av (af.Lw HB.out)));replace HB:=af.lb HB hb;clear hb a3))
   go_loopg [3,4] k (fun kq v3 v4 w'=>∃ (z:List ByteArray) (j:Int),v4 = .int .i64 j∧ae (bE.l0 kq l0 z j = some r)∧ae (kq≤k)∧ae (Kd.R Kd.string 9 w' w.heap.size (fun _=>True) v3 z)∧ae (Below w.heap.size w w'))
   case atStart=>exact ⟨(a5),(0),af.F,H',⟨Nat.le_refl _⟩,⟨af.Rw a9.out⟩,⟨af.Lw HB.out⟩⟩
   case round =>
    clear H'
    obtain ⟨z,j,rfl,HA,aF,y,HB⟩:=hrel
    cases gk with
    | zero=>exact absurd HA.out (by simp [bE.l0])
    | succ k1 =>
     have H:=HA.out
     clear HA
     simp only [bE.l0] at H
     by_cases c7:j < (l0.length:Int)
     ·rw [if_pos c7] at H
      have aL:=decide_eq_true c7
      clear c7
      obtain ⟨c8,H⟩:=af.ip H
      have bo:=decide_eq_true c8
      clear c8
      obtain ⟨a1,A9,H⟩:=af.be H
      (try dsimp only at H)
      obtain ⟨gX,H⟩:=af.ip H
      have aa:=ae.mk gX
      clear gX
      obtain ⟨a6,a0⟩:∃ y_:List ByteArray,y_ = (z ++ [a1]):=⟨_,rfl⟩
      replace H:(bE.l0 k1 l0 a6 (wrap64 (j+1))) = some r:=by (try rw [a0]);exact af.Z
      have ab:=ae.mk a0
      clear a0
      have H':=ae.mk H
      clear H
      obtain ⟨b5,aO,X,bs,bv⟩:=af.ai a4.out j
      cases aO
      try replace X:=(HB.out.cell (World.block_lt_of_cell? w _ X)).trans X
      go_wp2_with (first | (refine af.gl (some 23) Tryz.func209 #[.int .i64 (rd l0 j)] ?_;(with_reducible refine (cw.calls k1 (rd l0 j) a1 _ A9.out).mono ?_);rintro e ca ⟨rfl,hb⟩;refine ⟨_,rfl,?_⟩;replace y:=af.rb y hb;replace HB:=af.lb HB hb;(try clear hb);(try clear ba);(try clear hk);(try clear hi)) | ((with_reducible refine cP (b:=.append) (xs:=#[.tmp 18,.tmp 24]) rfl ?_);at_builtin;refine Kd.eE Kd.string (w0:=w) w.heap.size rfl (.tmp 18) (.tmp 24) 132 9 (.string ⟨#[]⟩) 16 rfl Tryz.underlying132 rR rfl (by decide) (by omega) u3 z a1 [.string a1] (fun _=>True) (fun _=>False) rfl rfl (by exact rfl) (fun _ hk=>hk.elim) (by exact fun _ _=>trivial) (by exact af.Rw y.out) (by exact af.Lw HB.out) (by exact av (af.Lw HB.out)) (by have:=aa.out;omega) ?_;intro c1 cb ho hb hg hat;rw [← ab.out] at ho;have aP:=ae.mk hb;have aR:=ae.mk ho;clear HB;clear y;have HB:=aP;have am:=aR;clear aP aR;clear ho hb hg hat))
      go_roundg k1
      case measure=>have:=aF.out;omega
      case rel=>exact ⟨(a6),(wrap64 (j+1)),af.F,H',⟨by have:=aF.out;omega⟩,⟨af.Rw am.out⟩,⟨af.Lw HB.out⟩⟩
     ·rw [if_neg c7] at H
      have aL:decide (j < (l0.length:Int)) = false:=decide_eq_false c7
      clear c7
      obtain ⟨aS,bc,H⟩:=af.be H
      (try dsimp only at H)
      obtain rfl:=Option.some.inj H
      obtain ⟨b0,b2,b3⟩:=Kd.aK y.out
      subst b3
      go_wp2_with (first | (refine af.gl (some 27) Tryz.func210 #[.slice b0 z.length b2,.string (⟨#[44]⟩:ByteArray)] ?_;(with_reducible refine (dw.calls k1 _ _ z (⟨#[44]⟩:ByteArray) aS _ ?side1 ?side2 bc.out).mono ?_);(case side1=>exact af.Cw ((Kd.ah y.out).2.2));(case side2=>exact (Kd.ah y.out).2.1);rintro e cc ⟨rfl,hb⟩;refine ⟨_,rfl,?_⟩;replace y:=af.rb y hb;replace HB:=af.lb HB hb;(try clear hb);(try clear ba);(try clear hk);(try clear hi)))
      go_ret
      exact ⟨af.E,af.L⟩
 ·replace c3:=Bool.eq_false_iff.mpr c3
  subst c3
  replace H:(some (⟨#[]⟩:ByteArray)) = some r:=by rw [if_neg (show ¬ (false = true) by decide)] at H;exact H
  obtain rfl:=Option.some.inj H
  go_enter Tryz.func201,Tryz.ntmps201
  go_wp2_with (first | (refine af.gl (some 6) Tryz.func136 #[.int .i64 8,.slice A0 l0.length c0] ?_;(with_reducible refine (cN.calls k 8 _ _ l0 false _ ?side1 ?side2 A2.out).mono ?_);(case side1=>exact af.Cw a4.out);(case side2=>exact a7.out);rintro e w' ⟨rfl,⟨nd,rfl⟩⟩;refine ⟨_,rfl,?_⟩))
  go_ret
  exact ⟨af.E,af.L⟩
mutual
def aZ.l0:Nat→Int→ByteArray→List Int→List ByteArray→Int→Option (List Int×Bool)
 | 0,_,_,_,_,_=>none
 | k+1,x0,Y,y,X,z=>if z < (X.length:Int) then (aZ.j1 k x0 Y y X z (Y.toList != ([110,111,110,101]:List UInt8))) else (aZ.j1 k x0 Y y X z false)
def aZ.j1:Nat→Int→ByteArray→List Int→List ByteArray→Int→Bool→Option (List Int×Bool)
 | 0,_,_,_,_,_,_=>none
 | k+1,x0,Y,y,X,z,a2=>if a2 = true then (if 0≤z then (if z < (X.length:Int) then ((bL.f k (fm ByteArray.empty X z)).bind fun j=>(if j.2 = true then (if y.length < 17592186044416 then (aZ.l0 k x0 Y (y ++ [j.1]) X (wrap64 (z+1))) else (none)) else (some ((([]:List Int)),false)))) else (none)) else (none)) else ((bf.f k x0 y).bind fun a0=>(if a0 = true then ((bE.f k y).bind fun a1=>(if a1.toList = Y.toList then (some (y,true)) else (some ((([]:List Int)),false)))) else (some ((([]:List Int)),false))))
end
def aZ.f (k:Nat) (a0:Int) (y:ByteArray):Option (List Int×Bool):=(bz.f k y 44).bind fun j=>(aZ.l0 k a0 y (([]:List Int)) j 0)
theorem aZ.cX:∀ k,af.S5 aZ.l0 k∧af.S6 aZ.j1 k
 | 0=>by and_intros <;> (repeat intro _) <;> exact af.mz rfl
 | k+1=>by
  obtain ⟨j,y⟩:=aZ.cX k
  and_intros <;> (repeat intro _) <;> (first | unfold aZ.l0 | unfold aZ.j1) <;> exact ⟨af.mt⟩
theorem aZ.mono:∀ a0 j k,ic (aZ.f k a0 j) (aZ.f (k+1) a0 j):=by
 intro a0 j k
 obtain ⟨y,z⟩:=aZ.cX k
 unfold aZ.f
 exact af.mt
instance aZ.m:af.V2 aZ.f:=fun _ _ _=>⟨aZ.mono _ _ _⟩
set_option maxHeartbeats 8000000 in
set_option maxRecDepth 100000 in
theorem aZ.calls (k:Nat) (a0:Int) (a1:ByteArray) (r1:List Int) (r2:Bool) (w:World) (h:aZ.f k a0 a1 = some (r1,r2)) :
  Calls Tryz.prog 185 #[.int .i64 a0,.string a1] w fun e w'=>∃ d5:Value,e = .returned (.tuple #[d5,.bool r2])∧Kd.R (Kd.int .i64) 3 w' w.heap.size (fun _=>True) d5 r1∧Below w.heap.size w w':=by
 have HB:=ae.mk (Below.refl w.heap.size w)
 unfold aZ.f at h
 have H:=h
 clear h
 obtain ⟨bv,ao⟩:∃ y_:List Int,y_ = (([]:List Int)):=⟨_,rfl⟩
 replace H:((bz.f k a1 44).bind fun Y=>(aZ.l0 k a0 a1 bv Y 0)) = some (r1,r2):=by (try rw [ao]);exact af.Z
 have aP:=ae.mk ao
 clear ao
 obtain ⟨Y,A3,H⟩:=af.be H
 (try dsimp only at H)
 have H':=ae.mk H
 clear H
 go_enter Tryz.func185,Tryz.ntmps185
 go_wp2_with (first | (refine af.lt (Kd.int .i64) 3 11 ?_;intro ed w4 aR hb ap a3;clear ap a3;(first | rw [← aP.out] at aR | (simp only [Int.reduceToNat] at aR;rw [← aP.out] at aR));have ar:=ae.mk (Kd.aV aR (av (af.Lw HB.out)));replace HB:=af.lb HB hb;clear hb aR) | ((with_reducible refine aA (f:=183) rfl ?_);refine af.gl (some 13) Tryz.func183 #[.string a1,.int .u8 44] ?_;(with_reducible refine (bz.calls k a1 44 Y _ A3.out).mono ?_);rintro e w6 ⟨c0,rfl,d6,hb⟩;refine ⟨_,rfl,?_⟩;replace ar:=af.rb ar hb;have ca:=ae.mk (Kd.aV d6 (av (af.Lw HB.out)));replace HB:=af.lb HB hb;(try clear hb);(try clear bc);(try clear hk);(try clear hi);(try clear d6)))
 go_loopg [6,8] k (fun kq v6 v8 w'=>∃ (z:List Int) (X:Int),v8 = .int .i64 X∧ae (aZ.l0 kq a0 a1 z Y X = some (r1,r2))∧ae (kq≤k)∧ae (Kd.R (Kd.int .i64) 3 w' w.heap.size (fun _=>True) v6 z)∧ae (Kd.R Kd.string 9 w' w.heap.size (fun _=>True) c0 Y)∧ae (Below w.heap.size w w'))
 case atStart=>exact ⟨(bv),(0),af.F,H',⟨Nat.le_refl _⟩,⟨af.Rw ar.out⟩,⟨af.Rw ca.out⟩,⟨af.Lw HB.out⟩⟩
 case round =>
  clear H'
  obtain ⟨z,X,rfl,HA,bi,j,y,HB⟩:=hrel
  cases gk with
  | zero=>exact absurd HA.out (by simp [aZ.l0])
  | succ k1 =>
   have H:=HA.out
   clear HA
   simp only [aZ.l0] at H
   have cb:=ae.mk H
   clear H
   go_upto_region 4 with (fail)
   go_cut [21] (fun v21 wc=>∃ (kq:Nat) (ab:Bool),v21 = .bool ab∧ae (aZ.j1 kq a0 a1 z Y X ab = some (r1,r2))∧ae (kq≤k1)∧ae (Kd.R (Kd.int .i64) 3 wc w.heap.size (fun _=>True) u6 z)∧ae (Kd.R Kd.string 9 wc w.heap.size (fun _=>True) c0 Y)∧ae (Below w.heap.size w wc))
   case first =>
    have H:=cb.out
    clear cb
    by_cases c8:X < (Y.length:Int)
    ·rw [if_pos c8] at H
     have am:=decide_eq_true c8
     clear c8
     (first | rw [am] | (simp only [aM,b8];rw [am]) | skip)
     have H':=ae.mk H
     clear H
     obtain ⟨et,ev,ea⟩:=Kd.aK y.out
     subst ea
     go_wp2
     go_meet
     case rel=>exact ⟨_,((a1.toList != ([110,111,110,101]:List UInt8))),af.F,H',⟨by have:=bi.out;first | omega | exact Nat.le_refl _⟩,⟨af.Rw j.out⟩,⟨af.Rw y.out⟩,⟨af.Lw HB.out⟩⟩
    ·rw [if_neg c8] at H
     have am:decide (X < (Y.length:Int)) = false:=decide_eq_false c8
     clear c8
     (first | rw [am] | (simp only [aM,b8];rw [am]) | skip)
     have H':=ae.mk H
     clear H
     obtain ⟨ee,ef,d7⟩:=Kd.aK y.out
     subst d7
     go_wp2
     go_meet
     case rel=>exact ⟨_,(false),af.F,H',⟨by have:=bi.out;first | omega | exact Nat.le_refl _⟩,⟨af.Rw j.out⟩,⟨af.Rw y.out⟩,⟨af.Lw HB.out⟩⟩
   case rest =>
    clear cb
    obtain ⟨kq,ab,rfl,HA,d8,j,y,HB⟩:=hcut
    cases kq with
    | zero=>exact absurd HA.out (by simp [aZ.j1])
    | succ a4 =>
     have H:=HA.out
     clear HA
     simp only [aZ.j1] at H
     by_cases bm:ab = true
     ·subst bm
      replace H:(if 0≤X then (if X < (Y.length:Int) then ((bL.f a4 (fm ByteArray.empty Y X)).bind fun aS=>(if aS.2 = true then (if z.length < 17592186044416 then (aZ.l0 a4 a0 a1 (z ++ [aS.1]) Y (wrap64 (X+1))) else (none)) else (some ((([]:List Int)),false)))) else (none)) else (none)) = some (r1,r2):=by rw [if_pos rfl] at H;exact H
      obtain ⟨d9,H⟩:=af.ip H
      have eb:=decide_eq_true d9
      clear d9
      obtain ⟨db,H⟩:=af.ip H
      have ec:=decide_eq_true db
      clear db
      obtain ⟨⟨a7,dd⟩,df,H⟩:=af.be H
      (try dsimp only at H)
      by_cases bo:dd = true
      ·subst bo
       replace H:(if z.length < 17592186044416 then (aZ.l0 a4 a0 a1 (z ++ [a7]) Y (wrap64 (X+1))) else (none)) = some (r1,r2):=by rw [if_pos rfl] at H;exact H
       obtain ⟨dk,H⟩:=af.ip H
       have cc:=ae.mk dk
       clear dk
       obtain ⟨c1,aw⟩:∃ y_:List Int,y_ = (z ++ [a7]):=⟨_,rfl⟩
       replace H:(aZ.l0 a4 a0 a1 c1 Y (wrap64 (X+1))) = some (r1,r2):=by (try rw [aw]);exact af.Z
       have ce:=ae.mk aw
       clear aw
       have H':=ae.mk H
       clear H
       obtain ⟨eh,ei,dl⟩:=Kd.aK y.out
       subst dl
       have a5:0≤(X:Int):=af.D
       have a6:X < (Y.length:Int):=af.D
       obtain ⟨cf,b0,b2⟩:=Kd.fx (Kd.ah y.out).2.2 X a5 a6
       cases b0
       replace a5:=eq_true a5
       replace a6:=eq_true a6
       go_wp2_with (first | ((with_reducible refine aA (f:=200) rfl ?_);refine af.gl (some 29) Tryz.func200 #[.string (fm ByteArray.empty Y X)] ?_;(with_reducible refine (bL.calls a4 (fm ByteArray.empty Y X) a7 true _ df.out).mono ?_);rintro e ew ⟨rfl,hb⟩;refine ⟨_,rfl,?_⟩;replace j:=af.rb j hb;replace y:=af.rb y hb;replace HB:=af.lb HB hb;(try clear hb);(try clear bc);(try clear hk);(try clear hi)) | ((with_reducible refine cP (b:=.append) (xs:=#[.tmp 35,.tmp 37]) rfl ?_);at_builtin;refine Kd.eE (Kd.int .i64) (w0:=w) w.heap.size rfl (.tmp 35) (.tmp 37) 28 3 (.int .i64 0) 8 rfl Tryz.underlying28 eI rfl (by decide) (by omega) u6 z a7 [.int .i64 a7] (fun _=>True) (fun _=>False) rfl rfl (by exact rfl) (fun _ hk=>hk.elim) (by exact fun _ _=>trivial) (by exact af.Rw j.out) (by exact af.Lw HB.out) (by exact av (af.Lw HB.out)) (by have:=cc.out;omega) ?_;intro ej ex ho hb hg hat;rw [← ce.out] at ho;have dp:=ae.mk (Kd.tg (af.Rw y.out) (Kd.pW (af.Rw j.out)) (by decide) hg);have dq:=ae.mk hb;have dt:=ae.mk ho;clear y;clear HB;clear j;have y:=dp;have HB:=dq;have ci:=dt;clear dp dq dt;clear ho hb hg hat))
       go_roundg a4
       case measure=>have:=bi.out;have:=d8.out;omega
       case rel=>exact ⟨(c1),(wrap64 (X+1)),af.F,H',⟨by have:=bi.out;have:=d8.out;omega⟩,⟨af.Rw ci.out⟩,⟨af.Rw y.out⟩,⟨af.Lw HB.out⟩⟩
      ·replace bo:=Bool.eq_false_iff.mpr bo
       subst bo
       replace H:(some ((([]:List Int)),false)) = some (r1,r2):=by rw [if_neg (show ¬ (false = true) by decide)] at H;exact H
       obtain ⟨du,aB⟩:∃ y_:List Int,y_ = (([]:List Int)):=⟨_,rfl⟩
       replace H:(some (du,false)) = some (r1,r2):=by (try rw [aB]);exact af.Z
       have b3:=ae.mk aB
       clear aB
       simp only [Option.some.injEq,Prod.mk.injEq] at H
       obtain ⟨rfl,rfl⟩:=H
       obtain ⟨el,em,dv⟩:=Kd.aK y.out
       subst dv
       have a5:0≤(X:Int):=af.D
       have a6:X < (Y.length:Int):=af.D
       obtain ⟨cf,b0,b2⟩:=Kd.fx (Kd.ah y.out).2.2 X a5 a6
       cases b0
       replace a5:=eq_true a5
       replace a6:=eq_true a6
       go_wp2_with (first | ((with_reducible refine aA (f:=200) rfl ?_);refine af.gl (some 29) Tryz.func200 #[.string (fm ByteArray.empty Y X)] ?_;(with_reducible refine (bL.calls a4 (fm ByteArray.empty Y X) a7 false _ df.out).mono ?_);rintro e eQ ⟨rfl,hb⟩;refine ⟨_,rfl,?_⟩;replace j:=af.rb j hb;replace y:=af.rb y hb;replace HB:=af.lb HB hb;(try clear hb);(try clear bc);(try clear hk);(try clear hi)) | (refine af.lt (Kd.int .i64) 3 34 ?_;intro eo f0 a8 hb ap a3;clear ap a3;(first | rw [← b3.out] at a8 | (simp only [Int.reduceToNat] at a8;rw [← b3.out] at a8));replace y:=af.rb y hb;have cp:=ae.mk (Kd.aV (Kd.br a8 (Kd.cK (af.Rw j.out))) (av (af.Lw HB.out)));replace j:=ae.mk (Kd.aQ (af.Rw j.out) (Kd.bn a8) hb);replace HB:=af.lb HB hb;clear hb a8))
       go_ret2
       exact ⟨_,af.E,by (with_reducible repeat (first | apply Kd.cH | apply Kd.cI | apply Kd.bl));exact Kd.aC cp.out (fun _ hk=>trivial),af.L⟩
     ·replace bm:=Bool.eq_false_iff.mpr bm
      subst bm
      replace H:((bf.f a4 a0 z).bind fun b4=>(if b4 = true then ((bE.f a4 z).bind fun a2=>(if a2.toList = a1.toList then (some (z,true)) else (some ((([]:List Int)),false)))) else (some ((([]:List Int)),false)))) = some (r1,r2):=by rw [if_neg (show ¬ (false = true) by decide)] at H;exact H
      obtain ⟨b4,d0,H⟩:=af.be H
      (try dsimp only at H)
      by_cases bs:b4 = true
      ·subst bs
       replace H:((bE.f a4 z).bind fun a2=>(if a2.toList = a1.toList then (some (z,true)) else (some ((([]:List Int)),false)))) = some (r1,r2):=by rw [if_pos rfl] at H;exact H
       obtain ⟨a2,dC,H⟩:=af.be H
       (try dsimp only at H)
       by_cases aF:a2.toList = a1.toList
       ·rw [if_pos aF] at H
        have d1:(a2.toList == a1.toList) = true:=beq_iff_eq.mpr aF
        have d2:(a2.toList != a1.toList) = false:=bne_eq_false_iff_eq.mpr aF
        clear aF
        simp only [Option.some.injEq,Prod.mk.injEq] at H
        obtain ⟨rfl,rfl⟩:=H
        obtain ⟨dE,dT,e0⟩:=Kd.aK j.out
        subst e0
        go_wp2_with (first | ((with_reducible refine aA (f:=96) rfl ?_);refine af.gl (some 41) Tryz.func96 #[.int .i64 a0,.slice dE z.length dT] ?_;(with_reducible refine (bf.calls a4 a0 _ _ z true _ ?side1 ?side2 d0.out).mono ?_);(case side1=>exact af.Cw ((Kd.ah j.out).2.2));(case side2=>exact (Kd.ah j.out).2.1);rintro e w' ⟨rfl,⟨nd,rfl⟩⟩;refine ⟨_,rfl,?_⟩) | (go_at_call 201;(with_reducible refine (bE.calls a4 _ _ z a2 _ ?side1 ?side2 dC.out).mono ?_);(case side1=>exact af.Cw ((Kd.ah j.out).2.2));(case side2=>exact (Kd.ah j.out).2.1);rintro e f1 ⟨rfl,hb⟩;replace j:=af.rb j hb;replace y:=af.rb y hb;replace HB:=af.lb HB hb;(try clear hb);(try clear bc);(try clear hk);(try clear hi)))
        go_ret2
        exact ⟨_,af.E,by (with_reducible repeat (first | apply Kd.cH | apply Kd.cI | apply Kd.bl));exact j.out,af.L⟩
       ·rw [if_neg aF] at H
        have d1:(a2.toList == a1.toList) = false:=beq_eq_false_iff_ne.mpr aF
        have d2:(a2.toList != a1.toList) = true:=bne_iff_ne.mpr aF
        obtain ⟨e1,aL⟩:∃ y_:List Int,y_ = (([]:List Int)):=⟨_,rfl⟩
        replace H:(some (e1,false)) = some (r1,r2):=by (try rw [aL]);exact af.Z
        have b5:=ae.mk aL
        clear aL
        simp only [Option.some.injEq,Prod.mk.injEq] at H
        obtain ⟨rfl,rfl⟩:=H
        obtain ⟨e2,e3,e4⟩:=Kd.aK j.out
        subst e4
        go_wp2_with (first | ((with_reducible refine aA (f:=96) rfl ?_);refine af.gl (some 41) Tryz.func96 #[.int .i64 a0,.slice e2 z.length e3] ?_;(with_reducible refine (bf.calls a4 a0 _ _ z true _ ?side1 ?side2 d0.out).mono ?_);(case side1=>exact af.Cw ((Kd.ah j.out).2.2));(case side2=>exact (Kd.ah j.out).2.1);rintro e w' ⟨rfl,⟨nd,rfl⟩⟩;refine ⟨_,rfl,?_⟩) | (go_at_call 201;(with_reducible refine (bE.calls a4 _ _ z a2 _ ?side1 ?side2 dC.out).mono ?_);(case side1=>exact af.Cw ((Kd.ah j.out).2.2));(case side2=>exact (Kd.ah j.out).2.1);rintro e f2 ⟨rfl,hb⟩;replace j:=af.rb j hb;replace y:=af.rb y hb;replace HB:=af.lb HB hb;(try clear hb);(try clear bc);(try clear hk);(try clear hi)) | (refine af.lt (Kd.int .i64) 3 49 ?_;intro eq f3 a9 hb ap a3;clear ap a3;(first | rw [← b5.out] at a9 | (simp only [Int.reduceToNat] at a9;rw [← b5.out] at a9));replace y:=af.rb y hb;have d3:=ae.mk (Kd.aV (Kd.br a9 (Kd.cK (af.Rw j.out))) (av (af.Lw HB.out)));replace j:=ae.mk (Kd.aQ (af.Rw j.out) (Kd.bn a9) hb);replace HB:=af.lb HB hb;clear hb a9))
        go_ret2
        exact ⟨_,af.E,by (with_reducible repeat (first | apply Kd.cH | apply Kd.cI | apply Kd.bl));exact Kd.aC d3.out (fun _ hk=>trivial),af.L⟩
      ·replace bs:=Bool.eq_false_iff.mpr bs
       subst bs
       replace H:(some ((([]:List Int)),false)) = some (r1,r2):=by rw [if_neg (show ¬ (false = true) by decide)] at H;exact H
       obtain ⟨e5,aO⟩:∃ y_:List Int,y_ = (([]:List Int)):=⟨_,rfl⟩
       replace H:(some (e5,false)) = some (r1,r2):=by (try rw [aO]);exact af.Z
       have ba:=ae.mk aO
       clear aO
       simp only [Option.some.injEq,Prod.mk.injEq] at H
       obtain ⟨rfl,rfl⟩:=H
       obtain ⟨e6,e7,e8⟩:=Kd.aK j.out
       subst e8
       go_wp2_with (first | ((with_reducible refine aA (f:=96) rfl ?_);refine af.gl (some 41) Tryz.func96 #[.int .i64 a0,.slice e6 z.length e7] ?_;(with_reducible refine (bf.calls a4 a0 _ _ z false _ ?side1 ?side2 d0.out).mono ?_);(case side1=>exact af.Cw ((Kd.ah j.out).2.2));(case side2=>exact (Kd.ah j.out).2.1);rintro e w' ⟨rfl,⟨nd,rfl⟩⟩;refine ⟨_,rfl,?_⟩) | (refine af.lt (Kd.int .i64) 3 49 ?_;intro es f4 aa hb ap a3;clear ap a3;(first | rw [← ba.out] at aa | (simp only [Int.reduceToNat] at aa;rw [← ba.out] at aa));replace y:=af.rb y hb;have d4:=ae.mk (Kd.aV (Kd.br aa (Kd.cK (af.Rw j.out))) (av (af.Lw HB.out)));replace j:=ae.mk (Kd.aQ (af.Rw j.out) (Kd.bn aa) hb);replace HB:=af.lb HB hb;clear hb aa))
       go_ret2
       exact ⟨_,af.E,by (with_reducible repeat (first | apply Kd.cH | apply Kd.cI | apply Kd.bl));exact Kd.aC d4.out (fun _ hk=>trivial),af.L⟩
def bY.f (k:Nat) (y:Int) (z:List Int):Option (ByteArray):=(bI.f k y z).bind fun Y=>(if Y = true then ((bA.f k y).bind fun j=>(if j.size+1≤9223372036854775807 then ((bE.f k z).bind fun X=>(if (j ++ (⟨#[32]⟩:ByteArray)).size+X.size≤9223372036854775807 then (some ((j ++ (⟨#[32]⟩:ByteArray)) ++ X)) else (none))) else (none))) else (some (⟨#[]⟩:ByteArray)))
theorem bY.mono:∀ a0 j k,ic (bY.f k a0 j) (bY.f (k+1) a0 j):=by
 intro a0 j k
 unfold bY.f
 exact af.mt
instance bY.m:af.V2 bY.f:=fun _ _ _=>⟨bY.mono _ _ _⟩
def bY.T3:Bool×List (List Nat×List Nat):=(true,[([],[]),([0],[0]),([1],[1]),([2],[2]),([],[]),([4],[4]),([5,2],[5]),([3,6],[3,6]),([7,6,0,1,2,3,4,5,6,7],[7])])
def bY.B3:List Nat:=[0,1,3,7,0,16,55,127,255]
theorem bY.wz:gm .any (opsOf Tryz.f186 3) = bY.T3:=by kernel_rfl
theorem bY.vO:eT bY.T3.2 bY.B3 = true:=by kernel_rfl
set_option maxHeartbeats 8000000 in
set_option maxRecDepth 100000 in
theorem bY.calls (k:Nat) (z:Int) (Y:Option Addr) (a0:Nat) (y:List Int) (r:ByteArray) (w:World) (a6:Kd.C (Kd.int .i64) w Y y.length y) (a7:y.length≤a0) (h:bY.f k z y = some r) :
  Calls Tryz.prog 186 #[.agg #[.int .i64 z,.slice Y y.length a0]] w fun e w'=>e = .returned (.string r)∧Below w.heap.size w w':=by
 have aS:=Tryz.underlying30
 have a3:=ae.mk a6
 have a4:=ae.mk a7
 clear a6 a7
 have HB:=ae.mk (Below.refl w.heap.size w)
 unfold bY.f at h
 have H:=h
 clear h
 obtain ⟨ab,A2,H⟩:=af.be H
 (try dsimp only at H)
 by_cases c3:ab = true
 ·subst c3
  replace H:((bA.f k z).bind fun X=>(if X.size+1≤9223372036854775807 then ((bE.f k y).bind fun a1=>(if (X ++ (⟨#[32]⟩:ByteArray)).size+a1.size≤9223372036854775807 then (some ((X ++ (⟨#[32]⟩:ByteArray)) ++ a1)) else (none))) else (none))) = some r:=by rw [if_pos rfl] at H;exact H
  obtain ⟨X,A4,H⟩:=af.be H
  (try dsimp only at H)
  obtain ⟨c5,H⟩:=af.ip H
  have b0:=eq_true c5
  have b2:decide (X.size+1≤9223372036854775807) = true:=decide_eq_true c5
  try have b3:(9223372036854775807 < X.size+1) = False:=eq_false (Nat.not_lt.2 c5)
  obtain ⟨a1,A6,H⟩:=af.be H
  (try dsimp only at H)
  obtain ⟨c7,H⟩:=af.ip H
  have b4:=eq_true c7
  have b5:decide ((X ++ (⟨#[32]⟩:ByteArray)).size+a1.size≤9223372036854775807) = true:=decide_eq_true c7
  try have am:(9223372036854775807 < (X ++ (⟨#[32]⟩:ByteArray)).size+a1.size) = False:=eq_false (Nat.not_lt.2 c7)
  have ba:(9223372036854775807 < X.size+1+a1.size) = False:=by have h_:=am;rw [ByteArray.size_append] at h_;exact h_
  obtain rfl:=Option.some.inj H
  go_enter Tryz.func186,Tryz.ntmps186
  try go_wp2_with (first | (refine af.bx 1 #[.int .i64 z,.slice Y y.length a0] 30 ?_;intro a5 hg w8 hbox hb;have j:=ae.mk hbox;have a8:=af.gw hg HB;have a9:=af.gw hg HB;replace HB:=af.lb HB hb;clear hb hbox hg;obtain ⟨aF,aL,aO,aP⟩:=af.bw j.out) | (refine af.gl (some 4) Tryz.func26 #[.agg #[.int .i64 z,.slice Y y.length a0]] ?_;(with_reducible refine (bI.calls k z _ _ y true _ ?side1 ?side2 A2.out).mono ?_);(case side1=>exact af.Cw (Kd.aT a3.out HB.out));(case side2=>exact a4.out);rintro e aR ⟨rfl,hb⟩;refine ⟨_,rfl,?_⟩;replace j:=af.bb j hb;replace HB:=af.lb HB hb;(try clear hb);(try clear aa);(try clear hk);(try clear hi)))
  replace j:=ae.mk (cO j.out)
  replace HB:=ae.mk (cn HB.out)
  refine eM (n:=9) (S:=fun w'=>w'.cell? ⟨a5,0,none⟩ = some (.int .i64 z)∧w'.cell? ⟨a5,1,none⟩ = some (.slice Y y.length a0)) (ds:=[]) #[false,false,false,false,false,false,false,false,false] (by kernel_rfl) rfl rfl ⟨(ak j.out 0).trans rfl,(ak j.out 1).trans rfl⟩ (fun hHeld=>?_);refine dc bY.wz bY.vO (fun a2 ao=>?_)
  generalize aR.drew = bc at j HB hHeld ⊢
  refine af.pu 0 6 a2 ?_
  refine af.pu 4 10 a2 ?_
  refine af.tk 1 7 a2 ao hHeld ?_
  refine af.tk 5 11 a2 ao hHeld ?_
  refine fN (i:=2) (N:=some 8) #[true,true,true,false,true,true,false,false,false] rfl rfl (da a2.out (by kernel_rfl)) (by decide) (fun K hK=>?_)
  refine fC Tryz.func202 (by kernel_rfl) rfl #[.int .i64 z] (by rfl) rfl rfl (by (try simp only [List.map_toArray,List.map_cons,List.map_nil]);first | done | rfl) ?_
  with_reducible refine (bA.calls k z X _ A4.out).mono ?_
  rintro e bi ⟨rfl,hb⟩
  refine ⟨_,rfl,?_⟩
  replace j:=af.bb j hb
  replace HB:=af.lb HB hb
  (try clear hb)
  (try clear aa)
  (try clear hk)
  (try clear hi)
  refine hK.out _ _ ⟨(ak j.out 0).trans rfl,(ak j.out 1).trans rfl⟩ (fun hHeld=>?_)
  clear hK K
  refine er (a':=?_) ?_ ?_
  rotate_left
  ·show Act.put _ (some 8) _ = _
   simp only [Act.put,List.setIfInBounds_toArray,List.set_cons_zero,List.set_cons_succ,aM,b8]
   rfl
  refine af.pu 3 9 a2 ?_
  refine fN (i:=6) (N:=some 12) #[true,true,true,true,true,true,true,false,false] rfl rfl (da a2.out (by kernel_rfl)) (by decide) (fun K hK=>?_)
  refine fC Tryz.func201 (by kernel_rfl) rfl #[.slice Y y.length a0] (by rfl) rfl rfl (by (try simp only [List.map_toArray,List.map_cons,List.map_nil]);first | done | rfl) ?_
  with_reducible refine (bE.calls k _ _ y a1 _ ?side1 ?side2 A6.out).mono ?_
  (case side1=>exact af.Cw (Kd.aT a3.out HB.out))
  (case side2=>exact a4.out)
  rintro e bm ⟨rfl,hb⟩
  refine ⟨_,rfl,?_⟩
  replace j:=af.bb j hb
  replace HB:=af.lb HB hb
  (try clear hb)
  (try clear aa)
  (try clear hk)
  (try clear hi)
  refine hK.out _ _ ⟨(ak j.out 0).trans rfl,(ak j.out 1).trans rfl⟩ (fun hHeld=>?_)
  clear hK K
  refine er (a':=?_) ?_ ?_
  rotate_left
  ·show Act.put _ (some 12) _ = _
   simp only [Act.put,List.setIfInBounds_toArray,List.set_cons_zero,List.set_cons_succ,aM,b8]
   rfl
  refine af.pu 7 13 a2 ?_
  refine af.pu 8 2 a2 ?_
  refine fO (dU a2.out (by kernel_rfl)) ?_
  try go_wp2
  go_ret
  exact ⟨af.E,af.L⟩
 ·replace c3:=Bool.eq_false_iff.mpr c3
  subst c3
  replace H:(some (⟨#[]⟩:ByteArray)) = some r:=by rw [if_neg (show ¬ (false = true) by decide)] at H;exact H
  obtain rfl:=Option.some.inj H
  go_enter Tryz.func186,Tryz.ntmps186
  go_wp2_with (first | (refine af.bx 1 #[.int .i64 z,.slice Y y.length a0] 30 ?_;intro a5 hg bo hbox hb;have j:=ae.mk hbox;have a8:=af.gw hg HB;have a9:=af.gw hg HB;replace HB:=af.lb HB hb;clear hb hbox hg;obtain ⟨ap,ar,aw,aB⟩:=af.bw j.out) | (refine af.gl (some 4) Tryz.func26 #[.agg #[.int .i64 z,.slice Y y.length a0]] ?_;(with_reducible refine (bI.calls k z _ _ y false _ ?side1 ?side2 A2.out).mono ?_);(case side1=>exact af.Cw (Kd.aT a3.out HB.out));(case side2=>exact a4.out);rintro e bs ⟨rfl,hb⟩;refine ⟨_,rfl,?_⟩;replace j:=af.bb j hb;replace HB:=af.lb HB hb;(try clear hb);(try clear aa);(try clear hk);(try clear hi)))
  go_ret
  exact ⟨af.E,af.L⟩
def ck.f (k:Nat) (a0:ByteArray):Option (Int×List Int×Bool):=(bz.f k a0 32).bind fun y=>(if (y.length:Int) = 2 then (if 0 < (y.length:Int) then ((dG.f k (fm ByteArray.empty y 0)).bind fun j=>(if 1 < (y.length:Int) then ((aZ.f k j.1 (fm ByteArray.empty y 1)).bind fun z=>(if j.2 = true then (if z.2 = true then ((bY.f k j.1 z.1).bind fun X=>(if X.toList = a0.toList then (some (j.1,z.1,true)) else (some (0,([]:List Int),false)))) else (some (0,([]:List Int),false))) else (some (0,([]:List Int),false)))) else (none))) else (none)) else (some (0,([]:List Int),false)))
theorem ck.mono:∀ a0 k,ic (ck.f k a0) (ck.f (k+1) a0):=by
 intro a0 k
 unfold ck.f
 exact af.mt
set_option maxHeartbeats 8000000 in
set_option maxRecDepth 100000 in
theorem ck.calls (k:Nat) (a0:ByteArray) (r1:Int) (r2:List Int) (r3:Bool) (w:World) (h:ck.f k a0 = some (r1,r2,r3)) :
  Calls Tryz.prog 176 #[.string a0] w fun e w'=>∃ c0:Value,e = .returned (.tuple #[.agg #[.int .i64 r1,c0],.bool r3])∧Kd.R (Kd.int .i64) 3 w' w.heap.size (fun _=>True) c0 r2∧Below w.heap.size w w':=by
 have f2:=Tryz.underlying30
 have HB:=ae.mk (Below.refl w.heap.size w)
 unfold ck.f at h
 have H:=h
 clear h
 obtain ⟨z,A2,H⟩:=af.be H
 (try dsimp only at H)
 by_cases c3:(z.length:Int) = 2
 ·rw [if_pos c3] at H
  have c1:((z.length:Int) == 2) = true:=beq_iff_eq.mpr c3
  have ca:((z.length:Int) != 2) = false:=bne_eq_false_iff_eq.mpr c3
  clear c3
  obtain ⟨c4,H⟩:=af.ip H
  have f3:=decide_eq_true c4
  have f4:decide (0 < z.length) = true:=decide_eq_true (by omega)
  clear c4
  obtain ⟨⟨Y,cb⟩,A5,H⟩:=af.be H
  (try dsimp only at H)
  obtain ⟨c6,H⟩:=af.ip H
  have f5:=decide_eq_true c6
  have f6:decide (1 < z.length) = true:=decide_eq_true (by omega)
  clear c6
  obtain ⟨⟨a4,bm⟩,A7,H⟩:=af.be H
  (try dsimp only at H)
  by_cases c8:cb = true
  ·subst c8
   replace H:(if bm = true then ((bY.f k Y a4).bind fun ap=>(if ap.toList = a0.toList then (some (Y,a4,true)) else (some (0,([]:List Int),false)))) else (some (0,([]:List Int),false))) = some (r1,r2,r3):=by rw [if_pos rfl] at H;exact H
   by_cases c9:bm = true
   ·subst c9
    replace H:((bY.f k Y a4).bind fun ap=>(if ap.toList = a0.toList then (some (Y,a4,true)) else (some (0,([]:List Int),false)))) = some (r1,r2,r3):=by rw [if_pos rfl] at H;exact H
    obtain ⟨ap,cc,H⟩:=af.be H
    (try dsimp only at H)
    by_cases b2:ap.toList = a0.toList
    ·rw [if_pos b2] at H
     have bs:(ap.toList == a0.toList) = true:=beq_iff_eq.mpr b2
     have bv:(ap.toList != a0.toList) = false:=bne_eq_false_iff_eq.mpr b2
     clear b2
     simp only [Option.some.injEq,Prod.mk.injEq] at H
     obtain ⟨rfl,rfl,rfl⟩:=H
     go_enter Tryz.func176,Tryz.ntmps176
     go_wp2_with (first | ((with_reducible refine bh (N:=2) rfl ?_);refine af.bx 2 #[.int .i64 0,.slice none 0 0] 30 ?_;intro a8 hg g4 hbox hb;have j:=ae.mk hbox;have aR:=af.gw hg HB;have aS:=af.gw hg HB;replace HB:=af.lb HB hb;clear hb hbox hg) | ((with_reducible refine aA (f:=183) rfl ?_);refine af.gl (some 11) Tryz.func183 #[.string a0,.int .u8 32] ?_;(with_reducible refine (bz.calls k a0 32 z _ A2.out).mono ?_);rintro e g5 ⟨bc,rfl,a9,hb⟩;refine ⟨_,rfl,?_⟩;have y:=ae.mk (Kd.aV a9 (av af.L));replace j:=af.bb j hb;replace HB:=ae.mk (ax af.L hb);(try clear hb);(try clear aB);(try clear hk);(try clear hi);(try clear a9);obtain ⟨f7,f8,ce⟩:=Kd.aK y.out;subst ce;have aa:0≤(0:Int):=(by omega);have ab:0 < (z.length:Int):=af.D;obtain ⟨ar,aF,a1⟩:=Kd.fx (Kd.ah y.out).2.2 0 aa ab;cases aF;have b3:(0 < z.length) = True:=eq_true (by omega);(try rw [show ((0:Int)).toNat = 0 from rfl] at a1);(try rw [Addr.add_zero'] at a1);replace aa:=eq_true aa;replace ab:=eq_true ab) | ((with_reducible refine aA (f:=184) rfl ?_);refine af.gl (some 20) Tryz.func184 #[.string (fm ByteArray.empty z 0)] ?_;(with_reducible refine (dG.calls k (fm ByteArray.empty z 0) Y true _ A5.out).mono ?_);rintro e g6 ⟨rfl,hb⟩;refine ⟨_,rfl,?_⟩;replace y:=af.rb y hb;replace j:=af.bb j hb;replace HB:=ae.mk (ax af.L hb);(try clear hb);(try clear aB);(try clear hk);(try clear hi);have am:0≤(1:Int):=(by omega);have ao:1 < (z.length:Int):=af.D;obtain ⟨aw,aL,a2⟩:=Kd.fx (Kd.ah y.out).2.2 1 am ao;obtain rfl:ar = aw:=(by injection aL);(try simp only [show (1:Int).toNat = 1 from rfl,Nat.reduceMul,Nat.reduceEqDiff,Go.Addr.add,↓reduceIte] at a2);have b4:(1 < z.length) = True:=eq_true (by omega);(try rw [show ((1:Int)).toNat = 1 from rfl] at a2);replace am:=eq_true am;replace ao:=eq_true ao) | ((with_reducible refine aA (f:=185) rfl ?_);refine af.gl (some 28) Tryz.func185 #[.int .i64 Y,.string (fm ByteArray.empty z 1)] ?_;(with_reducible refine (aZ.calls k Y (fm ByteArray.empty z 1) a4 true _ A7.out).mono ?_);rintro e g7 ⟨bo,rfl,a9,hb⟩;refine ⟨_,rfl,?_⟩;replace y:=af.rb y hb;have X:=ae.mk (Kd.aV a9 (av af.L));replace j:=af.bb j hb;replace HB:=ae.mk (ax af.L hb);(try clear hb);(try clear aB);(try clear hk);(try clear hi);(try clear a9);obtain ⟨aP,aO,cf⟩:=Kd.aK X.out;subst cf) | ((with_reducible refine bh (N:=9) rfl ?_);refine af.bx 9 #[.int .i64 0,.slice none 0 0] 30 ?_;intro a3 hg g8 hbox hb;replace y:=af.rb y hb;replace X:=af.rb X hb;have a5:=ae.mk hbox;have b5:=af.gL (w:=w) hg af.L;have ba:=af.gL (w:=w) hg af.L;replace HB:=ae.mk (ax af.L hb);have a6:=af.nl hg j;have a7:=af.ng hg j;replace j:=af.bb j hb;clear hb hbox hg;have es:=a7.out;have et:=a6.out;obtain ⟨ci,cp,d0,d1⟩:=af.bw a5.out) | (go_at_call 186;(with_reducible refine (bY.calls k Y _ _ a4 ap _ ?side1 ?side2 cc.out).mono ?_);(case side1=>refine (Kd.ah (e:=3) (base:=w.heap.size) (ok:=fun k_=>True) (n:=a4.length) (c:=aO) ?_).2.2;exact (af.Rw ((Kd.aC (Kd.bD (p:=⟨a3,1,none⟩) (Kd.bD (p:=⟨a3,0,none⟩) (Kd.bS X.out a5.out (by decide)) (fun _ hk=>hk.2) (.int .i64 Y)) (fun _ hk=>hk.2) (.slice aP a4.length aO)) (fun _ h_=>h_.1)))));(case side2=>exact (Kd.ah X.out).2.1);rintro e g9 ⟨rfl,hb⟩;replace y:=ae.mk (Kd.dW (af.Rw ((Kd.aC (Kd.bD (p:=⟨a3,1,none⟩) (Kd.bD (p:=⟨a3,0,none⟩) (Kd.bS y.out a5.out (by decide)) (fun _ hk=>hk.2) (.int .i64 Y)) (fun _ hk=>hk.2) (.slice aP a4.length aO)) (fun _ h_=>h_.1)))) hb);replace X:=ae.mk (Kd.dW (af.Rw ((Kd.aC (Kd.bD (p:=⟨a3,1,none⟩) (Kd.bD (p:=⟨a3,0,none⟩) (Kd.bS X.out a5.out (by decide)) (fun _ hk=>hk.2) (.int .i64 Y)) (fun _ hk=>hk.2) (.slice aP a4.length aO)) (fun _ h_=>h_.1)))) hb);replace j:=ae.mk (b7 (g:=a8) (o:=.cells #[.int .i64 0,.slice none 0 0] 30 (0,0)) af.B hb);replace a5:=ae.mk (b7 (g:=a3) (o:=.cells #[.int .i64 Y,.slice aP a4.length aO] 30 (0,0)) af.B hb);replace HB:=ae.mk (ax af.L hb);(try clear hb);(try clear aB);(try clear hk);(try clear hi);obtain ⟨d2,d3,d4,d5⟩:=af.bw a5.out;obtain ⟨d6,d7,d8,d9⟩:=af.bw j.out))
     refine bodyPost_ret (eJ rfl _ _ a8 30 #[.int .i64 Y,.slice aP a4.length aO] (0,0) _ rfl af.B Tryz.underlying30 rfl (by kernel_rfl)) rfl ?_
     exact ⟨_,af.E,by (with_reducible repeat (first | apply Kd.cH | apply Kd.cI | apply Kd.bl));exact Kd.aC (Kd.bD (p:=⟨a8,1,none⟩) (Kd.bD (p:=⟨a8,0,none⟩) (Kd.bS X.out j.out (by decide)) (fun _ hk=>hk.2) (.int .i64 Y)) (fun _ hk=>hk.2) (.slice aP a4.length aO)) (fun _ hk=>trivial),af.L⟩
    ·rw [if_neg b2] at H
     have bs:(ap.toList == a0.toList) = false:=beq_eq_false_iff_ne.mpr b2
     have bv:(ap.toList != a0.toList) = true:=bne_iff_ne.mpr b2
     simp only [Option.some.injEq,Prod.mk.injEq] at H
     obtain ⟨rfl,rfl,rfl⟩:=H
     go_enter Tryz.func176,Tryz.ntmps176
     go_wp2_with (first | ((with_reducible refine bh (N:=2) rfl ?_);refine af.bx 2 #[.int .i64 0,.slice none 0 0] 30 ?_;intro a8 hg gb hbox hb;have j:=ae.mk hbox;have aR:=af.gw hg HB;have aS:=af.gw hg HB;replace HB:=af.lb HB hb;clear hb hbox hg) | ((with_reducible refine aA (f:=183) rfl ?_);refine af.gl (some 11) Tryz.func183 #[.string a0,.int .u8 32] ?_;(with_reducible refine (bz.calls k a0 32 z _ A2.out).mono ?_);rintro e gc ⟨bc,rfl,a9,hb⟩;refine ⟨_,rfl,?_⟩;have y:=ae.mk (Kd.aV a9 (av af.L));replace j:=af.bb j hb;replace HB:=ae.mk (ax af.L hb);(try clear hb);(try clear aB);(try clear hk);(try clear hi);(try clear a9);obtain ⟨f9,fd,db⟩:=Kd.aK y.out;subst db;have aa:0≤(0:Int):=(by omega);have ab:0 < (z.length:Int):=af.D;obtain ⟨ar,aF,a1⟩:=Kd.fx (Kd.ah y.out).2.2 0 aa ab;cases aF;have b3:(0 < z.length) = True:=eq_true (by omega);(try rw [show ((0:Int)).toNat = 0 from rfl] at a1);(try rw [Addr.add_zero'] at a1);replace aa:=eq_true aa;replace ab:=eq_true ab) | ((with_reducible refine aA (f:=184) rfl ?_);refine af.gl (some 20) Tryz.func184 #[.string (fm ByteArray.empty z 0)] ?_;(with_reducible refine (dG.calls k (fm ByteArray.empty z 0) Y true _ A5.out).mono ?_);rintro e gk ⟨rfl,hb⟩;refine ⟨_,rfl,?_⟩;replace y:=af.rb y hb;replace j:=af.bb j hb;replace HB:=ae.mk (ax af.L hb);(try clear hb);(try clear aB);(try clear hk);(try clear hi);have am:0≤(1:Int):=(by omega);have ao:1 < (z.length:Int):=af.D;obtain ⟨aw,aL,a2⟩:=Kd.fx (Kd.ah y.out).2.2 1 am ao;obtain rfl:ar = aw:=(by injection aL);(try simp only [show (1:Int).toNat = 1 from rfl,Nat.reduceMul,Nat.reduceEqDiff,Go.Addr.add,↓reduceIte] at a2);have b4:(1 < z.length) = True:=eq_true (by omega);(try rw [show ((1:Int)).toNat = 1 from rfl] at a2);replace am:=eq_true am;replace ao:=eq_true ao) | ((with_reducible refine aA (f:=185) rfl ?_);refine af.gl (some 28) Tryz.func185 #[.int .i64 Y,.string (fm ByteArray.empty z 1)] ?_;(with_reducible refine (aZ.calls k Y (fm ByteArray.empty z 1) a4 true _ A7.out).mono ?_);rintro e go ⟨bo,rfl,a9,hb⟩;refine ⟨_,rfl,?_⟩;replace y:=af.rb y hb;have X:=ae.mk (Kd.aV a9 (av af.L));replace j:=af.bb j hb;replace HB:=ae.mk (ax af.L hb);(try clear hb);(try clear aB);(try clear hk);(try clear hi);(try clear a9);obtain ⟨bi,b0,dd⟩:=Kd.aK X.out;subst dd) | ((with_reducible refine bh (N:=9) rfl ?_);refine af.bx 9 #[.int .i64 0,.slice none 0 0] 30 ?_;intro a3 hg gs hbox hb;replace y:=af.rb y hb;replace X:=af.rb X hb;have a5:=ae.mk hbox;have b5:=af.gL (w:=w) hg af.L;have ba:=af.gL (w:=w) hg af.L;replace HB:=ae.mk (ax af.L hb);have a6:=af.nl hg j;have a7:=af.ng hg j;replace j:=af.bb j hb;clear hb hbox hg;have ev:=a7.out;have ew:=a6.out;obtain ⟨df,dk,dl,dp⟩:=af.bw a5.out) | (go_at_call 186;(with_reducible refine (bY.calls k Y _ _ a4 ap _ ?side1 ?side2 cc.out).mono ?_);(case side1=>refine (Kd.ah (e:=3) (base:=w.heap.size) (ok:=fun k_=>True) (n:=a4.length) (c:=b0) ?_).2.2;exact (af.Rw ((Kd.aC (Kd.bD (p:=⟨a3,1,none⟩) (Kd.bD (p:=⟨a3,0,none⟩) (Kd.bS X.out a5.out (by decide)) (fun _ hk=>hk.2) (.int .i64 Y)) (fun _ hk=>hk.2) (.slice bi a4.length b0)) (fun _ h_=>h_.1)))));(case side2=>exact (Kd.ah X.out).2.1);rintro e gt ⟨rfl,hb⟩;replace y:=ae.mk (Kd.dW (af.Rw ((Kd.aC (Kd.bD (p:=⟨a3,1,none⟩) (Kd.bD (p:=⟨a3,0,none⟩) (Kd.bS y.out a5.out (by decide)) (fun _ hk=>hk.2) (.int .i64 Y)) (fun _ hk=>hk.2) (.slice bi a4.length b0)) (fun _ h_=>h_.1)))) hb);replace X:=ae.mk (Kd.dW (af.Rw ((Kd.aC (Kd.bD (p:=⟨a3,1,none⟩) (Kd.bD (p:=⟨a3,0,none⟩) (Kd.bS X.out a5.out (by decide)) (fun _ hk=>hk.2) (.int .i64 Y)) (fun _ hk=>hk.2) (.slice bi a4.length b0)) (fun _ h_=>h_.1)))) hb);replace j:=ae.mk (b7 (g:=a8) (o:=.cells #[.int .i64 0,.slice none 0 0] 30 (0,0)) af.B hb);replace a5:=ae.mk (b7 (g:=a3) (o:=.cells #[.int .i64 Y,.slice bi a4.length b0] 30 (0,0)) af.B hb);replace HB:=ae.mk (ax af.L hb);(try clear hb);(try clear aB);(try clear hk);(try clear hi);obtain ⟨dq,dt,du,dv⟩:=af.bw j.out))
     refine bodyPost_ret (eJ rfl _ _ a8 30 #[.int .i64 0,.slice none 0 0] (0,0) _ rfl af.B Tryz.underlying30 rfl (by kernel_rfl)) rfl ?_
     exact ⟨_,af.E,af.N,af.L⟩
   ·replace c9:=Bool.eq_false_iff.mpr c9
    subst c9
    replace H:(some (0,([]:List Int),false)) = some (r1,r2,r3):=by rw [if_neg (show ¬ (false = true) by decide)] at H;exact H
    simp only [Option.some.injEq,Prod.mk.injEq] at H
    obtain ⟨rfl,rfl,rfl⟩:=H
    go_enter Tryz.func176,Tryz.ntmps176
    go_wp2_with (first | ((with_reducible refine bh (N:=2) rfl ?_);refine af.bx 2 #[.int .i64 0,.slice none 0 0] 30 ?_;intro a8 hg h0 hbox hb;have j:=ae.mk hbox;have aR:=af.gw hg HB;have aS:=af.gw hg HB;replace HB:=af.lb HB hb;clear hb hbox hg) | ((with_reducible refine aA (f:=183) rfl ?_);refine af.gl (some 11) Tryz.func183 #[.string a0,.int .u8 32] ?_;(with_reducible refine (bz.calls k a0 32 z _ A2.out).mono ?_);rintro e h6 ⟨bc,rfl,a9,hb⟩;refine ⟨_,rfl,?_⟩;have y:=ae.mk (Kd.aV a9 (av af.L));replace j:=af.bb j hb;replace HB:=ae.mk (ax af.L hb);(try clear hb);(try clear aB);(try clear hk);(try clear hi);(try clear a9);obtain ⟨fi,fj,dC⟩:=Kd.aK y.out;subst dC;have aa:0≤(0:Int):=(by omega);have ab:0 < (z.length:Int):=af.D;obtain ⟨ar,aF,a1⟩:=Kd.fx (Kd.ah y.out).2.2 0 aa ab;cases aF;have b3:(0 < z.length) = True:=eq_true (by omega);(try rw [show ((0:Int)).toNat = 0 from rfl] at a1);(try rw [Addr.add_zero'] at a1);replace aa:=eq_true aa;replace ab:=eq_true ab) | ((with_reducible refine aA (f:=184) rfl ?_);refine af.gl (some 20) Tryz.func184 #[.string (fm ByteArray.empty z 0)] ?_;(with_reducible refine (dG.calls k (fm ByteArray.empty z 0) Y true _ A5.out).mono ?_);rintro e h7 ⟨rfl,hb⟩;refine ⟨_,rfl,?_⟩;replace y:=af.rb y hb;replace j:=af.bb j hb;replace HB:=ae.mk (ax af.L hb);(try clear hb);(try clear aB);(try clear hk);(try clear hi);have am:0≤(1:Int):=(by omega);have ao:1 < (z.length:Int):=af.D;obtain ⟨aw,aL,a2⟩:=Kd.fx (Kd.ah y.out).2.2 1 am ao;obtain rfl:ar = aw:=(by injection aL);(try simp only [show (1:Int).toNat = 1 from rfl,Nat.reduceMul,Nat.reduceEqDiff,Go.Addr.add,↓reduceIte] at a2);have b4:(1 < z.length) = True:=eq_true (by omega);(try rw [show ((1:Int)).toNat = 1 from rfl] at a2);replace am:=eq_true am;replace ao:=eq_true ao) | ((with_reducible refine aA (f:=185) rfl ?_);refine af.gl (some 28) Tryz.func185 #[.int .i64 Y,.string (fm ByteArray.empty z 1)] ?_;(with_reducible refine (aZ.calls k Y (fm ByteArray.empty z 1) a4 false _ A7.out).mono ?_);rintro e h8 ⟨bo,rfl,a9,hb⟩;refine ⟨_,rfl,?_⟩;replace y:=af.rb y hb;have X:=ae.mk (Kd.aV a9 (av af.L));replace j:=af.bb j hb;replace HB:=ae.mk (ax af.L hb);(try clear hb);(try clear aB);(try clear hk);(try clear hi);(try clear a9);obtain ⟨fp,fs,dE⟩:=Kd.aK X.out;subst dE) | ((with_reducible refine bh (N:=9) rfl ?_);refine af.bx 9 #[.int .i64 0,.slice none 0 0] 30 ?_;intro a3 hg h9 hbox hb;replace y:=af.rb y hb;replace X:=af.rb X hb;have a5:=ae.mk hbox;have b5:=af.gL (w:=w) hg af.L;have ba:=af.gL (w:=w) hg af.L;replace HB:=ae.mk (ax af.L hb);have a6:=af.nl hg j;have a7:=af.ng hg j;replace j:=af.bb j hb;clear hb hbox hg;have ex:=a7.out;have eQ:=a6.out;obtain ⟨dT,e0,e1,e2⟩:=af.bw a5.out;obtain ⟨e3,e4,e5,e6⟩:=af.bw j.out))
    refine bodyPost_ret (eJ rfl _ _ a8 30 #[.int .i64 0,.slice none 0 0] (0,0) _ rfl af.B Tryz.underlying30 rfl (by kernel_rfl)) rfl ?_
    exact ⟨_,af.E,af.N,af.L⟩
  ·replace c8:=Bool.eq_false_iff.mpr c8
   subst c8
   replace H:(some (0,([]:List Int),false)) = some (r1,r2,r3):=by rw [if_neg (show ¬ (false = true) by decide)] at H;exact H
   simp only [Option.some.injEq,Prod.mk.injEq] at H
   obtain ⟨rfl,rfl,rfl⟩:=H
   go_enter Tryz.func176,Tryz.ntmps176
   go_wp2_with (first | ((with_reducible refine bh (N:=2) rfl ?_);refine af.bx 2 #[.int .i64 0,.slice none 0 0] 30 ?_;intro a8 hg hj hbox hb;have j:=ae.mk hbox;have aR:=af.gw hg HB;have aS:=af.gw hg HB;replace HB:=af.lb HB hb;clear hb hbox hg) | ((with_reducible refine aA (f:=183) rfl ?_);refine af.gl (some 11) Tryz.func183 #[.string a0,.int .u8 32] ?_;(with_reducible refine (bz.calls k a0 32 z _ A2.out).mono ?_);rintro e hl ⟨bc,rfl,a9,hb⟩;refine ⟨_,rfl,?_⟩;have y:=ae.mk (Kd.aV a9 (av af.L));replace j:=af.bb j hb;replace HB:=ae.mk (ax af.L hb);(try clear hb);(try clear aB);(try clear hk);(try clear hi);(try clear a9);obtain ⟨ft,fw,e7⟩:=Kd.aK y.out;subst e7;have aa:0≤(0:Int):=(by omega);have ab:0 < (z.length:Int):=af.D;obtain ⟨ar,aF,a1⟩:=Kd.fx (Kd.ah y.out).2.2 0 aa ab;cases aF;have b3:(0 < z.length) = True:=eq_true (by omega);(try rw [show ((0:Int)).toNat = 0 from rfl] at a1);(try rw [Addr.add_zero'] at a1);replace aa:=eq_true aa;replace ab:=eq_true ab) | ((with_reducible refine aA (f:=184) rfl ?_);refine af.gl (some 20) Tryz.func184 #[.string (fm ByteArray.empty z 0)] ?_;(with_reducible refine (dG.calls k (fm ByteArray.empty z 0) Y false _ A5.out).mono ?_);rintro e hm ⟨rfl,hb⟩;refine ⟨_,rfl,?_⟩;replace y:=af.rb y hb;replace j:=af.bb j hb;replace HB:=ae.mk (ax af.L hb);(try clear hb);(try clear aB);(try clear hk);(try clear hi);have am:0≤(1:Int):=(by omega);have ao:1 < (z.length:Int):=af.D;obtain ⟨aw,aL,a2⟩:=Kd.fx (Kd.ah y.out).2.2 1 am ao;obtain rfl:ar = aw:=(by injection aL);(try simp only [show (1:Int).toNat = 1 from rfl,Nat.reduceMul,Nat.reduceEqDiff,Go.Addr.add,↓reduceIte] at a2);have b4:(1 < z.length) = True:=eq_true (by omega);(try rw [show ((1:Int)).toNat = 1 from rfl] at a2);replace am:=eq_true am;replace ao:=eq_true ao) | ((with_reducible refine aA (f:=185) rfl ?_);refine af.gl (some 28) Tryz.func185 #[.int .i64 Y,.string (fm ByteArray.empty z 1)] ?_;(with_reducible refine (aZ.calls k Y (fm ByteArray.empty z 1) a4 bm _ A7.out).mono ?_);rintro e hn ⟨bo,rfl,a9,hb⟩;refine ⟨_,rfl,?_⟩;replace y:=af.rb y hb;have X:=ae.mk (Kd.aV a9 (av af.L));replace j:=af.bb j hb;replace HB:=ae.mk (ax af.L hb);(try clear hb);(try clear aB);(try clear hk);(try clear hi);(try clear a9);obtain ⟨g0,g1,e8⟩:=Kd.aK X.out;subst e8) | ((with_reducible refine bh (N:=9) rfl ?_);refine af.bx 9 #[.int .i64 0,.slice none 0 0] 30 ?_;intro a3 hg ho hbox hb;replace y:=af.rb y hb;replace X:=af.rb X hb;have a5:=ae.mk hbox;have b5:=af.gL (w:=w) hg af.L;have ba:=af.gL (w:=w) hg af.L;replace HB:=ae.mk (ax af.L hb);have a6:=af.nl hg j;have a7:=af.ng hg j;replace j:=af.bb j hb;clear hb hbox hg;have f0:=a7.out;have f1:=a6.out;obtain ⟨ea,eb,ec,ed⟩:=af.bw a5.out;obtain ⟨ee,ef,eh,ei⟩:=af.bw j.out))
   refine bodyPost_ret (eJ rfl _ _ a8 30 #[.int .i64 0,.slice none 0 0] (0,0) _ rfl af.B Tryz.underlying30 rfl (by kernel_rfl)) rfl ?_
   exact ⟨_,af.E,af.N,af.L⟩
 ·rw [if_neg c3] at H
  have c1:((z.length:Int) == 2) = false:=beq_eq_false_iff_ne.mpr c3
  have ca:((z.length:Int) != 2) = true:=bne_iff_ne.mpr c3
  simp only [Option.some.injEq,Prod.mk.injEq] at H
  obtain ⟨rfl,rfl,rfl⟩:=H
  go_enter Tryz.func176,Tryz.ntmps176
  go_wp2_with (first | ((with_reducible refine bh (N:=2) rfl ?_);refine af.bx 2 #[.int .i64 0,.slice none 0 0] 30 ?_;intro a8 hg hq hbox hb;have j:=ae.mk hbox;have aR:=af.gw hg HB;have aS:=af.gw hg HB;replace HB:=af.lb HB hb;clear hb hbox hg) | ((with_reducible refine aA (f:=183) rfl ?_);refine af.gl (some 11) Tryz.func183 #[.string a0,.int .u8 32] ?_;(with_reducible refine (bz.calls k a0 32 z _ A2.out).mono ?_);rintro e hr ⟨bc,rfl,a9,hb⟩;refine ⟨_,rfl,?_⟩;have y:=ae.mk (Kd.aV a9 (av af.L));replace j:=af.bb j hb;replace HB:=ae.mk (ax af.L hb);(try clear hb);(try clear aB);(try clear hk);(try clear hi);(try clear a9);obtain ⟨g2,g3,ej⟩:=Kd.aK y.out;subst ej;obtain ⟨el,em,eo,eq⟩:=af.bw j.out))
  refine bodyPost_ret (eJ rfl _ _ a8 30 #[.int .i64 0,.slice none 0 0] (0,0) _ rfl af.B Tryz.underlying30 rfl (by kernel_rfl)) rfl ?_
  exact ⟨_,af.E,af.N,af.L⟩
def eN.f (y:List Int) (z:Int) (X:Int) (l1:List ByteArray):Option (ByteArray×Int×Int):=(aH.f y z X (l1.length:Int)).bind fun j=>(if 0≤j.1 then (if j.1 < (l1.length:Int) then (some (fm ByteArray.empty l1 j.1,j.2.1,j.2.2)) else (none)) else (none))
set_option maxHeartbeats 8000000 in
set_option maxRecDepth 100000 in
theorem eN.calls (g:Nat) (y:List Int) (X:Int) (Y:Int) (A1:Option Addr) (c1:Nat) (l1:List ByteArray) (r1:ByteArray) (r2:Int) (r3:Int) (w0 w:World) (hI:aj w0 w g y X Y) (hB:Below w0.heap.size w0 w) (a4:Kd.C Kd.string w A1 l1.length l1) (a5:l1.length≤c1) (a2:∀ ad,A1 = some ad→0 < l1.length→ad.block≠g) (h:eN.f y X Y l1 = some (r1,r2,r3)) :
  Calls Tryz.prog 177 #[.pointer (some ⟨g,0,none⟩),.slice A1 l1.length c1] w fun e w'=>e = .returned (.string r1)∧aj w0 w' g y r2 r3∧Below w0.heap.size w0 w'∧an w w' g none:=by
 have a9:=ae.mk a4
 have ao:=ae.mk a5
 clear a4 a5
 have aa:=ae.mk hI
 have HK:=ae.mk (an.refl w g none)
 have HL:=ae.mk hB.size
 clear hI
 have ap:=ae.mk hB.size
 have HB:=ae.mk hB
 clear hB
 unfold eN.f at h
 have H:=h
 clear h
 obtain ⟨⟨z,a6,a7⟩,A3,H⟩:=af.be H
 (try dsimp only at H)
 obtain ⟨c4,H⟩:=af.ip H
 have ab:=decide_eq_true c4
 clear c4
 obtain ⟨c5,H⟩:=af.ip H
 have am:=decide_eq_true c5
 clear c5
 simp only [Option.some.injEq,Prod.mk.injEq] at H
 obtain ⟨rfl,rfl,rfl⟩:=H
 go_enter Tryz.func177,Tryz.ntmps177
 go_wp2_with (first | (refine af.gl (some 9) Tryz.func80 #[.pointer (some ⟨g,0,none⟩),.int .i64 (l1.length:Int)] ?_;(with_reducible refine (aH.calls g y X Y (l1.length:Int) z a6 a7 w0 _ ?side1 ?side2 A3.out).mono ?_);(case side1=>exact af.I);(case side2=>exact af.J HB);rintro e w6 ⟨rfl,hi,hb,hk⟩;refine ⟨_,rfl,?_⟩;replace HK:=ae.mk (an.trans (af.K HK) hk (.inl rfl));replace HB:=ae.mk hb;replace aa:=ae.mk hi;(try clear hb);(try clear ar);(try clear hk);(try clear hi);have a0:0≤(z:Int):=af.D;have a1:z < (l1.length:Int):=af.D;obtain ⟨a3,a8,j⟩:=Kd.fx a9.out z a0 a1;cases a8;replace j:=iE HK.out j (by first | (rw [ep];exact a2 _ rfl (by omega)) | exact a2 _ rfl (by omega) | exact a2 a3 rfl (by omega));replace a0:=eq_true a0;replace a1:=eq_true a1))
 go_ret
 exact ⟨af.E,af.I,af.J HB,af.K HK⟩
def dI.f (k:Nat) (z:List Int) (X:Int) (Y:Int):Option (Int×List Int×Int×Int):=(eN.f z X Y (([(⟨#[48,32,45]⟩:ByteArray),(⟨#[49,32,45]⟩:ByteArray),(⟨#[49,32,97]⟩:ByteArray),(⟨#[52,32,97,98,44,97,99,44,98,99,44,97,100,44,98,100,44,99,100]⟩:ByteArray),(⟨#[52,32,97,98,44,97,99,44,97,100,44,98,100,44,99,100]⟩:ByteArray),(⟨#[51,32,97,44,98]⟩:ByteArray),(⟨#[53,32,97,98,44,97,99,44,98,99,44,97,100,44,98,100]⟩:ByteArray),(⟨#[50,32,45]⟩:ByteArray),(⟨#[51,32,97,98,99]⟩:ByteArray)]:List ByteArray))).bind fun j=>((ck.f k j.1).bind fun y=>(some (y.1,y.2.1,j.2.1,j.2.2)))
set_option maxHeartbeats 8000000 in
set_option maxRecDepth 100000 in
theorem dI.calls (k:Nat) (g:Nat) (X:List Int) (a0:Int) (a1:Int) (r1:Int) (r2:List Int) (r3:Int) (r4:Int) (w0 w:World) (hI:aj w0 w g X a0 a1) (hB:Below w0.heap.size w0 w) (h:dI.f k X a0 a1 = some (r1,r2,r3,r4)) :
  Calls Tryz.prog 164 #[.pointer (some ⟨g,0,none⟩)] w fun e w'=>∃ b5:Value,e = .returned (.agg #[.int .i64 r1,b5])∧Kd.R (Kd.int .i64) 3 w' w.heap.size (fun _=>True) b5 r2∧aj w0 w' g X r3 r4∧Below w0.heap.size w0 w'∧an w w' g none:=by
 have dE:=Tryz.underlying30
 have a4:=ae.mk hI
 have HK:=ae.mk (an.refl w g none)
 have HL:=ae.mk hB.size
 clear hI
 have ba:=ae.mk hB.size
 have HB:=ae.mk hB
 clear hB
 unfold dI.f at h
 have H:=h
 clear h
 obtain ⟨ab,a5⟩:∃ y_:List ByteArray,y_ = (([(⟨#[48,32,45]⟩:ByteArray),(⟨#[49,32,45]⟩:ByteArray),(⟨#[49,32,97]⟩:ByteArray),(⟨#[52,32,97,98,44,97,99,44,98,99,44,97,100,44,98,100,44,99,100]⟩:ByteArray),(⟨#[52,32,97,98,44,97,99,44,97,100,44,98,100,44,99,100]⟩:ByteArray),(⟨#[51,32,97,44,98]⟩:ByteArray),(⟨#[53,32,97,98,44,97,99,44,98,99,44,97,100,44,98,100]⟩:ByteArray),(⟨#[50,32,45]⟩:ByteArray),(⟨#[51,32,97,98,99]⟩:ByteArray)]:List ByteArray)):=⟨_,rfl⟩
 replace H:((eN.f X a0 a1 ab).bind fun a6=>((ck.f k a6.1).bind fun am=>(some (am.1,am.2.1,a6.2.1,a6.2.2)))) = some (r1,r2,r3,r4):=by (try rw [a5]);exact af.Z
 have ao:=ae.mk a5
 clear a5
 obtain ⟨⟨ap,ar,aw⟩,A2,H⟩:=af.be H
 (try dsimp only at H)
 obtain ⟨⟨a9,aa,bc⟩,A3,H⟩:=af.be H
 (try dsimp only at H)
 simp only [Option.some.injEq,Prod.mk.injEq] at H
 obtain ⟨rfl,rfl,rfl,rfl⟩:=H
 go_enter Tryz.func164,Tryz.ntmps164
 go_wp2_with (first | (refine af.bx 2 #[.int .i64 0,.slice none 0 0] 30 ?_;intro z hg w4 hbox hb;replace HB:=ae.mk (ax (af.J HB) hb);have j:=ae.mk hbox;have d6:=ae.mk ((by rw [hg];exact (b9 (w:=w) (g:=g) (row:=none) (af.K HK)):w.heap.size≤z));have d7:=ae.mk ((Nat.le_trans ba.out (by rw [hg];exact (b9 (w:=w) (g:=g) (row:=none) (af.K HK)):w.heap.size≤z):w0.heap.size≤z));replace HK:=ae.mk (an.trans (af.K HK) (an.cW hb g none) (.inl rfl));have aB:=ae.mk ((by rw [hg];exact Nat.ne_of_lt (aj.lt (show aj w0 _ g X a0 a1 from af.I)):g≠z));have a3:=ae.mk ((by rw [hg];exact Nat.ne_of_gt (aj.lt (show aj w0 _ g X a0 a1 from af.I)):z≠g));replace a4:=ae.mk (aj.below af.I hb);clear hb hbox hg) | ((with_reducible refine bh (N:=7) rfl ?_);refine Kd.jH Kd.string _ 9 ?hg (N:=7) ?hd (xs:=([(⟨#[48,32,45]⟩:ByteArray),(⟨#[49,32,45]⟩:ByteArray),(⟨#[49,32,97]⟩:ByteArray),(⟨#[52,32,97,98,44,97,99,44,98,99,44,97,100,44,98,100,44,99,100]⟩:ByteArray),(⟨#[52,32,97,98,44,97,99,44,97,100,44,98,100,44,99,100]⟩:ByteArray),(⟨#[51,32,97,44,98]⟩:ByteArray),(⟨#[53,32,97,98,44,97,99,44,98,99,44,97,100,44,98,100]⟩:ByteArray),(⟨#[50,32,45]⟩:ByteArray),(⟨#[51,32,97,98,99]⟩:ByteArray)]:List ByteArray)) (inner:=[.string (⟨#[48,32,45]⟩:ByteArray),.string (⟨#[49,32,45]⟩:ByteArray),.string (⟨#[49,32,97]⟩:ByteArray),.string (⟨#[52,32,97,98,44,97,99,44,98,99,44,97,100,44,98,100,44,99,100]⟩:ByteArray),.string (⟨#[52,32,97,98,44,97,99,44,97,100,44,98,100,44,99,100]⟩:ByteArray),.string (⟨#[51,32,97,44,98]⟩:ByteArray),.string (⟨#[53,32,97,98,44,97,99,44,98,99,44,97,100,44,98,100]⟩:ByteArray),.string (⟨#[50,32,45]⟩:ByteArray),.string (⟨#[51,32,97,98,99]⟩:ByteArray)]) (ok:=fun _=>True) (okp:=fun _=>True) ?hr ?hp (fun _ hk=>hk) trivial (Below.refl _ _) (Nat.le_refl _) (by simp) ?_;(case hd=>rfl);(case hg=>rfl);(case hr=>first | (go_simp;done) | (go_simp;rfl));(case hp=>exact (cV.one (show Kd.M Kd.string _ _ _ (⟨#[48,32,45]⟩:ByteArray) [.string (⟨#[48,32,45]⟩:ByteArray)] from rfl) (cV.one (show Kd.M Kd.string _ _ _ (⟨#[49,32,45]⟩:ByteArray) [.string (⟨#[49,32,45]⟩:ByteArray)] from rfl) (cV.one (show Kd.M Kd.string _ _ _ (⟨#[49,32,97]⟩:ByteArray) [.string (⟨#[49,32,97]⟩:ByteArray)] from rfl) (cV.one (show Kd.M Kd.string _ _ _ (⟨#[52,32,97,98,44,97,99,44,98,99,44,97,100,44,98,100,44,99,100]⟩:ByteArray) [.string (⟨#[52,32,97,98,44,97,99,44,98,99,44,97,100,44,98,100,44,99,100]⟩:ByteArray)] from rfl) (cV.one (show Kd.M Kd.string _ _ _ (⟨#[52,32,97,98,44,97,99,44,97,100,44,98,100,44,99,100]⟩:ByteArray) [.string (⟨#[52,32,97,98,44,97,99,44,97,100,44,98,100,44,99,100]⟩:ByteArray)] from rfl) (cV.one (show Kd.M Kd.string _ _ _ (⟨#[51,32,97,44,98]⟩:ByteArray) [.string (⟨#[51,32,97,44,98]⟩:ByteArray)] from rfl) (cV.one (show Kd.M Kd.string _ _ _ (⟨#[53,32,97,98,44,97,99,44,98,99,44,97,100,44,98,100]⟩:ByteArray) [.string (⟨#[53,32,97,98,44,97,99,44,98,99,44,97,100,44,98,100]⟩:ByteArray)] from rfl) (cV.one (show Kd.M Kd.string _ _ _ (⟨#[50,32,45]⟩:ByteArray) [.string (⟨#[50,32,45]⟩:ByteArray)] from rfl) (cV.one (show Kd.M Kd.string _ _ _ (⟨#[51,32,97,98,99]⟩:ByteArray) [.string (⟨#[51,32,97,98,99]⟩:ByteArray)] from rfl) (cV.none _ _)))))))))));intro dT w5 aF hb d8 b4;clear d8 b4;(first | rw [← ao.out] at aF | (simp only [Int.reduceToNat] at aF;rw [← ao.out] at aF));have y:=ae.mk (Kd.aV aF (b9 (w:=w) (g:=g) (row:=none) (af.K HK)));replace j:=af.bb j hb;replace HK:=ae.mk (an.trans (af.K HK) (an.cW hb g none) (.inl rfl));replace HB:=ae.mk (ax (af.J HB) hb);replace a4:=ae.mk (aj.below af.I hb);clear hb aF;obtain ⟨d9,db,dd⟩:=Kd.aK y.out;subst dd) | (refine af.gl (some 8) Tryz.func177 #[.pointer (some ⟨g,0,none⟩),.slice d9 ab.length db] ?_;(with_reducible refine (eN.calls g X a0 a1 _ _ ab ap ar aw w0 _ ?side1 ?side2 ?side3 ?side4 ?side5 A2.out).mono ?_);(case side1=>exact af.I);(case side2=>exact af.J HB);(case side3=>exact af.Cw ((Kd.ah y.out).2.2));(case side4=>exact (Kd.ah y.out).2.1);(case side5=>exact jU (aj.fU a4.out y.out (by decide)));rintro e w8 ⟨rfl,hi,hb,hk⟩;refine ⟨_,rfl,?_⟩;replace j:=ae.mk (an.blk hk (g':=z) (o:=.cells #[.int .i64 0,.slice none 0 0] 30 (0,0)) (af.Bw j.out) a3.out (by simp));replace y:=ae.mk (Kd.aC (Kd.dA (aj.apart (show aj w0 _ g X a0 a1 from af.I) (af.Rw y.out) (by decide)) hk (fun _ h=>h.2)) (fun _ h=>h.1));replace HK:=ae.mk (an.trans (af.K HK) hk (.inl rfl));replace HB:=ae.mk hb;replace a4:=ae.mk hi;(try clear hb);(try clear df);(try clear hk);(try clear hi)) | (refine af.gl (some 9) Tryz.func176 #[.string ap] ?_;(with_reducible refine (ck.calls k ap a9 aa bc _ A3.out).mono ?_);rintro e w9 ⟨e0,rfl,bi,hb⟩;refine ⟨_,rfl,?_⟩;replace y:=af.rb y hb;have a2:=ae.mk (Kd.aV bi (b9 (w:=w) (g:=g) (row:=none) (af.K HK)));replace j:=af.bb j hb;replace HK:=ae.mk (an.trans (af.K HK) (an.cW hb g none) (.inl rfl));replace HB:=ae.mk (ax (af.J HB) hb);replace a4:=ae.mk (aj.below af.I hb);(try clear hb);(try clear df);(try clear hk);(try clear hi);(try clear bi)) | (refine af.bx 3 #[.int .i64 0,.slice none 0 0] 30 ?_;intro Y hg e1 hbox hb;have bm:=af.rb y hb;have bo:=af.rb a2 hb;have bs:=ae.mk (aj.below af.I hb);have bv:=af.bb j hb;have c0:=ae.mk (an.trans (af.K HK) (an.cW hb g none) (.inl rfl));have c1:=ae.mk (ax (af.J HB) hb);have ca:=ae.mk hbox;have cb:=ae.mk ((by rw [hg];exact (b9 (w:=w) (g:=g) (row:=none) (af.K HK)):w.heap.size≤Y));have cc:=ae.mk ((Nat.le_trans ba.out (by rw [hg];exact (b9 (w:=w) (g:=g) (row:=none) (af.K HK)):w.heap.size≤Y):w0.heap.size≤Y));have ce:=af.nl hg j;have b0:=af.ng hg j;have b2:=ae.mk ((by rw [hg];exact Nat.ne_of_lt (aj.lt (show aj w0 _ g X ar aw from af.I)):g≠Y));have b3:=ae.mk ((by rw [hg];exact Nat.ne_of_gt (aj.lt (show aj w0 _ g X ar aw from af.I)):Y≠g));clear y;clear a2;clear a4;clear j;clear HK;clear HB;have y:=bm;have a2:=bo;have a4:=bs;have j:=bv;have HK:=c0;have HB:=c1;have aL:=ca;have dk:=cb;have dl:=cc;have a7:=ce;have a8:=b0;have aO:=b2;have aP:=b3;clear bm bo bs bv c0 c1 ca cb cc ce b0 b2 b3;clear hb hbox hg;have dp:=a8.out;have dq:=a7.out;have dt:=aP.out;have du:=aO.out;obtain ⟨cf,ci,cp,d0⟩:=af.bw aL.out;obtain ⟨aR,aS,d1⟩:=Kd.aK a2.out;subst d1;have dv:=a3.out;have dC:=aB.out;obtain ⟨d2,d3,d4,d5⟩:=af.bw j.out))
 refine bodyPost_ret (results_cell_row rfl _ _ z 30 #[.int .i64 a9,.slice aR aa.length aS] (0,0) _ rfl af.B Tryz.underlying30 rfl (by kernel_rfl)) rfl ?_
 exact ⟨_,af.E,by (with_reducible repeat (first | apply Kd.cH | apply Kd.cI | apply Kd.bl));exact Kd.aC (Kd.bD (p:=⟨z,1,none⟩) (Kd.bD (p:=⟨z,0,none⟩) (Kd.bD (p:=⟨Y,1,none⟩) (Kd.bD (p:=⟨Y,0,none⟩) (Kd.bS (Kd.bS a2.out aL.out (by decide)) j.out (by decide)) (fun _ hk=>hk.1.2) (.int .i64 a9)) (fun _ hk=>hk.1.2) (.slice aR aa.length aS)) (fun _ hk=>hk.2) (.int .i64 a9)) (fun _ hk=>hk.2) (.slice aR aa.length aS)) (fun _ hk=>trivial),af.I,af.J HB,af.K HK⟩
end Go.Proofs.YtmpodackojmojaaGreat.Pr
end
