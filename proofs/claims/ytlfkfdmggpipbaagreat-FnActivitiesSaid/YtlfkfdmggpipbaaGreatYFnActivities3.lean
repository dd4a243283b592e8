/- The claim FnActivities: every text that its row comes to, laid together by slim.py (the words of the kit's print, the printed walks, the pure law, the row). -/
import Derived.Lib.OwnBridge
import Derived.Lib.RowBridge
import Derived.Shelf.Slices.CompactI
import Derived.Shelf.Slices.In.SortNone
import Derived.Shelf.Sort.Plain
import Derived.Sort.Grow
import Derived.Sort.OwnSortedInts
import Derived.Test.YtlfkfdmggpipbaaGreatProg
import Derived.Test.YtlfkfdmggpipbaaGreatYFnActivities2
namespace Go.Proofs.YtlfkfdmggpipbaaGreat
section
namespace Pr
open Go.RowKit ag.aZ ag.bR ag.bT
attribute [local go_sem] js jt kr ku iU iV ju jv
set_option linter.unusedVariables false
set_option linter.unusedSimpArgs false
def cI.f (k:Nat) (l:List Int) (a e f:Int):Option Bool:=if 0≤e then (if 0≤f then (cW.f k l (Go.bits .or .i64 (Go.bits .andNot .i64 a (shl .i64 1 e)) (shl .i64 1 f))) else (none)) else (none)
mutual
def aK.l0:Nat→Int→List Int→Int→Option (Int×Int×Int×Bool)
 | 0,_,_,_=>none
 | k+1,n,l,x=>if x < (l.length:Int) then (if 0≤x then (aK.l1 k n l x (rd l x) 0) else (none)) else (some (0,0,0,false))
def aK.l1:Nat→Int→List Int→Int→Int→Int→Option (Int×Int×Int×Bool)
 | 0,_,_,_,_,_=>none
 | k+1,n,l,x,a,y=>if y < (l.length:Int) then (if 0≤y then ((bl.f k (Go.bits .andNot .i64 a (rd l y))).bind fun es=>(aK.l2 k n l x a y (rd l y) es 0)) else (none)) else (aK.l0 k n l (wrap64 (x+1)))
def aK.l2:Nat→Int→List Int→Int→Int→Int→Int→List Int→Int→Option (Int×Int×Int×Bool)
 | 0,_,_,_,_,_,_,_,_=>none
 | k+1,n,l,x,a,y,b,es,z=>if z < (es.length:Int) then (if 0≤z then ((bl.f k (Go.bits .andNot .i64 b a)).bind fun fs=>((bf.f k fs (fun f=>cI.f k l a (rd es z) f)).bind fun t=>(if t = true then (aK.l2 k n l x a y b es (wrap64 (z+1))) else (some (a,b,rd es z,true))))) else (none)) else (aK.l1 k n l x a (wrap64 (y+1)))
end
def aK.f (k:Nat) (j:Int) (y:List Int):Option (Int×Int×Int×Bool):=(cw.f k j y).bind fun t=>(if t = true then (aK.l0 k j y 0) else (some (0,0,0,false)))
set_option maxHeartbeats 8000000 in
set_option maxRecDepth 100000 in
theorem cI.calls (k:Nat) (ao:Int) (a5:Option Addr) (a6:Nat) (j:List Int) (a e f:Int) (b:Bool) (am ap ar:Nat) (w:World) (h1:w.heap[am]? = some (.cells #[.int .i64 ao,(.slice a5 j.length a6)] 37 (0,0))) (h5:w.heap[ap]? = some (.cells #[.int .i64 a] 3 (0,0))) (h9:w.heap[ar]? = some (.cells #[.int .i64 e] 3 (0,0))) (a7:Kd.C (Kd.int .i64) w a5 j.length j) (a8:j.length≤a6) (h:cI.f k j a e f = some b) :
  Calls Tryz.prog 174 #[.int .i64 f,.pointer (some ⟨am,0,none⟩),.pointer (some ⟨ap,0,none⟩),.pointer (some ⟨ar,0,none⟩)] w fun e w'=>e = .returned (.bool b)∧Below w.heap.size w w':=by
 have bo:=Tryz.underlying37;have HR:=ae.mk a7;have HC:=ae.mk a8;have aw:w.cell? ⟨am,0,none⟩ = some (.int .i64 ao):=(ah h1 0).trans rfl;have aB:w.cell? ⟨am,1,none⟩ = some (.slice a5 j.length a6):=(ah h1 1).trans rfl;have aF:w.cell? ⟨ap,0,none⟩ = some (.int .i64 a):=(ah h5 0).trans rfl;have aL:w.cell? ⟨ar,0,none⟩ = some (.int .i64 e):=(ah h9 0).trans rfl;clear a7 a8 h1 h5 h9;have H:=h;clear h;unfold cI.f at H;by_cases a9:0≤e
 case neg=>rw [if_neg a9] at H;exact absurd H (by simp)
 rw [if_pos a9] at H;have ba:=eq_true a9;have bc:decide (0≤e) = true:=decide_eq_true a9;clear a9;by_cases aa:0≤f
 case neg=>rw [if_neg aa] at H;exact absurd H (by simp)
 rw [if_pos aa] at H;have bi:=eq_true aa;have bm:decide (0≤f) = true:=decide_eq_true aa;clear aa;obtain ⟨y,X⟩:∃ j_:Int,(shl .i64 1 e) = j_:=⟨_,rfl⟩
 rw [X] at H;have a1:(IntKind.i64.wrap (1 * 2 ^ min e.toNat 64)) = y:=X;have a2:e≤64→(IntKind.i64.wrap (1 * 2 ^ e.toNat)) = y:=eX X;have aO:(IntKind.i64.wrap (2 ^ min e.toNat 64)) = y:=by have Y:=a1;rw [Int.one_mul] at Y;exact Y
 have aP:e≤64→(IntKind.i64.wrap (2 ^ e.toNat)) = y:=fun ab=>by have Y:=a2 ab;rw [Int.one_mul] at Y;exact Y
 have aR:(wrap64 (1 * 2 ^ min e.toNat 64)) = y:=(b7 _).symm.trans a1;have aS:e≤64→(wrap64 (1 * 2 ^ e.toNat)) = y:=fun Y=>(b7 _).symm.trans (a2 Y)
 obtain ⟨z,a0⟩:∃ j_:Int,(shl .i64 1 f) = j_:=⟨_,rfl⟩
 rw [a0] at H;have a3:(IntKind.i64.wrap (1 * 2 ^ min f.toNat 64)) = z:=a0;have a4:f≤64→(IntKind.i64.wrap (1 * 2 ^ f.toNat)) = z:=eX a0;have b0:(IntKind.i64.wrap (2 ^ min f.toNat 64)) = z:=by have Y:=a3;rw [Int.one_mul] at Y;exact Y
 have b2:f≤64→(IntKind.i64.wrap (2 ^ f.toNat)) = z:=fun ab=>by have Y:=a4 ab;rw [Int.one_mul] at Y;exact Y
 have b3:(wrap64 (1 * 2 ^ min f.toNat 64)) = z:=(b7 _).symm.trans a3;have b4:f≤64→(wrap64 (1 * 2 ^ f.toNat)) = z:=fun Y=>(b7 _).symm.trans (a4 Y)
 have A1:=ae.mk H;clear H;go_enter Tryz.func174,Tryz.ntmps174;go_wp2_with fail;go_quiet (first | (go_at_call 73;(with_reducible refine (cW.calls k _ _ j (Go.bits .or .i64 (Go.bits .andNot .i64 a y) z) b _ ?side1 ?side2 A1.out).mono ?_);(case side1=>repeat (first | exact HR.out | (with_reducible refine Kd.gi ?_ _) | (with_reducible refine Kd.gj ?_ _) | (with_reducible refine Kd.gJ ?_)));(case side2=>exact HC.out);rintro e w' ⟨rfl,⟨nd,rfl⟩⟩;(first | exact ⟨rfl,_,World.drewN_drewN _ _ _⟩ | exact ⟨rfl,_,Eq.trans (World.drewN_drewN _ _ _) (congrArg (World.drewN _) (Nat.add_assoc _ _ _))⟩)))
 go_wp2;go_ret;exact ⟨rfl,by first | exact dX (Below.refl _ _) _ | exact Below.refl _ _⟩
theorem cI.oa (k:Nat) (a1:Int) (y:Option Addr) (z:Nat) (j:List Int) (a e:Int) (X Y a0:Nat) (w:World) (h1:w.heap[X]? = some (.cells #[.int .i64 a1,(.slice y j.length z)] 37 (0,0))) (h5:w.heap[Y]? = some (.cells #[.int .i64 a] 3 (0,0))) (h9:w.heap[a0]? = some (.cells #[.int .i64 e] 3 (0,0))) (a2:Kd.C (Kd.int .i64) w y j.length j) (a3:j.length≤z) :
  af.nA Tryz.prog w (.func (.func 174) #[] #[.pointer (some ⟨X,0,none⟩),.pointer (some ⟨Y,0,none⟩),.pointer (some ⟨a0,0,none⟩)]) (fun f=>cI.f k j a e f) :=
 ⟨⟨174,#[.pointer (some ⟨X,0,none⟩),.pointer (some ⟨Y,0,none⟩),.pointer (some ⟨a0,0,none⟩)],Tryz.f174,rfl,Tryz.func174,by kernel_rfl,rfl,fun f b w' hw hg=>cI.calls k a1 y z j a e f b X Y a0 w' (b6 h1 hw) (b6 h5 hw) (b6 h9 hw) (Kd.aN a2 hw) a3 hg⟩⟩
set_option maxHeartbeats 8000000 in
set_option maxRecDepth 100000 in
theorem aK.calls (k:Nat) (aw:Int) (aO:Option Addr) (aF:Nat) (a3:List Int) (r1:Int) (r2:Int) (r3:Int) (r4:Bool) (w:World) (bs:Kd.C (Kd.int .i64) w aO a3.length a3) (bv:a3.length≤aF) (h:aK.f k aw a3 = some (r1,r2,r3,r4)) :
  Calls Tryz.prog 119 #[.agg #[.int .i64 aw,.slice aO a3.length aF]] w fun e w'=>e = .returned (.tuple #[.agg #[.int .i64 r1,.int .i64 r2,.int .i64 r3],.bool r4])∧Below w.heap.size w w':=by
 have df:=Tryz.underlying37;have dk:=Tryz.underlying79;have HR:=ae.mk bs;have HC:=ae.mk bv;have HB:=ae.mk (Below.refl w.heap.size w);clear bs bv;unfold aK.f at h;obtain ⟨t,h1,h⟩:=Option.bind_eq_some_iff.mp h;have A1:=ae.mk h1;clear h1;cases t with
 | false =>
  rw [if_neg (by decide)] at h;simp only [Option.some.injEq,Prod.mk.injEq] at h;obtain ⟨rfl,rfl,rfl,rfl⟩:=h;go_enter Tryz.func119,Tryz.ntmps119;go_wp2_with (first | ((with_reducible refine bu (N:=1) rfl ?_);refine zp 1 #[.int .i64 aw,.slice aO a3.length aF] 37 ?_;intro aB hg w3 hbox hb;have cq:=ae.mk ((by rw [hg];exact ak HB.out):w.heap.size≤aB);replace HB:=ae.mk (aq HB.out hb);have y:=ae.mk hbox;have X:w3.cell? ⟨aB,0,none⟩ = some ((.int .i64 aw)):=(ah y.out 0).trans rfl;have Y:=aj y.out 0;have a0:w3.cell? ⟨aB,1,none⟩ = some ((.slice aO a3.length aF)):=(ah y.out 1).trans rfl;have a1:=aj y.out 1;clear hb hbox hg) | ((with_reducible refine bu (N:=2) rfl ?_);refine zp 2 #[.int .i64 0,.int .i64 0,.int .i64 0] 79 ?_;intro ao hg w4 hbox hb;have bi:=ae.mk ((by rw [hg];exact ak HB.out):w.heap.size≤ao);replace HB:=ae.mk (aq HB.out hb);have j:=ae.mk hbox;have m_:=ae.mk (b6 y.out hb);clear y;have y:=m_;clear m_;have X:w4.cell? ⟨aB,0,none⟩ = some ((.int .i64 aw)):=(ah y.out 0).trans rfl;have Y:=aj y.out 0;have a0:w4.cell? ⟨aB,1,none⟩ = some ((.slice aO a3.length aF)):=(ah y.out 1).trans rfl;have a1:=aj y.out 1;have a4:w4.cell? ⟨ao,0,none⟩ = some (.int .i64 0):=(ah j.out 0).trans rfl;have a5:=aj j.out 0;have a6:w4.cell? ⟨ao,1,none⟩ = some (.int .i64 0):=(ah j.out 1).trans rfl;have a7:=aj j.out 1;have a8:w4.cell? ⟨ao,2,none⟩ = some (.int .i64 0):=(ah j.out 2).trans rfl;have a9:=aj j.out 2;clear hb hbox hg) | ((with_reducible refine aD (f:=120) rfl ?_);refine ws (some 15) Tryz.func120 #[.int .i64 aw,.slice aO a3.length aF] ?_;(with_reducible refine (cw.calls k aw _ _ a3 false _ ?side1 ?side2 A1.out).mono ?_);(case side1=>exact Kd.aN HR.out HB.out);(case side2=>exact HC.out);rintro e w5 ⟨rfl,hd⟩;refine ⟨_,rfl,?_⟩;have hb:=hd.below;clear hd;replace HB:=ae.mk (aq HB.out hb);have m_:=ae.mk (b6 y.out hb);clear y;have y:=m_;clear m_;have m_:=ae.mk (b6 j.out hb);clear j;have j:=m_;clear m_;clear hb;have X:w5.cell? ⟨aB,0,none⟩ = some ((.int .i64 aw)):=(ah y.out 0).trans rfl;have Y:=aj y.out 0;have a0:w5.cell? ⟨aB,1,none⟩ = some ((.slice aO a3.length aF)):=(ah y.out 1).trans rfl;have a1:=aj y.out 1;have a4:w5.cell? ⟨ao,0,none⟩ = some (.int .i64 0):=(ah j.out 0).trans rfl;have a5:=aj j.out 0;have a6:w5.cell? ⟨ao,1,none⟩ = some (.int .i64 0):=(ah j.out 1).trans rfl;have a7:=aj j.out 1;have a8:w5.cell? ⟨ao,2,none⟩ = some (.int .i64 0):=(ah j.out 2).trans rfl;have a9:=aj j.out 2));refine bodyPost_ret (eV rfl _ _ ao 79 #[.int .i64 0,.int .i64 0,.int .i64 0] (0,0) _ rfl (by refine gA (cs:=#[.int .i64 0,.int .i64 0,.int .i64 0]) ?_ 2 _ rfl;refine gA (cs:=#[.int .i64 0,.int .i64 0,.int .i64 0]) ?_ 1 _ rfl;refine gA (cs:=#[.int .i64 0,.int .i64 0,.int .i64 0]) ?_ 0 _ rfl;exact j.out) Tryz.underlying79 rfl (by kernel_rfl)) rfl ?_;exact ⟨rfl,by repeat (first | exact HB.out | refine dY ?_ bi.out)⟩
 | true =>
  rw [if_pos rfl] at h;have H':=ae.mk h;clear h;go_enter Tryz.func119,Tryz.ntmps119;go_wp2_with (first | ((with_reducible refine bu (N:=1) rfl ?_);refine zp 1 #[.int .i64 aw,.slice aO a3.length aF] 37 ?_;intro aB hg w3 hbox hb;have cq:=ae.mk ((by rw [hg];exact ak HB.out):w.heap.size≤aB);replace HB:=ae.mk (aq HB.out hb);have y:=ae.mk hbox;have X:w3.cell? ⟨aB,0,none⟩ = some ((.int .i64 aw)):=(ah y.out 0).trans rfl;have Y:=aj y.out 0;have a0:w3.cell? ⟨aB,1,none⟩ = some ((.slice aO a3.length aF)):=(ah y.out 1).trans rfl;have a1:=aj y.out 1;clear hb hbox hg) | ((with_reducible refine bu (N:=2) rfl ?_);refine zp 2 #[.int .i64 0,.int .i64 0,.int .i64 0] 79 ?_;intro ao hg w4 hbox hb;have bi:=ae.mk ((by rw [hg];exact ak HB.out):w.heap.size≤ao);replace HB:=ae.mk (aq HB.out hb);have j:=ae.mk hbox;have m_:=ae.mk (b6 y.out hb);clear y;have y:=m_;clear m_;have X:w4.cell? ⟨aB,0,none⟩ = some ((.int .i64 aw)):=(ah y.out 0).trans rfl;have Y:=aj y.out 0;have a0:w4.cell? ⟨aB,1,none⟩ = some ((.slice aO a3.length aF)):=(ah y.out 1).trans rfl;have a1:=aj y.out 1;have a4:w4.cell? ⟨ao,0,none⟩ = some (.int .i64 0):=(ah j.out 0).trans rfl;have a5:=aj j.out 0;have a6:w4.cell? ⟨ao,1,none⟩ = some (.int .i64 0):=(ah j.out 1).trans rfl;have a7:=aj j.out 1;have a8:w4.cell? ⟨ao,2,none⟩ = some (.int .i64 0):=(ah j.out 2).trans rfl;have a9:=aj j.out 2;clear hb hbox hg) | ((with_reducible refine aD (f:=120) rfl ?_);refine ws (some 15) Tryz.func120 #[.int .i64 aw,.slice aO a3.length aF] ?_;(with_reducible refine (cw.calls k aw _ _ a3 true _ ?side1 ?side2 A1.out).mono ?_);(case side1=>exact Kd.aN HR.out HB.out);(case side2=>exact HC.out);rintro e w5 ⟨rfl,hd⟩;refine ⟨_,rfl,?_⟩;have hb:=hd.below;clear hd;replace HB:=ae.mk (aq HB.out hb);have m_:=ae.mk (b6 y.out hb);clear y;have y:=m_;clear m_;have m_:=ae.mk (b6 j.out hb);clear j;have j:=m_;clear m_;clear hb;have X:w5.cell? ⟨aB,0,none⟩ = some ((.int .i64 aw)):=(ah y.out 0).trans rfl;have Y:=aj y.out 0;have a0:w5.cell? ⟨aB,1,none⟩ = some ((.slice aO a3.length aF)):=(ah y.out 1).trans rfl;have a1:=aj y.out 1;have a4:w5.cell? ⟨ao,0,none⟩ = some (.int .i64 0):=(ah j.out 0).trans rfl;have a5:=aj j.out 0;have a6:w5.cell? ⟨ao,1,none⟩ = some (.int .i64 0):=(ah j.out 1).trans rfl;have a7:=aj j.out 1;have a8:w5.cell? ⟨ao,2,none⟩ = some (.int .i64 0):=(ah j.out 2).trans rfl;have a9:=aj j.out 2));clear X a0 Y a1 a4 a6 a8 a5 a7 a9;go_loopg [21] k (fun kq v21 w'=>∃ (x1:Int),v21 = .int .i64 x1∧ae (aK.l0 kq aw a3 x1 = some (r1,r2,r3,r4))∧ae (kq≤k)∧ae (w'.heap[aB]? = some (.cells #[.int .i64 aw,(.slice aO a3.length aF)] 37 (0,0)))∧ae (w'.heap[ao]? = some (.cells #[.int .i64 0,.int .i64 0,.int .i64 0] 79 (0,0)))∧ae (Below w.heap.size w w'))
  case atStart=>exact ⟨0,rfl,H',⟨Nat.le_refl _⟩,y,j,HB⟩
  case round =>
   clear H' y j HB;obtain ⟨x1,rfl,HA,bm,y,j,HB⟩:=hrel;cases gk with
   | zero=>exact absurd HA.out (by simp [aK.l0])
   | succ k1 =>
    have H:=HA.out;clear HA;simp only [aK.l0] at H;by_cases c3:x1 < (a3.length:Int)
    case neg =>
     rw [if_neg c3] at H;have ci:decide (x1 < (a3.length:Int)) = false:=decide_eq_false c3;clear c3;simp only [Option.some.injEq,Prod.mk.injEq] at H;obtain ⟨rfl,rfl,rfl,rfl⟩:=H;have a4:wr.cell? ⟨ao,0,none⟩ = some (.int .i64 0):=(ah j.out 0).trans rfl;have a5:=aj j.out 0;have a6:wr.cell? ⟨ao,1,none⟩ = some (.int .i64 0):=(ah j.out 1).trans rfl;have a7:=aj j.out 1;have a8:wr.cell? ⟨ao,2,none⟩ = some (.int .i64 0):=(ah j.out 2).trans rfl;have a9:=aj j.out 2;go_wp2;refine bodyPost_ret (eV rfl _ _ ao 79 #[.int .i64 0,.int .i64 0,.int .i64 0] (0,0) _ rfl (by refine gA (cs:=#[.int .i64 0,.int .i64 0,.int .i64 0]) ?_ 2 _ rfl;refine gA (cs:=#[.int .i64 0,.int .i64 0,.int .i64 0]) ?_ 1 _ rfl;refine gA (cs:=#[.int .i64 0,.int .i64 0,.int .i64 0]) ?_ 0 _ rfl;exact j.out) Tryz.underlying79 rfl (by kernel_rfl)) rfl ?_;exact ⟨rfl,by repeat (first | exact HB.out | refine dY ?_ bi.out)⟩
    rw [if_pos c3] at H;have ci:=decide_eq_true c3;clear c3;by_cases c4:0≤x1
    case neg=>rw [if_neg c4] at H;exact absurd H (by simp)
    rw [if_pos c4] at H;have d1:=decide_eq_true c4;clear c4;obtain ⟨aa,cx⟩:∃ j_:Int,rd a3 x1 = j_:=⟨_,rfl⟩
    rw [cx] at H;have H':=ae.mk H;clear H;have p1:0≤(x1:Int):=of_decide_eq_true (by assumption);have q1:x1 < (a3.length:Int):=of_decide_eq_true (by assumption);obtain ⟨b2,e1,b3⟩:=Kd.fC HR.out x1 p1 q1;rw [cx] at b3;clear cx;cases e1
    replace b3:=(HB.out.cell (World.block_lt_of_cell? w _ b3)).trans b3;replace p1:=eq_true p1;replace q1:=eq_true q1;have X:wr.cell? ⟨aB,0,none⟩ = some ((.int .i64 aw)):=(ah y.out 0).trans rfl;have Y:=aj y.out 0;have a0:wr.cell? ⟨aB,1,none⟩ = some ((.slice (some b2) a3.length aF)):=(ah y.out 1).trans rfl;have a1:=aj y.out 1;go_wp2_with (first | ((with_reducible refine bu (N:=5) rfl ?_);refine zp 5 #[.int .i64 0] 3 ?_;intro aP hg w7 hbox hb;have db:=ae.mk ((by rw [hg];exact ak HB.out):w.heap.size≤aP);have d2:=ae.mk hg;have d3:=ae.mk hb;have z:=ae.mk hbox;clear hb hg hbox;have ab:w7.cell? ⟨aP,0,none⟩ = some (.int .i64 0):=(ah z.out 0).trans rfl;have am:=aj z.out 0) | ((with_reducible refine gX (t:=3) (p:=5) rfl ?_);refine gG (t:=3) (p:=5) (v:=?vo1) (w1:=(w7.setCell ⟨aP,0,none⟩ (.int .i64 aa))) ?hg ?ho ?hn ?hr ?_;(case ho=>rfl);(case hg=>rfl);(case hn=>rfl);(case hr=>first | (go_simp;done) | (go_simp;rfl));intro w8 hw;have hb:Below wr.heap.size wr w8:=(by rw [hw];exact dY d3.out (Nat.le_of_eq d2.out.symm));have m5:ae (w8.heap[aP]? = some (.cells #[.int .i64 aa] 3 (0,0))):=⟨by rw [hw];exact gA z.out 0 _ rfl⟩;clear z hw ab am;have z:=m5;clear m5;replace HB:=ae.mk (aq HB.out hb);have m_:=ae.mk (b6 y.out hb);clear y;have y:=m_;clear m_;have m_:=ae.mk (b6 j.out hb);clear j;have j:=m_;clear m_;clear hb d3 d2;have X:w8.cell? ⟨aB,0,none⟩ = some ((.int .i64 aw)):=(ah y.out 0).trans rfl;have Y:=aj y.out 0;have a0:w8.cell? ⟨aB,1,none⟩ = some ((.slice (some b2) a3.length aF)):=(ah y.out 1).trans rfl;have a1:=aj y.out 1));clear p1 q1 ci d1 b3 X a0 Y a1;go_loopg [28] k1 (fun kq v28 w'=>∃ (x2:Int),v28 = .int .i64 x2∧ae (aK.l1 kq aw a3 x1 aa x2 = some (r1,r2,r3,r4))∧ae (kq≤k1)∧ae (w'.heap[aB]? = some (.cells #[.int .i64 aw,(.slice (some b2) a3.length aF)] 37 (0,0)))∧ae (w'.heap[ao]? = some (.cells #[.int .i64 0,.int .i64 0,.int .i64 0] 79 (0,0)))∧ae (w'.heap[aP]? = some (.cells #[.int .i64 aa] 3 (0,0)))∧ae (Below w.heap.size w w'))
    case atStart=>exact ⟨0,rfl,H',⟨Nat.le_refl _⟩,y,j,z,HB⟩
    case round =>
     clear H' y j z HB;obtain ⟨x2,rfl,HA,bo,y,j,z,HB⟩:=hrel;cases gk with
     | zero=>exact absurd HA.out (by simp [aK.l1])
     | succ k2 =>
      have H:=HA.out;clear HA;simp only [aK.l1] at H;by_cases c5:x2 < (a3.length:Int)
      case neg =>
       rw [if_neg c5] at H;have cp:decide (x2 < (a3.length:Int)) = false:=decide_eq_false c5;clear c5;have H':=ae.mk H;clear H;go_wp2;go_roundg k2;case measure=>have:=bm.out;have:=bo.out;omega
       case rel=>exact ⟨(wrap64 (x1+1)),rfl,H',⟨by have:=bm.out;have:=bo.out;omega⟩,y,j,HB⟩
      rw [if_pos c5] at H;have cp:=decide_eq_true c5;clear c5;by_cases c6:0≤x2
      case neg=>rw [if_neg c6] at H;exact absurd H (by simp)
      rw [if_pos c6] at H;have d4:=decide_eq_true c6;clear c6;obtain ⟨bb,hbb⟩:∃ j_:Int,rd a3 x2 = j_:=⟨_,rfl⟩
      rw [hbb] at H;obtain ⟨es,d5,H⟩:=Option.bind_eq_some_iff.mp H;have A2:=ae.mk d5;clear d5;have H':=ae.mk H;clear H;have p2:0≤(x2:Int):=of_decide_eq_true (by assumption);have q2:x2 < (a3.length:Int):=of_decide_eq_true (by assumption);obtain ⟨dd,e2,b4⟩:=Kd.fC HR.out x2 p2 q2;obtain rfl:b2 = dd:=(by injection e2)
      clear e2;rw [hbb] at b4;clear hbb;replace b4:=(HB.out.cell (World.block_lt_of_cell? w _ b4)).trans b4;replace p2:=eq_true p2;replace q2:=eq_true q2;have X:wr.cell? ⟨aB,0,none⟩ = some ((.int .i64 aw)):=(ah y.out 0).trans rfl;have Y:=aj y.out 0;have a0:wr.cell? ⟨aB,1,none⟩ = some ((.slice (some b2) a3.length aF)):=(ah y.out 1).trans rfl;have a1:=aj y.out 1;have ab:wr.cell? ⟨aP,0,none⟩ = some (.int .i64 aa):=(ah z.out 0).trans rfl;have am:=aj z.out 0;go_wp2_with (first | ((with_reducible refine aD (f:=74) rfl ?_);refine ws (some 35) Tryz.func74 #[.int .i64 (Go.bits .andNot .i64 aa bb)] ?_;(with_reducible refine (bl.calls k2 (Go.bits .andNot .i64 aa bb) es _ A2.out).mono ?_);rintro e w9 ⟨v1,rfl,ho,hb⟩;refine ⟨_,rfl,?_⟩;have aL:=ae.mk (Kd.b5 ho (ak HB.out));have d6:=ae.mk (aq HB.out hb);clear HB;have HB:=d6;clear d6 ho;have m_:=ae.mk (b6 y.out hb);clear y;have y:=m_;clear m_;have m_:=ae.mk (b6 j.out hb);clear j;have j:=m_;clear m_;have m_:=ae.mk (b6 z.out hb);clear z;have z:=m_;clear m_;clear hb X a0 Y a1 ab am b4;obtain ⟨Ae,ce,eo⟩:=Kd.bk aL.out;subst eo));clear p2 q2 cp d4;go_loopg [37] k2 (fun kq v37 w'=>∃ (x3:Int),v37 = .int .i64 x3∧ae (aK.l2 kq aw a3 x1 aa x2 bb es x3 = some (r1,r2,r3,r4))∧ae (kq≤k2)∧ae (w'.heap[aB]? = some (.cells #[.int .i64 aw,(.slice (some b2) a3.length aF)] 37 (0,0)))∧ae (w'.heap[ao]? = some (.cells #[.int .i64 0,.int .i64 0,.int .i64 0] 79 (0,0)))∧ae (w'.heap[aP]? = some (.cells #[.int .i64 aa] 3 (0,0)))∧ae (Kd.R (Kd.int .i64) 3 w' w.heap.size (fun _=>True) (.slice Ae es.length ce) es)∧ae (Below w.heap.size w w'))
      case atStart=>exact ⟨0,rfl,H',⟨Nat.le_refl _⟩,y,j,z,aL,HB⟩
      case round =>
       clear H' y j z aL HB;obtain ⟨x3,rfl,HA,cc,y,j,z,aL,HB⟩:=hrel;cases gk with
       | zero=>exact absurd HA.out (by simp [aK.l2])
       | succ k3 =>
        have H:=HA.out;clear HA;simp only [aK.l2] at H;by_cases c7:x3 < (es.length:Int)
        case neg =>
         rw [if_neg c7] at H;have d7:decide (x3 < (es.length:Int)) = false:=decide_eq_false c7;clear c7;have H':=ae.mk H;clear H;go_wp2;go_roundg k3;case measure=>have:=bm.out;have:=bo.out;have:=cc.out;omega
         case rel=>exact ⟨(wrap64 (x2+1)),rfl,H',⟨by have:=bm.out;have:=bo.out;have:=cc.out;omega⟩,y,j,z,HB⟩
        rw [if_pos c7] at H;have d7:=decide_eq_true c7;clear c7;by_cases c8:0≤x3
        case neg=>rw [if_neg c8] at H;exact absurd H (by simp)
        rw [if_pos c8] at H;have dl:=decide_eq_true c8;clear c8;obtain ⟨ee,hee⟩:∃ j_:Int,rd es x3 = j_:=⟨_,rfl⟩
        rw [hee] at H;obtain ⟨fs,d8,H⟩:=Option.bind_eq_some_iff.mp H;have A3:=ae.mk d8;clear d8;obtain ⟨t,d9,H⟩:=Option.bind_eq_some_iff.mp H;have A4:=ae.mk d9;clear d9;have p3:0≤(x3:Int):=of_decide_eq_true (by assumption);have q3:x3 < (es.length:Int):=of_decide_eq_true (by assumption);obtain ⟨dp,e3,cy⟩:=Kd.fC (Kd.az aL.out).2.2 x3 p3 q3;rw [hee] at cy;clear hee;cases e3
        replace p3:=eq_true p3;replace q3:=eq_true q3;cases t with
        | true =>
         rw [if_pos rfl] at H;have H':=ae.mk H;clear H;have ab:wr.cell? ⟨aP,0,none⟩ = some (.int .i64 aa):=(ah z.out 0).trans rfl;have am:=aj z.out 0;have X:wr.cell? ⟨aB,0,none⟩ = some ((.int .i64 aw)):=(ah y.out 0).trans rfl;have Y:=aj y.out 0;have a0:wr.cell? ⟨aB,1,none⟩ = some ((.slice (some b2) a3.length aF)):=(ah y.out 1).trans rfl;have a1:=aj y.out 1;have a4:wr.cell? ⟨ao,0,none⟩ = some (.int .i64 0):=(ah j.out 0).trans rfl;have a5:=aj j.out 0;have a6:wr.cell? ⟨ao,1,none⟩ = some (.int .i64 0):=(ah j.out 1).trans rfl;have a7:=aj j.out 1;have a8:wr.cell? ⟨ao,2,none⟩ = some (.int .i64 0):=(ah j.out 2).trans rfl;have a9:=aj j.out 2;go_wp2_with (first | ((with_reducible refine bu (N:=9) rfl ?_);refine zp 9 #[.int .i64 0] 3 ?_;intro aR hg c0 hbox hb;have d0:=ae.mk ((by rw [hg];exact ak HB.out):w.heap.size≤aR);have c1:=ae.mk hg;have ca:=ae.mk hb;have a2:=ae.mk hbox;clear hb hg hbox;have ap:c0.cell? ⟨aR,0,none⟩ = some (.int .i64 0):=(ah a2.out 0).trans rfl;have ar:=aj a2.out 0) | ((with_reducible refine gX (t:=3) (p:=9) rfl ?_);refine gG (t:=3) (p:=9) (v:=?vo2) (w1:=(c0.setCell ⟨aR,0,none⟩ (.int .i64 ee))) ?hg ?ho ?hn ?hr ?_;(case ho=>rfl);(case hg=>rfl);(case hn=>rfl);(case hr=>first | (go_simp;done) | (go_simp;rfl));intro aS hw;have hb:Below wr.heap.size wr aS:=(by rw [hw];exact dY ca.out (Nat.le_of_eq c1.out.symm));have m5:ae (aS.heap[aR]? = some (.cells #[.int .i64 ee] 3 (0,0))):=⟨by rw [hw];exact gA a2.out 0 _ rfl⟩;clear a2 hw ap ar;have a2:=m5;clear m5;replace HB:=ae.mk (aq HB.out hb);have m_:=ae.mk (Kd.dG aL.out hb);clear aL;have aL:=m_;clear m_;have m_:=ae.mk (b6 y.out hb);clear y;have y:=m_;clear m_;have m_:=ae.mk (b6 j.out hb);clear j;have j:=m_;clear m_;have m_:=ae.mk (b6 z.out hb);clear z;have z:=m_;clear m_;clear hb ca c1;have X:aS.cell? ⟨aB,0,none⟩ = some ((.int .i64 aw)):=(ah y.out 0).trans rfl;have Y:=aj y.out 0;have a0:aS.cell? ⟨aB,1,none⟩ = some ((.slice (some b2) a3.length aF)):=(ah y.out 1).trans rfl;have a1:=aj y.out 1;have a4:aS.cell? ⟨ao,0,none⟩ = some (.int .i64 0):=(ah j.out 0).trans rfl;have a5:=aj j.out 0;have a6:aS.cell? ⟨ao,1,none⟩ = some (.int .i64 0):=(ah j.out 1).trans rfl;have a7:=aj j.out 1;have a8:aS.cell? ⟨ao,2,none⟩ = some (.int .i64 0):=(ah j.out 2).trans rfl;have a9:=aj j.out 2;have ab:aS.cell? ⟨aP,0,none⟩ = some (.int .i64 aa):=(ah z.out 0).trans rfl;have am:=aj z.out 0;have ap:aS.cell? ⟨aR,0,none⟩ = some (.int .i64 ee):=(ah a2.out 0).trans rfl;have ar:=aj a2.out 0) | ((with_reducible refine aD (f:=74) rfl ?_);refine ws (some 44) Tryz.func74 #[.int .i64 (Go.bits .andNot .i64 bb aa)] ?_;(with_reducible refine (bl.calls k3 (Go.bits .andNot .i64 bb aa) fs _ A3.out).mono ?_);rintro e b0 ⟨v1,rfl,ho,hb⟩;refine ⟨_,rfl,?_⟩;obtain ⟨Af,cf,ef⟩:=Kd.bk ho;subst ef;have ba:=ae.mk (Kd.az ho).2.2;clear ho;replace HB:=ae.mk (aq HB.out hb);have m_:=ae.mk (Kd.dG aL.out hb);clear aL;have aL:=m_;clear m_;have m_:=ae.mk (b6 y.out hb);clear y;have y:=m_;clear m_;have m_:=ae.mk (b6 j.out hb);clear j;have j:=m_;clear m_;have m_:=ae.mk (b6 z.out hb);clear z;have z:=m_;clear m_;have m_:=ae.mk (b6 a2.out hb);clear a2;have a2:=m_;clear m_;have cb:=ba;clear ba;clear hb X a0 Y a1 ab am a4 a6 a8 a5 a7 a9 ap ar;have X:b0.cell? ⟨aB,0,none⟩ = some ((.int .i64 aw)):=(ah y.out 0).trans rfl;have Y:=aj y.out 0;have a0:b0.cell? ⟨aB,1,none⟩ = some ((.slice (some b2) a3.length aF)):=(ah y.out 1).trans rfl;have a1:=aj y.out 1;have a4:b0.cell? ⟨ao,0,none⟩ = some (.int .i64 0):=(ah j.out 0).trans rfl;have a5:=aj j.out 0;have a6:b0.cell? ⟨ao,1,none⟩ = some (.int .i64 0):=(ah j.out 1).trans rfl;have a7:=aj j.out 1;have a8:b0.cell? ⟨ao,2,none⟩ = some (.int .i64 0):=(ah j.out 2).trans rfl;have a9:=aj j.out 2;have ab:b0.cell? ⟨aP,0,none⟩ = some (.int .i64 aa):=(ah z.out 0).trans rfl;have am:=aj z.out 0;have ap:b0.cell? ⟨aR,0,none⟩ = some (.int .i64 ee):=(ah a2.out 0).trans rfl;have ar:=aj a2.out 0) | ((with_reducible refine aD (f:=70) rfl ?_);refine ws (some 46) Tryz.func70 #[.slice Af fs.length cf,.func (.func 174) #[] #[.pointer (some ⟨aB,0,none⟩),.pointer (some ⟨aP,0,none⟩),.pointer (some ⟨aR,0,none⟩)]] ?_;(with_reducible refine (bf.calls k3 _ _ fs _ (fun f=>cI.f k3 a3 aa ee f) true _ cb.out (cI.oa k3 aw (some b2) aF a3 aa ee aB aP aR _ y.out z.out a2.out (Kd.aN HR.out HB.out) HC.out) A4.out).mono ?_);rintro e bc ⟨rfl,hb⟩;refine ⟨_,rfl,?_⟩;replace HB:=ae.mk (aq HB.out hb);have m_:=ae.mk (Kd.dG aL.out hb);clear aL;have aL:=m_;clear m_;have m_:=ae.mk (b6 y.out hb);clear y;have y:=m_;clear m_;have m_:=ae.mk (b6 j.out hb);clear j;have j:=m_;clear m_;have m_:=ae.mk (b6 z.out hb);clear z;have z:=m_;clear m_;have m_:=ae.mk (b6 a2.out hb);clear a2;have a2:=m_;clear m_;clear hb X a0 Y a1 ab am a4 a6 a8 a5 a7 a9 ap ar;have a4:bc.cell? ⟨ao,0,none⟩ = some (.int .i64 0):=(ah j.out 0).trans rfl;have a5:=aj j.out 0;have a6:bc.cell? ⟨ao,1,none⟩ = some (.int .i64 0):=(ah j.out 1).trans rfl;have a7:=aj j.out 1;have a8:bc.cell? ⟨ao,2,none⟩ = some (.int .i64 0):=(ah j.out 2).trans rfl;have a9:=aj j.out 2;have ab:bc.cell? ⟨aP,0,none⟩ = some (.int .i64 aa):=(ah z.out 0).trans rfl;have am:=aj z.out 0;have ap:bc.cell? ⟨aR,0,none⟩ = some (.int .i64 ee):=(ah a2.out 0).trans rfl;have ar:=aj a2.out 0));go_roundg k3;case measure=>have:=bm.out;have:=bo.out;have:=cc.out;omega
         case rel=>exact ⟨(wrap64 (x3+1)),rfl,H',⟨by have:=bm.out;have:=bo.out;have:=cc.out;omega⟩,y,j,z,aL,HB⟩
        | false =>
         rw [if_neg (by decide)] at H;simp only [Option.some.injEq,Prod.mk.injEq] at H;obtain ⟨rfl,rfl,rfl,rfl⟩:=H;have ab:wr.cell? ⟨aP,0,none⟩ = some (.int .i64 aa):=(ah z.out 0).trans rfl;have am:=aj z.out 0;have X:wr.cell? ⟨aB,0,none⟩ = some ((.int .i64 aw)):=(ah y.out 0).trans rfl;have Y:=aj y.out 0;have a0:wr.cell? ⟨aB,1,none⟩ = some ((.slice (some b2) a3.length aF)):=(ah y.out 1).trans rfl;have a1:=aj y.out 1;have a4:wr.cell? ⟨ao,0,none⟩ = some (.int .i64 0):=(ah j.out 0).trans rfl;have a5:=aj j.out 0;have a6:wr.cell? ⟨ao,1,none⟩ = some (.int .i64 0):=(ah j.out 1).trans rfl;have a7:=aj j.out 1;have a8:wr.cell? ⟨ao,2,none⟩ = some (.int .i64 0):=(ah j.out 2).trans rfl;have a9:=aj j.out 2;go_wp2_with (first | ((with_reducible refine bu (N:=9) rfl ?_);refine zp 9 #[.int .i64 0] 3 ?_;intro aR hg c0 hbox hb;have d0:=ae.mk ((by rw [hg];exact ak HB.out):w.heap.size≤aR);have c1:=ae.mk hg;have ca:=ae.mk hb;have a2:=ae.mk hbox;clear hb hg hbox;have ap:c0.cell? ⟨aR,0,none⟩ = some (.int .i64 0):=(ah a2.out 0).trans rfl;have ar:=aj a2.out 0) | ((with_reducible refine gX (t:=3) (p:=9) rfl ?_);refine gG (t:=3) (p:=9) (v:=?vo3) (w1:=(c0.setCell ⟨aR,0,none⟩ (.int .i64 ee))) ?hg ?ho ?hn ?hr ?_;(case ho=>rfl);(case hg=>rfl);(case hn=>rfl);(case hr=>first | (go_simp;done) | (go_simp;rfl));intro aS hw;have hb:Below wr.heap.size wr aS:=(by rw [hw];exact dY ca.out (Nat.le_of_eq c1.out.symm));have m5:ae (aS.heap[aR]? = some (.cells #[.int .i64 ee] 3 (0,0))):=⟨by rw [hw];exact gA a2.out 0 _ rfl⟩;clear a2 hw ap ar;have a2:=m5;clear m5;replace HB:=ae.mk (aq HB.out hb);have m_:=ae.mk (Kd.dG aL.out hb);clear aL;have aL:=m_;clear m_;have m_:=ae.mk (b6 y.out hb);clear y;have y:=m_;clear m_;have m_:=ae.mk (b6 j.out hb);clear j;have j:=m_;clear m_;have m_:=ae.mk (b6 z.out hb);clear z;have z:=m_;clear m_;clear hb ca c1;have X:aS.cell? ⟨aB,0,none⟩ = some ((.int .i64 aw)):=(ah y.out 0).trans rfl;have Y:=aj y.out 0;have a0:aS.cell? ⟨aB,1,none⟩ = some ((.slice (some b2) a3.length aF)):=(ah y.out 1).trans rfl;have a1:=aj y.out 1;have a4:aS.cell? ⟨ao,0,none⟩ = some (.int .i64 0):=(ah j.out 0).trans rfl;have a5:=aj j.out 0;have a6:aS.cell? ⟨ao,1,none⟩ = some (.int .i64 0):=(ah j.out 1).trans rfl;have a7:=aj j.out 1;have a8:aS.cell? ⟨ao,2,none⟩ = some (.int .i64 0):=(ah j.out 2).trans rfl;have a9:=aj j.out 2;have ab:aS.cell? ⟨aP,0,none⟩ = some (.int .i64 aa):=(ah z.out 0).trans rfl;have am:=aj z.out 0;have ap:aS.cell? ⟨aR,0,none⟩ = some (.int .i64 ee):=(ah a2.out 0).trans rfl;have ar:=aj a2.out 0) | ((with_reducible refine aD (f:=74) rfl ?_);refine ws (some 44) Tryz.func74 #[.int .i64 (Go.bits .andNot .i64 bb aa)] ?_;(with_reducible refine (bl.calls k3 (Go.bits .andNot .i64 bb aa) fs _ A3.out).mono ?_);rintro e b0 ⟨v1,rfl,ho,hb⟩;refine ⟨_,rfl,?_⟩;obtain ⟨Af,cf,ef⟩:=Kd.bk ho;subst ef;have ba:=ae.mk (Kd.az ho).2.2;clear ho;replace HB:=ae.mk (aq HB.out hb);have m_:=ae.mk (Kd.dG aL.out hb);clear aL;have aL:=m_;clear m_;have m_:=ae.mk (b6 y.out hb);clear y;have y:=m_;clear m_;have m_:=ae.mk (b6 j.out hb);clear j;have j:=m_;clear m_;have m_:=ae.mk (b6 z.out hb);clear z;have z:=m_;clear m_;have m_:=ae.mk (b6 a2.out hb);clear a2;have a2:=m_;clear m_;have cb:=ba;clear ba;clear hb X a0 Y a1 ab am a4 a6 a8 a5 a7 a9 ap ar;have X:b0.cell? ⟨aB,0,none⟩ = some ((.int .i64 aw)):=(ah y.out 0).trans rfl;have Y:=aj y.out 0;have a0:b0.cell? ⟨aB,1,none⟩ = some ((.slice (some b2) a3.length aF)):=(ah y.out 1).trans rfl;have a1:=aj y.out 1;have a4:b0.cell? ⟨ao,0,none⟩ = some (.int .i64 0):=(ah j.out 0).trans rfl;have a5:=aj j.out 0;have a6:b0.cell? ⟨ao,1,none⟩ = some (.int .i64 0):=(ah j.out 1).trans rfl;have a7:=aj j.out 1;have a8:b0.cell? ⟨ao,2,none⟩ = some (.int .i64 0):=(ah j.out 2).trans rfl;have a9:=aj j.out 2;have ab:b0.cell? ⟨aP,0,none⟩ = some (.int .i64 aa):=(ah z.out 0).trans rfl;have am:=aj z.out 0;have ap:b0.cell? ⟨aR,0,none⟩ = some (.int .i64 ee):=(ah a2.out 0).trans rfl;have ar:=aj a2.out 0) | ((with_reducible refine aD (f:=70) rfl ?_);refine ws (some 46) Tryz.func70 #[.slice Af fs.length cf,.func (.func 174) #[] #[.pointer (some ⟨aB,0,none⟩),.pointer (some ⟨aP,0,none⟩),.pointer (some ⟨aR,0,none⟩)]] ?_;(with_reducible refine (bf.calls k3 _ _ fs _ (fun f=>cI.f k3 a3 aa ee f) false _ cb.out (cI.oa k3 aw (some b2) aF a3 aa ee aB aP aR _ y.out z.out a2.out (Kd.aN HR.out HB.out) HC.out) A4.out).mono ?_);rintro e bc ⟨rfl,hb⟩;refine ⟨_,rfl,?_⟩;replace HB:=ae.mk (aq HB.out hb);have m_:=ae.mk (Kd.dG aL.out hb);clear aL;have aL:=m_;clear m_;have m_:=ae.mk (b6 y.out hb);clear y;have y:=m_;clear m_;have m_:=ae.mk (b6 j.out hb);clear j;have j:=m_;clear m_;have m_:=ae.mk (b6 z.out hb);clear z;have z:=m_;clear m_;have m_:=ae.mk (b6 a2.out hb);clear a2;have a2:=m_;clear m_;clear hb X a0 Y a1 ab am a4 a6 a8 a5 a7 a9 ap ar;have a4:bc.cell? ⟨ao,0,none⟩ = some (.int .i64 0):=(ah j.out 0).trans rfl;have a5:=aj j.out 0;have a6:bc.cell? ⟨ao,1,none⟩ = some (.int .i64 0):=(ah j.out 1).trans rfl;have a7:=aj j.out 1;have a8:bc.cell? ⟨ao,2,none⟩ = some (.int .i64 0):=(ah j.out 2).trans rfl;have a9:=aj j.out 2;have ab:bc.cell? ⟨aP,0,none⟩ = some (.int .i64 aa):=(ah z.out 0).trans rfl;have am:=aj z.out 0;have ap:bc.cell? ⟨aR,0,none⟩ = some (.int .i64 ee):=(ah a2.out 0).trans rfl;have ar:=aj a2.out 0));refine bodyPost_ret (eV rfl _ _ ao 79 #[.int .i64 aa,.int .i64 bb,.int .i64 ee] (0,0) _ rfl (by refine gA (cs:=#[.int .i64 aa,.int .i64 bb,.int .i64 0]) ?_ 2 _ rfl;refine gA (cs:=#[.int .i64 aa,.int .i64 0,.int .i64 0]) ?_ 1 _ rfl;refine gA (cs:=#[.int .i64 0,.int .i64 0,.int .i64 0]) ?_ 0 _ rfl;exact j.out) Tryz.underlying79 rfl (by kernel_rfl)) rfl ?_;exact ⟨rfl,by repeat (first | exact HB.out | refine dY ?_ bi.out)⟩
def ct.f (k:Nat) (y:Int) (j:List Int):Option (Bool):=(aK.f k y j).bind fun z=>((cw.f k y j).bind fun X=>(if X = true then (if (j.length:Int) > 0 then (some (!z.2.2.2)) else (some false)) else (some false)))
set_option maxHeartbeats 8000000 in
set_option maxRecDepth 100000 in
theorem ct.calls (k:Nat) (z:Int) (a0:Option Addr) (a1:Nat) (y:List Int) (r:Bool) (w:World) (a6:Kd.C (Kd.int .i64) w a0 y.length y) (a7:y.length≤a1) (h:ct.f k z y = some r) :
  Calls Tryz.prog 61 #[.agg #[.int .i64 z,.slice a0 y.length a1]] w fun e w'=>e = .returned (.bool r)∧Below w.heap.size w w':=by
 have dT:=Tryz.underlying37;have e0:=Tryz.underlying79;have a2:=ae.mk a6;have a3:=ae.mk a7;clear a6 a7;have HB:=ae.mk (Below.refl w.heap.size w);unfold ct.f at h;have H:=h;clear h;obtain ⟨⟨a8,a9,aa,a5⟩,A2,H⟩:=xa H;(try dsimp only at H);obtain ⟨aB,A3,H⟩:=xa H;(try dsimp only at H);by_cases c4:aB = true
 ·subst c4
  replace H:(if (y.length:Int) > 0 then (some (!a5)) else (some false)) = some r:=by rw [if_pos rfl] at H;exact H
  by_cases c5:(y.length:Int) > 0
  ·rw [if_pos c5] at H
   have aF:=decide_eq_true c5;have aL:decide (0 < y.length) = true:=decide_eq_true (by omega);clear c5;obtain rfl:=Option.some.inj H;go_enter Tryz.func61,Tryz.ntmps61;go_wp2_with (first | ((with_reducible refine bu (N:=1) rfl ?_);(try (refine eW (by rfl) ?_;dsimp only));refine fg ?hg (N:=1) ?hd (cs:=#[.int .i64 z,.slice a0 y.length a1]) (t:=37) ?hr ?_;(case hd=>rfl);(case hg=>rfl);(case hr=>first | (go_simp;done) | (go_simp;rfl));intro ab hg w6 hbox hb;have j:=ae.mk hbox;have am:=yv hg HB;have ao:=yv hg HB;replace HB:=xi HB hb;clear hb hbox hg;obtain ⟨df,dk,dl,dp⟩:=xv j.out) | (refine ws (some 7) Tryz.func119 #[.agg #[.int .i64 z,.slice a0 y.length a1]] ?_;(with_reducible refine (aK.calls k z _ _ y a8 a9 aa a5 _ ?side1 ?side2 A2.out).mono ?_);(case side1=>exact yi (Kd.aN a2.out HB.out));(case side2=>exact a3.out);rintro e w8 ⟨rfl,hb⟩;refine ⟨_,rfl,?_⟩;replace j:=xc j hb;replace HB:=ae.mk (aq wy hb);(try clear hb);(try clear aO);(try clear hk);(try clear hi)) | ((with_reducible refine bu (N:=3) rfl ?_);(try (refine eW (by rfl) ?_;dsimp only));refine fg ?hg (N:=3) ?hd (cs:=#[.int .i64 0,.int .i64 0,.int .i64 0]) (t:=79) ?hr ?_;(case hd=>rfl);(case hg=>rfl);(case hr=>first | (go_simp;done) | (go_simp;rfl));intro ap hg w9 hbox hb;have a4:=ae.mk hbox;have ar:=AM (w:=w) hg wy;have aw:=AM (w:=w) hg wy;replace HB:=ae.mk (aq wy hb);have X:=AJ hg j;have Y:=AK hg j;replace j:=xc j hb;clear hb hbox hg;have dq:=Y.out;have dt:=X.out;obtain ⟨aP,aR,aS,b0,b2,b3⟩:=af.pZ a4.out;obtain ⟨b4,ba,bc,bi⟩:=xv j.out) | (refine ws (some 14) Tryz.func120 #[.int .i64 z,.slice a0 y.length a1] ?_;(with_reducible refine (cw.calls k z _ _ y true _ ?side1 ?side2 A3.out).mono ?_);(case side1=>exact Kd.aN a2.out wy);(case side2=>exact a3.out);rintro e w' ⟨rfl,⟨nd,rfl⟩⟩;refine ⟨_,rfl,?_⟩));go_ret;exact ⟨zd,wy⟩
  ·rw [if_neg c5] at H
   have aF:decide (0 < (y.length:Int)) = false:=decide_eq_false c5;have aL:decide (0 < y.length) = false:=decide_eq_false (by omega);clear c5;obtain rfl:=Option.some.inj H;go_enter Tryz.func61,Tryz.ntmps61;go_wp2_with (first | ((with_reducible refine bu (N:=1) rfl ?_);(try (refine eW (by rfl) ?_;dsimp only));refine fg ?hg (N:=1) ?hd (cs:=#[.int .i64 z,.slice a0 y.length a1]) (t:=37) ?hr ?_;(case hd=>rfl);(case hg=>rfl);(case hr=>first | (go_simp;done) | (go_simp;rfl));intro ab hg e1 hbox hb;have j:=ae.mk hbox;have am:=yv hg HB;have ao:=yv hg HB;replace HB:=xi HB hb;clear hb hbox hg;obtain ⟨bm,bo,bs,bv⟩:=xv j.out) | (refine ws (some 7) Tryz.func119 #[.agg #[.int .i64 z,.slice a0 y.length a1]] ?_;(with_reducible refine (aK.calls k z _ _ y a8 a9 aa a5 _ ?side1 ?side2 A2.out).mono ?_);(case side1=>exact yi (Kd.aN a2.out HB.out));(case side2=>exact a3.out);rintro e e2 ⟨rfl,hb⟩;refine ⟨_,rfl,?_⟩;replace j:=xc j hb;replace HB:=ae.mk (aq wy hb);(try clear hb);(try clear aO);(try clear hk);(try clear hi)) | ((with_reducible refine bu (N:=3) rfl ?_);(try (refine eW (by rfl) ?_;dsimp only));refine fg ?hg (N:=3) ?hd (cs:=#[.int .i64 0,.int .i64 0,.int .i64 0]) (t:=79) ?hr ?_;(case hd=>rfl);(case hg=>rfl);(case hr=>first | (go_simp;done) | (go_simp;rfl));intro ap hg e3 hbox hb;have a4:=ae.mk hbox;have ar:=AM (w:=w) hg wy;have aw:=AM (w:=w) hg wy;replace HB:=ae.mk (aq wy hb);have X:=AJ hg j;have Y:=AK hg j;replace j:=xc j hb;clear hb hbox hg;have du:=Y.out;have dv:=X.out;obtain ⟨c0,c1,ca,cb,cc,ce⟩:=af.pZ a4.out;obtain ⟨cf,ci,cp,cq⟩:=xv j.out) | (refine ws (some 14) Tryz.func120 #[.int .i64 z,.slice a0 y.length a1] ?_;(with_reducible refine (cw.calls k z _ _ y true _ ?side1 ?side2 A3.out).mono ?_);(case side1=>exact Kd.aN a2.out wy);(case side2=>exact a3.out);rintro e w' ⟨rfl,⟨nd,rfl⟩⟩;refine ⟨_,rfl,?_⟩));go_ret;exact ⟨zd,wy⟩
 ·replace c4:=Bool.eq_false_iff.mpr c4
  subst c4;replace H:(some false) = some r:=by rw [if_neg (show ¬ (false = true) by decide)] at H;exact H
  obtain rfl:=Option.some.inj H;go_enter Tryz.func61,Tryz.ntmps61;go_wp2_with (first | ((with_reducible refine bu (N:=1) rfl ?_);(try (refine eW (by rfl) ?_;dsimp only));refine fg ?hg (N:=1) ?hd (cs:=#[.int .i64 z,.slice a0 y.length a1]) (t:=37) ?hr ?_;(case hd=>rfl);(case hg=>rfl);(case hr=>first | (go_simp;done) | (go_simp;rfl));intro ab hg e4 hbox hb;have j:=ae.mk hbox;have am:=yv hg HB;have ao:=yv hg HB;replace HB:=xi HB hb;clear hb hbox hg;obtain ⟨cx,cy,d0,d1⟩:=xv j.out) | (refine ws (some 7) Tryz.func119 #[.agg #[.int .i64 z,.slice a0 y.length a1]] ?_;(with_reducible refine (aK.calls k z _ _ y a8 a9 aa a5 _ ?side1 ?side2 A2.out).mono ?_);(case side1=>exact yi (Kd.aN a2.out HB.out));(case side2=>exact a3.out);rintro e e5 ⟨rfl,hb⟩;refine ⟨_,rfl,?_⟩;replace j:=xc j hb;replace HB:=ae.mk (aq wy hb);(try clear hb);(try clear aO);(try clear hk);(try clear hi)) | ((with_reducible refine bu (N:=3) rfl ?_);(try (refine eW (by rfl) ?_;dsimp only));refine fg ?hg (N:=3) ?hd (cs:=#[.int .i64 0,.int .i64 0,.int .i64 0]) (t:=79) ?hr ?_;(case hd=>rfl);(case hg=>rfl);(case hr=>first | (go_simp;done) | (go_simp;rfl));intro ap hg e8 hbox hb;have a4:=ae.mk hbox;have ar:=AM (w:=w) hg wy;have aw:=AM (w:=w) hg wy;replace HB:=ae.mk (aq wy hb);have X:=AJ hg j;have Y:=AK hg j;replace j:=xc j hb;clear hb hbox hg;have dC:=Y.out;have dE:=X.out;obtain ⟨d2,d3,d4,d5,d6,d7⟩:=af.pZ a4.out;obtain ⟨d8,d9,db,dd⟩:=xv j.out) | (refine ws (some 14) Tryz.func120 #[.int .i64 z,.slice a0 y.length a1] ?_;(with_reducible refine (cw.calls k z _ _ y false _ ?side1 ?side2 A3.out).mono ?_);(case side1=>exact Kd.aN a2.out wy);(case side2=>exact a3.out);rintro e w' ⟨rfl,⟨nd,rfl⟩⟩;refine ⟨_,rfl,?_⟩));go_ret;exact ⟨zd,wy⟩
def dH.f (a0:Int):Option (Int):=(e7.f a0).bind fun j=>(if j = true then (if 0≤a0 then (some (wrap64 ((shl .i64 1 a0) - 1))) else (none)) else (some 0))
set_option maxHeartbeats 8000000 in
set_option maxRecDepth 100000 in
theorem dH.calls (a0:Int) (r:Int) (w:World) (h:dH.f a0 = some r) :
  Calls Tryz.prog 75 #[.int .i64 a0] w fun e w'=>e = .returned (.int .i64 r)∧cT w w':=by
 unfold dH.f at h;have H:=h;clear h;obtain ⟨a1,A2,H⟩:=xa H;(try dsimp only at H);by_cases c3:a1 = true
 ·subst c3
  replace H:(if 0≤a0 then (some (wrap64 ((shl .i64 1 a0) - 1))) else (none)) = some r:=by rw [if_pos rfl] at H;exact H
  obtain ⟨c4,H⟩:=xt H;have a7:=eq_true c4;have a8:decide (0≤a0) = true:=decide_eq_true c4;clear c4;obtain ⟨y,j⟩:∃ j_:Int,(shl .i64 1 a0) = j_:=⟨_,rfl⟩
  replace H:(some (wrap64 ((y) - 1))) = some r:=by first | (rw [j] at H;exact H) | (simp only [j] at H ⊢;exact H)
  (try rw [j] at A2);have z:(IntKind.i64.wrap (1 * 2 ^ min a0.toNat 64)) = y:=j;have X:a0≤64→(IntKind.i64.wrap (1 * 2 ^ a0.toNat)) = y:=eX j;have a3:(IntKind.i64.wrap (2 ^ min a0.toNat 64)) = y:=by have Y:=z;rw [Int.one_mul] at Y;exact Y
  have a4:a0≤64→(IntKind.i64.wrap (2 ^ a0.toNat)) = y:=fun a2=>by have Y:=X a2;rw [Int.one_mul] at Y;exact Y
  have a5:(wrap64 (1 * 2 ^ min a0.toNat 64)) = y:=(b7 _).symm.trans z;have a6:a0≤64→(wrap64 (1 * 2 ^ a0.toNat)) = y:=fun Y=>(b7 _).symm.trans (X Y)
  obtain rfl:=Option.some.inj H;go_enter Tryz.func75,Tryz.ntmps75;go_wp2_with (first | (refine ws (some 4) Tryz.func133 #[.int .i64 a0] ?_;(with_reducible refine (e7.calls a0 true _ A2.out).mono ?_);rintro e w' ⟨rfl,⟨nd,rfl⟩⟩;refine ⟨_,rfl,?_⟩));go_ret;exact ⟨by first | rfl | (simp;done) | (simp only [← j] <;> (first | rfl | simp)) | (simp [*];done),zt⟩
 ·replace c3:=Bool.eq_false_iff.mpr c3
  subst c3;replace H:(some 0) = some r:=by rw [if_neg (show ¬ (false = true) by decide)] at H;exact H
  obtain rfl:=Option.some.inj H;go_enter Tryz.func75,Tryz.ntmps75;go_wp2_with (first | (refine ws (some 4) Tryz.func133 #[.int .i64 a0] ?_;(with_reducible refine (e7.calls a0 false _ A2.out).mono ?_);rintro e w' ⟨rfl,⟨nd,rfl⟩⟩;refine ⟨_,rfl,?_⟩));go_ret;exact ⟨ww,zt⟩
def dD.f (k:Nat) (a0:Int):Option (Int):=(bl.f k a0).bind fun j=>(if 0 < (j.length:Int) then (some (rd j 0)) else (none))
set_option maxHeartbeats 8000000 in
set_option maxRecDepth 100000 in
theorem dD.calls (k:Nat) (a0:Int) (r:Int) (w:World) (h:dD.f k a0 = some r) :
  Calls Tryz.prog 76 #[.int .i64 a0] w fun e w'=>e = .returned (.int .i64 r)∧Below w.heap.size w w':=by
 have HB:=ae.mk (Below.refl w.heap.size w);unfold dD.f at h;have H:=h;clear h;obtain ⟨y,A2,H⟩:=xa H;(try dsimp only at H);obtain ⟨c3,H⟩:=xt H;have a6:=decide_eq_true c3;have a7:decide (0 < y.length) = true:=decide_eq_true (by omega);clear c3;obtain rfl:=Option.some.inj H;go_enter Tryz.func76,Tryz.ntmps76;go_wp2_with (first | (refine ws (some 4) Tryz.func74 #[.int .i64 a0] ?_;(with_reducible refine (bl.calls k a0 y _ A2.out).mono ?_);rintro e w4 ⟨a8,rfl,a1,hb⟩;refine ⟨_,rfl,?_⟩;have z:=ae.mk (Kd.b5 a1 (ak (wx HB.out)));replace HB:=xi HB hb;(try clear hb);(try clear a9);(try clear hk);(try clear hi);(try clear a1);obtain ⟨aa,ab,a3⟩:=Kd.bk z.out;subst a3;have X:0≤(0:Int):=(by omega);have Y:0 < (y.length:Int):=yk;obtain ⟨a4,a2,j⟩:=Kd.fC (Kd.az z.out).2.2 0 X Y;cases a2;have a5:(0 < y.length) = True:=eq_true (by omega);(try rw [show ((0:Int)).toNat = 0 from rfl] at j);(try rw [Addr.add_zero'] at j);replace X:=eq_true X;replace Y:=eq_true Y));go_ret;exact ⟨zd,wy⟩
def cB.l0:Nat→Int→Int→Int→List Int→Int→Int→Int→List Int→Option (Int)
 | 0,_,_,_,_,_,_,_,_=>none
 | k+1,x1,x2,x7,X,Y,y,z,j=>if y < Y then (if 0≤y then (if y < (X.length:Int) then (if 0≤(rd X y) then (if 0≤x2 then ((cW.f k j (Go.bits .or .i64 (Go.bits .andNot .i64 x1 (shl .i64 1 (rd X y))) (shl .i64 1 x2))).bind fun a0=>(if a0 = true then (cB.l0 k x1 x2 (Go.bits .or .i64 x7 (shl .i64 1 (rd X y))) X Y (wrap64 (y+1)) z j) else (cB.l0 k x1 x2 x7 X Y (wrap64 (y+1)) z j))) else (none)) else (none)) else (none)) else (none)) else (some x7)
def cB.f (k:Nat) (y:Int) (z:List Int) (X:Int) (a2:Int):Option (Int):=if 0≤a2 then ((bl.f k X).bind fun j=>(cB.l0 k X a2 (shl .i64 1 a2) j (j.length:Int) 0 y z)) else (none)
set_option maxHeartbeats 8000000 in
set_option maxRecDepth 100000 in
theorem cB.calls (k:Nat) (a0:Int) (aa:Option Addr) (ab:Nat) (z:List Int) (a1:Int) (a2:Int) (r:Int) (w:World) (aL:Kd.C (Kd.int .i64) w aa z.length z) (aO:z.length≤ab) (h:cB.f k a0 z a1 a2 = some r) :
  Calls Tryz.prog 77 #[.agg #[.int .i64 a0,.slice aa z.length ab],.int .i64 a1,.int .i64 a2] w fun e w'=>e = .returned (.int .i64 r)∧Below w.heap.size w w':=by
 have dC:=Tryz.underlying37;have a5:=ae.mk aL;have a6:=ae.mk aO;clear aL aO;have HB:=ae.mk (Below.refl w.heap.size w);unfold cB.f at h;have H:=h;clear h;obtain ⟨c4,H⟩:=xt H;have dE:=eq_true c4;have dT:decide (0≤a2) = true:=decide_eq_true c4;clear c4;obtain ⟨a4,a8⟩:∃ j_:Int,(shl .i64 1 a2) = j_:=⟨_,rfl⟩
 replace H:((bl.f k a1).bind fun y=>(cB.l0 k a1 a2 a4 y (y.length:Int) 0 a0 z)) = some r:=by first | (rw [a8] at H;exact H) | (simp only [a8] at H ⊢;exact H)
 have aP:(IntKind.i64.wrap (1 * 2 ^ min a2.toNat 64)) = a4:=a8;have aR:a2≤64→(IntKind.i64.wrap (1 * 2 ^ a2.toNat)) = a4:=eX a8;have d8:(IntKind.i64.wrap (2 ^ min a2.toNat 64)) = a4:=by have h_:=aP;rw [Int.one_mul] at h_;exact h_
 have d9:a2≤64→(IntKind.i64.wrap (2 ^ a2.toNat)) = a4:=fun aS=>by have h_:=aR aS;rw [Int.one_mul] at h_;exact h_
 have db:(wrap64 (1 * 2 ^ min a2.toNat 64)) = a4:=(b7 _).symm.trans aP;have dd:a2≤64→(wrap64 (1 * 2 ^ a2.toNat)) = a4:=fun h_=>(b7 _).symm.trans (aR h_)
 obtain ⟨y,A6,H⟩:=xa H;(try dsimp only at H);have H':=ae.mk H;clear H;go_enter Tryz.func77,Tryz.ntmps77;go_wp2_with (first | ((with_reducible refine bu (N:=3) rfl ?_);refine zp 3 #[.int .i64 a0,.slice aa z.length ab] 37 ?_;intro ar hg w7 hbox hb;have X:=ae.mk hbox;have b0:=yv hg HB;have b2:=yv hg HB;replace HB:=xi HB hb;clear hb hbox hg) | (go_at_call 74;(with_reducible refine (bl.calls k a1 y _ A6.out).mono ?_);rintro e w8 ⟨bm,rfl,ao,hb⟩;have a7:=ae.mk (Kd.b5 ao (ak (wx HB.out)));replace X:=xc X hb;replace HB:=xi HB hb;(try clear hb);(try clear cb);(try clear hk);(try clear hi);(try clear ao);obtain ⟨bo,bs,b3⟩:=Kd.bk a7.out;subst b3));repeat (go_quiet (first | ((with_reducible refine bu (N:=3) rfl ?_);refine zp 3 #[.int .i64 a0,.slice aa z.length ab] 37 ?_;intro ar hg w7 hbox hb;have X:=ae.mk hbox;have b0:=yv hg HB;have b2:=yv hg HB;replace HB:=xi HB hb;clear hb hbox hg) | (go_at_call 74;(with_reducible refine (bl.calls k a1 y _ A6.out).mono ?_);rintro e w8 ⟨bm,rfl,ao,hb⟩;have a7:=ae.mk (Kd.b5 ao (ak (wx HB.out)));replace X:=xc X hb;replace HB:=xi HB hb;(try clear hb);(try clear cb);(try clear hk);(try clear hi);(try clear ao);obtain ⟨bo,bs,b3⟩:=Kd.bk a7.out;subst b3));try go_wp2_with (first | ((with_reducible refine bu (N:=3) rfl ?_);refine zp 3 #[.int .i64 a0,.slice aa z.length ab] 37 ?_;intro ar hg w7 hbox hb;have X:=ae.mk hbox;have b0:=yv hg HB;have b2:=yv hg HB;replace HB:=xi HB hb;clear hb hbox hg) | (go_at_call 74;(with_reducible refine (bl.calls k a1 y _ A6.out).mono ?_);rintro e w8 ⟨bm,rfl,ao,hb⟩;have a7:=ae.mk (Kd.b5 ao (ak (wx HB.out)));replace X:=xc X hb;replace HB:=xi HB hb;(try clear hb);(try clear cb);(try clear hk);(try clear hi);(try clear ao);obtain ⟨bo,bs,b3⟩:=Kd.bk a7.out;subst b3)))
 go_loopg [7,15] k (fun kq v7 df w'=>∃ (a3:Int) (j:Int),v7 = .int .i64 a3∧df = .int .i64 j∧ae (cB.l0 kq a1 a2 a3 y (y.length:Int) j a0 z = some r)∧ae (kq≤k)∧ae (Kd.R (Kd.int .i64) 3 w' w.heap.size (fun _=>True) (.slice bo y.length bs) y)∧ae (w'.heap[ar]? = some (.cells #[.int .i64 a0,(.slice aa z.length ab)] 37 (0,0)))∧ae (Below w.heap.size w w'))
 case atStart=>exact ⟨(a4),(0),(by first | rfl | (simp;done) | (simp only [← a8] <;> (first | rfl | simp)) | (simp [*];done)),ww,H',⟨Nat.le_refl _⟩,⟨ac a7.out⟩,⟨xf X.out⟩,⟨wx HB.out⟩⟩
 case round =>
  clear H';obtain ⟨a3,j,rfl,rfl,HA,bc,am,X,HB⟩:=hrel;cases gk with
  | zero=>exact absurd HA.out (by simp [cB.l0])
  | succ k1 =>
   have H:=HA.out;clear HA;simp only [cB.l0] at H;by_cases iN:j < (y.length:Int)
   ·rw [if_pos iN] at H
    have bv:=decide_eq_true iN;clear iN;obtain ⟨cc,H⟩:=xt H;have dk:=decide_eq_true cc;clear cc;obtain ⟨ce,H⟩:=xt H;have dl:=decide_eq_true ce;clear ce;obtain ⟨c0,H⟩:=xt H;have dp:=eq_true c0;have dq:decide (0≤(rd y j)) = true:=decide_eq_true c0;clear c0;obtain ⟨Y,a9⟩:∃ j_:Int,(shl .i64 1 (rd y j)) = j_:=⟨_,rfl⟩
    replace H:(if 0≤a2 then ((cW.f k1 z (Go.bits .or .i64 (Go.bits .andNot .i64 a1 (Y)) (shl .i64 1 a2))).bind fun ap=>(if ap = true then (cB.l0 k1 a1 a2 (Go.bits .or .i64 a3 (Y)) y (y.length:Int) (wrap64 (j+1)) a0 z) else (cB.l0 k1 a1 a2 a3 y (y.length:Int) (wrap64 (j+1)) a0 z))) else (none)) = some r:=by first | (rw [a9] at H;exact H) | (simp only [a9] at H ⊢;exact H)
    have aw:(IntKind.i64.wrap (1 * 2 ^ min (rd y j).toNat 64)) = Y:=a9;have aB:(rd y j)≤64→(IntKind.i64.wrap (1 * 2 ^ (rd y j).toNat)) = Y:=eX a9;have d4:(IntKind.i64.wrap (2 ^ min (rd y j).toNat 64)) = Y:=by have h_:=aw;rw [Int.one_mul] at h_;exact h_
    have d5:(rd y j)≤64→(IntKind.i64.wrap (2 ^ (rd y j).toNat)) = Y:=fun aS=>by have h_:=aB aS;rw [Int.one_mul] at h_;exact h_
    have d6:(wrap64 (1 * 2 ^ min (rd y j).toNat 64)) = Y:=(b7 _).symm.trans aw;have d7:(rd y j)≤64→(wrap64 (1 * 2 ^ (rd y j).toNat)) = Y:=fun h_=>(b7 _).symm.trans (aB h_)
    obtain ⟨c1,H⟩:=xt H;have dt:=eq_true c1;have du:decide (0≤a2) = true:=decide_eq_true c1;clear c1;replace H:((cW.f k1 z (Go.bits .or .i64 (Go.bits .andNot .i64 a1 (Y)) (a4))).bind fun ap=>(if ap = true then (cB.l0 k1 a1 a2 (Go.bits .or .i64 a3 (Y)) y (y.length:Int) (wrap64 (j+1)) a0 z) else (cB.l0 k1 a1 a2 a3 y (y.length:Int) (wrap64 (j+1)) a0 z))) = some r:=by first | (rw [a8] at H;exact H) | (simp only [a8] at H ⊢;exact H)
    obtain ⟨ap,aF,H⟩:=xa H;(try dsimp only at H);by_cases bi:ap = true
    ·subst bi
     replace H:(cB.l0 k1 a1 a2 (Go.bits .or .i64 a3 (Y)) y (y.length:Int) (wrap64 (j+1)) a0 z) = some r:=by rw [if_pos rfl] at H;exact H
     have dv:=eq_true (yk:0≤(rd y j));have H':=ae.mk H;clear H;obtain ⟨ca,b4,ba,cf,ci⟩:=At (Kd.az am.out).2.2 j;cases b4
     obtain ⟨cp,cq,cx,cy⟩:=xv X.out;go_wp2_with (first | (go_at_call 73;(with_reducible refine (cW.calls k1 _ _ z (Go.bits .or .i64 (Go.bits .andNot .i64 a1 (Y)) (a4)) true _ ?side1 ?side2 aF.out).mono ?_);(case side1=>exact yi (Kd.aN a5.out HB.out));(case side2=>exact a6.out);rintro e w' ⟨rfl,⟨nd,rfl⟩⟩;(try exact AH)));repeat (go_quiet (first | (go_at_call 73;(with_reducible refine (cW.calls k1 _ _ z (Go.bits .or .i64 (Go.bits .andNot .i64 a1 (Y)) (a4)) true _ ?side1 ?side2 aF.out).mono ?_);(case side1=>exact yi (Kd.aN a5.out HB.out));(case side2=>exact a6.out);rintro e w' ⟨rfl,⟨nd,rfl⟩⟩;(try exact AH)));try go_wp2_with (first | (go_at_call 73;(with_reducible refine (cW.calls k1 _ _ z (Go.bits .or .i64 (Go.bits .andNot .i64 a1 (Y)) (a4)) true _ ?side1 ?side2 aF.out).mono ?_);(case side1=>exact yi (Kd.aN a5.out HB.out));(case side2=>exact a6.out);rintro e w' ⟨rfl,⟨nd,rfl⟩⟩;(try exact AH))))
     go_roundg k1;case measure=>have:=bc.out;omega
     case rel=>exact ⟨(Go.bits .or .i64 a3 (Y)),(wrap64 (j+1)),(by first | rfl | (simp;done) | (simp only [← a9] <;> (first | rfl | simp)) | (simp [*];done)),ww,H',⟨by have:=bc.out;omega⟩,⟨ac am.out⟩,⟨xf X.out⟩,⟨wx HB.out⟩⟩
    ·replace bi:=Bool.eq_false_iff.mpr bi
     subst bi;replace H:(cB.l0 k1 a1 a2 a3 y (y.length:Int) (wrap64 (j+1)) a0 z) = some r:=by rw [if_neg (show ¬ (false = true) by decide)] at H;exact H
     have H':=ae.mk H;clear H;obtain ⟨ca,b4,ba,cf,ci⟩:=At (Kd.az am.out).2.2 j;cases b4
     obtain ⟨d0,d1,d2,d3⟩:=xv X.out;go_wp2_with (first | (go_at_call 73;(with_reducible refine (cW.calls k1 _ _ z (Go.bits .or .i64 (Go.bits .andNot .i64 a1 (Y)) (a4)) false _ ?side1 ?side2 aF.out).mono ?_);(case side1=>exact yi (Kd.aN a5.out HB.out));(case side2=>exact a6.out);rintro e w' ⟨rfl,⟨nd,rfl⟩⟩;(try exact AH)));repeat (go_quiet (first | (go_at_call 73;(with_reducible refine (cW.calls k1 _ _ z (Go.bits .or .i64 (Go.bits .andNot .i64 a1 (Y)) (a4)) false _ ?side1 ?side2 aF.out).mono ?_);(case side1=>exact yi (Kd.aN a5.out HB.out));(case side2=>exact a6.out);rintro e w' ⟨rfl,⟨nd,rfl⟩⟩;(try exact AH)));try go_wp2_with (first | (go_at_call 73;(with_reducible refine (cW.calls k1 _ _ z (Go.bits .or .i64 (Go.bits .andNot .i64 a1 (Y)) (a4)) false _ ?side1 ?side2 aF.out).mono ?_);(case side1=>exact yi (Kd.aN a5.out HB.out));(case side2=>exact a6.out);rintro e w' ⟨rfl,⟨nd,rfl⟩⟩;(try exact AH))))
     go_roundg k1;case measure=>have:=bc.out;omega
     case rel=>exact ⟨(a3),(wrap64 (j+1)),ww,ww,H',⟨by have:=bc.out;omega⟩,⟨ac am.out⟩,⟨xf X.out⟩,⟨wx HB.out⟩⟩
   ·rw [if_neg iN] at H
    have bv:decide (j < (y.length:Int)) = false:=decide_eq_false iN;clear iN;obtain rfl:=Option.some.inj H;go_wp2;repeat (go_quiet (fail);try go_wp2)
    go_ret;exact ⟨by first | rfl | (simp [fD,fE] <;> rfl) | (simp only [← a8];first | rfl | (simp [fD,fE] <;> rfl)) | (simp [*,fD,fE] <;> rfl),wy⟩
mutual
def aH.j0:Nat→Int→Bool→Int→List Int→Option (Int)
 | 0,_,_,_,_=>none
 | k+1,x1,a4,j,y=>if a4 = true then (some 0) else ((dH.f j).bind fun a1=>((bl.f k (Go.bits .andNot .i64 a1 x1)).bind fun Y=>(aH.l0 k x1 0 Y (Y.length:Int) 0 j y)))
def aH.l0:Nat→Int→Int→List Int→Int→Int→Int→List Int→Option (Int)
 | 0,_,_,_,_,_,_,_=>none
 | k+1,x1,x5,X,a0,z,j,y=>if z < a0 then (if 0≤z then (if z < (X.length:Int) then ((cB.f k j y x1 (rd X z)).bind fun a2=>((dD.f k a2).bind fun a3=>(if a3 = (rd X z) then (if 0≤(rd X z) then (aH.l0 k x1 (Go.bits .or .i64 x5 (shl .i64 1 (rd X z))) X a0 (wrap64 (z+1)) j y) else (none)) else (aH.l0 k x1 x5 X a0 (wrap64 (z+1)) j y)))) else (none)) else (none)) else (some x5)
end
def aH.f (k:Nat) (y:Int) (j:List Int) (Y:Int):Option (Int):=(ct.f k y j).bind fun z=>(if z = true then ((cW.f k j Y).bind fun X=>(aH.j0 k Y (!X) y j)) else (aH.j0 k Y true y j))
set_option maxHeartbeats 8000000 in
set_option maxRecDepth 100000 in
theorem aH.calls (k:Nat) (Y:Int) (a3:Option Addr) (a4:Nat) (X:List Int) (a1:Int) (r:Int) (w:World) (aL:Kd.C (Kd.int .i64) w a3 X.length X) (aO:X.length≤a4) (h:aH.f k Y X a1 = some r) :
  Calls Tryz.prog 29 #[.agg #[.int .i64 Y,.slice a3 X.length a4],.int .i64 a1] w fun e w'=>e = .returned (.int .i64 r)∧Below w.heap.size w w':=by
 have ej:=Tryz.underlying37;have a6:=ae.mk aL;have a7:=ae.mk aO;clear aL aO;have HB:=ae.mk (Below.refl w.heap.size w);unfold aH.f at h;have H:=h;clear h;have bc:=ae.mk H;clear H;go_enter Tryz.func29,Tryz.ntmps29;go_upto_region 1 with (first | ((with_reducible refine bu (N:=2) rfl ?_);refine zp 2 #[.int .i64 Y,.slice a3 X.length a4] 37 ?_;intro aP hg w4 hbox hb;have y:=ae.mk hbox;have e5:=yv hg HB;have e8:=yv hg HB;replace HB:=xi HB hb;clear hb hbox hg))
 (try simp only [Act.put,List.setIfInBounds_toArray,List.set_cons_zero,List.set_cons_succ]);go_cut [17] (fun ea wc=>∃ (kq:Nat) (ab:Bool),ea = .bool ab∧ae (aH.j0 kq a1 ab Y X = some r)∧ae (kq≤k)∧ae (wc.heap[aP]? = some (.cells #[.int .i64 Y,(.slice a3 X.length a4)] 37 (0,0)))∧ae (Below w.heap.size w wc))
 case first =>
  have H:=bc.out;clear bc;obtain ⟨ca,A5,H⟩:=xa H;(try dsimp only at H);by_cases c6:ca = true
  ·subst c6
   replace H:((cW.f k X a1).bind fun ap=>(aH.j0 k a1 (!ap) Y X)) = some r:=by rw [if_pos rfl] at H;exact H
   obtain ⟨ap,A7,H⟩:=xa H;(try dsimp only at H);have H':=ae.mk H;clear H;obtain ⟨dC,dE,dT,e0⟩:=xv y.out;go_wp2_with (first | ((with_reducible refine aD (f:=61) rfl ?_);refine ws (some 9) Tryz.func61 #[.agg #[.int .i64 Y,.slice a3 X.length a4]] ?_;(with_reducible refine (ct.calls k Y _ _ X true _ ?side1 ?side2 A5.out).mono ?_);(case side1=>exact yi (Kd.aN a6.out HB.out));(case side2=>exact a7.out);rintro e w9 ⟨rfl,hb⟩;refine ⟨_,rfl,?_⟩;replace y:=xc y hb;replace HB:=xi HB hb;(try clear hb);(try clear aB);(try clear hk);(try clear hi);obtain ⟨cb,cc,ce,cf⟩:=xv y.out) | (go_at_call 73;(with_reducible refine (cW.calls k _ _ X a1 ap _ ?side1 ?side2 A7.out).mono ?_);(case side1=>exact yi (Kd.aN a6.out HB.out));(case side2=>exact a7.out);rintro e w' ⟨rfl,⟨nd,rfl⟩⟩));go_meet
   case rel=>exact ⟨_,(!ap),ww,H',⟨by first | omega | exact Nat.le_refl _⟩,⟨xf y.out⟩,⟨wx HB.out⟩⟩
  ·replace c6:=Bool.eq_false_iff.mpr c6
   subst c6;replace H:(aH.j0 k a1 true Y X) = some r:=by rw [if_neg (show ¬ (false = true) by decide)] at H;exact H
   have H':=ae.mk H;clear H;obtain ⟨ci,cp,cq,cx⟩:=xv y.out;go_wp2_with (first | ((with_reducible refine aD (f:=61) rfl ?_);refine ws (some 9) Tryz.func61 #[.agg #[.int .i64 Y,.slice a3 X.length a4]] ?_;(with_reducible refine (ct.calls k Y _ _ X false _ ?side1 ?side2 A5.out).mono ?_);(case side1=>exact yi (Kd.aN a6.out HB.out));(case side2=>exact a7.out);rintro e em ⟨rfl,hb⟩;refine ⟨_,rfl,?_⟩;replace y:=xc y hb;replace HB:=xi HB hb;(try clear hb);(try clear aB);(try clear hk);(try clear hi)));go_meet
   case rel=>exact ⟨_,(true),ww,H',⟨by first | omega | exact Nat.le_refl _⟩,⟨xf y.out⟩,⟨wx HB.out⟩⟩
 case rest =>
  clear bc;obtain ⟨kq,ab,rfl,HA,b3,y,HB⟩:=hcut;cases kq with
  | zero=>exact absurd HA.out (by simp [aH.j0])
  | succ aR =>
   have H:=HA.out;clear HA;simp only [aH.j0] at H;by_cases b4:ab = true
   ·subst b4
    replace H:(some 0) = some r:=by rw [if_pos rfl] at H;exact H
    obtain rfl:=Option.some.inj H;go_wp2;go_ret;exact ⟨zd,wy⟩
   ·replace b4:=Bool.eq_false_iff.mpr b4
    subst b4;replace H:((dH.f Y).bind fun am=>((bl.f aR (Go.bits .andNot .i64 am a1)).bind fun z=>(aH.l0 aR a1 0 z (z.length:Int) 0 Y X))) = some r:=by rw [if_neg (show ¬ (false = true) by decide)] at H;exact H
    obtain ⟨am,eb,H⟩:=xa H;(try dsimp only at H);obtain ⟨z,ec,H⟩:=xa H;(try dsimp only at H);have H':=ae.mk H;clear H;obtain ⟨cy,d0,d1,d2⟩:=xv y.out;go_wp2_with (first | ((with_reducible refine aD (f:=75) rfl ?_);refine ws (some 20) Tryz.func75 #[.int .i64 Y] ?_;(with_reducible refine (dH.calls Y am _ eb.out).mono ?_);rintro e w' ⟨rfl,⟨nd,rfl⟩⟩;refine ⟨_,rfl,?_⟩) | ((with_reducible refine aD (f:=74) rfl ?_);refine ws (some 23) Tryz.func74 #[.int .i64 (Go.bits .andNot .i64 am a1)] ?_;(with_reducible refine (bl.calls aR (Go.bits .andNot .i64 am a1) z _ ec.out).mono ?_);rintro e eo ⟨el,rfl,d3,hb⟩;refine ⟨_,rfl,?_⟩;have aS:=ae.mk (Kd.b5 d3 (ak (wx HB.out)));replace y:=xc y hb;replace HB:=xi HB hb;(try clear hb);(try clear aB);(try clear hk);(try clear hi);(try clear d3);obtain ⟨d4,d5,d6⟩:=Kd.bk aS.out;subst d6));go_loopg [5,25] aR (fun kq v5 ed w'=>∃ (a9:Int) (j:Int),v5 = .int .i64 a9∧ed = .int .i64 j∧ae (aH.l0 kq a1 a9 z (z.length:Int) j Y X = some r)∧ae (kq≤aR)∧ae (Kd.R (Kd.int .i64) 3 w' w.heap.size (fun _=>True) (.slice d4 z.length d5) z)∧ae (w'.heap[aP]? = some (.cells #[.int .i64 Y,(.slice a3 X.length a4)] 37 (0,0)))∧ae (Below w.heap.size w w'))
    case atStart=>exact ⟨(0),(0),ww,ww,H',⟨Nat.le_refl _⟩,⟨ac aS.out⟩,⟨xf y.out⟩,⟨wx HB.out⟩⟩
    case round =>
     clear H';obtain ⟨a9,j,rfl,rfl,HA,ba,a0,y,HB⟩:=hrel;cases gk with
     | zero=>exact absurd HA.out (by simp [aH.l0])
     | succ k2 =>
      have H:=HA.out;clear HA;simp only [aH.l0] at H;by_cases aF:j < (z.length:Int)
      ·rw [if_pos aF] at H
       have bi:=decide_eq_true aF;clear aF;obtain ⟨d7,H⟩:=xt H;have ee:=decide_eq_true d7;clear d7;obtain ⟨d8,H⟩:=xt H;have ef:=decide_eq_true d8;clear d8;obtain ⟨aa,bm,H⟩:=xa H;(try dsimp only at H);obtain ⟨a8,bo,H⟩:=xa H;(try dsimp only at H);by_cases ao:a8 = (rd z j)
       ·rw [if_pos ao] at H
        have bs:(a8 == (rd z j)) = true:=beq_iff_eq.mpr ao;have bv:(a8 != (rd z j)) = false:=bne_eq_false_iff_eq.mpr ao;clear ao;obtain ⟨c0,H⟩:=xt H;have eh:=eq_true c0;have ei:decide (0≤(rd z j)) = true:=decide_eq_true c0;clear c0;obtain ⟨a5,a2⟩:∃ j_:Int,(shl .i64 1 (rd z j)) = j_:=⟨_,rfl⟩
        replace H:(aH.l0 k2 a1 (Go.bits .or .i64 a9 (a5)) z (z.length:Int) (wrap64 (j+1)) Y X) = some r:=by first | (rw [a2] at H;exact H) | (simp only [a2] at H ⊢;exact H)
        (try rw [a2] at bm);(try rw [a2] at bo);have ar:(IntKind.i64.wrap (1 * 2 ^ min (rd z j).toNat 64)) = a5:=a2;have aw:(rd z j)≤64→(IntKind.i64.wrap (1 * 2 ^ (rd z j).toNat)) = a5:=eX a2;have e1:(IntKind.i64.wrap (2 ^ min (rd z j).toNat 64)) = a5:=by have h_:=ar;rw [Int.one_mul] at h_;exact h_
        have e2:(rd z j)≤64→(IntKind.i64.wrap (2 ^ (rd z j).toNat)) = a5:=fun d9=>by have h_:=aw d9;rw [Int.one_mul] at h_;exact h_
        have e3:(wrap64 (1 * 2 ^ min (rd z j).toNat 64)) = a5:=(b7 _).symm.trans ar;have e4:(rd z j)≤64→(wrap64 (1 * 2 ^ (rd z j).toNat)) = a5:=fun h_=>(b7 _).symm.trans (aw h_)
        have H':=ae.mk H;clear H;obtain ⟨c1,b0,b2,db,dd⟩:=At (Kd.az a0.out).2.2 j;cases b0
        obtain ⟨df,dk,dl,dp⟩:=xv y.out;go_wp2_with (first | ((with_reducible refine aD (f:=77) rfl ?_);refine ws (some 32) Tryz.func77 #[.agg #[.int .i64 Y,.slice a3 X.length a4],.int .i64 a1,.int .i64 (rd z j)] ?_;(with_reducible refine (cB.calls k2 Y _ _ X a1 (rd z j) aa _ ?side1 ?side2 bm.out).mono ?_);(case side1=>exact yi (Kd.aN a6.out HB.out));(case side2=>exact a7.out);rintro e eq ⟨rfl,hb⟩;refine ⟨_,rfl,?_⟩;replace a0:=z2 a0 hb;replace y:=xc y hb;replace HB:=xi HB hb;(try clear hb);(try clear aB);(try clear hk);(try clear hi)) | ((with_reducible refine aD (f:=76) rfl ?_);refine ws (some 33) Tryz.func76 #[.int .i64 aa] ?_;(with_reducible refine (dD.calls k2 aa a8 _ bo.out).mono ?_);rintro e es ⟨rfl,hb⟩;refine ⟨_,rfl,?_⟩;replace a0:=z2 a0 hb;replace y:=xc y hb;replace HB:=xi HB hb;(try clear hb);(try clear aB);(try clear hk);(try clear hi)));go_roundg k2;case measure=>have:=b3.out;have:=ba.out;omega
        case rel=>exact ⟨(Go.bits .or .i64 a9 (a5)),(wrap64 (j+1)),(by first | rfl | (simp;done) | (simp only [← a2] <;> (first | rfl | simp)) | (simp [*];done)),ww,H',⟨by have:=b3.out;have:=ba.out;omega⟩,⟨ac a0.out⟩,⟨xf y.out⟩,⟨wx HB.out⟩⟩
       ·rw [if_neg ao] at H
        have bs:(a8 == (rd z j)) = false:=beq_eq_false_iff_ne.mpr ao;have bv:(a8 != (rd z j)) = true:=bne_iff_ne.mpr ao;have H':=ae.mk H;clear H;obtain ⟨c1,b0,b2,db,dd⟩:=At (Kd.az a0.out).2.2 j;cases b0
        obtain ⟨dq,dt,du,dv⟩:=xv y.out;go_wp2_with (first | ((with_reducible refine aD (f:=77) rfl ?_);refine ws (some 32) Tryz.func77 #[.agg #[.int .i64 Y,.slice a3 X.length a4],.int .i64 a1,.int .i64 (rd z j)] ?_;(with_reducible refine (cB.calls k2 Y _ _ X a1 (rd z j) aa _ ?side1 ?side2 bm.out).mono ?_);(case side1=>exact yi (Kd.aN a6.out HB.out));(case side2=>exact a7.out);rintro e et ⟨rfl,hb⟩;refine ⟨_,rfl,?_⟩;replace a0:=z2 a0 hb;replace y:=xc y hb;replace HB:=xi HB hb;(try clear hb);(try clear aB);(try clear hk);(try clear hi)) | ((with_reducible refine aD (f:=76) rfl ?_);refine ws (some 33) Tryz.func76 #[.int .i64 aa] ?_;(with_reducible refine (dD.calls k2 aa a8 _ bo.out).mono ?_);rintro e ev ⟨rfl,hb⟩;refine ⟨_,rfl,?_⟩;replace a0:=z2 a0 hb;replace y:=xc y hb;replace HB:=xi HB hb;(try clear hb);(try clear aB);(try clear hk);(try clear hi)));go_roundg k2;case measure=>have:=b3.out;have:=ba.out;omega
        case rel=>exact ⟨(a9),(wrap64 (j+1)),ww,ww,H',⟨by have:=b3.out;have:=ba.out;omega⟩,⟨ac a0.out⟩,⟨xf y.out⟩,⟨wx HB.out⟩⟩
      ·rw [if_neg aF] at H
       have bi:decide (j < (z.length:Int)) = false:=decide_eq_false aF;clear aF;obtain rfl:=Option.some.inj H;go_wp2;go_ret;exact ⟨zd,wy⟩
end Pr
end
section
namespace zN
open Go.Shelf Go.Proofs
def q5:Go.Shelf.Ren:=⟨fun | 189=>140 | 125=>117 | 257=>188 | 128=>172 | 129=>173 | 294=>204 | 295=>205 | 296=>206 | 297=>207 | 298=>208 | 299=>209 | 216=>210 | 300=>211 | 301=>212 | 328=>227 | 329=>197 | 330=>198 | 331=>228 | 332=>229 | 215=>195 | 343=>237 | n=>n,fun | 28=>22 | 3=>3 | 46=>58 | 0=>0 | 51=>118 | 53=>120 | 4=>4 | 183=>112 | 182=>111 | 131=>35 | 5=>5 | 9=>9 | 218=>126 | 222=>130 | 228=>146 | 229=>147 | n=>n,fun | n=>n⟩
theorem qT:Go.Proofs.Lays.n189 Tryz.prog q5:={
 mixed:=by kernel_rfl
 f125:=Tryz.func117.trans (congrArg some (by kernel_rfl))
 f128:=Tryz.func172.trans (congrArg some (by kernel_rfl))
 f129:=Tryz.func173.trans (congrArg some (by kernel_rfl))
 f189:=Tryz.func140.trans (congrArg some (by kernel_rfl))
 f215:=Tryz.func195.trans (congrArg some (by kernel_rfl))
 f216:=Tryz.func210.trans (congrArg some (by kernel_rfl))
 f257:=Tryz.func188.trans (congrArg some (by kernel_rfl))
 f294:=Tryz.func204.trans (congrArg some (by kernel_rfl))
 f295:=Tryz.func205.trans (congrArg some (by kernel_rfl))
 f296:=Tryz.func206.trans (congrArg some (by kernel_rfl))
 f297:=Tryz.func207.trans (congrArg some (by kernel_rfl))
 f298:=Tryz.func208.trans (congrArg some (by kernel_rfl))
 f299:=Tryz.func209.trans (congrArg some (by kernel_rfl))
 f300:=Tryz.func211.trans (congrArg some (by kernel_rfl))
 f301:=Tryz.func212.trans (congrArg some (by kernel_rfl))
 f328:=Tryz.func227.trans (congrArg some (by kernel_rfl))
 f329:=Tryz.func197.trans (congrArg some (by kernel_rfl))
 f330:=Tryz.func198.trans (congrArg some (by kernel_rfl))
 f331:=Tryz.func228.trans (congrArg some (by kernel_rfl))
 f332:=Tryz.func229.trans (congrArg some (by kernel_rfl))
 f343:=Tryz.func237.trans (congrArg some (by kernel_rfl))
 t0:=Tryz.underlying0
 a0:=Tryz.isAgg0
 z0:=Tryz.sizeOf0
 v0:=Tryz.zeroValue0
 t3:=Tryz.underlying3
 a3:=Tryz.isAgg3
 z3:=Tryz.sizeOf3
 v3:=Tryz.zeroValue3
 t4:=Tryz.underlying4
 a4:=Tryz.isAgg4
 z4:=Tryz.sizeOf4
 v4:=Tryz.zeroValue4
 t5:=Tryz.underlying5
 a5:=Tryz.isAgg5
 z5:=Tryz.sizeOf5
 v5:=Tryz.zeroValue5
 t9:=Tryz.underlying9
 a9:=Tryz.isAgg9
 z9:=Tryz.sizeOf9
 v9:=Tryz.zeroValue9
 t28:=Tryz.underlying22
 a28:=Tryz.isAgg22
 z28:=Tryz.sizeOf22
 v28:=Tryz.zeroValue22
 t46:=Tryz.underlying58
 a46:=Tryz.isAgg58
 z46:=Tryz.sizeOf58
 v46:=Tryz.zeroValue58
 t51:=Tryz.underlying118
 a51:=Tryz.isAgg118
 z51:=Tryz.sizeOf118
 v51:=Tryz.zeroValue118
 t53:=Tryz.underlying120
 a53:=Tryz.isAgg120
 z53:=Tryz.sizeOf120
 v53:=Tryz.zeroValue120
 t131:=Tryz.underlying35
 a131:=Tryz.isAgg35
 z131:=Tryz.sizeOf35
 v131:=Tryz.zeroValue35
 t182:=Tryz.underlying111
 a182:=Tryz.isAgg111
 z182:=Tryz.sizeOf111
 v182:=Tryz.zeroValue111
 t183:=Tryz.underlying112
 a183:=Tryz.isAgg112
 z183:=Tryz.sizeOf112
 v183:=Tryz.zeroValue112
 t218:=Tryz.underlying126
 a218:=Tryz.isAgg126
 z218:=Tryz.sizeOf126
 v218:=Tryz.zeroValue126
 t222:=Tryz.underlying130
 a222:=Tryz.isAgg130
 z222:=Tryz.sizeOf130
 v222:=Tryz.zeroValue130
 t228:=Tryz.underlying146
 a228:=Tryz.isAgg146
 z228:=Tryz.sizeOf146
 v228:=Tryz.zeroValue146
 t229:=Tryz.underlying147
 a229:=Tryz.isAgg147
 z229:=Tryz.sizeOf147
 v229:=Tryz.zeroValue147 }
def nB:Go.Shelf.Ren:=⟨fun | 20=>141 | n=>n,fun | 22=>22 | 3=>3 | 4=>4 | 0=>0 | n=>n,fun | n=>n⟩
theorem nq:Go.Proofs.Lays2.n20 Tryz.prog nB:={
 mixed:=by kernel_rfl
 f20:=Tryz.func141.trans (congrArg some (by kernel_rfl))
 t0:=Tryz.underlying0
 a0:=Tryz.isAgg0
 z0:=Tryz.sizeOf0
 v0:=Tryz.zeroValue0
 t3:=Tryz.underlying3
 a3:=Tryz.isAgg3
 z3:=Tryz.sizeOf3
 v3:=Tryz.zeroValue3
 t4:=Tryz.underlying4
 a4:=Tryz.isAgg4
 z4:=Tryz.sizeOf4
 v4:=Tryz.zeroValue4
 t22:=Tryz.underlying22
 a22:=Tryz.isAgg22
 z22:=Tryz.sizeOf22
 v22:=Tryz.zeroValue22
 i3:=by kernel_rfl }
end zN
end
section
namespace mH
open Go.RowKit Go.Shelf Go.Sort ag.aZ
def sorted (xs:List Int):List Int:=xs.mergeSort fun x y=>decide (x≤y)
theorem j4 (xs:List Int):(sorted xs).length = xs.length:=List.length_mergeSort xs
theorem s7 {w:World} {base:Nat} {ok:Nat→Prop} {v:Value} {xs:List Int} (h:(Kd.int .i64).R 3 w base ok v xs) (hs:xs.length < 4611686018427387904) :
  Calls Tryz.prog 140 #[v] w fun e w'=>e = .returned (.tuple #[])∧(Kd.int .i64).R 3 w' base ok v (sorted xs)∧(∀ w0:World,Below base w0 w→Below base w0 w')∧w.grownBy w' v.ownBlock:=by
 have ho:=Kd.iw h;rcases ho.2 with ⟨rfl,h0⟩ | ⟨g,cap,cur,rfl,hbase,hb,h1,h2,h3,h4⟩
 ·have hx:xs = []:=List.length_eq_zero_iff.1 h0
  subst hx;refine (Any.slices_Sort_int_none zN.qT none 0 w).mono ?_;rintro e w' ⟨rfl,rfl⟩
  exact ⟨rfl,by simpa [sorted] using h,fun _ hb=>hb,⟨rfl,rfl,rfl,Nat.le_refl _,fun _ _ _=>rfl⟩⟩
 ·have hH:Holds (Value.int .i64) w g 0 xs.toArray:=by
   obtain ⟨g',cap',he,_,_,_,_,_,hH⟩:=Lib.holds_of_ownsRow ho (by simp);injection he with y _ _
   injection y with y
   injection y with y _ _
   subst y;exact hH
  have hlt:g < w.heap.size:=(Array.getElem?_eq_some_iff.1 hb).1;refine (Any.slices_Sort_int zN.qT g 0 cap xs w hH hlt hs).mono ?_;rintro e w' ⟨rfl,n,os,rfl⟩
  have hown:=ownsRow_sortedI (n:=n) (os:=os) (ts:=sorted xs) (j4 xs) hbase hb h1 h2 h3;rw [← j4 xs] at hown;have hg:w.grownBy (grow (putRow (Value.int .i64) (Sort.ahead w n) g 0 (sorted xs).toArray) os) (some g):=grownBy_sortedI _;refine ⟨rfl,?_,fun w0 z=>?_,?_⟩
  ·have:=Kd.jV (enc:=Value.int .i64) (h1:=fun _=>rfl) (ok:=ok) hown (fun k hk=>h.1 k (by simpa [Value.ownBlock] using hk))
   rw [j4 xs] at this;exact this
  ·exact z.grown hg (by omega) (fun j hj=>by cases hj;exact hbase)
  ·exact hg
theorem oU {w:World} {base:Nat} {ok:Nat→Prop} {v:Value} {xs:List Int} (h:(Kd.int .i64).R 3 w base ok v xs) (hs:xs.length≤9223372036854775807) :
  Calls Tryz.prog 141 #[v] w fun e w'=>∃ v',e = .returned v'∧(Kd.int .i64).R 3 w' base ok v' (Lib.compact xs)∧(∀ w0:World,Below base w0 w→Below base w0 w'):=by
 have ho:=Kd.iw h;rcases ho.2 with ⟨rfl,h0⟩ | ⟨g,cap,cur,rfl,hbase,hb,h1,h2,h3,h4⟩
 ·have hx:xs = []:=List.length_eq_zero_iff.1 h0
  subst hx;refine (Any.slices_Compact_int_empty zN.nq none 0 w).mono ?_;rintro e w' ⟨rfl,rfl⟩
  exact ⟨_,rfl,by simpa [Lib.compact,Lib.compactUpTo] using h,fun _ hb=>hb⟩
 ·have hH:Holds (Value.int .i64) w g 0 xs.toArray:=by
   obtain ⟨g',cap',he,_,_,_,_,_,hH⟩:=Lib.holds_of_ownsRow ho (by simp);injection he with j _ _
   injection j with j
   injection j with j _ _
   subst j;exact hH
  refine (Any.slices_Compact_int zN.nq g 0 cap xs w hH hs h1).mono ?_;rintro e w' ⟨rfl,q,rfl⟩
  have hle:=Lib.compact_length_le xs;have hc:=Lib.ownsRow_putRow (q:=q) (k:=(Lib.compact xs).length) (ys:=Lib.compact xs ++ List.replicate (xs.length - (Lib.compact xs).length) 0) ho (by simp;omega) hle;rw [List.take_left] at hc;refine ⟨_,rfl,?_,fun w0 y=>Lib.below_putRow y hbase⟩;exact Kd.jV (enc:=Value.int .i64) (h1:=fun _=>rfl) (ok:=ok) hc (fun k hk=>h.1 k (by simpa [Value.ownBlock] using hk))
end mH
end
section
namespace Pr
open Go.RowKit ag.aZ ag.bR ag.bT
attribute [local go_sem] js jt kr ku iU iV ju jv
set_option linter.unusedVariables false
set_option linter.unusedSimpArgs false
def eU.f (l0:List Int):Option (List Int):=if l0.length < 17592186044416 then (some (Lib.compact (mH.sorted l0))) else (none)
set_option maxHeartbeats 8000000 in
set_option maxRecDepth 100000 in
theorem eU.calls (A0:Option Addr) (c0:Nat) (l0:List Int) (r:List Int) (w:World) (z:Kd.C (Kd.int .i64) w A0 l0.length l0) (X:l0.length≤c0) (h:eU.f l0 = some r) :
  Calls Tryz.prog 88 #[.slice A0 l0.length c0] w fun e w'=>∃ Y:Value,e = .returned (Y)∧Kd.R (Kd.int .i64) 3 w' w.heap.size (fun _=>True) Y r∧Below w.heap.size w w':=by
 unfold eU.f at h;by_cases hl:l0.length < 17592186044416
 ·rw [if_pos hl] at h
  obtain rfl:=Option.some.inj h;have HL:=ae.mk hl;have HR:=ae.mk z;have HC:=ae.mk X;clear z X h hl;go_enter Tryz.func88,Tryz.ntmps88;go_wp2_with (first | (refine AL (Kd.int .i64) 3 4 ?_;intro v4 w1 a0 j aa y;have ab:=ae.mk a0;have a1:=ae.mk j;have am:=ae.mk (Kd.aN HR.out j);clear aa y a0 j) | ((with_reducible refine cF (b:=.append) (xs:=#[.tmp 4,.tmp 5]) rfl ?_);at_builtin;refine Kd.iY (Kd.int .i64) (w0:=w) w.heap.size rfl (.tmp 4) (.tmp 5) 22 3 (.int .i64 0) 8 rfl Tryz.underlying22 fb rfl (by decide) (by omega) v4 ([]:List Int) l0 _ _ _ (fun _=>True) (fun _=>False) rfl rfl ab.out am.out (fun _ _ h=>h) (fun _ h=>h.elim) (fun _ _=>trivial) a1.out a1.out.size (by have:=HL.out;simp;omega) ?_;intro v6 w2 a2 a3 ao a4;have a5:=ae.mk a2;have ap:=ae.mk a3;clear a2 a3 ao a4;simp only [List.nil_append] at a5) | (refine ws (some 8) Tryz.func140 #[v6] ?_;(with_reducible refine (mH.s7 a5.out (by have:=HL.out;omega)).mono ?_);rintro e w3 ⟨rfl,a6,a7,ar⟩;refine ⟨_,rfl,?_⟩;have aw:=ae.mk a6;have aB:=ae.mk (a7 w ap.out);clear a6 a7 ar) | (refine ws (some 10) Tryz.func141 #[v6] ?_;(with_reducible refine (mH.oU aw.out (by have:=HL.out;have:=mH.j4 l0;omega)).mono ?_);rintro e w4 ⟨v10,rfl,a8,a9⟩;refine ⟨_,rfl,?_⟩;have aF:=ae.mk a8;have aL:=ae.mk (a9 w aB.out);clear a8 a9));go_ret;exact ⟨_,rfl,aF.out,aL.out⟩
 ·rw [if_neg hl] at h
  exact absurd h (by simp)
def cZ.l0:Nat→Int→List Int→Int→Int→Option (Bool)
 | 0,_,_,_,_=>none
 | k+1,X,Y,x8,j=>if j < x8 then (if 0≤j then (if j < (Y.length:Int) then ((fx.f X (rd Y j)).bind fun y=>(if y = true then (cZ.l0 k X Y x8 (wrap64 (j+1))) else (some false))) else (none)) else (none)) else ((e7.f X).bind fun z=>(some z))
def cZ.f (k:Nat) (a0:Int) (l1:List Int):Option (Bool):=cZ.l0 k a0 l1 (l1.length:Int) 0
set_option maxHeartbeats 8000000 in
set_option maxRecDepth 100000 in
theorem cZ.calls (k:Nat) (a0:Int) (A1:Option Addr) (c1:Nat) (l1:List Int) (r:Bool) (w:World) (Y:Kd.C (Kd.int .i64) w A1 l1.length l1) (a1:l1.length≤c1) (h:cZ.f k a0 l1 = some r) :
  Calls Tryz.prog 184 #[.int .i64 a0,.slice A1 l1.length c1] w fun e w'=>e = .returned (.bool r)∧cT w w':=by
 have a2:=ae.mk Y;have ab:=ae.mk a1;clear Y a1;unfold cZ.f at h;have H:=h;clear h;have H':=ae.mk H;clear H;go_enter Tryz.func184,Tryz.ntmps184;go_wp2;go_loopg [9] k (fun kq v9 w'=>∃ (j:Int),v9 = .int .i64 j∧ae (cZ.l0 kq a0 l1 (l1.length:Int) j = some r)∧ae (kq≤k)∧cT w w')
 case atStart=>exact ⟨(0),ww,H',⟨Nat.le_refl _⟩,zt⟩
 case round =>
  clear H';obtain ⟨j,rfl,HA,a3,⟨m1,rfl⟩⟩:=hrel;cases gk with
  | zero=>exact absurd HA.out (by simp [cZ.l0])
  | succ k1 =>
   have H:=HA.out;clear HA;simp only [cZ.l0] at H;by_cases c3:j < (l1.length:Int)
   ·rw [if_pos c3] at H
    have a4:=decide_eq_true c3;clear c3;obtain ⟨c4,H⟩:=xt H;have a9:=decide_eq_true c4;clear c4;obtain ⟨c5,H⟩:=xt H;have aa:=decide_eq_true c5;clear c5;obtain ⟨a5,A6,H⟩:=xa H;(try dsimp only at H);by_cases c7:a5 = true
    ·subst c7
     replace H:(cZ.l0 k1 a0 l1 (l1.length:Int) (wrap64 (j+1))) = some r:=by rw [if_pos rfl] at H;exact H
     have H':=ae.mk H;clear H;obtain ⟨X,y,z,a6,a7⟩:=At a2.out j;cases y
     go_wp2_with (first | (refine ws (some 15) Tryz.func175 #[.int .i64 a0,.int .i64 (rd l1 j)] ?_;(with_reducible refine (fx.calls a0 (rd l1 j) true _ A6.out).mono ?_);rintro e w' ⟨rfl,⟨nd,rfl⟩⟩;refine ⟨_,rfl,?_⟩));go_roundg k1;case measure=>have:=a3.out;omega
     case rel=>exact ⟨(wrap64 (j+1)),ww,H',⟨by have:=a3.out;omega⟩,zt⟩
    ·replace c7:=Bool.eq_false_iff.mpr c7
     subst c7;replace H:(some false) = some r:=by rw [if_neg (show ¬ (false = true) by decide)] at H;exact H
     obtain rfl:=Option.some.inj H;obtain ⟨X,y,z,a6,a7⟩:=At a2.out j;cases y
     go_wp2_with (first | (refine ws (some 15) Tryz.func175 #[.int .i64 a0,.int .i64 (rd l1 j)] ?_;(with_reducible refine (fx.calls a0 (rd l1 j) false _ A6.out).mono ?_);rintro e w' ⟨rfl,⟨nd,rfl⟩⟩;refine ⟨_,rfl,?_⟩));go_ret;exact ⟨ww,zt⟩
   ·rw [if_neg c3] at H
    have a4:decide (j < (l1.length:Int)) = false:=decide_eq_false c3;clear c3;obtain ⟨a8,A8,H⟩:=xa H;(try dsimp only at H);obtain rfl:=Option.some.inj H;go_wp2_with (first | (refine ws (some 19) Tryz.func133 #[.int .i64 a0] ?_;(with_reducible refine (e7.calls a0 a8 _ A8.out).mono ?_);rintro e w' ⟨rfl,⟨nd,rfl⟩⟩;refine ⟨_,rfl,?_⟩));go_ret;exact ⟨ww,zt⟩
def bX.l0:Nat→Int→List Int→List Int→Int→Int→Option (List Int)
 | 0,_,_,_,_,_=>none
 | k+1,x0,x5,y,z,j=>if j < z then (if 0≤j then (if j < (y.length:Int) then ((dH.f x0).bind fun X=>(if x5.length < 17592186044416 then (bX.l0 k x0 (x5 ++ [Go.bits .andNot .i64 X (rd y j)]) y z (wrap64 (j+1))) else (none))) else (none)) else (none)) else ((eU.f x5).bind fun Y=>(some Y))
def bX.f (k:Nat) (a0:Int) (l1:List Int):Option (List Int):=(cZ.f k a0 l1).bind fun j=>(if j = true then (bX.l0 k a0 (([]:List Int)) l1 (l1.length:Int) 0) else (some ([]:List Int)))
set_option maxHeartbeats 8000000 in
set_option maxRecDepth 100000 in
theorem bX.calls (k:Nat) (a0:Int) (A1:Option Addr) (c1:Nat) (l1:List Int) (r:List Int) (w:World) (ar:Kd.C (Kd.int .i64) w A1 l1.length l1) (aw:l1.length≤c1) (h:bX.f k a0 l1 = some r) :
  Calls Tryz.prog 135 #[.int .i64 a0,.slice A1 l1.length c1] w fun e w'=>∃ aB:Value,e = .returned (aB)∧Kd.R (Kd.int .i64) 3 w' w.heap.size (fun _=>True) aB r∧Below w.heap.size w w':=by
 have a7:=ae.mk ar;have aF:=ae.mk aw;clear ar aw;have HB:=ae.mk (Below.refl w.heap.size w);unfold bX.f at h;have H:=h;clear h;obtain ⟨aL,A3,H⟩:=xa H;(try dsimp only at H);by_cases c4:aL = true
 ·subst c4
  replace H:(bX.l0 k a0 (([]:List Int)) l1 (l1.length:Int) 0) = some r:=by rw [if_pos rfl] at H;exact H
  obtain ⟨a5,Y⟩:∃ y_:List Int,y_ = (([]:List Int)):=⟨_,rfl⟩
  replace H:(bX.l0 k a0 a5 l1 (l1.length:Int) 0) = some r:=by (try rw [Y]);exact AC
  have a3:=ae.mk Y;clear Y;have H':=ae.mk H;clear H;go_enter Tryz.func135,Tryz.ntmps135;go_wp2_with (first | (refine ws (some 10) Tryz.func184 #[.int .i64 a0,.slice A1 l1.length c1] ?_;(with_reducible refine (cZ.calls k a0 _ _ l1 true _ ?side1 ?side2 A3.out).mono ?_);(case side1=>exact yi a7.out);(case side2=>exact aF.out);rintro e w' ⟨rfl,⟨nd,rfl⟩⟩;refine ⟨_,rfl,?_⟩) | (refine AL (Kd.int .i64) 3 12 ?_;intro c0 w5 a4 hb bi a8;clear bi a8;(first | rw [← a3.out] at a4 | (simp only [Int.reduceToNat] at a4;rw [← a3.out] at a4));have a9:=ae.mk (Kd.b5 a4 (ak (wx HB.out)));replace HB:=xi HB hb;clear hb a4));go_loopg [5,15] k (fun kq v5 bm w'=>∃ (z:List Int) (j:Int),bm = .int .i64 j∧ae (bX.l0 kq a0 z l1 (l1.length:Int) j = some r)∧ae (kq≤k)∧ae (Kd.R (Kd.int .i64) 3 w' w.heap.size (fun _=>True) v5 z)∧ae (Below w.heap.size w w'))
  case atStart=>exact ⟨(a5),(0),ww,H',⟨Nat.le_refl _⟩,⟨ac a9.out⟩,⟨wx HB.out⟩⟩
  case round =>
   clear H';obtain ⟨z,j,rfl,HA,aO,y,HB⟩:=hrel;cases gk with
   | zero=>exact absurd HA.out (by simp [bX.l0])
   | succ k1 =>
    have H:=HA.out;clear HA;simp only [bX.l0] at H;by_cases c7:j < (l1.length:Int)
    ·rw [if_pos c7] at H
     have aP:=decide_eq_true c7;clear c7;obtain ⟨c8,H⟩:=xt H;have ca:=decide_eq_true c8;clear c8;obtain ⟨c9,H⟩:=xt H;have cb:=decide_eq_true c9;clear c9;obtain ⟨a2,bo,H⟩:=xa H;(try dsimp only at H);obtain ⟨aR,H⟩:=xt H;have aa:=ae.mk aR;clear aR;obtain ⟨a6,a1⟩:∃ y_:List Int,y_ = (z ++ [Go.bits .andNot .i64 a2 (rd l1 j)]):=⟨_,rfl⟩
     replace H:(bX.l0 k1 a0 a6 l1 (l1.length:Int) (wrap64 (j+1))) = some r:=by (try rw [a1]);exact AC
     have ab:=ae.mk a1;clear a1;have H':=ae.mk H;clear H;obtain ⟨bs,aS,X,cc,ce⟩:=At a7.out j;cases aS
     (try replace X:=(HB.out.cell (World.block_lt_of_cell? w _ X)).trans X);go_wp2_with (first | (refine ws (some 21) Tryz.func75 #[.int .i64 a0] ?_;(with_reducible refine (dH.calls a0 a2 _ bo.out).mono ?_);rintro e w' ⟨rfl,⟨nd,rfl⟩⟩;refine ⟨_,rfl,?_⟩) | ((with_reducible refine cF (b:=.append) (xs:=#[.tmp 19,.tmp 24]) rfl ?_);at_builtin;refine Kd.eS (Kd.int .i64) (w0:=w) w.heap.size rfl (.tmp 19) (.tmp 24) 22 3 (.int .i64 0) 8 rfl Tryz.underlying22 fb rfl (by decide) (by omega) u5 z (Go.bits .andNot .i64 a2 (rd l1 j)) [.int .i64 (Go.bits .andNot .i64 a2 (rd l1 j))] (fun _=>True) (fun _=>False) rfl rfl (by exact rfl) (fun _ hk=>hk.elim) (by exact fun _ _=>trivial) (by exact ac y.out) (by exact wx HB.out) (by exact ak (wx HB.out)) (by have:=aa.out;omega) ?_;intro cf cp ho hb hg hat;rw [← ab.out] at ho;have b0:=ae.mk hb;have b2:=ae.mk ho;clear HB;clear y;have HB:=b0;have am:=b2;clear b0 b2;clear ho hb hg hat));go_roundg k1;case measure=>have:=aO.out;omega
     case rel=>exact ⟨(a6),(wrap64 (j+1)),ww,H',⟨by have:=aO.out;omega⟩,⟨ac am.out⟩,⟨wx HB.out⟩⟩
    ·rw [if_neg c7] at H
     have aP:decide (j < (l1.length:Int)) = false:=decide_eq_false c7;clear c7;obtain ⟨b3,bv,H⟩:=xa H;(try dsimp only at H);obtain rfl:=Option.some.inj H;obtain ⟨b4,ba,bc⟩:=Kd.bk y.out;subst bc;go_wp2_with (first | (refine ws (some 28) Tryz.func88 #[.slice b4 z.length ba] ?_;(with_reducible refine (eU.calls _ _ z b3 _ ?side1 ?side2 bv.out).mono ?_);(case side1=>exact yi ((Kd.az y.out).2.2));(case side2=>exact (Kd.az y.out).2.1);rintro e cq ⟨ci,rfl,ao,hb⟩;refine ⟨_,rfl,?_⟩;have ap:=ae.mk (Kd.b5 (Kd.dy ao (Kd.ek (ac y.out))) (ak (wx HB.out)));replace y:=ae.mk (Kd.cz (ac y.out) (Kd.cL ao) hb);replace HB:=xi HB hb;(try clear hb);(try clear cx);(try clear hk);(try clear hi);(try clear ao)));go_ret;exact ⟨_,zd,by (with_reducible repeat (first | apply Kd.cP | apply Kd.cQ | apply Kd.bY));exact Kd.aQ ap.out (fun _ hk=>trivial),wy⟩
 ·replace c4:=Bool.eq_false_iff.mpr c4
  subst c4;replace H:(some ([]:List Int)) = some r:=by rw [if_neg (show ¬ (false = true) by decide)] at H;exact H
  obtain rfl:=Option.some.inj H;go_enter Tryz.func135,Tryz.ntmps135;go_wp2_with (first | (refine ws (some 10) Tryz.func184 #[.int .i64 a0,.slice A1 l1.length c1] ?_;(with_reducible refine (cZ.calls k a0 _ _ l1 false _ ?side1 ?side2 A3.out).mono ?_);(case side1=>exact yi a7.out);(case side2=>exact aF.out);rintro e w' ⟨rfl,⟨nd,rfl⟩⟩;refine ⟨_,rfl,?_⟩));go_ret;exact ⟨_,zd,af.N,wy⟩
def dS.f (k:Nat) (j:Int) (y:List Int):Option (Int×List Int):=(ct.f k j y).bind fun z=>(if z = true then ((bX.f k j y).bind fun X=>(some (j,X))) else (some (0,([]:List Int))))
def dS.T3:Bool×List (List Nat×List Nat):=(true,[([],[]),([0],[0]),([],[]),([2],[2]),([],[]),([4],[4]),([3,5],[3,5]),([1,6],[1,6]),([7,6,0,1,2,3,4,5,6,7],[7])])
def dS.B3:List Nat:=[0,1,0,4,0,16,60,127,255]
theorem dS.mQ:gv .any (opsOf Tryz.f80 3) = dS.T3:=by kernel_rfl
theorem dS.jY:eN dS.T3.2 dS.B3 = true:=by kernel_rfl
set_option maxHeartbeats 8000000 in
set_option maxRecDepth 100000 in
theorem dS.calls (k:Nat) (X:Int) (a2:Option Addr) (a3:Nat) (Y:List Int) (r1:Int) (r2:List Int) (w:World) (a9:Kd.C (Kd.int .i64) w a2 Y.length Y) (aa:Y.length≤a3) (h:dS.f k X Y = some (r1,r2)) :
  Calls Tryz.prog 80 #[.agg #[.int .i64 X,.slice a2 Y.length a3]] w fun e w'=>∃ aO:Value,e = .returned (.agg #[.int .i64 r1,aO])∧Kd.R (Kd.int .i64) 3 w' w.heap.size (fun _=>True) aO r2∧Below w.heap.size w w':=by
 have d3:=Tryz.underlying37;have a6:=ae.mk a9;have a7:=ae.mk aa;clear a9 aa;have HB:=ae.mk (Below.refl w.heap.size w);unfold dS.f at h;have H:=h;clear h;obtain ⟨aP,A2,H⟩:=xa H;(try dsimp only at H);by_cases c3:aP = true
 ·subst c3
  replace H:((bX.f k X Y).bind fun a5=>(some (X,a5))) = some (r1,r2):=by rw [if_pos rfl] at H;exact H
  obtain ⟨a5,A4,H⟩:=xa H;(try dsimp only at H);simp only [Option.some.injEq,Prod.mk.injEq] at H;obtain ⟨rfl,rfl⟩:=H;go_enter Tryz.func80,Tryz.ntmps80;(try go_wp2_with (first | (refine zp 1 #[.int .i64 X,.slice a2 Y.length a3] 37 ?_;intro a8 hg w5 hbox hb;have j:=ae.mk hbox;have ar:=yv hg HB;have aw:=yv hg HB;replace HB:=xi HB hb;clear hb hbox hg) | (refine zp 2 #[.int .i64 0,.slice none 0 0] 37 ?_;intro a0 hg w6 hbox hb;have z:=ae.mk hbox;have aB:=yv hg HB;have aF:=yv hg HB;replace HB:=xi HB hb;have y:=AJ hg j;have a1:=AK hg j;replace j:=xc j hb;clear hb hbox hg;have d4:=y.out;have d5:=a1.out;obtain ⟨cc,ce,cf,ci⟩:=xv j.out) | (refine ws (some 4) Tryz.func61 #[.agg #[.int .i64 X,.slice a2 Y.length a3]] ?_;(with_reducible refine (ct.calls k X _ _ Y true _ ?side1 ?side2 A2.out).mono ?_);(case side1=>exact yi (Kd.aN a6.out HB.out));(case side2=>exact a7.out);rintro e w9 ⟨rfl,hb⟩;refine ⟨_,rfl,?_⟩;replace j:=xc j hb;replace z:=xc z hb;replace HB:=xi HB hb;(try clear hb);(try clear aR);(try clear hk);(try clear hi))));replace j:=ae.mk (cM j.out);replace z:=ae.mk (cM z.out);replace HB:=ae.mk (bP HB.out);refine eT (n:=9) (S:=fun w'=>w'.cell? ⟨a8,0,none⟩ = some (.int .i64 X)∧w'.cell? ⟨a8,1,none⟩ = some (.slice a2 Y.length a3)) (ds:=[]) #[false,false,false,false,false,false,false,false,false] (by kernel_rfl) rfl rfl ⟨(ah j.out 0).trans rfl,(ah j.out 1).trans rfl⟩ (fun hHeld=>?_);refine da dS.mQ dS.jY (fun a4 aL=>?_);generalize w9.drew = d9 at j z HB hHeld ⊢;refine wt 0 7 a4 ?_;refine wt 2 9 a4 ?_;refine wt 4 11 a4 ?_;refine AF 1 8 a4 aL hHeld ?_;refine AF 3 10 a4 aL hHeld ?_;refine AF 5 12 a4 aL hHeld ?_;refine fe (i:=6) (N:=some 13) #[true,true,true,true,true,true,true,false,false] rfl rfl (cH a4.out (by kernel_rfl)) (by decide) (fun K hK=>?_);refine eK Tryz.func135 (by kernel_rfl) rfl #[.int .i64 X,.slice a2 Y.length a3] (by rfl) rfl rfl (by (try simp only [List.map_toArray,List.map_cons,List.map_nil]);first | done | rfl) ?_;with_reducible refine (bX.calls k X _ _ Y a5 _ ?side1 ?side2 A4.out).mono ?_
  (case side1=>exact yi (Kd.aN a6.out HB.out));(case side2=>exact a7.out);rintro e aS ⟨d6,rfl,b0,hb⟩
  refine ⟨_,rfl,?_⟩;have ab:=ae.mk (Kd.b5 b0 (ak (wx HB.out)));replace j:=xc j hb;replace z:=xc z hb;replace HB:=xi HB hb;(try clear hb);(try clear aR);(try clear hk);(try clear hi);(try clear b0);obtain ⟨am,ao,ap⟩:=Kd.bk ab.out;(first | subst ap | (injection ap with b2 cp b3;have cq:=b2.symm;have cx:=b3.symm;clear b2 cp b3;subst cq;subst cx));refine hK.out _ _ ⟨(ah j.out 0).trans rfl,(ah j.out 1).trans rfl⟩ (fun hHeld=>?_);clear hK K;refine dN (a':=?_) ?_ ?_;rotate_left
  ·show Act.put _ (some 13) _ = _
   simp only [Act.put,List.setIfInBounds_toArray,List.set_cons_zero,List.set_cons_succ,b7,bC];rfl
  refine wt 7 14 a4 ?_;refine fe (i:=8) (N:=none) #[true,true,true,true,true,true,true,true,true] rfl rfl (cH a4.out (by kernel_rfl)) (by decide) (fun K hK=>?_);have d7:aS.cell? ⟨a0,0,none⟩ = some (.int .i64 0):=(ah z.out 0).trans rfl;have cy:=aj z.out 0;have b4:=y.out;have ba:=a1.out;have d8:aS.cell? ⟨a0,1,none⟩ = some (.slice none 0 0):=(ah z.out 1).trans rfl;have d0:=aj z.out 1;have bc:=y.out;have bi:=a1.out;refine nk (w1:=?_) (by rfl) rfl ?_ ?_;rotate_left
  ·go_simp
   rfl
  refine hK.out _ _ ⟨((cell_far (p:=⟨a0,_,none⟩) y.out _).trans (((cell_far (p:=⟨a0,_,none⟩) y.out _).trans (hHeld.1)))),((cell_far (p:=⟨a0,_,none⟩) y.out _).trans (((cell_far (p:=⟨a0,_,none⟩) y.out _).trans (hHeld.2))))⟩ (fun hHeld=>?_);clear hK K;refine fP (e9 a4.out (by kernel_rfl)) ?_;(try go_wp2);refine bodyPost_ret (results_cell_row rfl _ _ a0 37 #[.int .i64 X,.slice am a5.length ao] (0,0) _ rfl AE Tryz.underlying37 rfl (by kernel_rfl)) rfl ?_;exact ⟨_,zd,by (with_reducible repeat (first | apply Kd.cP | apply Kd.cQ | apply Kd.bY));exact Kd.aQ (Kd.bU (p:=⟨a0,1,none⟩) (Kd.bU (p:=⟨a0,0,none⟩) (Kd.cr ab.out z.out (by decide)) (fun _ hk=>hk.2) (.int .i64 X)) (fun _ hk=>hk.2) (.slice am a5.length ao)) (fun _ hk=>trivial),wy⟩
 ·replace c3:=Bool.eq_false_iff.mpr c3
  subst c3;replace H:(some (0,([]:List Int))) = some (r1,r2):=by rw [if_neg (show ¬ (false = true) by decide)] at H;exact H
  simp only [Option.some.injEq,Prod.mk.injEq] at H;obtain ⟨rfl,rfl⟩:=H;go_enter Tryz.func80,Tryz.ntmps80;go_wp2_with (first | (refine zp 1 #[.int .i64 X,.slice a2 Y.length a3] 37 ?_;intro a8 hg db hbox hb;have j:=ae.mk hbox;have ar:=yv hg HB;have aw:=yv hg HB;replace HB:=xi HB hb;clear hb hbox hg) | (refine zp 2 #[.int .i64 0,.slice none 0 0] 37 ?_;intro a0 hg dd hbox hb;have z:=ae.mk hbox;have aB:=yv hg HB;have aF:=yv hg HB;replace HB:=xi HB hb;have y:=AJ hg j;have a1:=AK hg j;replace j:=xc j hb;clear hb hbox hg;have d1:=y.out;have d2:=a1.out;obtain ⟨bm,bo,bs,bv⟩:=xv j.out) | (refine ws (some 4) Tryz.func61 #[.agg #[.int .i64 X,.slice a2 Y.length a3]] ?_;(with_reducible refine (ct.calls k X _ _ Y false _ ?side1 ?side2 A2.out).mono ?_);(case side1=>exact yi (Kd.aN a6.out HB.out));(case side2=>exact a7.out);rintro e df ⟨rfl,hb⟩;refine ⟨_,rfl,?_⟩;replace j:=xc j hb;replace z:=xc z hb;replace HB:=xi HB hb;(try clear hb);(try clear aR);(try clear hk);(try clear hi);obtain ⟨c0,c1,ca,cb⟩:=xv z.out));refine bodyPost_ret (results_cell_row rfl _ _ a0 37 #[.int .i64 0,.slice none 0 0] (0,0) _ rfl AE Tryz.underlying37 rfl (by kernel_rfl)) rfl ?_;exact ⟨_,zd,af.N,wy⟩
def aU.j0:Nat→Int→Bool→Int→List Int→Option (Int)
 | 0,_,_,_,_=>none
 | k+1,x1,a0,j,y=>if a0 = true then (some 0) else ((dS.f k j y).bind fun z=>((dH.f j).bind fun X=>((aH.f k z.1 z.2 (Go.bits .andNot .i64 X x1)).bind fun Y=>(some Y))))
def aU.f (k:Nat) (y:Int) (j:List Int) (Y:Int):Option (Int):=(ct.f k y j).bind fun z=>(if z = true then ((cW.f k j Y).bind fun X=>(aU.j0 k Y (!X) y j)) else (aU.j0 k Y true y j))
def aU.T3:Bool×List (List Nat×List Nat):=(true,[([],[]),([0],[0]),([],[]),([2],[2]),([3,1],[3]),([],[]),([4,5],[4,5]),([1,6,4],[1,6]),([7,7,0,1,2,3,4,5,6,7],[7])])
def aU.B3:List Nat:=[0,1,0,4,15,0,63,127,255]
theorem aU.mQ:gv .any (opsOf Tryz.f31 3) = aU.T3:=by kernel_rfl
theorem aU.jY:eN aU.T3.2 aU.B3 = true:=by kernel_rfl
set_option maxHeartbeats 8000000 in
set_option maxRecDepth 100000 in
theorem aU.calls (k:Nat) (z:Int) (X:Option Addr) (Y:Nat) (y:List Int) (a1:Int) (r:Int) (w:World) (a9:Kd.C (Kd.int .i64) w X y.length y) (aa:y.length≤Y) (h:aU.f k z y a1 = some r) :
  Calls Tryz.prog 31 #[.agg #[.int .i64 z,.slice X y.length Y],.int .i64 a1] w fun e w'=>e = .returned (.int .i64 r)∧Below w.heap.size w w':=by
 have d1:=Tryz.underlying37;have a3:=ae.mk a9;have a4:=ae.mk aa;clear a9 aa;have HB:=ae.mk (Below.refl w.heap.size w);unfold aU.f at h;have H:=h;clear h;have aF:=ae.mk H;clear H;go_enter Tryz.func31,Tryz.ntmps31;go_upto_region 1 with (first | ((with_reducible refine bu (N:=2) rfl ?_);refine zp 2 #[.int .i64 z,.slice X y.length Y] 37 ?_;intro a7 hg w4 hbox hb;have j:=ae.mk hbox;have cc:=yv hg HB;have ce:=yv hg HB;replace HB:=xi HB hb;clear hb hbox hg))
 (try simp only [Act.put,List.setIfInBounds_toArray,List.set_cons_zero,List.set_cons_succ]);go_cut [14] (fun cf wc=>∃ (kq:Nat) (a5:Bool),cf = .bool a5∧ae (aU.j0 kq a1 a5 z y = some r)∧ae (kq≤k)∧ae (wc.heap[a7]? = some (.cells #[.int .i64 z,(.slice X y.length Y)] 37 (0,0)))∧ae (Below w.heap.size w wc))
 case first =>
  have H:=aF.out;clear aF;obtain ⟨aO,A5,H⟩:=xa H;(try dsimp only at H);by_cases c6:aO = true
  ·subst c6
   replace H:((cW.f k y a1).bind fun a8=>(aU.j0 k a1 (!a8) z y)) = some r:=by rw [if_pos rfl] at H;exact H
   obtain ⟨a8,A7,H⟩:=xa H;(try dsimp only at H);have H':=ae.mk H;clear H;obtain ⟨c0,c1,ca,cb⟩:=xv j.out;go_wp2_with (first | ((with_reducible refine aD (f:=61) rfl ?_);refine ws (some 6) Tryz.func61 #[.agg #[.int .i64 z,.slice X y.length Y]] ?_;(with_reducible refine (ct.calls k z _ _ y true _ ?side1 ?side2 A5.out).mono ?_);(case side1=>exact yi (Kd.aN a3.out HB.out));(case side2=>exact a4.out);rintro e w9 ⟨rfl,hb⟩;refine ⟨_,rfl,?_⟩;replace j:=xc j hb;replace HB:=xi HB hb;(try clear hb);(try clear aL);(try clear hk);(try clear hi);obtain ⟨aP,aR,aS,b0⟩:=xv j.out) | (go_at_call 73;(with_reducible refine (cW.calls k _ _ y a1 a8 _ ?side1 ?side2 A7.out).mono ?_);(case side1=>exact yi (Kd.aN a3.out HB.out));(case side2=>exact a4.out);rintro e w' ⟨rfl,⟨nd,rfl⟩⟩));go_meet
   case rel=>exact ⟨_,(!a8),ww,H',⟨by first | omega | exact Nat.le_refl _⟩,⟨xf j.out⟩,⟨wx HB.out⟩⟩
  ·replace c6:=Bool.eq_false_iff.mpr c6
   subst c6;replace H:(aU.j0 k a1 true z y) = some r:=by rw [if_neg (show ¬ (false = true) by decide)] at H;exact H
   have H':=ae.mk H;clear H;obtain ⟨b2,b3,b4,ba⟩:=xv j.out;go_wp2_with (first | ((with_reducible refine aD (f:=61) rfl ?_);refine ws (some 6) Tryz.func61 #[.agg #[.int .i64 z,.slice X y.length Y]] ?_;(with_reducible refine (ct.calls k z _ _ y false _ ?side1 ?side2 A5.out).mono ?_);(case side1=>exact yi (Kd.aN a3.out HB.out));(case side2=>exact a4.out);rintro e d3 ⟨rfl,hb⟩;refine ⟨_,rfl,?_⟩;replace j:=xc j hb;replace HB:=xi HB hb;(try clear hb);(try clear aL);(try clear hk);(try clear hi)));go_meet
   case rel=>exact ⟨_,(true),ww,H',⟨by first | omega | exact Nat.le_refl _⟩,⟨xf j.out⟩,⟨wx HB.out⟩⟩
 case rest =>
  clear aF;obtain ⟨kq,a5,rfl,HA,d4,j,HB⟩:=hcut;cases kq with
  | zero=>exact absurd HA.out (by simp [aU.j0])
  | succ ar =>
   have H:=HA.out;clear HA;simp only [aU.j0] at H;by_cases aw:a5 = true
   ·subst aw
    replace H:(some 0) = some r:=by rw [if_pos rfl] at H;exact H
    obtain rfl:=Option.some.inj H;go_wp2;go_ret;exact ⟨zd,wy⟩
   ·replace aw:=Bool.eq_false_iff.mpr aw
    subst aw;replace H:((dS.f ar z y).bind fun ab=>((dH.f z).bind fun a6=>((aH.f ar ab.1 ab.2 (Go.bits .andNot .i64 a6 a1)).bind fun am=>(some am)))) = some r:=by rw [if_neg (show ¬ (false = true) by decide)] at H;exact H
    obtain ⟨⟨ao,ap⟩,ci,H⟩:=xa H;(try dsimp only at H);obtain ⟨a6,cp,H⟩:=xa H;(try dsimp only at H);obtain ⟨am,cq,H⟩:=xa H;(try dsimp only at H);obtain rfl:=Option.some.inj H;(try go_wp2);replace j:=ae.mk (cM j.out);replace HB:=ae.mk (bP HB.out);refine eT (n:=9) (S:=fun w'=>w'.cell? ⟨a7,0,none⟩ = some (.int .i64 z)∧w'.cell? ⟨a7,1,none⟩ = some (.slice X y.length Y)) (ds:=[]) #[false,false,false,false,false,false,false,false,false] (by kernel_rfl) rfl rfl ⟨(ah j.out 0).trans rfl,(ah j.out 1).trans rfl⟩ (fun hHeld=>?_);refine da aU.mQ aU.jY (fun a2 bc=>?_);generalize wc.drew = d5 at j HB hHeld ⊢;refine wt 2 17 a2 ?_;refine wt 5 20 a2 ?_;refine AF 0 15 a2 bc hHeld ?_;refine AF 3 18 a2 bc hHeld ?_;refine fe (i:=1) (N:=some 16) #[true,true,true,true,false,true,false,false,false] rfl rfl (cH a2.out (by kernel_rfl)) (by decide) (fun K hK=>?_);refine eK Tryz.func80 (by kernel_rfl) rfl #[.agg #[.int .i64 z,.slice X y.length Y]] (by rfl) rfl rfl (by (try simp only [List.map_toArray,List.map_cons,List.map_nil]);first | done | rfl) ?_;with_reducible refine (dS.calls ar z _ _ y ao ap _ ?side1 ?side2 ci.out).mono ?_
    (case side1=>exact yi (Kd.aN a3.out HB.out));(case side2=>exact a4.out);rintro e d6 ⟨d2,rfl,bi,hb⟩
    refine ⟨_,rfl,?_⟩;have a0:=ae.mk (Kd.b5 bi (ak (wx HB.out)));replace j:=xc j hb;replace HB:=xi HB hb;(try clear hb);(try clear aL);(try clear hk);(try clear hi);(try clear bi);refine hK.out _ _ ⟨(ah j.out 0).trans rfl,(ah j.out 1).trans rfl⟩ (fun hHeld=>?_);clear hK K;refine dN (a':=?_) ?_ ?_;rotate_left
    ·show Act.put _ (some 16) _ = _
     simp only [Act.put,List.setIfInBounds_toArray,List.set_cons_zero,List.set_cons_succ,b7,bC];rfl
    refine fe (i:=4) (N:=some 19) #[true,true,true,true,true,true,false,false,false] rfl rfl (cH a2.out (by kernel_rfl)) (by decide) (fun K hK=>?_);refine eK Tryz.func75 (by kernel_rfl) rfl #[.int .i64 z] (by rfl) rfl rfl (by (try simp only [List.map_toArray,List.map_cons,List.map_nil]);first | done | rfl) ?_;with_reducible refine (dH.calls z a6 _ cp.out).mono ?_
    rintro e w' ⟨rfl,⟨nd,rfl⟩⟩
    refine ⟨_,rfl,?_⟩;obtain ⟨bm,bo,aB⟩:=Kd.bk a0.out;(first | subst aB | (injection aB with bs cx bv;have cy:=bs.symm;have d0:=bv.symm;clear bs cx bv;subst cy;subst d0));refine hK.out _ _ ⟨(ah j.out 0).trans rfl,(ah j.out 1).trans rfl⟩ (fun hHeld=>?_);clear hK K;refine dN (a':=?_) ?_ ?_;rotate_left
    ·show Act.put _ (some 19) _ = _
     simp only [Act.put,List.setIfInBounds_toArray,List.set_cons_zero,List.set_cons_succ,b7,bC];rfl
    refine wt 6 21 a2 ?_;refine fe (i:=7) (N:=some 22) #[true,true,true,true,true,true,true,true,false] rfl rfl (cH a2.out (by kernel_rfl)) (by decide) (fun K hK=>?_);refine eK Tryz.func29 (by kernel_rfl) rfl #[.agg #[.int .i64 ao,.slice bm ap.length bo],.int .i64 (Go.bits .andNot .i64 a6 a1)] (by rfl) rfl rfl (by (try simp only [List.map_toArray,List.map_cons,List.map_nil]);first | done | rfl) ?_;with_reducible refine (aH.calls ar ao _ _ ap (Go.bits .andNot .i64 a6 a1) am _ ?side1 ?side2 cq.out).mono ?_
    (case side1=>exact yi ((Kd.az a0.out).2.2));(case side2=>exact (Kd.az a0.out).2.1);rintro e d7 ⟨rfl,hb⟩
    refine ⟨_,rfl,?_⟩;replace a0:=z2 a0 hb;replace j:=xc j hb;replace HB:=xi HB hb;(try clear hb);(try clear aL);(try clear hk);(try clear hi);refine hK.out _ _ ⟨(ah j.out 0).trans rfl,(ah j.out 1).trans rfl⟩ (fun hHeld=>?_);clear hK K;refine dN (a':=?_) ?_ ?_;rotate_left
    ·show Act.put _ (some 22) _ = _
     simp only [Act.put,List.setIfInBounds_toArray,List.set_cons_zero,List.set_cons_succ,b7,bC];rfl
    refine wt 8 4 a2 ?_;refine fP (e9 a2.out (by kernel_rfl)) ?_;(try go_wp2);go_ret;exact ⟨zd,wy⟩
def gC.f (a0:Int):Option (Int):=some (Go.bits .and .i64 (wrap64 (IntKind.u64.wrap ((IntKind.u64.wrap ((IntKind.u64.wrap ((Go.bits .and .u64 (IntKind.u64.wrap (((IntKind.u64.wrap ((Go.bits .and .u64 ((IntKind.u64.wrap ((Go.bits .and .u64 (a0 / 2) 6148914691236517205)+(Go.bits .and .u64 a0 6148914691236517205))) / 4) 3689348814741910323)+(Go.bits .and .u64 (IntKind.u64.wrap ((Go.bits .and .u64 (a0 / 2) 6148914691236517205)+(Go.bits .and .u64 a0 6148914691236517205))) 3689348814741910323))) / 16)+(IntKind.u64.wrap ((Go.bits .and .u64 ((IntKind.u64.wrap ((Go.bits .and .u64 (a0 / 2) 6148914691236517205)+(Go.bits .and .u64 a0 6148914691236517205))) / 4) 3689348814741910323)+(Go.bits .and .u64 (IntKind.u64.wrap ((Go.bits .and .u64 (a0 / 2) 6148914691236517205)+(Go.bits .and .u64 a0 6148914691236517205))) 3689348814741910323))))) 1085102592571150095)+((Go.bits .and .u64 (IntKind.u64.wrap (((IntKind.u64.wrap ((Go.bits .and .u64 ((IntKind.u64.wrap ((Go.bits .and .u64 (a0 / 2) 6148914691236517205)+(Go.bits .and .u64 a0 6148914691236517205))) / 4) 3689348814741910323)+(Go.bits .and .u64 (IntKind.u64.wrap ((Go.bits .and .u64 (a0 / 2) 6148914691236517205)+(Go.bits .and .u64 a0 6148914691236517205))) 3689348814741910323))) / 16)+(IntKind.u64.wrap ((Go.bits .and .u64 ((IntKind.u64.wrap ((Go.bits .and .u64 (a0 / 2) 6148914691236517205)+(Go.bits .and .u64 a0 6148914691236517205))) / 4) 3689348814741910323)+(Go.bits .and .u64 (IntKind.u64.wrap ((Go.bits .and .u64 (a0 / 2) 6148914691236517205)+(Go.bits .and .u64 a0 6148914691236517205))) 3689348814741910323))))) 1085102592571150095) / 256)))+((IntKind.u64.wrap ((Go.bits .and .u64 (IntKind.u64.wrap (((IntKind.u64.wrap ((Go.bits .and .u64 ((IntKind.u64.wrap ((Go.bits .and .u64 (a0 / 2) 6148914691236517205)+(Go.bits .and .u64 a0 6148914691236517205))) / 4) 3689348814741910323)+(Go.bits .and .u64 (IntKind.u64.wrap ((Go.bits .and .u64 (a0 / 2) 6148914691236517205)+(Go.bits .and .u64 a0 6148914691236517205))) 3689348814741910323))) / 16)+(IntKind.u64.wrap ((Go.bits .and .u64 ((IntKind.u64.wrap ((Go.bits .and .u64 (a0 / 2) 6148914691236517205)+(Go.bits .and .u64 a0 6148914691236517205))) / 4) 3689348814741910323)+(Go.bits .and .u64 (IntKind.u64.wrap ((Go.bits .and .u64 (a0 / 2) 6148914691236517205)+(Go.bits .and .u64 a0 6148914691236517205))) 3689348814741910323))))) 1085102592571150095)+((Go.bits .and .u64 (IntKind.u64.wrap (((IntKind.u64.wrap ((Go.bits .and .u64 ((IntKind.u64.wrap ((Go.bits .and .u64 (a0 / 2) 6148914691236517205)+(Go.bits .and .u64 a0 6148914691236517205))) / 4) 3689348814741910323)+(Go.bits .and .u64 (IntKind.u64.wrap ((Go.bits .and .u64 (a0 / 2) 6148914691236517205)+(Go.bits .and .u64 a0 6148914691236517205))) 3689348814741910323))) / 16)+(IntKind.u64.wrap ((Go.bits .and .u64 ((IntKind.u64.wrap ((Go.bits .and .u64 (a0 / 2) 6148914691236517205)+(Go.bits .and .u64 a0 6148914691236517205))) / 4) 3689348814741910323)+(Go.bits .and .u64 (IntKind.u64.wrap ((Go.bits .and .u64 (a0 / 2) 6148914691236517205)+(Go.bits .and .u64 a0 6148914691236517205))) 3689348814741910323))))) 1085102592571150095) / 256))) / 65536)))+((IntKind.u64.wrap ((IntKind.u64.wrap ((Go.bits .and .u64 (IntKind.u64.wrap (((IntKind.u64.wrap ((Go.bits .and .u64 ((IntKind.u64.wrap ((Go.bits .and .u64 (a0 / 2) 6148914691236517205)+(Go.bits .and .u64 a0 6148914691236517205))) / 4) 3689348814741910323)+(Go.bits .and .u64 (IntKind.u64.wrap ((Go.bits .and .u64 (a0 / 2) 6148914691236517205)+(Go.bits .and .u64 a0 6148914691236517205))) 3689348814741910323))) / 16)+(IntKind.u64.wrap ((Go.bits .and .u64 ((IntKind.u64.wrap ((Go.bits .and .u64 (a0 / 2) 6148914691236517205)+(Go.bits .and .u64 a0 6148914691236517205))) / 4) 3689348814741910323)+(Go.bits .and .u64 (IntKind.u64.wrap ((Go.bits .and .u64 (a0 / 2) 6148914691236517205)+(Go.bits .and .u64 a0 6148914691236517205))) 3689348814741910323))))) 1085102592571150095)+((Go.bits .and .u64 (IntKind.u64.wrap (((IntKind.u64.wrap ((Go.bits .and .u64 ((IntKind.u64.wrap ((Go.bits .and .u64 (a0 / 2) 6148914691236517205)+(Go.bits .and .u64 a0 6148914691236517205))) / 4) 3689348814741910323)+(Go.bits .and .u64 (IntKind.u64.wrap ((Go.bits .and .u64 (a0 / 2) 6148914691236517205)+(Go.bits .and .u64 a0 6148914691236517205))) 3689348814741910323))) / 16)+(IntKind.u64.wrap ((Go.bits .and .u64 ((IntKind.u64.wrap ((Go.bits .and .u64 (a0 / 2) 6148914691236517205)+(Go.bits .and .u64 a0 6148914691236517205))) / 4) 3689348814741910323)+(Go.bits .and .u64 (IntKind.u64.wrap ((Go.bits .and .u64 (a0 / 2) 6148914691236517205)+(Go.bits .and .u64 a0 6148914691236517205))) 3689348814741910323))))) 1085102592571150095) / 256)))+((IntKind.u64.wrap ((Go.bits .and .u64 (IntKind.u64.wrap (((IntKind.u64.wrap ((Go.bits .and .u64 ((IntKind.u64.wrap ((Go.bits .and .u64 (a0 / 2) 6148914691236517205)+(Go.bits .and .u64 a0 6148914691236517205))) / 4) 3689348814741910323)+(Go.bits .and .u64 (IntKind.u64.wrap ((Go.bits .and .u64 (a0 / 2) 6148914691236517205)+(Go.bits .and .u64 a0 6148914691236517205))) 3689348814741910323))) / 16)+(IntKind.u64.wrap ((Go.bits .and .u64 ((IntKind.u64.wrap ((Go.bits .and .u64 (a0 / 2) 6148914691236517205)+(Go.bits .and .u64 a0 6148914691236517205))) / 4) 3689348814741910323)+(Go.bits .and .u64 (IntKind.u64.wrap ((Go.bits .and .u64 (a0 / 2) 6148914691236517205)+(Go.bits .and .u64 a0 6148914691236517205))) 3689348814741910323))))) 1085102592571150095)+((Go.bits .and .u64 (IntKind.u64.wrap (((IntKind.u64.wrap ((Go.bits .and .u64 ((IntKind.u64.wrap ((Go.bits .and .u64 (a0 / 2) 6148914691236517205)+(Go.bits .and .u64 a0 6148914691236517205))) / 4) 3689348814741910323)+(Go.bits .and .u64 (IntKind.u64.wrap ((Go.bits .and .u64 (a0 / 2) 6148914691236517205)+(Go.bits .and .u64 a0 6148914691236517205))) 3689348814741910323))) / 16)+(IntKind.u64.wrap ((Go.bits .and .u64 ((IntKind.u64.wrap ((Go.bits .and .u64 (a0 / 2) 6148914691236517205)+(Go.bits .and .u64 a0 6148914691236517205))) / 4) 3689348814741910323)+(Go.bits .and .u64 (IntKind.u64.wrap ((Go.bits .and .u64 (a0 / 2) 6148914691236517205)+(Go.bits .and .u64 a0 6148914691236517205))) 3689348814741910323))))) 1085102592571150095) / 256))) / 65536))) / 4294967296)))) 127)
set_option maxHeartbeats 8000000 in
set_option maxRecDepth 100000 in
theorem gC.calls (a0:Int) (r:Int) (w:World) (h:gC.f a0 = some r) :
  Calls Tryz.prog 182 #[.int .u64 a0] w fun e w'=>e = .returned (.int .i64 r)∧cT w w':=by
 unfold gC.f at h;have H:=h;clear h;obtain rfl:=Option.some.inj H;go_enter Tryz.func182,Tryz.ntmps182;go_wp2;go_ret;exact ⟨ww,zt⟩
def gD.f (a0:Int):Option (Int):=(gC.f a0).bind fun j=>(some j)
set_option maxHeartbeats 8000000 in
set_option maxRecDepth 100000 in
theorem gD.calls (a0:Int) (r:Int) (w:World) (h:gD.f a0 = some r) :
  Calls Tryz.prog 129 #[.int .u64 a0] w fun e w'=>e = .returned (.int .i64 r)∧cT w w':=by
 unfold gD.f at h;have H:=h;clear h;obtain ⟨j,y,H⟩:=xa H;(try dsimp only at H);obtain rfl:=Option.some.inj H;go_enter Tryz.func129,Tryz.ntmps129;go_wp2_with (first | (refine ws (some 7) Tryz.func182 #[.int .u64 a0] ?_;(with_reducible refine (gC.calls a0 j _ y.out).mono ?_);rintro e w' ⟨rfl,⟨nd,rfl⟩⟩;refine ⟨_,rfl,?_⟩));go_ret;exact ⟨ww,zt⟩
def eu.f (a0:Int):Option (Int):=(cK.f a0).bind fun j=>(if j = true then ((gD.f (IntKind.u64.wrap (a0))).bind fun y=>(some y)) else (some 0))
set_option maxHeartbeats 8000000 in
set_option maxRecDepth 100000 in
theorem eu.calls (a0:Int) (r:Int) (w:World) (h:eu.f a0 = some r) :
  Calls Tryz.prog 67 #[.int .i64 a0] w fun e w'=>e = .returned (.int .i64 r)∧cT w w':=by
 unfold eu.f at h;have H:=h;clear h;obtain ⟨y,z,H⟩:=xa H;(try dsimp only at H);by_cases c3:y = true
 ·subst c3
  replace H:((gD.f (IntKind.u64.wrap (a0))).bind fun j=>(some j)) = some r:=by rw [if_pos rfl] at H;exact H
  obtain ⟨j,X,H⟩:=xa H;(try dsimp only at H);obtain rfl:=Option.some.inj H;go_enter Tryz.func67,Tryz.ntmps67;go_wp2_with (first | (refine ws (some 4) Tryz.func128 #[.int .i64 a0] ?_;(with_reducible refine (cK.calls a0 true _ z.out).mono ?_);rintro e w' ⟨rfl,⟨nd,rfl⟩⟩;refine ⟨_,rfl,?_⟩) | (refine ws (some 8) Tryz.func129 #[.int .u64 (IntKind.u64.wrap (a0))] ?_;(with_reducible refine (gD.calls (IntKind.u64.wrap (a0)) j _ X.out).mono ?_);rintro e w' ⟨rfl,⟨nd,rfl⟩⟩;refine ⟨_,rfl,?_⟩));go_ret;exact ⟨ww,zt⟩
 ·replace c3:=Bool.eq_false_iff.mpr c3
  subst c3;replace H:(some 0) = some r:=by rw [if_neg (show ¬ (false = true) by decide)] at H;exact H
  obtain rfl:=Option.some.inj H;go_enter Tryz.func67,Tryz.ntmps67;go_wp2_with (first | (refine ws (some 4) Tryz.func128 #[.int .i64 a0] ?_;(with_reducible refine (cK.calls a0 false _ z.out).mono ?_);rintro e w' ⟨rfl,⟨nd,rfl⟩⟩;refine ⟨_,rfl,?_⟩));go_ret;exact ⟨ww,zt⟩
def eB.f (k:Nat) (y:Int) (j:List Int):Option (Int):=(ct.f k y j).bind fun z=>(if z = true then (if 0 < (j.length:Int) then ((eu.f (rd j 0)).bind fun X=>(some X)) else (none)) else (some (-1)))
set_option maxHeartbeats 8000000 in
set_option maxRecDepth 100000 in
theorem eB.calls (k:Nat) (X:Int) (Y:Option Addr) (a0:Nat) (j:List Int) (r:Int) (w:World) (a2:Kd.C (Kd.int .i64) w Y j.length j) (a3:j.length≤a0) (h:eB.f k X j = some r) :
  Calls Tryz.prog 62 #[.agg #[.int .i64 X,.slice Y j.length a0]] w fun e w'=>e = .returned (.int .i64 r)∧Below w.heap.size w w':=by
 have ba:=Tryz.underlying37;have a1:=ae.mk a2;have a4:=ae.mk a3;clear a2 a3;have HB:=ae.mk (Below.refl w.heap.size w);unfold eB.f at h;have H:=h;clear h;obtain ⟨ab,A2,H⟩:=xa H;(try dsimp only at H);by_cases c3:ab = true
 ·subst c3
  replace H:(if 0 < (j.length:Int) then ((eu.f (rd j 0)).bind fun a5=>(some a5)) else (none)) = some r:=by rw [if_pos rfl] at H;exact H
  obtain ⟨c4,H⟩:=xt H;have bc:=decide_eq_true c4;have bi:decide (0 < j.length) = true:=decide_eq_true (by omega);clear c4;obtain ⟨a5,A5,H⟩:=xa H;(try dsimp only at H);obtain rfl:=Option.some.inj H;go_enter Tryz.func62,Tryz.ntmps62;go_wp2_with (first | (refine zp 1 #[.int .i64 X,.slice Y j.length a0] 37 ?_;intro a8 hg w6 hbox hb;have y:=ae.mk hbox;have a9:=yv hg HB;have aa:=yv hg HB;replace HB:=xi HB hb;clear hb hbox hg;obtain ⟨aB,aF,aL,aO⟩:=xv y.out) | (refine ws (some 4) Tryz.func61 #[.agg #[.int .i64 X,.slice Y j.length a0]] ?_;(with_reducible refine (ct.calls k X _ _ j true _ ?side1 ?side2 A2.out).mono ?_);(case side1=>exact yi (Kd.aN a1.out HB.out));(case side2=>exact a4.out);rintro e w8 ⟨rfl,hb⟩;refine ⟨_,rfl,?_⟩;replace y:=xc y hb;replace HB:=xi HB hb;(try clear hb);(try clear b2);(try clear hk);(try clear hi);obtain ⟨aP,aR,aS,b0⟩:=xv y.out;have a6:0≤(0:Int):=(by omega);have a7:0 < (j.length:Int):=yk;obtain ⟨b3,am,z⟩:=Kd.fC a1.out 0 a6 a7;cases am;have b4:(0 < j.length) = True:=eq_true (by omega);(try rw [show ((0:Int)).toNat = 0 from rfl] at z);(try rw [Addr.add_zero'] at z);replace z:=(HB.out.cell (World.block_lt_of_cell? w _ z)).trans z;replace a6:=eq_true a6;replace a7:=eq_true a7) | (refine ws (some 10) Tryz.func67 #[.int .i64 (rd j 0)] ?_;(with_reducible refine (eu.calls (rd j 0) a5 _ A5.out).mono ?_);rintro e w' ⟨rfl,⟨nd,rfl⟩⟩;refine ⟨_,rfl,?_⟩));go_ret;exact ⟨zd,wy⟩
 ·replace c3:=Bool.eq_false_iff.mpr c3
  subst c3;replace H:(some (-1)) = some r:=by rw [if_neg (show ¬ (false = true) by decide)] at H;exact H
  obtain rfl:=Option.some.inj H;go_enter Tryz.func62,Tryz.ntmps62;go_wp2_with (first | (refine zp 1 #[.int .i64 X,.slice Y j.length a0] 37 ?_;intro a8 hg bm hbox hb;have y:=ae.mk hbox;have a9:=yv hg HB;have aa:=yv hg HB;replace HB:=xi HB hb;clear hb hbox hg;obtain ⟨ao,ap,ar,aw⟩:=xv y.out) | (refine ws (some 4) Tryz.func61 #[.agg #[.int .i64 X,.slice Y j.length a0]] ?_;(with_reducible refine (ct.calls k X _ _ j false _ ?side1 ?side2 A2.out).mono ?_);(case side1=>exact yi (Kd.aN a1.out HB.out));(case side2=>exact a4.out);rintro e bo ⟨rfl,hb⟩;refine ⟨_,rfl,?_⟩;replace y:=xc y hb;replace HB:=xi HB hb;(try clear hb);(try clear b2);(try clear hk);(try clear hi)));go_ret;exact ⟨zd,wy⟩
def dh.l0:Nat→Int→Int→List (List Int)→Int→Option ((List (List Int)))
 | 0,_,_,_,_=>none
 | k+1,z,j,y,X=>if X < z then (if 0≤j then (if (j:Int).toNat≤35184372088832 then (if y.length < 5864062014805 then (dh.l0 k z j (y ++ [(List.replicate (j:Int).toNat 0)]) (wrap64 (X+1))) else (none)) else (none)) else (none)) else (some y)
def dh.f (k:Nat) (a0:Int) (j:Int):Option ((List (List Int))):=dh.l0 k a0 j (([]:List (List Int))) 0
set_option maxHeartbeats 8000000 in
set_option maxRecDepth 100000 in
theorem dh.calls (k:Nat) (a0:Int) (a1:Int) (r:List (List Int)) (w:World) (h:dh.f k a0 a1 = some r) :
  Calls Tryz.prog 66 #[.int .i64 a0,.int .i64 a1] w fun e w'=>∃ b0:Value,e = .returned (b0)∧Kd.S (Kd.slice 3 (Kd.int .i64)) 22 w' w.heap.size (fun _=>True) b0 r∧Below w.heap.size w w':=by
 have HB:=ae.mk (Below.refl w.heap.size w);unfold dh.f at h;have H:=h;clear h;obtain ⟨aa,a3⟩:∃ y_:List (List Int),y_ = (([]:List (List Int))):=⟨_,rfl⟩
 replace H:(dh.l0 k a0 a1 aa 0) = some r:=by (try rw [a3]);exact AC
 have a7:=ae.mk a3;clear a3;have H':=ae.mk H;clear H;go_enter Tryz.func66,Tryz.ntmps66;go_wp2_with (first | ((with_reducible refine bu (N:=7) rfl ?_);refine Kd.qP (Kd.slice 3 (Kd.int .i64)) _ 22 ?hg (N:=7) ?hd (xs:=([]:List (List Int))) (inner:=[]) (ok:=fun _=>True) (okp:=fun _=>True) ?hr ?hp (fun _ hk=>hk) trivial (Below.refl _ _) (Nat.le_refl _) (by simp) ?_;(case hd=>rfl);(case hg=>rfl);(case hr=>first | (go_simp;done) | (go_simp;rfl));(case hp=>exact (cY.none _ _));intro bo w3 a8 hb ap a4;clear ap a4;(first | rw [← a7.out] at a8 | (simp only [Int.reduceToNat] at a8;rw [← a7.out] at a8));have ar:=ae.mk (Kd.j3 a8 (ak (wx HB.out)));replace HB:=xi HB hb;clear hb a8));go_loopg [5,6] k (fun kq v5 v6 w'=>∃ (y:List (List Int)) (j:Int),v6 = .int .i64 j∧ae (dh.l0 kq a0 a1 y j = some r)∧ae (kq≤k)∧ae (Kd.S (Kd.slice 3 (Kd.int .i64)) 22 w' w.heap.size (fun _=>True) v5 y)∧ae (Below w.heap.size w w'))
 case atStart=>exact ⟨(aa),(0),ww,H',⟨Nat.le_refl _⟩,⟨AG ar.out⟩,⟨wx HB.out⟩⟩
 case round =>
  clear H';obtain ⟨y,j,rfl,HA,b2,z,HB⟩:=hrel;cases gk with
  | zero=>exact absurd HA.out (by simp [dh.l0])
  | succ k1 =>
   have H:=HA.out;clear HA;simp only [dh.l0] at H;by_cases c5:j < a0
   ·rw [if_pos c5] at H
    have b3:=decide_eq_true c5;clear c5;obtain ⟨c6,H⟩:=xt H;have bs:=eq_true c6;have bv:decide (0≤a1) = true:=decide_eq_true c6;clear c6;obtain ⟨c7,H⟩:=xt H;have c0:=eq_true c7;have c1:decide ((a1:Int).toNat≤35184372088832) = true:=decide_eq_true c7;clear c7;obtain ⟨a2,a5⟩:∃ y_:List Int,y_ = (List.replicate (a1:Int).toNat 0):=⟨_,rfl⟩
    replace H:(if y.length < 5864062014805 then (dh.l0 k1 a0 a1 (y ++ [a2]) (wrap64 (j+1))) else (none)) = some r:=by (try rw [a5]);exact AC
    have a9:=ae.mk a5;clear a5;obtain ⟨c8,H⟩:=xt H;have b4:=ae.mk c8;clear c8;obtain ⟨ab,a6⟩:∃ y_:List (List Int),y_ = (y ++ [a2]):=⟨_,rfl⟩
    replace H:(dh.l0 k1 a0 a1 ab (wrap64 (j+1))) = some r:=by (try rw [a6]);exact AC
    have aw:=ae.mk a6;clear a6;have H':=ae.mk H;clear H;go_wp2_with (first | ((with_reducible refine bu (N:=15) rfl ?_);refine Kd.rQ (Kd.int .i64) _ 3 rfl (N:=15) rfl 22 _ _ rfl a1 rfl rfl Tryz.underlying22 (.int .i64 0) 8 fb rfl (by decide) (by omega) 0 (ok:=fun _=>True) (okp:=fun _=>True) rfl (fun _ hk=>hk) trivial (yk) (Nat.le_trans (Nat.mul_le_mul_right _ (yk:a1.toNat≤35184372088832)) (by omega)) (Below.refl _ _) (Nat.le_refl _) ?_;intro ca w9 X hb ap a4;clear ap a4;(first | rw [← a9.out] at X | (simp only [Int.reduceToNat] at X;rw [← a9.out] at X));replace z:=ae.mk (Kd.fV (AG z.out) (Kd.cL X) hb);have Y:=ae.mk (Kd.b5 X (ak (wx HB.out)));replace HB:=xi HB hb;clear hb X;obtain ⟨am,ao,ba⟩:=Kd.bk Y.out;subst ba) | ((with_reducible refine cF (b:=.append) (xs:=#[.tmp 13,.tmp 16]) rfl ?_);at_builtin;refine Kd.o3 (Kd.slice 3 (Kd.int .i64)) (w0:=w) w.heap.size rfl (.tmp 13) (.tmp 16) 46 22 (.slice none 0 0) 24 rfl Tryz.underlying46 s5 rfl (by decide) (by omega) u5 y a2 [.slice am a2.length ao] (fun _=>True) (fun k_=>some k_ = (.slice am a2.length ao:Value).ownBlock) rfl rfl ?aP (fun k_ bm=>((Kd.aQ (ok':=fun k_=>((fun _=>True)) k_∧some k_≠(u5:Value).ownBlock) (Kd.jX (Y.out) (Kd.ld z.out) (by decide)) (fun k_ hk=>⟨trivial,hk.2⟩))).1 k_ bm.symm) ?aF ?aO ?aB ?aS ?aL ?_;(case aP=>exact Kd.oX (Kd.aQ (Kd.nE rfl (Kd.aQ (ok':=fun k_=>((fun _=>True)) k_∧some k_≠(u5:Value).ownBlock) (Kd.jX (Y.out) (Kd.ld z.out) (by decide)) (fun k_ hk=>⟨trivial,hk.2⟩))) (fun _ h_=>h_)));(case aB=>exact (wx HB.out));(case aF=>exact (fun _ _=>trivial));(case aO=>exact (AG (Kd.jf z.out (fun k_ hk=>⟨trivial,fun e_=>hk.2 e_⟩))));(case aS=>exact (ak (wx HB.out)));(case aL=>have:=b4.out;omega);intro cb cc ho hb hg hat;rw [← aw.out] at ho;have bc:=ae.mk hb;have bi:=ae.mk ho;clear HB;clear z;clear Y;have HB:=bc;have aR:=bi;clear bc bi;clear ho hb hg hat));go_roundg k1;case measure=>have:=b2.out;omega
    case rel=>exact ⟨(ab),(wrap64 (j+1)),ww,H',⟨by have:=b2.out;omega⟩,⟨AG aR.out⟩,⟨wx HB.out⟩⟩
   ·rw [if_neg c5] at H
    have b3:decide (j < a0) = false:=decide_eq_false c5;clear c5;obtain rfl:=Option.some.inj H;go_wp2;go_ret;exact ⟨_,zd,by (with_reducible repeat (first | apply Kd.l8 | apply Kd.l9 | apply Kd.iH));exact z.out,wy⟩
def bq.l0:Nat→List (List Int)→List Int→Int→Int→Int→List Int→Option ((List (List Int)))
 | 0,_,_,_,_,_,_=>none
 | k+1,x4,a0,a1,Y,j,y=>if Y < a1 then (if 0≤Y then (if Y < (a0.length:Int) then ((aU.f k j y (rd a0 Y)).bind fun a2=>((eu.f a2).bind fun z=>(if 0≤z then (if z < (x4.length:Int) then ((aH.f k j y (rd a0 Y)).bind fun a3=>((eu.f a3).bind fun X=>(if 0≤X then (if X < ((di x4 z).length:Int) then (bq.l0 k (x4.set (z:Int).toNat ((di x4 z).set (X:Int).toNat (wrap64 ((rd (di x4 z) X)+1)))) a0 a1 (wrap64 (Y+1)) j y) else (none)) else (none)))) else (none)) else (none)))) else (none)) else (none)) else (some x4)
def bq.f (k:Nat) (y:Int) (j:List Int):Option ((List (List Int))):=(eB.f k y j).bind fun z=>(if z < 0 then (some ([]:List (List Int))) else ((dh.f k (wrap64 (z+1)) (wrap64 ((wrap64 (y - z))+1))).bind fun X=>(bq.l0 k X j (j.length:Int) 0 y j)))
def bq.T8:Bool×List (List Nat×List Nat):=(true,[([],[]),([],[]),([],[]),([1,2],[1,2]),([3,3],[3]),([0,4],[0,4]),([5],[5]),([],[]),([],[]),([7,8,4],[7,8]),([9,9],[9]),([6,10],[6,10]),([11],[11]),([12],[12]),([6,10,0,1,2,3,4,5,6,7,8,9,10,11,12,13],[6,10]),([14,13,10,0,1,2,3,4,5,6,7,8,9,10,11,12,13],[13,14])])
def bq.B8:List Nat:=[0,0,0,6,14,31,63,0,0,414,926,2047,4095,8191,16383,32767]
theorem bq.o9:gv .any (opsOf Tryz.f26 8) = bq.T8:=by kernel_rfl
theorem bq.kL:eN bq.T8.2 bq.B8 = true:=by kernel_rfl
set_option maxHeartbeats 8000000 in
set_option maxRecDepth 100000 in
theorem bq.calls (k:Nat) (X:Int) (ao:Option Addr) (a8:Nat) (y:List Int) (r:List (List Int)) (w:World) (bo:Kd.C (Kd.int .i64) w ao y.length y) (bs:y.length≤a8) (h:bq.f k X y = some r) :
  Calls Tryz.prog 26 #[.agg #[.int .i64 X,.slice ao y.length a8]] w fun e w'=>∃ dC:Value,e = .returned (dC)∧Kd.S (Kd.slice 3 (Kd.int .i64)) 22 w' w.heap.size (fun _=>True) dC r∧Below w.heap.size w w':=by
 have h0:=Tryz.underlying37;have ap:=ae.mk bo;have aB:=ae.mk bs;clear bo bs;have HB:=ae.mk (Below.refl w.heap.size w);unfold bq.f at h;have H:=h;clear h;obtain ⟨ab,A2,H⟩:=xa H;(try dsimp only at H);by_cases c3:ab < 0
 ·rw [if_pos c3] at H
  have dE:=decide_eq_true c3;clear c3;obtain rfl:=Option.some.inj H;go_enter Tryz.func26,Tryz.ntmps26;go_wp2_with (first | (refine zp 1 #[.int .i64 X,.slice ao y.length a8] 37 ?_;intro aF hg w4 hbox hb;have j:=ae.mk hbox;have d9:=yv hg HB;have bv:=yv hg HB;replace HB:=xi HB hb;clear hb hbox hg;obtain ⟨f1,f2,f3,f4⟩:=xv j.out) | (refine ws (some 8) Tryz.func62 #[.agg #[.int .i64 X,.slice ao y.length a8]] ?_;(with_reducible refine (eB.calls k X _ _ y ab _ ?side1 ?side2 A2.out).mono ?_);(case side1=>exact yi (Kd.aN ap.out HB.out));(case side2=>exact aB.out);rintro e w6 ⟨rfl,hb⟩;refine ⟨_,rfl,?_⟩;replace j:=xc j hb;replace HB:=xi HB hb;(try clear hb);(try clear cq);(try clear hk);(try clear hi)));go_ret;exact ⟨_,zd,by first | exact Kd.xP _ _ _ _ _ | exact Kd.xR _ _ _ _ _ | exact Kd.xS _ _ _ _ _ | exact Kd.xN _ _ _ _ _ | exact Kd.ni _ _ _ _ _,wy⟩
 ·rw [if_neg c3] at H
  have dE:decide (ab < 0) = false:=decide_eq_false c3;clear c3;obtain ⟨d3,A7,H⟩:=xa H;(try dsimp only at H);have H':=ae.mk H;clear H;go_enter Tryz.func26,Tryz.ntmps26;go_wp2_with (first | (refine zp 1 #[.int .i64 X,.slice ao y.length a8] 37 ?_;intro aF hg w8 hbox hb;have j:=ae.mk hbox;have d9:=yv hg HB;have bv:=yv hg HB;replace HB:=xi HB hb;clear hb hbox hg;obtain ⟨f5,f6,f7,f8⟩:=xv j.out) | (refine ws (some 8) Tryz.func62 #[.agg #[.int .i64 X,.slice ao y.length a8]] ?_;(with_reducible refine (eB.calls k X _ _ y ab _ ?side1 ?side2 A2.out).mono ?_);(case side1=>exact yi (Kd.aN ap.out HB.out));(case side2=>exact aB.out);rintro e hq ⟨rfl,hb⟩;refine ⟨_,rfl,?_⟩;replace j:=xc j hb;replace HB:=xi HB hb;(try clear hb);(try clear cq);(try clear hk);(try clear hi);obtain ⟨dT,e0,e1,e2⟩:=xv j.out) | (refine ws (some 18) Tryz.func66 #[.int .i64 (wrap64 (ab+1)),.int .i64 (wrap64 ((wrap64 (X - ab))+1))] ?_;(with_reducible refine (dh.calls k (wrap64 (ab+1)) (wrap64 ((wrap64 (X - ab))+1)) d3 _ A7.out).mono ?_);rintro e hr ⟨e3,rfl,e4,hb⟩;refine ⟨_,rfl,?_⟩;have db:=ae.mk (Kd.j3 e4 (ak (wx HB.out)));replace j:=xc j hb;replace HB:=xi HB hb;(try clear hb);(try clear cq);(try clear hk);(try clear hi);(try clear e4);obtain ⟨e5,e8,ea,eb⟩:=xv j.out));go_loopg [22] k (fun kq v22 w'=>∃ (Y:List (List Int)) (a0:Int),v22 = .int .i64 a0∧ae (bq.l0 kq Y y (y.length:Int) a0 X y = some r)∧ae (kq≤k)∧ae (Kd.S (Kd.slice 3 (Kd.int .i64)) 22 w' w.heap.size (fun _=>True) e3 Y)∧ae (w'.heap[aF]? = some (.cells #[.int .i64 X,(.slice ao y.length a8)] 37 (0,0)))∧ae (Below w.heap.size w w'))
  case atStart=>exact ⟨(d3),(0),ww,H',⟨Nat.le_refl _⟩,⟨AG db.out⟩,⟨xf j.out⟩,⟨wx HB.out⟩⟩
  case round =>
   clear H';obtain ⟨Y,a0,rfl,HA,ec,a2,j,HB⟩:=hrel;cases gk with
   | zero=>exact absurd HA.out (by simp [bq.l0])
   | succ k1 =>
    have H:=HA.out;clear HA;simp only [bq.l0] at H;by_cases bm:a0 < (y.length:Int)
    ·rw [if_pos bm] at H
     have dd:=decide_eq_true bm;clear bm;obtain ⟨ed,H⟩:=xt H;have fp:=decide_eq_true ed;clear ed;obtain ⟨ee,H⟩:=xt H;have fs:=decide_eq_true ee;clear ee;obtain ⟨c0,ft,H⟩:=xa H;(try dsimp only at H);obtain ⟨z,fw,H⟩:=xa H;(try dsimp only at H);obtain ⟨ef,H⟩:=xt H;have g0:=decide_eq_true ef;clear ef;obtain ⟨eh,H⟩:=xt H;have g1:=decide_eq_true eh;clear eh;obtain ⟨c1,g2,H⟩:=xa H;(try dsimp only at H);obtain ⟨a3,g3,H⟩:=xa H;(try dsimp only at H);obtain ⟨ei,H⟩:=xt H;have g4:=decide_eq_true ei;clear ei;obtain ⟨ej,H⟩:=xt H;have g5:=decide_eq_true ej;clear ej;obtain ⟨ca,aS⟩:∃ y_:List Int,y_ = ((di Y z).set (a3:Int).toNat (wrap64 ((rd (di Y z) a3)+1))):=⟨_,rfl⟩
     replace H:(bq.l0 k1 (Y.set (z:Int).toNat ca) y (y.length:Int) (wrap64 (a0+1)) X y) = some r:=by (try rw [aS]);exact AC
     have df:=ae.mk aS;clear aS;obtain ⟨d4,b0⟩:∃ y_:List (List Int),y_ = (Y.set (z:Int).toNat ca):=⟨_,rfl⟩
     replace H:(bq.l0 k1 d4 y (y.length:Int) (wrap64 (a0+1)) X y) = some r:=by (try rw [b0]);exact AC
     have dk:=ae.mk b0;clear b0;have H':=ae.mk H;clear H;obtain ⟨b2,el,ar,h6,h7⟩:=At ap.out a0;cases el
     (try replace ar:=(HB.out.cell (World.block_lt_of_cell? w _ ar)).trans ar);(try go_wp2);replace a2:=ae.mk (Kd.iH a2.out);replace j:=ae.mk (cM j.out);replace HB:=ae.mk (bP HB.out);have b3:0≤(z:Int):=yk;have b4:z < (Y.length:Int):=yk;(try (obtain ⟨g6,g7,dl⟩:=Kd.ji a2.out;subst dl));obtain ⟨dp,f9,cx,em,a9,aL,aO⟩:=kF (Kd.ez a2.out).2.2 z b3 b4;cases em
     obtain ⟨g8,cy,d0,ba⟩:=Kd.qO a2.out [] z b3 (by first | exact b4 | exact yk | (have e_:=(Kd.ez a2.out).1;omega));obtain ⟨eo,rfl,aw⟩:=d0;have a6:=ba 0 _ rfl;rw [Nat.add_zero,show ((Kd.slice 3 (Kd.int .i64))).sz = 1 from rfl,Nat.mul_one] at a6;replace a6:=Option.some.inj (a6.symm.trans a9);rw [a6] at aw;have a1:=ae.mk (show Kd.R (Kd.int .i64) 3 _ _ _ _ (di Y z) from aw);clear a6 aw;have a5:=ae.mk a9;clear ba cy;have a4:=ae.mk aO;have eq:=ae.mk aL;clear aO aL;replace b3:=eq_true b3;replace b4:=eq_true b4;have aP:0≤(a3:Int):=yk;have aR:a3 < ((di Y z).length:Int):=yk;obtain ⟨cb,es,aa⟩:=Kd.fC a4.out a3 aP aR;cases es
     clear aP aR;refine eT (n:=16) (S:=fun w'=>w'.cell? ⟨aF,0,none⟩ = some (.int .i64 X)∧w'.cell? ⟨aF,1,none⟩ = some (.slice (some b2) y.length a8)∧w'.cell? (dp.add (z).toNat) = some (.slice (some cb) (di Y z).length cx)∧w'.cell? (cb.add (a3).toNat) = some (.int .i64 (rd (di Y z) a3))) (ds:=[15]) #[false,false,false,false,false,false,false,false,false,false,false,false,false,false,false,false] (by kernel_rfl) rfl rfl ⟨(ah j.out 0).trans rfl,(ah j.out 1).trans rfl,a9,aa⟩ (fun hHeld=>?_);refine da bq.o9 bq.kL (fun a7 d1=>?_);generalize wr.drew = ht at a2 j HB a1 a4 a5 a9 aa hHeld ⊢;refine wt 0 26 a7 ?_;refine wt 2 28 a7 ?_;refine wt 8 34 a7 ?_;refine AF 1 27 a7 d1 hHeld ?_;refine AF 7 33 a7 d1 hHeld ?_;refine fe (i:=3) (N:=some 29) #[true,true,true,true,false,false,false,true,true,false,false,false,false,false,false,false] rfl rfl (cH a7.out (by kernel_rfl)) (by decide) (fun K hK=>?_);refine eK Tryz.func31 (by kernel_rfl) rfl #[.agg #[.int .i64 X,.slice (some b2) y.length a8],.int .i64 (rd y a0)] (by rfl) rfl rfl (by (try simp only [List.map_toArray,List.map_cons,List.map_nil]);first | done | rfl) ?_;with_reducible refine (aU.calls k1 X _ _ y (rd y a0) c0 _ ?side1 ?side2 ft.out).mono ?_
     (case side1=>exact yi (Kd.aN ap.out HB.out));(case side2=>exact aB.out);rintro e hu ⟨rfl,hb⟩
     have cc:=(hb.cell (World.block_lt_of_cell? _ _ (hHeld.2.2.1))).trans (hHeld.2.2.1);have ce:=(hb.cell (World.block_lt_of_cell? _ _ (hHeld.2.2.2))).trans (hHeld.2.2.2);refine ⟨_,rfl,?_⟩;replace a1:=ae.mk (Kd.dG (ac a1.out) hb);replace a4:=ae.mk (Kd.aN a4.out hb);replace a5:=ae.mk (gu hb a5.out);replace a2:=ae.mk (Kd.eM (AG a2.out) hb);replace j:=xc j hb;replace HB:=xi HB hb;(try clear hb);(try clear cq);(try clear hk);(try clear hi);refine hK.out _ _ ⟨(ah j.out 0).trans rfl,(ah j.out 1).trans rfl,cc,ce⟩ (fun hHeld=>?_);clear hK K;refine dN (a':=?_) ?_ ?_;rotate_left
     ·show Act.put _ (some 29) _ = _
      simp only [Act.put,List.setIfInBounds_toArray,List.set_cons_zero,List.set_cons_succ,b7,bC];rfl
     refine fe (i:=4) (N:=some 30) #[true,true,true,true,true,false,false,true,true,false,false,false,false,false,false,false] rfl rfl (cH a7.out (by kernel_rfl)) (by decide) (fun K hK=>?_);refine eK Tryz.func67 (by kernel_rfl) rfl #[.int .i64 c0] (by rfl) rfl rfl (by (try simp only [List.map_toArray,List.map_cons,List.map_nil]);first | done | rfl) ?_;with_reducible refine (eu.calls c0 z _ fw.out).mono ?_
     rintro e w' ⟨rfl,⟨nd,rfl⟩⟩
     refine ⟨_,rfl,?_⟩;obtain ⟨h8,h9,d5⟩:=Kd.ji a2.out;(first | subst d5 | (injection d5 with et g9 ev;have gb:=et.symm;have gc:=ev.symm;clear et g9 ev;subst gb;subst gc));refine hK.out _ _ ⟨(ah j.out 0).trans rfl,(ah j.out 1).trans rfl,hHeld.2.2.1,hHeld.2.2.2⟩ (fun hHeld=>?_);clear hK K;refine dN (a':=?_) ?_ ?_;rotate_left
     ·show Act.put _ (some 30) _ = _
      simp only [Act.put,List.setIfInBounds_toArray,List.set_cons_zero,List.set_cons_succ,b7,bC];rfl
     refine wt 5 31 a7 ?_;refine AF 6 32 a7 d1 hHeld ?_;refine fe (i:=9) (N:=some 35) #[true,true,true,true,true,true,true,true,true,true,false,false,false,false,false,false] rfl rfl (cH a7.out (by kernel_rfl)) (by decide) (fun K hK=>?_);refine eK Tryz.func29 (by kernel_rfl) rfl #[.agg #[.int .i64 X,.slice (some b2) y.length a8],.int .i64 (rd y a0)] (by rfl) rfl rfl (by (try simp only [List.map_toArray,List.map_cons,List.map_nil]);first | done | rfl) ?_;with_reducible refine (aH.calls k1 X _ _ y (rd y a0) c1 _ ?side1 ?side2 g2.out).mono ?_
     (case side1=>exact yi (Kd.aN ap.out HB.out));(case side2=>exact aB.out);rintro e hx ⟨rfl,hb⟩
     have cc:=(hb.cell (World.block_lt_of_cell? _ _ (hHeld.2.2.1))).trans (hHeld.2.2.1);have ce:=(hb.cell (World.block_lt_of_cell? _ _ (hHeld.2.2.2))).trans (hHeld.2.2.2);refine ⟨_,rfl,?_⟩;replace a2:=ae.mk (Kd.eM (AG a2.out) hb);replace a1:=ae.mk (Kd.dG (ac a1.out) hb);replace j:=xc j hb;replace a4:=ae.mk (Kd.aN (by repeat (first | (with_reducible exact a4.out) | (with_reducible refine Kd.gi ?_ _) | (with_reducible refine Kd.gj ?_ _) | (with_reducible refine Kd.gJ ?_) | exact a4.out)) hb);replace a5:=ae.mk (gu hb a5.out);replace HB:=xi HB hb;(try clear hb);(try clear cq);(try clear hk);(try clear hi);refine hK.out _ _ ⟨(ah j.out 0).trans rfl,(ah j.out 1).trans rfl,cc,ce⟩ (fun hHeld=>?_);clear hK K;refine dN (a':=?_) ?_ ?_;rotate_left
     ·show Act.put _ (some 35) _ = _
      simp only [Act.put,List.setIfInBounds_toArray,List.set_cons_zero,List.set_cons_succ,b7,bC];rfl
     refine fe (i:=10) (N:=some 36) #[true,true,true,true,true,true,true,true,true,true,true,false,false,false,false,false] rfl rfl (cH a7.out (by kernel_rfl)) (by decide) (fun K hK=>?_);refine eK Tryz.func67 (by kernel_rfl) rfl #[.int .i64 c1] (by rfl) rfl rfl (by (try simp only [List.map_toArray,List.map_cons,List.map_nil]);first | done | rfl) ?_;with_reducible refine (eu.calls c1 a3 _ g3.out).mono ?_
     rintro e w' ⟨rfl,⟨nd,rfl⟩⟩
     refine ⟨_,rfl,?_⟩;have aP:0≤(a3:Int):=yk;have aR:a3 < ((di Y z).length:Int):=yk;have aa:=hHeld.2.2.2;replace aP:=eq_true aP;replace aR:=eq_true aR;have dq:0≤(a3:Int):=yk;have dt:(a3:Int) < (((di Y z).length:Int):Int):=yk;obtain ⟨hj,hl,d6,d7,ew,hm,d8⟩:=Kd.mL a1.out (by omega);(first | cases d6 | (injection d6 with d2 go gs;(first | subst d2 | (injection d2 with d2;subst d2));subst gs;clear go));have ex:=ae.mk d7;have hn:=ae.mk d8;clear d7 ew d8;(first | simp only [add_plain] at aa | skip);obtain ⟨fd,fi⟩:=Kd.kp 0 a1.out (a3:Int) dq dt;replace dq:=eq_true dq;replace dt:=eq_true dt;have ey:(z:Int) < (Y.length:Int):=(by have h_:(z:Int) < ((Y.length:Int):Int):=yk;first | exact h_ | (have e_:=(Kd.ez a2.out).1;omega) | simpa only [List.length_set,List.length_set] using h_)
     obtain ⟨gt,ho,du,eQ,cf,dv,ci⟩:=Kd.o4 a2.out [] (z:Int) (yk) ey;obtain ⟨fj,rfl,am⟩:=eQ;have bc:=cf 0 _ rfl;rw [Nat.add_zero,show ((Kd.slice 3 (Kd.int .i64))).sz = 1 from rfl,Nat.mul_one] at bc;replace bc:=Option.some.inj (bc.symm.trans a5.out);subst bc;clear cf du;replace am:=(show Kd.R (Kd.int .i64) 3 _ _ _ _ (di Y z) from am)
     have bi:=Kd.nW am (a3:Int) (wrap64 ((rd (di Y z) a3)+1));rw [← df.out] at bi;have cp:=ci bi.2 (fun k_ e_=>by injection e_ with e_;subst e_;exact am.1 _ rfl) (x':=ca) (Kd.oX bi.1);rw [← dk.out] at cp;have f0:=ae.mk cp;clear bi cp ci dv;refine hK.out _ _ ⟨(ah j.out 0).trans rfl,(ah j.out 1).trans rfl,hHeld.2.2.1,hHeld.2.2.2⟩ (fun hHeld=>?_);clear hK K;refine dN (a':=?_) ?_ ?_;rotate_left
     ·show Act.put _ (some 36) _ = _
      simp only [Act.put,List.setIfInBounds_toArray,List.set_cons_zero,List.set_cons_succ,b7,bC];rfl
     refine wt 11 37 a7 ?_;refine m6 (i:=12) (N:=some 38) (v:=?_) (a':=?_) #[true,true,true,true,true,true,true,true,true,true,true,true,true,false,false,false] rfl rfl (kK a7.out d1.out (by kernel_rfl)) (fun _ _ _ h=>h) (Or.inl ⟨by rfl,?_⟩) hHeld ?_ ?_;rotate_left
     ·rintro w' ⟨s0,s1,s2,s3⟩
      simp only [add_plain] at s3;go_simp
      with_reducible rfl
     rotate_left
     ·simp only [Act.put,List.setIfInBounds_toArray,List.set_cons_zero,List.set_cons_succ,b7,bC]
      rfl
     refine wt 13 39 a7 ?_;refine wt 14 40 a7 ?_;refine lH (i:=15) (N:=none) #[true,true,true,true,true,true,true,true,true,true,true,true,true,true,true,true] rfl rfl (cH a7.out (by kernel_rfl)) (by decide) (fun K hK=>?_);refine nk (w1:=?_) (by rfl) rfl ?_ ?_;rotate_left
     ·go_simp
      rfl
     refine hK.out _ _ ?_;clear hK K;refine fP (e9 a7.out (by kernel_rfl)) ?_;(try go_wp2);go_roundg k1;case measure=>have:=ec.out;omega
     case rel=>exact ⟨(d4),(wrap64 (a0+1)),ww,H',⟨by have:=ec.out;omega⟩,⟨f0.out⟩,⟨by (with_reducible repeat (first | refine iR ?_ _ | refine cM ?_ | refine hY ?_ _));refine nD ?_ (by have h_:=Kd.jU a1.out j.out (by decide);intro e_;exact h_ (by rw [e_];rfl)) _;(with_reducible repeat (first | refine iR ?_ _ | refine cM ?_ | refine hY ?_ _));exact j.out⟩,⟨by repeat (first | (with_reducible first | exact HB.out | apply e6 | apply dX | apply bP | refine dY ?_ ex.out | refine dY ?_ bv.out) | exact HB.out)⟩⟩
    ·rw [if_neg bm] at H
     have dd:decide (a0 < (y.length:Int)) = false:=decide_eq_false bm;clear bm;obtain rfl:=Option.some.inj H;go_wp2;go_ret;exact ⟨_,zd,by (with_reducible repeat (first | apply Kd.l8 | apply Kd.l9 | apply Kd.iH));exact a2.out,wy⟩
def dU.f (k:Nat) (l0:List Int):Option (Int×List Int):=(dF.f k l0).bind fun j=>((cG.f k j.1 j.2.1 j.2.2 6).bind fun y=>(some (y.1,y.2.1)))
set_option maxHeartbeats 8000000 in
set_option maxRecDepth 100000 in
theorem dU.calls (k:Nat) (A0:Option Addr) (c0:Nat) (l0:List Int) (r1:Int) (r2:List Int) (w:World) (a8:Kd.C (Kd.int .u8) w A0 l0.length l0) (a9:l0.length≤c0) (h:dU.f k l0 = some (r1,r2)) :
  Calls Tryz.prog 27 #[.slice A0 l0.length c0] w fun e w'=>∃ aa:Value,e = .returned (.agg #[.int .i64 r1,aa])∧Kd.R (Kd.int .i64) 3 w' w.heap.size (fun _=>True) aa r2∧Below w.heap.size w w':=by
 have b2:=Tryz.underlying37;have aO:=ae.mk a8;have aP:=ae.mk a9;clear a8 a9;have HB:=ae.mk (Below.refl w.heap.size w);unfold dU.f at h;have H:=h;clear h;obtain ⟨⟨a3,a4,a5⟩,A2,H⟩:=xa H;(try dsimp only at H);obtain ⟨⟨Y,a0,ab,am⟩,A3,H⟩:=xa H;(try dsimp only at H);simp only [Option.some.injEq,Prod.mk.injEq] at H;obtain ⟨rfl,rfl⟩:=H;go_enter Tryz.func27,Tryz.ntmps27;go_wp2_with (first | (refine zp 2 #[.int .i64 0,.slice none 0 0] 37 ?_;intro z hg w4 hbox hb;have j:=ae.mk hbox;have aR:=yv hg HB;have aS:=yv hg HB;replace HB:=xi HB hb;clear hb hbox hg) | (refine ws (some 4) Tryz.func65 #[.slice A0 l0.length c0] ?_;(with_reducible refine (dF.calls k _ _ l0 a3 a4 a5 w _ ?side1 ?side2 ?side3 A2.out).mono ?_);(case side1=>exact yr HB);(case side2=>exact aO.out);(case side3=>exact aP.out);rintro e w5 ⟨a6,rfl,hi,hb,a1⟩;refine ⟨_,rfl,?_⟩;replace HB:=ae.mk hb;have a7:=ae.mk hi;have X:=ae.mk (aG.jS hi (b6 (xf j.out) a1) (by decide));have y:=ae.mk (Ne.symm (aG.jS hi (b6 (xf j.out) a1) (by decide)));replace j:=ae.mk (b6 (xf j.out) a1);(try clear hb);(try clear a1);(try clear hk);(try clear hi)) | (refine ws (some 5) Tryz.func64 #[.pointer (some ⟨a6,0,none⟩),.int .i64 6] ?_;(with_reducible refine (cG.calls k a6 a3 a4 a5 6 Y a0 ab am w _ ?side1 ?side2 A3.out).mono ?_);(case side1=>exact xr);(case side2=>exact yr HB);rintro e w6 ⟨b3,rfl,ao,hi,hb,hk⟩;refine ⟨_,rfl,?_⟩;replace j:=ae.mk (an.blk hk (g':=z) (o:=.cells #[.int .i64 0,.slice none 0 0] 37 (0,0)) (xf j.out) y.out (by simp));have a2:=ae.mk (Kd.b5 ao (ak (yr HB)));replace HB:=ae.mk hb;replace a7:=ae.mk hi;(try clear hb);(try clear a1);(try clear hk);(try clear hi);(try clear ao);have b4:=y.out;have ba:=X.out;obtain ⟨aw,aB,aF,aL⟩:=xv j.out;obtain ⟨ap,ar,b0⟩:=Kd.bk a2.out;subst b0));refine bodyPost_ret (results_cell_row rfl _ _ z 37 #[.int .i64 Y,.slice ap a0.length ar] (0,0) _ rfl AE Tryz.underlying37 rfl (by kernel_rfl)) rfl ?_;exact ⟨_,zd,by (with_reducible repeat (first | apply Kd.cP | apply Kd.cQ | apply Kd.bY));exact Kd.aQ (Kd.bU (p:=⟨z,1,none⟩) (Kd.bU (p:=⟨z,0,none⟩) (Kd.cr a2.out j.out (by decide)) (fun _ hk=>hk.2) (.int .i64 Y)) (fun _ hk=>hk.2) (.slice ap a0.length ar)) (fun _ hk=>trivial),yr HB⟩
def cC.l0 (g:Int→Option Bool):Nat→Int→List Int→Int→Option (List Int)
 | 0,_,_,_=>none
 | k+1,z,y,j=>(dH.f z).bind fun t=>(if j≤t then ((g j).bind fun b=>(if b = true then (if y.length < 17592186044416 then (cC.l0 g k z (y ++ [j]) (wrap64 (j+1))) else (none)) else (cC.l0 g k z y (wrap64 (j+1))))) else (some y))
def cC.f (k:Nat) (a0:Int) (g:Int→Option Bool):Option (List Int):=cC.l0 g k a0 [] 0
set_option maxHeartbeats 8000000 in
set_option maxRecDepth 100000 in
theorem cC.calls (k:Nat) (a0:Int) (fv:Value) (g:Int→Option Bool) (r:List Int) (w:World) (hF:af.nA Tryz.prog w fv g) (h:cC.f k a0 g = some r) :
  Calls Tryz.prog 68 #[.int .i64 a0,fv] w fun e w'=>∃ am:Value,e = .returned (am)∧Kd.R (Kd.int .i64) 3 w' w.heap.size (fun _=>True) am r∧Below w.heap.size w w':=by
 have HB:=ae.mk (Below.refl w.heap.size w);obtain ⟨a5,a1⟩:∃ y_:List Int,y_ = (([]:List Int)):=⟨_,rfl⟩
 have H:(cC.l0 g k a0 a5 0) = some r:=by rw [a1];exact h
 clear h;have a7:=ae.mk a1;clear a1;have H':=ae.mk H;clear H;go_enter Tryz.func68,Tryz.ntmps68;go_wp2_with (first | (refine AL (Kd.int .i64) 3 7 ?_;intro aF w2 a8 hb aB a9;clear aB a9;rw [← a7.out] at a8;have a3:=ae.mk (Kd.b5 a8 (ak HB.out));replace HB:=ae.mk (aq HB.out hb);clear hb a8));go_loopg [5,6] k (fun kq v5 v6 w'=>∃ (Y:List Int) (y:Int),v6 = .int .i64 y∧ae (cC.l0 g kq a0 Y y = some r)∧ae (kq≤k)∧ae (Kd.R (Kd.int .i64) 3 w' w.heap.size (fun _=>True) v5 Y)∧ae (Below w.heap.size w w'))
 case atStart=>exact ⟨a5,0,rfl,H',⟨Nat.le_refl _⟩,a3,HB⟩
 case round =>
  clear H';(try clear HB);(try clear a3);obtain ⟨Y,y,rfl,HA,a4,j,HB⟩:=hrel;cases gk with
  | zero=>exact absurd HA.out (by simp [cC.l0])
  | succ k1 =>
   have H:=HA.out;clear HA;simp only [cC.l0] at H;obtain ⟨t,ao,H⟩:=Option.bind_eq_some_iff.mp H;have A4:=ae.mk ao;clear ao;by_cases c4:y≤t
   ·rw [if_pos c4] at H
    have ap:=decide_eq_true c4;clear c4;obtain ⟨t127,ar,H⟩:=Option.bind_eq_some_iff.mp H;have A5:=ae.mk ar;clear ar;by_cases c6:t127 = true
    ·subst c6
     replace H:(if Y.length < 17592186044416 then (cC.l0 g k1 a0 (Y ++ [y]) (wrap64 (y+1))) else (none)) = some r:=by rw [if_pos rfl] at H;exact H
     obtain ⟨c7,H⟩:=xt H;have aw:=ae.mk c7;clear c7;obtain ⟨a6,a2⟩:∃ y_:List Int,y_ = (Y ++ [y]):=⟨_,rfl⟩
     replace H:(cC.l0 g k1 a0 a6 (wrap64 (y+1))) = some r:=by rw [a2];exact H
     have aa:=ae.mk a2;clear a2;have H':=ae.mk H;clear H;go_wp2_with (first | (refine ws (some 10) Tryz.func75 #[.int .i64 a0] ?_;(with_reducible refine (dH.calls a0 t _ A4.out).mono ?_);rintro e w' ⟨rfl,hd⟩;refine ⟨_,rfl,?_⟩;have z:=ae.mk (aq HB.out hd.below);have X:=ae.mk (Kd.dG j.out hd.below);clear HB j hd;have HB:=z;have j:=X;clear X z) | ((with_reducible refine bu (N:=16) rfl ?_);refine af.pY (some 16) rfl rfl 14 rfl hF A5.out HB.out rfl (by (try simp only [List.map_toArray,List.map_cons,List.map_nil]);first | done | rfl) ?_;intro w5 hb;have z:=ae.mk (aq HB.out hb);have X:=ae.mk (Kd.dG j.out hb);clear HB j hb;have HB:=z;have j:=X;clear X z) | ((with_reducible refine cF (b:=.append) (xs:=#[.tmp 17,.tmp 19]) rfl ?_);at_builtin;refine Kd.eS (Kd.int .i64) (w0:=w) w.heap.size rfl (.tmp 17) (.tmp 19) 22 3 (.int .i64 0) 8 rfl Tryz.underlying22 fb rfl (by decide) (by omega) u5 Y y [.int .i64 y] (fun _=>True) (fun _=>False) rfl rfl (by exact rfl) (fun _ hk=>hk.elim) (by exact fun _ _=>trivial) (by exact by (with_reducible repeat (first | apply Kd.cP | apply Kd.cQ | apply Kd.bY));exact j.out) (by exact wy) (by exact ak wy) (by have:=aw.out;omega) ?_;intro aL w8 ho hb hg hat;rw [← aa.out] at ho;have X:=ae.mk (hb);have z:=ae.mk (ho);clear HB;clear j;have HB:=X;have ab:=z;clear X z;clear ho hb hg hat));go_roundg k1;case measure=>have:=a4.out;omega
     case rel=>exact ⟨(a6),(wrap64 (y+1)),rfl,H',⟨by have:=a4.out;omega⟩,ab,HB⟩
    ·replace c6:=Bool.eq_false_iff.mpr c6
     subst c6;have H1:(cC.l0 g k1 a0 Y (wrap64 (y+1))) = some r:=by rw [if_neg (show ¬ (false = true) by decide)] at H;exact H
     clear H;have H':=ae.mk H1;clear H1;go_wp2_with (first | (refine ws (some 10) Tryz.func75 #[.int .i64 a0] ?_;(with_reducible refine (dH.calls a0 t _ A4.out).mono ?_);rintro e w' ⟨rfl,hd⟩;refine ⟨_,rfl,?_⟩;have z:=ae.mk (aq HB.out hd.below);have X:=ae.mk (Kd.dG j.out hd.below);clear HB j hd;have HB:=z;have j:=X;clear X z) | ((with_reducible refine bu (N:=16) rfl ?_);refine af.pY (some 16) rfl rfl 14 rfl hF A5.out HB.out rfl (by (try simp only [List.map_toArray,List.map_cons,List.map_nil]);first | done | rfl) ?_;intro w5 hb;have z:=ae.mk (aq HB.out hb);have X:=ae.mk (Kd.dG j.out hb);clear HB j hb;have HB:=z;have j:=X;clear X z));go_roundg k1;case measure=>have:=a4.out;omega
     case rel=>exact ⟨Y,(wrap64 (y+1)),rfl,H',⟨by have:=a4.out;omega⟩,j,HB⟩
   ·rw [if_neg c4] at H
    have ap:decide (y≤t) = false:=decide_eq_false c4;clear c4;obtain rfl:=Option.some.inj H;go_wp2_with (first | (refine ws (some 10) Tryz.func75 #[.int .i64 a0] ?_;(with_reducible refine (dH.calls a0 t _ A4.out).mono ?_);rintro e w' ⟨rfl,hd⟩;refine ⟨_,rfl,?_⟩;have z:=ae.mk (aq HB.out hd.below);have X:=ae.mk (Kd.dG j.out hd.below);clear HB j hd;have HB:=z;have j:=X;clear X z));go_ret;exact ⟨_,rfl,j.out,HB.out⟩
def dI.l0:Nat→List Int→Int→Int→Option (Bool)
 | 0,_,_,_=>none
 | k+1,z,X,j=>if j < X then (if 0≤j then (if j < (z.length:Int) then ((cK.f (rd z j)).bind fun y=>(if y = true then (dI.l0 k z X (wrap64 (j+1))) else (some false))) else (none)) else (none)) else (some true)
def dI.f (k:Nat) (l0:List Int):Option (Bool):=dI.l0 k l0 (l0.length:Int) 0
set_option maxHeartbeats 8000000 in
set_option maxRecDepth 100000 in
theorem dI.calls (k:Nat) (A0:Option Addr) (c0:Nat) (l0:List Int) (r:Bool) (w:World) (Y:Kd.C (Kd.int .i64) w A0 l0.length l0) (a0:l0.length≤c0) (h:dI.f k l0 = some r) :
  Calls Tryz.prog 186 #[.slice A0 l0.length c0] w fun e w'=>e = .returned (.bool r)∧cT w w':=by
 have a1:=ae.mk Y;have a9:=ae.mk a0;clear Y a0;unfold dI.f at h;have H:=h;clear h;have H':=ae.mk H;clear H;go_enter Tryz.func186,Tryz.ntmps186;go_wp2;go_loopg [7] k (fun kq v7 w'=>∃ (j:Int),v7 = .int .i64 j∧ae (dI.l0 kq l0 (l0.length:Int) j = some r)∧ae (kq≤k)∧cT w w')
 case atStart=>exact ⟨(0),ww,H',⟨Nat.le_refl _⟩,zt⟩
 case round =>
  clear H';obtain ⟨j,rfl,HA,a2,⟨m1,rfl⟩⟩:=hrel;cases gk with
  | zero=>exact absurd HA.out (by simp [dI.l0])
  | succ k1 =>
   have H:=HA.out;clear HA;simp only [dI.l0] at H;by_cases c2:j < (l0.length:Int)
   ·rw [if_pos c2] at H
    have a3:=decide_eq_true c2;clear c2;obtain ⟨c3,H⟩:=xt H;have a7:=decide_eq_true c3;clear c3;obtain ⟨c4,H⟩:=xt H;have a8:=decide_eq_true c4;clear c4;obtain ⟨a4,A5,H⟩:=xa H;(try dsimp only at H);by_cases c6:a4 = true
    ·subst c6
     replace H:(dI.l0 k1 l0 (l0.length:Int) (wrap64 (j+1))) = some r:=by rw [if_pos rfl] at H;exact H
     have H':=ae.mk H;clear H;obtain ⟨X,y,z,a5,a6⟩:=At a1.out j;cases y
     go_wp2_with (first | (refine ws (some 12) Tryz.func128 #[.int .i64 (rd l0 j)] ?_;(with_reducible refine (cK.calls (rd l0 j) true _ A5.out).mono ?_);rintro e w' ⟨rfl,⟨nd,rfl⟩⟩;refine ⟨_,rfl,?_⟩));go_roundg k1;case measure=>have:=a2.out;omega
     case rel=>exact ⟨(wrap64 (j+1)),ww,H',⟨by have:=a2.out;omega⟩,zt⟩
    ·replace c6:=Bool.eq_false_iff.mpr c6
     subst c6;replace H:(some false) = some r:=by rw [if_neg (show ¬ (false = true) by decide)] at H;exact H
     obtain rfl:=Option.some.inj H;obtain ⟨X,y,z,a5,a6⟩:=At a1.out j;cases y
     go_wp2_with (first | (refine ws (some 12) Tryz.func128 #[.int .i64 (rd l0 j)] ?_;(with_reducible refine (cK.calls (rd l0 j) false _ A5.out).mono ?_);rintro e w' ⟨rfl,⟨nd,rfl⟩⟩;refine ⟨_,rfl,?_⟩));go_ret;exact ⟨ww,zt⟩
   ·rw [if_neg c2] at H
    have a3:decide (j < (l0.length:Int)) = false:=decide_eq_false c2;clear c2;obtain rfl:=Option.some.inj H;go_wp2;go_ret;exact ⟨ww,zt⟩
def ep.f (a0:Int) (z:Int):Option (Bool):=(cK.f a0).bind fun j=>(if j = true then ((cK.f z).bind fun y=>(if y = true then (some ((Go.bits .andNot .i64 a0 z) == 0)) else (some false))) else (some false))
set_option maxHeartbeats 8000000 in
set_option maxRecDepth 100000 in
theorem ep.calls (a0:Int) (y:Int) (r:Bool) (w:World) (h:ep.f a0 y = some r) :
  Calls Tryz.prog 72 #[.int .i64 a0,.int .i64 y] w fun e w'=>e = .returned (.bool r)∧cT w w':=by
 unfold ep.f at h;have H:=h;clear h;obtain ⟨z,X,H⟩:=xa H;(try dsimp only at H);by_cases c4:z = true
 ·subst c4
  replace H:((cK.f y).bind fun j=>(if j = true then (some ((Go.bits .andNot .i64 a0 y) == 0)) else (some false))) = some r:=by rw [if_pos rfl] at H;exact H
  obtain ⟨j,Y,H⟩:=xa H;(try dsimp only at H);by_cases c6:j = true
  ·subst c6
   replace H:(some ((Go.bits .andNot .i64 a0 y) == 0)) = some r:=by rw [if_pos rfl] at H;exact H
   obtain rfl:=Option.some.inj H;go_enter Tryz.func72,Tryz.ntmps72;go_wp2_with (first | ((with_reducible refine aD (f:=128) rfl ?_);refine ws (some 6) Tryz.func128 #[.int .i64 a0] ?_;(with_reducible refine (cK.calls a0 true _ X.out).mono ?_);rintro e w' ⟨rfl,⟨nd,rfl⟩⟩;refine ⟨_,rfl,?_⟩) | (go_at_call 128;(with_reducible refine (cK.calls y true _ Y.out).mono ?_);rintro e w' ⟨rfl,⟨nd,rfl⟩⟩));go_ret;exact ⟨ww,zt⟩
  ·replace c6:=Bool.eq_false_iff.mpr c6
   subst c6;replace H:(some false) = some r:=by rw [if_neg (show ¬ (false = true) by decide)] at H;exact H
   obtain rfl:=Option.some.inj H;go_enter Tryz.func72,Tryz.ntmps72;go_wp2_with (first | ((with_reducible refine aD (f:=128) rfl ?_);refine ws (some 6) Tryz.func128 #[.int .i64 a0] ?_;(with_reducible refine (cK.calls a0 true _ X.out).mono ?_);rintro e w' ⟨rfl,⟨nd,rfl⟩⟩;refine ⟨_,rfl,?_⟩) | (go_at_call 128;(with_reducible refine (cK.calls y false _ Y.out).mono ?_);rintro e w' ⟨rfl,⟨nd,rfl⟩⟩));go_ret;exact ⟨ww,zt⟩
 ·replace c4:=Bool.eq_false_iff.mpr c4
  subst c4;replace H:(some false) = some r:=by rw [if_neg (show ¬ (false = true) by decide)] at H;exact H
  obtain rfl:=Option.some.inj H;go_enter Tryz.func72,Tryz.ntmps72;go_wp2_with (first | ((with_reducible refine aD (f:=128) rfl ?_);refine ws (some 6) Tryz.func128 #[.int .i64 a0] ?_;(with_reducible refine (cK.calls a0 false _ X.out).mono ?_);rintro e w' ⟨rfl,⟨nd,rfl⟩⟩;refine ⟨_,rfl,?_⟩));go_ret;exact ⟨ww,zt⟩
def dc.f (s t:Int):Option Bool:=if t = s then (some false) else (ep.f t s)
def cN.l0:Nat→List Int→List Int→List Int→Int→Option (List Int)
 | 0,_,_,_,_=>none
 | k+1,l,q,y,j=>if j < (q.length:Int) then (if 0≤j then ((bf.f k l (fun t=>dc.f (rd q j) t)).bind fun b=>(if b = true then (cN.l0 k l q y (wrap64 (j+1))) else (if y.length < 17592186044416 then (cN.l0 k l q (y ++ [rd q j]) (wrap64 (j+1))) else (none)))) else (none)) else (some y)
def cN.f (k:Nat) (l0:List Int):Option (List Int):=(dI.f k l0).bind fun t=>(if t = true then ((eU.f l0).bind fun q=>(cN.l0 k l0 q [] 0)) else (some []))
set_option maxHeartbeats 8000000 in
set_option maxRecDepth 100000 in
theorem dc.calls (s t:Int) (b:Bool) (gb:Nat) (w:World) (hbk:w.heap[gb]? = some (.cells #[.int .i64 s] 3 (0,0))) (h:dc.f s t = some b) :
  Calls Tryz.prog 187 #[.int .i64 t,.pointer (some ⟨gb,0,none⟩)] w fun e w'=>e = .returned (.bool b)∧Below w.heap.size w w':=by
 have j:w.cell? ⟨gb,0,none⟩ = some (.int .i64 s):=(ah hbk 0).trans rfl;clear hbk;unfold dc.f at h;by_cases c:t = s
 ·rw [if_pos c] at h
  obtain rfl:=Option.some.inj h;have y:(t != s) = false:=by simp [c]
  clear h c;go_enter Tryz.func187,Tryz.ntmps187;go_wp2;go_ret;exact ⟨rfl,Below.refl _ _⟩
 ·rw [if_neg c] at h
  have y:(t != s) = true:=by simp [c]
  have z:=ae.mk h;clear h c;go_enter Tryz.func187,Tryz.ntmps187;go_wp2_with (first | (go_at_call 72;(with_reducible refine (ep.calls t s b _ z.out).mono ?_);rintro e X ⟨rfl,hd⟩;have HB:=ae.mk hd.below;clear hd));go_ret;exact ⟨rfl,HB.out⟩
theorem dc.oa (s:Int) (gb:Nat) (w:World) (hbk:w.heap[gb]? = some (.cells #[.int .i64 s] 3 (0,0))) :
  af.nA Tryz.prog w (.func (.func 187) #[] #[.pointer (some ⟨gb,0,none⟩)]) (fun t=>dc.f s t) :=
 ⟨⟨187,#[.pointer (some ⟨gb,0,none⟩)],Tryz.f187,rfl,Tryz.func187,by kernel_rfl,rfl,fun t b w' hw hg=>dc.calls s t b gb w' (b6 hbk hw) hg⟩⟩
set_option maxHeartbeats 8000000 in
set_option maxRecDepth 100000 in
theorem cN.calls (k:Nat) (A0:Option Addr) (c0:Nat) (l0:List Int) (r:List Int) (w:World) (aP:Kd.C (Kd.int .i64) w A0 l0.length l0) (aR:l0.length≤c0) (h:cN.f k l0 = some r) :
  Calls Tryz.prog 137 #[.slice A0 l0.length c0] w fun e w'=>∃ aS:Value,e = .returned (aS)∧Kd.R (Kd.int .i64) 3 w' w.heap.size (fun _=>True) aS r∧Below w.heap.size w w':=by
 have HR:=ae.mk aP;have HC:=ae.mk aR;have HB:=ae.mk (Below.refl w.heap.size w);clear aP aR;unfold cN.f at h;obtain ⟨t,h1,h⟩:=Option.bind_eq_some_iff.mp h;have A1:=ae.mk h1;clear h1;cases t with
 | false =>
  rw [if_neg (by decide)] at h;obtain rfl:=Option.some.inj h;clear h;go_enter Tryz.func137,Tryz.ntmps137;go_wp2_with (first | ((with_reducible refine bu (N:=6) rfl ?_);refine Kd.jW (Kd.int .i64) _ 3 ?hg (N:=6) ?hd (xs:=[]) (inner:=[]) (ok:=fun _=>True) (okp:=fun _=>True) ?hr ?hp (fun _ hk=>hk) trivial (Below.refl _ _) (Nat.le_refl _) (by simp) ?_;(case hd=>rfl);(case hg=>rfl);(case hr=>first | (go_simp;done) | (go_simp;rfl));(case hp=>exact (cY.none _ _));intro b0 a6 ho hb aw am;clear aw am;have ab:=ae.mk (Kd.b5 ho (ak HB.out));replace HB:=ae.mk (aq HB.out hb);have j:=ab;clear ab ho hb) | ((with_reducible refine aD (f:=186) rfl ?_);refine ws (some 8) Tryz.func186 #[.slice A0 l0.length c0] ?_;(with_reducible refine (dI.calls k _ _ l0 false _ (Kd.aN HR.out HB.out) HC.out A1.out).mono ?_);rintro e a3 ⟨rfl,ao⟩;refine ⟨_,rfl,?_⟩;have hb:=ao.below;clear ao;have Y:=ae.mk (Kd.dG j.out hb);clear j;have j:=Y;clear Y;replace HB:=ae.mk (aq HB.out hb);clear hb));go_ret;exact ⟨_,rfl,Kd.ni _ _ _ _ _,HB.out⟩
 | true =>
  rw [if_pos rfl] at h;obtain ⟨q,h2,h⟩:=Option.bind_eq_some_iff.mp h;have A2:=ae.mk h2;have H':=ae.mk h;clear h h2;go_enter Tryz.func137,Tryz.ntmps137;go_wp2_with (first | ((with_reducible refine bu (N:=6) rfl ?_);refine Kd.jW (Kd.int .i64) _ 3 ?hg (N:=6) ?hd (xs:=[]) (inner:=[]) (ok:=fun _=>True) (okp:=fun _=>True) ?hr ?hp (fun _ hk=>hk) trivial (Below.refl _ _) (Nat.le_refl _) (by simp) ?_;(case hd=>rfl);(case hg=>rfl);(case hr=>first | (go_simp;done) | (go_simp;rfl));(case hp=>exact (cY.none _ _));intro b0 a6 ho hb aw am;clear aw am;have ab:=ae.mk (Kd.b5 ho (ak HB.out));replace HB:=ae.mk (aq HB.out hb);have j:=ab;clear ab ho hb) | ((with_reducible refine aD (f:=186) rfl ?_);refine ws (some 8) Tryz.func186 #[.slice A0 l0.length c0] ?_;(with_reducible refine (dI.calls k _ _ l0 true _ (Kd.aN HR.out HB.out) HC.out A1.out).mono ?_);rintro e a3 ⟨rfl,ao⟩;refine ⟨_,rfl,?_⟩;have hb:=ao.below;clear ao;have Y:=ae.mk (Kd.dG j.out hb);clear j;have j:=Y;clear Y;replace HB:=ae.mk (aq HB.out hb);clear hb) | ((with_reducible refine aD (f:=88) rfl ?_);refine ws (some 11) Tryz.func88 #[.slice A0 l0.length c0] ?_;(with_reducible refine (eU.calls _ _ l0 q _ (Kd.aN HR.out HB.out) HC.out A2.out).mono ?_);rintro e a5 ⟨vq,rfl,b2,hb⟩;refine ⟨_,rfl,?_⟩;have Nq:=ae.mk (Kd.b5 (Kd.aQ (ok':=fun k_=>a3.heap.size≤k_∧k_ < a5.heap.size) (Kd.ia b2) (fun _ hk=>⟨hk.2.1,hk.2.2.1⟩)) (ak HB.out));have Y:=ae.mk (Kd.aQ (ok':=fun k_=>k_ < a3.heap.size∨a5.heap.size≤k_) (Kd.ia j.out) (fun _ hk=>.inl hk.2.2.1));clear j;have j:=Y;clear Y;have HS:=ae.mk hb.size;have Y:=ae.mk (Kd.dG j.out hb);clear j;have j:=Y;clear Y;replace HB:=ae.mk (aq HB.out hb);have a1:=Nq;clear Nq b2;clear hb;obtain ⟨Aq,cq,bv⟩:=Kd.bk a1.out;subst bv));obtain ⟨n1,b3⟩:∃ n,n = a3.heap.size:=⟨_,rfl⟩
  obtain ⟨n2,ap⟩:∃ n,n = a5.heap.size:=⟨_,rfl⟩
  have aB:=ae.mk (Nat.le_of_eq ap);have a2:=ae.mk (show n2≤a5.heap.size from Nat.le_of_eq ap);rw [← b3,← ap] at j a1;clear b3 ap HS aB;have aB:ae (n2≤n2):=⟨Nat.le_refl _⟩
  go_loopg [3,13] k (fun kq v3 c1 w'=>∃ (a9:List Int) (a0:Int),c1 = .int .i64 a0∧ae (cN.l0 kq l0 q a9 a0 = some r)∧ae (kq≤k)∧ae (Kd.R (Kd.int .i64) 3 w' w.heap.size (fun k_=>k_ < n1∨n2≤k_) v3 a9)∧ae (Kd.R (Kd.int .i64) 3 w' w.heap.size (fun k_=>n1≤k_∧k_ < n2) (.slice Aq q.length cq) q)∧ae (n2≤w'.heap.size)∧ae (Below w.heap.size w w'))
  case atStart=>exact ⟨[],0,rfl,H',⟨Nat.le_refl _⟩,j,a1,a2,HB⟩
  case round =>
   clear H' j a1 a2 HB;obtain ⟨a9,a0,rfl,HA,ar,j,a1,a2,HB⟩:=hrel;cases gk with
   | zero=>exact absurd HA.out (by simp [cN.l0])
   | succ k1 =>
    have H:=HA.out;clear HA;simp only [cN.l0] at H;by_cases c3:a0 < (q.length:Int)
    case neg =>
     rw [if_neg c3] at H;have b4:decide (a0 < (q.length:Int)) = false:=decide_eq_false c3;clear c3;obtain rfl:=Option.some.inj H;go_wp2;go_ret;exact ⟨_,rfl,Kd.aQ j.out (fun _ _=>trivial),HB.out⟩
    rw [if_pos c3] at H;have b4:=decide_eq_true c3;clear c3;by_cases c4:0≤a0
    case neg=>rw [if_neg c4] at H;exact absurd H (by simp)
    rw [if_pos c4] at H;have ca:=decide_eq_true c4;clear c4;obtain ⟨aa,aF⟩:∃ j_:Int,rd q a0 = j_:=⟨_,rfl⟩
    rw [aF] at H;obtain ⟨t,ba,H⟩:=Option.bind_eq_some_iff.mp H;have A4:=ae.mk ba;clear ba;have p1:0≤(a0:Int):=of_decide_eq_true (by assumption);have q1:a0 < (q.length:Int):=of_decide_eq_true (by assumption);obtain ⟨cb,e1,aL⟩:=Kd.fC (Kd.az a1.out).2.2 a0 p1 q1;rw [aF] at aL;clear aF;cases e1
    replace p1:=eq_true p1;replace q1:=eq_true q1;cases t with
    | true =>
     rw [if_pos rfl] at H;have H':=ae.mk H;clear H;go_wp2_with (first | ((with_reducible refine bu (N:=5) rfl ?_);refine zp 5 #[.int .i64 0] 3 ?_;intro a4 hg a6 hbox hb;have aO:=ae.mk ((by rw [hg];exact ak HB.out):w.heap.size≤a4);have a7:=ae.mk hg;have a8:=ae.mk hb;have y:=ae.mk hbox;clear hb hg hbox;have z:a6.cell? ⟨a4,0,none⟩ = some (.int .i64 0):=(ah y.out 0).trans rfl;have X:=aj y.out 0) | ((with_reducible refine gX (t:=3) (p:=5) rfl ?_);refine gG (t:=3) (p:=5) (v:=?vo1) (w1:=(a6.setCell ⟨a4,0,none⟩ (.int .i64 aa))) ?hg ?ho ?hn ?hr ?_;(case ho=>rfl);(case hg=>rfl);(case hn=>rfl);(case hr=>first | (go_simp;done) | (go_simp;rfl));intro a3 hw;have hb:=(show Below _ _ a3 from (by rw [hw];exact dY a8.out (Nat.le_of_eq a7.out.symm)));have m5:ae (a3.heap[a4]? = some (.cells #[.int .i64 aa] 3 (0,0))):=⟨by rw [hw];exact gA y.out 0 _ rfl⟩;clear y hw z X;have Y:=ae.mk (Kd.dG j.out hb);clear j;have j:=Y;clear Y;have Y:=ae.mk (Kd.dG a1.out hb);clear a1;have a1:=Y;clear Y;have Y:=ae.mk (Nat.le_trans a2.out (hb).size);clear a2;have a2:=Y;clear Y;replace HB:=ae.mk (aq HB.out hb);have y:=m5;clear m5 hb a8 a7;have z:a3.cell? ⟨a4,0,none⟩ = some (.int .i64 aa):=(ah y.out 0).trans rfl;have X:=aj y.out 0) | ((with_reducible refine aD (f:=70) rfl ?_);refine ws (some 19) Tryz.func70 #[.slice A0 l0.length c0,.func (.func 187) #[] #[.pointer (some ⟨a4,0,none⟩)]] ?_;(with_reducible refine (bf.calls k1 _ _ l0 _ (fun t=>dc.f aa t) true _ (Kd.aN HR.out HB.out) (dc.oa aa a4 _ y.out) A4.out).mono ?_);rintro e a5 ⟨rfl,hb⟩;refine ⟨_,rfl,?_⟩;clear z X;have Y:=ae.mk (b6 y.out hb);clear y;have y:=Y;clear Y;have Y:=ae.mk (Kd.dG j.out hb);clear j;have j:=Y;clear Y;have Y:=ae.mk (Kd.dG a1.out hb);clear a1;have a1:=Y;clear Y;have Y:=ae.mk (Nat.le_trans a2.out (hb).size);clear a2;have a2:=Y;clear Y;replace HB:=ae.mk (aq HB.out hb);clear hb;have z:a5.cell? ⟨a4,0,none⟩ = some (.int .i64 aa):=(ah y.out 0).trans rfl;have X:=aj y.out 0));go_roundg k1;case measure=>have:=ar.out;omega
     case rel=>exact ⟨a9,(wrap64 (a0+1)),rfl,H',⟨by have:=ar.out;omega⟩,j,a1,a2,HB⟩
    | false =>
     rw [if_neg (by decide)] at H;by_cases c7:a9.length < 17592186044416
     case neg=>rw [if_neg c7] at H;exact absurd H (by simp)
     rw [if_pos c7] at H;have LM:=ae.mk c7;have H':=ae.mk H;clear H c7;go_wp2_with (first | ((with_reducible refine bu (N:=5) rfl ?_);refine zp 5 #[.int .i64 0] 3 ?_;intro a4 hg a6 hbox hb;have aO:=ae.mk ((by rw [hg];exact ak HB.out):w.heap.size≤a4);have a7:=ae.mk hg;have a8:=ae.mk hb;have y:=ae.mk hbox;clear hb hg hbox;have z:a6.cell? ⟨a4,0,none⟩ = some (.int .i64 0):=(ah y.out 0).trans rfl;have X:=aj y.out 0) | ((with_reducible refine gX (t:=3) (p:=5) rfl ?_);refine gG (t:=3) (p:=5) (v:=?vo1) (w1:=(a6.setCell ⟨a4,0,none⟩ (.int .i64 aa))) ?hg ?ho ?hn ?hr ?_;(case ho=>rfl);(case hg=>rfl);(case hn=>rfl);(case hr=>first | (go_simp;done) | (go_simp;rfl));intro a3 hw;have hb:=(show Below _ _ a3 from (by rw [hw];exact dY a8.out (Nat.le_of_eq a7.out.symm)));have m5:ae (a3.heap[a4]? = some (.cells #[.int .i64 aa] 3 (0,0))):=⟨by rw [hw];exact gA y.out 0 _ rfl⟩;clear y hw z X;have Y:=ae.mk (Kd.dG j.out hb);clear j;have j:=Y;clear Y;have Y:=ae.mk (Kd.dG a1.out hb);clear a1;have a1:=Y;clear Y;have Y:=ae.mk (Nat.le_trans a2.out (hb).size);clear a2;have a2:=Y;clear Y;replace HB:=ae.mk (aq HB.out hb);have y:=m5;clear m5 hb a8 a7;have z:a3.cell? ⟨a4,0,none⟩ = some (.int .i64 aa):=(ah y.out 0).trans rfl;have X:=aj y.out 0) | ((with_reducible refine aD (f:=70) rfl ?_);refine ws (some 19) Tryz.func70 #[.slice A0 l0.length c0,.func (.func 187) #[] #[.pointer (some ⟨a4,0,none⟩)]] ?_;(with_reducible refine (bf.calls k1 _ _ l0 _ (fun t=>dc.f aa t) false _ (Kd.aN HR.out HB.out) (dc.oa aa a4 _ y.out) A4.out).mono ?_);rintro e a5 ⟨rfl,hb⟩;refine ⟨_,rfl,?_⟩;clear z X;have Y:=ae.mk (b6 y.out hb);clear y;have y:=Y;clear Y;have Y:=ae.mk (Kd.dG j.out hb);clear j;have j:=Y;clear Y;have Y:=ae.mk (Kd.dG a1.out hb);clear a1;have a1:=Y;clear Y;have Y:=ae.mk (Nat.le_trans a2.out (hb).size);clear a2;have a2:=Y;clear Y;replace HB:=ae.mk (aq HB.out hb);clear hb;have z:a5.cell? ⟨a4,0,none⟩ = some (.int .i64 aa):=(ah y.out 0).trans rfl;have X:=aj y.out 0) | ((with_reducible refine cF (b:=.append) (xs:=#[.tmp 21,.tmp 23]) rfl ?_);at_builtin;refine Kd.eS (Kd.int .i64) (w0:=w) w.heap.size rfl (.tmp 21) (.tmp 23) 22 3 (.int .i64 0) 8 rfl Tryz.underlying22 fb rfl (by decide) (by omega) u3 a9 aa [.int .i64 aa] (fun k_=>k_ < n1∨n2≤k_) (fun _=>False) rfl rfl (by exact rfl) (fun _ hk=>hk.elim) (by exact fun k_ bc=>.inr (Nat.le_trans aB.out (Nat.le_trans a2.out bc))) (by exact j.out) (by exact HB.out) (by exact ak HB.out) (by have:=LM.out;omega) ?_;intro v9 cc ho hb hg hat;have bi:=ae.mk (Kd.wQ a1.out hg (fun k_ bc e_=>by have:=j.out.1 k_ e_.symm;omega));have bm:=ae.mk hb;have bo:=ae.mk ho;have bs:=ae.mk (Nat.le_trans a2.out (Nat.le_trans (show _≤_ from Nat.le_refl _) hg.size));clear HB j a1 a2;have a2:=bs;have HB:=bm;have j:=bo;have a1:=bi;clear bm bo bi bs ho hb hg hat));go_roundg k1;case measure=>have:=ar.out;omega
     case rel=>exact ⟨_,(wrap64 (a0+1)),rfl,H',⟨by have:=ar.out;omega⟩,j,a1,a2,HB⟩
def bE.l0:Nat→Int→List Int→Int→Int→Option (Bool)
 | 0,_,_,_,_=>none
 | k+1,X,z,Y,j=>if j < Y then (if 0≤j then (if j < (z.length:Int) then ((ep.f X (rd z j)).bind fun y=>(if y = true then (some true) else (bE.l0 k X z Y (wrap64 (j+1))))) else (none)) else (none)) else (some false)
def bE.f (k:Nat) (y:Int) (j:List Int) (z:Int):Option (Bool):=bE.l0 k z j (j.length:Int) 0
theorem bE.dj:∀ k,af.S4 bE.l0 k
 | 0=>by and_intros <;> (repeat intro _) <;> exact AN rfl
 | k+1=>by
  have j:=bE.dj k;and_intros <;> (repeat intro _) <;> unfold bE.l0 <;> exact ⟨AI⟩
theorem bE.mono:∀ a0 j a2 k,gW (bE.f k a0 j a2) (bE.f (k+1) a0 j a2):=by
 intro a0 j a2 k;have y:=bE.dj k;unfold bE.f;exact AI
instance bE.m:af.V3 bE.f:=fun _ _ _ _=>⟨bE.mono _ _ _ _⟩
set_option maxHeartbeats 8000000 in
set_option maxRecDepth 100000 in
theorem bE.calls (k:Nat) (Y:Int) (a0:Option Addr) (a2:Nat) (y:List Int) (a1:Int) (r:Bool) (w:World) (a3:Kd.C (Kd.int .i64) w a0 y.length y) (a4:y.length≤a2) (h:bE.f k Y y a1 = some r) :
  Calls Tryz.prog 139 #[.agg #[.int .i64 Y,.slice a0 y.length a2],.int .i64 a1] w fun e w'=>e = .returned (.bool r)∧Below w.heap.size w w':=by
 have aP:=Tryz.underlying37;have a5:=ae.mk a3;have aF:=ae.mk a4;clear a3 a4;have HB:=ae.mk (Below.refl w.heap.size w);unfold bE.f at h;have H:=h;clear h;have H':=ae.mk H;clear H;go_enter Tryz.func139,Tryz.ntmps139;go_wp2_with (first | (refine zp 2 #[.int .i64 Y,.slice a0 y.length a2] 37 ?_;intro a7 hg w3 hbox hb;have X:=ae.mk hbox;have aL:=yv hg HB;have aO:=yv hg HB;replace HB:=xi HB hb;clear hb hbox hg;obtain ⟨ap,ar,aw,aB⟩:=xv X.out));go_loopg [10] k (fun kq v10 w'=>∃ (j:Int),v10 = .int .i64 j∧ae (bE.l0 kq a1 y (y.length:Int) j = some r)∧ae (kq≤k)∧ae (w'.heap[a7]? = some (.cells #[.int .i64 Y,(.slice a0 y.length a2)] 37 (0,0)))∧ae (Below w.heap.size w w'))
 case atStart=>exact ⟨(0),ww,H',⟨Nat.le_refl _⟩,⟨xf X.out⟩,⟨wx HB.out⟩⟩
 case round =>
  clear H';obtain ⟨j,rfl,HA,a9,X,HB⟩:=hrel;cases gk with
  | zero=>exact absurd HA.out (by simp [bE.l0])
  | succ k1 =>
   have H:=HA.out;clear HA;simp only [bE.l0] at H;by_cases c5:j < (y.length:Int)
   ·rw [if_pos c5] at H
    have aa:=decide_eq_true c5;clear c5;obtain ⟨c6,H⟩:=xt H;have aR:=decide_eq_true c6;clear c6;obtain ⟨c7,H⟩:=xt H;have aS:=decide_eq_true c7;clear c7;obtain ⟨ab,A8,H⟩:=xa H;(try dsimp only at H);by_cases c9:ab = true
    ·subst c9
     replace H:(some true) = some r:=by rw [if_pos rfl] at H;exact H
     obtain rfl:=Option.some.inj H;obtain ⟨a8,a6,z,am,ao⟩:=At a5.out j;cases a6
     (try replace z:=(HB.out.cell (World.block_lt_of_cell? w _ z)).trans z);go_wp2_with (first | (refine ws (some 16) Tryz.func72 #[.int .i64 a1,.int .i64 (rd y j)] ?_;(with_reducible refine (ep.calls a1 (rd y j) true _ A8.out).mono ?_);rintro e w' ⟨rfl,⟨nd,rfl⟩⟩;refine ⟨_,rfl,?_⟩));go_ret;exact ⟨zd,wy⟩
    ·replace c9:=Bool.eq_false_iff.mpr c9
     subst c9;replace H:(bE.l0 k1 a1 y (y.length:Int) (wrap64 (j+1))) = some r:=by rw [if_neg (show ¬ (false = true) by decide)] at H;exact H
     have H':=ae.mk H;clear H;obtain ⟨a8,a6,z,am,ao⟩:=At a5.out j;cases a6
     (try replace z:=(HB.out.cell (World.block_lt_of_cell? w _ z)).trans z);go_wp2_with (first | (refine ws (some 16) Tryz.func72 #[.int .i64 a1,.int .i64 (rd y j)] ?_;(with_reducible refine (ep.calls a1 (rd y j) false _ A8.out).mono ?_);rintro e w' ⟨rfl,⟨nd,rfl⟩⟩;refine ⟨_,rfl,?_⟩));go_roundg k1;case measure=>have:=a9.out;omega
     case rel=>exact ⟨(wrap64 (j+1)),ww,H',⟨by have:=a9.out;omega⟩,⟨xf X.out⟩,⟨wx HB.out⟩⟩
   ·rw [if_neg c5] at H
    have aa:decide (j < (y.length:Int)) = false:=decide_eq_false c5;clear c5;obtain rfl:=Option.some.inj H;go_wp2;go_ret;exact ⟨zd,wy⟩
def dz.f (k:Nat) (j:Int) (y:List Int) (s:Int):Option Bool:=(bE.f k j y s).bind fun t=>some (!t)
theorem dz.mono (a0:Int) (l0:List Int) (s:Int) (k:Nat):gW (dz.f k a0 l0 s) (dz.f (k+1) a0 l0 s):=gW.bind (bE.mono _ _ _ _) fun _=>gW.refl _
def fA.f (k:Nat) (j:Int) (y:List Int):Option (List Int):=(ct.f k j y).bind fun t=>(if t = true then ((cC.f k j (fun s=>dz.f k j y s)).bind fun q=>(cN.f k q)) else (some []))
set_option maxHeartbeats 8000000 in
set_option maxRecDepth 100000 in
theorem dz.calls (k:Nat) (y:Int) (z:Option Addr) (X:Nat) (j:List Int) (s:Int) (b:Bool) (gb:Nat) (w:World) (hbk:w.heap[gb]? = some (.cells #[.int .i64 y,(.slice z j.length X)] 37 (0,0))) (Y:Kd.C (Kd.int .i64) w z j.length j) (a0:j.length≤X) (h:dz.f k y j s = some b) :
  Calls Tryz.prog 138 #[.int .i64 s,.pointer (some ⟨gb,0,none⟩)] w fun e w'=>e = .returned (.bool b)∧Below w.heap.size w w':=by
 have a3:=Tryz.underlying37;have HR:=ae.mk Y;have HC:=ae.mk a0;have a1:w.cell? ⟨gb,0,none⟩ = some (.int .i64 y):=(ah hbk 0).trans rfl;have a2:w.cell? ⟨gb,1,none⟩ = some (.slice z j.length X):=(ah hbk 1).trans rfl;clear Y a0 hbk;unfold dz.f at h;obtain ⟨t,h1,h⟩:=Option.bind_eq_some_iff.mp h;have A1:=ae.mk h1;clear h1;obtain rfl:=Option.some.inj h;clear h;go_enter Tryz.func138,Tryz.ntmps138;go_wp2_with (first | (refine ws (some 6) Tryz.func139 #[.agg #[.int .i64 y,.slice z j.length X],.int .i64 s] ?_;(with_reducible refine (bE.calls k y _ _ j s t _ HR.out HC.out A1.out).mono ?_);rintro e w6 ⟨rfl,hb⟩;refine ⟨_,rfl,?_⟩;have HB:=ae.mk hb;clear hb));go_ret;exact ⟨rfl,HB.out⟩
theorem dz.oa (k:Nat) (y:Int) (z:Option Addr) (X:Nat) (j:List Int) (gb:Nat) (w:World) (hbk:w.heap[gb]? = some (.cells #[.int .i64 y,(.slice z j.length X)] 37 (0,0))) (Y:Kd.C (Kd.int .i64) w z j.length j) (a0:j.length≤X) :
  af.nA Tryz.prog w (.func (.func 138) #[] #[.pointer (some ⟨gb,0,none⟩)]) (fun s=>dz.f k y j s) :=
 ⟨⟨138,#[.pointer (some ⟨gb,0,none⟩)],Tryz.f138,rfl,Tryz.func138,by kernel_rfl,rfl,fun s b w' hw hg=>dz.calls k y z X j s b gb w' (b6 hbk hw) (Kd.aN Y hw) a0 hg⟩⟩
set_option maxHeartbeats 8000000 in
set_option maxRecDepth 100000 in
theorem fA.calls (k:Nat) (z:Int) (Y:Option Addr) (a0:Nat) (y:List Int) (r:List Int) (w:World) (a4:Kd.C (Kd.int .i64) w Y y.length y) (a5:y.length≤a0) (h:fA.f k z y = some r) :
  Calls Tryz.prog 86 #[.agg #[.int .i64 z,.slice Y y.length a0]] w fun e w'=>∃ a6:Value,e = .returned (a6)∧Kd.R (Kd.int .i64) 3 w' w.heap.size (fun _=>True) a6 r∧Below w.heap.size w w':=by
 have a8:=Tryz.underlying37;have HR:=ae.mk a4;have HC:=ae.mk a5;have HB:=ae.mk (Below.refl w.heap.size w);unfold fA.f at h;obtain ⟨t,h1,h⟩:=Option.bind_eq_some_iff.mp h;have A1:=ae.mk h1;clear a4 a5 h1;cases t with
 | false =>
  rw [if_neg (by decide)] at h;obtain rfl:=Option.some.inj h;clear h;go_enter Tryz.func86,Tryz.ntmps86;go_wp2_with (first | (refine zp 1 #[.int .i64 z,.slice Y y.length a0] 37 ?_;intro X hg w4 hbox hb;have a3:=ae.mk (aq HB.out hb);clear HB;have HB:=a3;have j:=ae.mk hbox;clear a3 hb hbox hg;have a1:w4.cell? ⟨X,0,none⟩ = some (.int .i64 z):=(ah j.out 0).trans rfl;have a2:w4.cell? ⟨X,1,none⟩ = some (.slice Y y.length a0):=(ah j.out 1).trans rfl) | (refine ws (some 4) Tryz.func61 #[.agg #[.int .i64 z,.slice Y y.length a0]] ?_;(with_reducible refine (ct.calls k z _ _ y false _ (Kd.aN HR.out HB.out) HC.out A1.out).mono ?_);rintro e w5 ⟨rfl,hb⟩;refine ⟨_,rfl,?_⟩;replace HB:=ae.mk (aq HB.out hb);have m_:=ae.mk (b6 j.out hb);clear j;have j:=m_;clear m_ hb a1 a2;have a1:w5.cell? ⟨X,0,none⟩ = some (.int .i64 z):=(ah j.out 0).trans rfl;have a2:w5.cell? ⟨X,1,none⟩ = some (.slice Y y.length a0):=(ah j.out 1).trans rfl));go_ret;exact ⟨_,rfl,Kd.ni _ _ _ _ _,HB.out⟩
 | true =>
  rw [if_pos rfl] at h;obtain ⟨q,h2,h⟩:=Option.bind_eq_some_iff.mp h;have A2:=ae.mk h2;have A3:=ae.mk (show cN.f k q = some r from h);clear h h2;go_enter Tryz.func86,Tryz.ntmps86;go_wp2_with (first | (refine zp 1 #[.int .i64 z,.slice Y y.length a0] 37 ?_;intro X hg w4 hbox hb;have a3:=ae.mk (aq HB.out hb);clear HB;have HB:=a3;have j:=ae.mk hbox;clear a3 hb hbox hg;have a1:w4.cell? ⟨X,0,none⟩ = some (.int .i64 z):=(ah j.out 0).trans rfl;have a2:w4.cell? ⟨X,1,none⟩ = some (.slice Y y.length a0):=(ah j.out 1).trans rfl) | (refine ws (some 4) Tryz.func61 #[.agg #[.int .i64 z,.slice Y y.length a0]] ?_;(with_reducible refine (ct.calls k z _ _ y true _ (Kd.aN HR.out HB.out) HC.out A1.out).mono ?_);rintro e w5 ⟨rfl,hb⟩;refine ⟨_,rfl,?_⟩;replace HB:=ae.mk (aq HB.out hb);have m_:=ae.mk (b6 j.out hb);clear j;have j:=m_;clear m_ hb a1 a2;have a1:w5.cell? ⟨X,0,none⟩ = some (.int .i64 z):=(ah j.out 0).trans rfl;have a2:w5.cell? ⟨X,1,none⟩ = some (.slice Y y.length a0):=(ah j.out 1).trans rfl) | (refine ws (some 9) Tryz.func68 #[.int .i64 z,.func (.func 138) #[] #[.pointer (some ⟨X,0,none⟩)]] ?_;(with_reducible refine (cC.calls k z _ (fun s=>dz.f k z y s) q _ (dz.oa k z Y a0 y X _ j.out (Kd.aN HR.out HB.out) HC.out) A2.out).mono ?_);rintro e w6 ⟨v1,rfl,ho,hb⟩;refine ⟨_,rfl,?_⟩;have HO:=ae.mk (Kd.b5 ho (ak HB.out));have a3:=ae.mk (aq HB.out hb);clear HB;have HB:=a3;clear a3 hb ho a1 a2;obtain ⟨Aq,cq,rfl⟩:=Kd.bk HO.out) | (refine ws (some 10) Tryz.func137 #[.slice Aq q.length cq] ?_;(with_reducible refine (cN.calls k _ _ q r _ (Kd.az HO.out).2.2 (Kd.az HO.out).2.1 A3.out).mono ?_);rintro e w7 ⟨v2,rfl,ho,hb⟩;refine ⟨_,rfl,?_⟩;have a7:=ae.mk (Kd.b5 ho (ak HB.out));have a3:=ae.mk (aq HB.out hb);clear HB;have HB:=a3;clear a3 hb ho));go_ret;exact ⟨_,rfl,a7.out,HB.out⟩
def er.f (a0:Int) (y:Int):Option (Int):=(cK.f a0).bind fun j=>(if j = true then (if y < 0 then (some a0) else (if y≥8 then (some a0) else (if 0≤y then (some (Go.bits .andNot .i64 a0 (shl .i64 1 y))) else (none)))) else (some a0))
set_option maxHeartbeats 8000000 in
set_option maxRecDepth 100000 in
theorem er.calls (a0:Int) (j:Int) (r:Int) (w:World) (h:er.f a0 j = some r) :
  Calls Tryz.prog 87 #[.int .i64 a0,.int .i64 j] w fun e w'=>e = .returned (.int .i64 r)∧cT w w':=by
 unfold er.f at h;have H:=h;clear h;obtain ⟨a2,A3,H⟩:=xa H;(try dsimp only at H);by_cases c4:a2 = true
 ·subst c4
  replace H:(if j < 0 then (some a0) else (if j≥8 then (some a0) else (if 0≤j then (some (Go.bits .andNot .i64 a0 (shl .i64 1 j))) else (none)))) = some r:=by rw [if_pos rfl] at H;exact H
  by_cases c5:j < 0
  ·rw [if_pos c5] at H
   have a3:=decide_eq_true c5;clear c5;obtain rfl:=Option.some.inj H;go_enter Tryz.func87,Tryz.ntmps87;go_wp2_with (first | (refine ws (some 6) Tryz.func128 #[.int .i64 a0] ?_;(with_reducible refine (cK.calls a0 true _ A3.out).mono ?_);rintro e w' ⟨rfl,⟨nd,rfl⟩⟩;refine ⟨_,rfl,?_⟩));go_ret;exact ⟨ww,zt⟩
  ·rw [if_neg c5] at H
   have a3:decide (j < 0) = false:=decide_eq_false c5;clear c5;by_cases c6:j≥8
   ·rw [if_pos c6] at H
    have a4:=decide_eq_true c6;clear c6;obtain rfl:=Option.some.inj H;go_enter Tryz.func87,Tryz.ntmps87;go_wp2_with (first | (refine ws (some 6) Tryz.func128 #[.int .i64 a0] ?_;(with_reducible refine (cK.calls a0 true _ A3.out).mono ?_);rintro e w' ⟨rfl,⟨nd,rfl⟩⟩;refine ⟨_,rfl,?_⟩));go_ret;exact ⟨ww,zt⟩
   ·rw [if_neg c6] at H
    have a4:decide (8≤j) = false:=decide_eq_false c6;clear c6;obtain ⟨c7,H⟩:=xt H;have aa:=eq_true c7;have ab:decide (0≤j) = true:=decide_eq_true c7;clear c7;obtain ⟨z,y⟩:∃ j_:Int,(shl .i64 1 j) = j_:=⟨_,rfl⟩
    replace H:(some (Go.bits .andNot .i64 a0 (z))) = some r:=by first | (rw [y] at H;exact H) | (simp only [y] at H ⊢;exact H)
    (try rw [y] at A3);have X:(IntKind.i64.wrap (1 * 2 ^ min j.toNat 64)) = z:=y;have Y:j≤64→(IntKind.i64.wrap (1 * 2 ^ j.toNat)) = z:=eX y;have a6:(IntKind.i64.wrap (2 ^ min j.toNat 64)) = z:=by have h_:=X;rw [Int.one_mul] at h_;exact h_
    have a7:j≤64→(IntKind.i64.wrap (2 ^ j.toNat)) = z:=fun a5=>by have h_:=Y a5;rw [Int.one_mul] at h_;exact h_
    have a8:(wrap64 (1 * 2 ^ min j.toNat 64)) = z:=(b7 _).symm.trans X;have a9:j≤64→(wrap64 (1 * 2 ^ j.toNat)) = z:=fun h_=>(b7 _).symm.trans (Y h_)
    obtain rfl:=Option.some.inj H;go_enter Tryz.func87,Tryz.ntmps87;go_wp2_with (first | (refine ws (some 6) Tryz.func128 #[.int .i64 a0] ?_;(with_reducible refine (cK.calls a0 true _ A3.out).mono ?_);rintro e w' ⟨rfl,⟨nd,rfl⟩⟩;refine ⟨_,rfl,?_⟩));go_ret;exact ⟨by first | rfl | (simp;done) | (simp only [← y] <;> (first | rfl | simp)) | (simp [*];done),zt⟩
 ·replace c4:=Bool.eq_false_iff.mpr c4
  subst c4;replace H:(some a0) = some r:=by rw [if_neg (show ¬ (false = true) by decide)] at H;exact H
  obtain rfl:=Option.some.inj H;go_enter Tryz.func87,Tryz.ntmps87;go_wp2_with (first | (refine ws (some 6) Tryz.func128 #[.int .i64 a0] ?_;(with_reducible refine (cK.calls a0 false _ A3.out).mono ?_);rintro e w' ⟨rfl,⟨nd,rfl⟩⟩;refine ⟨_,rfl,?_⟩));go_ret;exact ⟨ww,zt⟩
def bA.l0:Nat→List Int→List Int→Int→Int→Option (List Int)
 | 0,_,_,_,_=>none
 | k+1,x3,y,z,j=>if j < z then (if 0≤j then (if j < (y.length:Int) then ((dD.f k (rd y j)).bind fun X=>((er.f (rd y j) X).bind fun Y=>(if x3.length < 17592186044416 then (bA.l0 k (x3 ++ [Y]) y z (wrap64 (j+1))) else (none)))) else (none)) else (none)) else ((eU.f x3).bind fun a0=>(some a0))
def bA.f (k:Nat) (j:Int) (y:List Int):Option (List Int):=(ct.f k j y).bind fun X=>(if X = true then ((fA.f k j y).bind fun z=>(bA.l0 k (([]:List Int)) z (z.length:Int) 0)) else (some ([]:List Int)))
set_option maxHeartbeats 8000000 in
set_option maxRecDepth 100000 in
theorem bA.calls (k:Nat) (a0:Int) (a2:Option Addr) (a3:Nat) (z:List Int) (r:List Int) (w:World) (ap:Kd.C (Kd.int .i64) w a2 z.length z) (ar:z.length≤a3) (h:bA.f k a0 z = some r) :
  Calls Tryz.prog 37 #[.agg #[.int .i64 a0,.slice a2 z.length a3]] w fun e w'=>∃ bv:Value,e = .returned (bv)∧Kd.R (Kd.int .i64) 3 w' w.heap.size (fun _=>True) bv r∧Below w.heap.size w w':=by
 have e0:=Tryz.underlying37;have a7:=ae.mk ap;have a8:=ae.mk ar;clear ap ar;have HB:=ae.mk (Below.refl w.heap.size w);unfold bA.f at h;have H:=h;clear h;obtain ⟨c0,A2,H⟩:=xa H;(try dsimp only at H);by_cases c3:c0 = true
 ·subst c3
  replace H:((fA.f k a0 z).bind fun y=>(bA.l0 k (([]:List Int)) y (y.length:Int) 0)) = some r:=by rw [if_pos rfl] at H;exact H
  obtain ⟨aR,a9⟩:∃ y_:List Int,y_ = (([]:List Int)):=⟨_,rfl⟩
  replace H:((fA.f k a0 z).bind fun y=>(bA.l0 k aR y (y.length:Int) 0)) = some r:=by (try rw [a9]);exact AC
  have aw:=ae.mk a9;clear a9;obtain ⟨y,A4,H⟩:=xa H;(try dsimp only at H);have H':=ae.mk H;clear H;go_enter Tryz.func37,Tryz.ntmps37;go_wp2_with (first | (refine zp 1 #[.int .i64 a0,.slice a2 z.length a3] 37 ?_;intro aa hg w5 hbox hb;have j:=ae.mk hbox;have b2:=yv hg HB;have b3:=yv hg HB;replace HB:=xi HB hb;clear hb hbox hg;obtain ⟨df,dk,dl,dp⟩:=xv j.out) | (refine ws (some 7) Tryz.func61 #[.agg #[.int .i64 a0,.slice a2 z.length a3]] ?_;(with_reducible refine (ct.calls k a0 _ _ z true _ ?side1 ?side2 A2.out).mono ?_);(case side1=>exact yi (Kd.aN a7.out HB.out));(case side2=>exact a8.out);rintro e w7 ⟨rfl,hb⟩;refine ⟨_,rfl,?_⟩;replace j:=xc j hb;replace HB:=xi HB hb;(try clear hb);(try clear aP);(try clear hk);(try clear hi)) | (refine AL (Kd.int .i64) 3 9 ?_;intro e1 w8 aB hb dq b4;clear dq b4;(first | rw [← aw.out] at aB | (simp only [Int.reduceToNat] at aB;rw [← aw.out] at aB));have a5:=ae.mk (Kd.b5 aB (ak (wx HB.out)));replace j:=xc j hb;replace HB:=xi HB hb;clear hb aB;obtain ⟨c1,ca,cb,cc⟩:=xv j.out) | (refine ws (some 11) Tryz.func86 #[.agg #[.int .i64 a0,.slice a2 z.length a3]] ?_;(with_reducible refine (fA.calls k a0 _ _ z y _ ?side1 ?side2 A4.out).mono ?_);(case side1=>exact yi (Kd.aN a7.out HB.out));(case side2=>exact a8.out);rintro e ea ⟨e2,rfl,a6,hb⟩;refine ⟨_,rfl,?_⟩;have aF:=ae.mk (Kd.b5 (Kd.dy a6 (Kd.ek (ac a5.out))) (ak (wx HB.out)));replace a5:=ae.mk (Kd.cz (ac a5.out) (Kd.cL a6) hb);replace j:=xc j hb;replace HB:=xi HB hb;(try clear hb);(try clear aP);(try clear hk);(try clear hi);(try clear a6);obtain ⟨aS,aL,ce⟩:=Kd.bk aF.out;subst ce));go_loopg [3,13] k (fun kq v3 dt w'=>∃ (a4:List Int) (X:Int),dt = .int .i64 X∧ae (bA.l0 kq a4 y (y.length:Int) X = some r)∧ae (kq≤k)∧ae (Kd.R (Kd.int .i64) 3 w' w.heap.size (fun k_=>some k_≠((.slice aS y.length aL):Value).ownBlock) v3 a4)∧ae (Kd.R (Kd.int .i64) 3 w' w.heap.size (fun k_=>some k_≠(v3:Value).ownBlock) (.slice aS y.length aL) y)∧ae (w'.heap[aa]? = some (.cells #[.int .i64 a0,(.slice a2 z.length a3)] 37 (0,0)))∧ae (Below w.heap.size w w'))
  case atStart=>exact ⟨(aR),(0),ww,H',⟨Nat.le_refl _⟩,⟨ac (Kd.aQ a5.out (fun _ hk=>hk.2))⟩,⟨ac (Kd.aQ aF.out (fun _ hk=>hk.2))⟩,⟨xf j.out⟩,⟨wx HB.out⟩⟩
  case round =>
   clear H';obtain ⟨a4,X,rfl,HA,cf,a1,Y,j,HB⟩:=hrel;cases gk with
   | zero=>exact absurd HA.out (by simp [bA.l0])
   | succ k1 =>
    have H:=HA.out;clear HA;simp only [bA.l0] at H;by_cases ao:X < (y.length:Int)
    ·rw [if_pos ao] at H
     have ba:=decide_eq_true ao;clear ao;obtain ⟨ci,H⟩:=xt H;have du:=decide_eq_true ci;clear ci;obtain ⟨cp,H⟩:=xt H;have dv:=decide_eq_true cp;clear cp;obtain ⟨aO,dC,H⟩:=xa H;(try dsimp only at H);obtain ⟨am,dE,H⟩:=xa H;(try dsimp only at H);obtain ⟨cq,H⟩:=xt H;have bc:=ae.mk cq;clear cq;obtain ⟨b0,ab⟩:∃ y_:List Int,y_ = (a4 ++ [am]):=⟨_,rfl⟩
     replace H:(bA.l0 k1 b0 y (y.length:Int) (wrap64 (X+1))) = some r:=by (try rw [ab]);exact AC
     have bi:=ae.mk ab;clear ab;have H':=ae.mk H;clear H;obtain ⟨bm,cx,cy,e3,e4⟩:=At (Kd.az Y.out).2.2 X;cases cx
     go_wp2_with (first | (refine ws (some 20) Tryz.func76 #[.int .i64 (rd y X)] ?_;(with_reducible refine (dD.calls k1 (rd y X) aO _ dC.out).mono ?_);rintro e eb ⟨rfl,hb⟩;refine ⟨_,rfl,?_⟩;replace a1:=z2 a1 hb;replace Y:=z2 Y hb;replace j:=xc j hb;replace HB:=xi HB hb;(try clear hb);(try clear aP);(try clear hk);(try clear hi)) | (refine ws (some 21) Tryz.func87 #[.int .i64 (rd y X),.int .i64 aO] ?_;(with_reducible refine (er.calls (rd y X) aO am _ dE.out).mono ?_);rintro e w' ⟨rfl,⟨nd,rfl⟩⟩;refine ⟨_,rfl,?_⟩) | ((with_reducible refine cF (b:=.append) (xs:=#[.tmp 17,.tmp 22]) rfl ?_);at_builtin;refine Kd.eS (Kd.int .i64) (w0:=w) w.heap.size rfl (.tmp 17) (.tmp 22) 22 3 (.int .i64 0) 8 rfl Tryz.underlying22 fb rfl (by decide) (by omega) u3 a4 am [.int .i64 am] (fun k_=>some k_≠(.slice (some bm) y.length aL:Value).ownBlock) (fun _=>False) rfl rfl (by exact rfl) (fun _ hk=>hk.elim) (by exact fun k_ hk=>Kd.fresh' (Kd.ek (ac Y.out)) k_ hk) (by exact ac a1.out) (by exact wx HB.out) (by exact ak (wx HB.out)) (by have:=bc.out;omega) ?_;intro e5 ec ho hb hg hat;rw [← bi.out] at ho;have d0:=ae.mk (Kd.fc (ok:=(fun _=>True)) (ac (Kd.aQ Y.out (fun _ hk=>⟨trivial,hk⟩))) hg hat);have d1:=ae.mk (eR (g:=aa) (o:=.cells #[.int .i64 a0,.slice a2 z.length a3] 37 (0,0)) (xf j.out) hg (Kd.jU a1.out j.out (by decide)));have d2:=ae.mk hb;have d3:=ae.mk ho;clear Y;clear j;clear HB;clear a1;have Y:=d0;have j:=d1;have HB:=d2;have bo:=d3;clear d0 d1 d2 d3;clear ho hb hg hat));go_roundg k1;case measure=>have:=cf.out;omega
     case rel=>exact ⟨(b0),(wrap64 (X+1)),ww,H',⟨by have:=cf.out;omega⟩,⟨ac bo.out⟩,⟨ac (Kd.aQ Y.out (fun _ hk=>hk.2))⟩,⟨xf j.out⟩,⟨wx HB.out⟩⟩
    ·rw [if_neg ao] at H
     have ba:decide (X < (y.length:Int)) = false:=decide_eq_false ao;clear ao;obtain ⟨d4,dT,H⟩:=xa H;(try dsimp only at H);obtain rfl:=Option.some.inj H;obtain ⟨d5,d6,d7⟩:=Kd.bk a1.out;subst d7;go_wp2_with (first | (refine ws (some 26) Tryz.func88 #[.slice d5 a4.length d6] ?_;(with_reducible refine (eU.calls _ _ a4 d4 _ ?side1 ?side2 dT.out).mono ?_);(case side1=>exact yi ((Kd.az a1.out).2.2));(case side2=>exact (Kd.az a1.out).2.1);rintro e ed ⟨e8,rfl,a6,hb⟩;refine ⟨_,rfl,?_⟩;have bs:=ae.mk (Kd.b5 (Kd.dy (Kd.dy a6 (Kd.ek (ac a1.out))) (Kd.ek (ac Y.out))) (ak (wx HB.out)));replace a1:=ae.mk (Kd.cz (ac a1.out) (Kd.cL a6) hb);replace Y:=ae.mk (Kd.cz (ac Y.out) (Kd.cL a6) hb);replace j:=xc j hb;replace HB:=xi HB hb;(try clear hb);(try clear aP);(try clear hk);(try clear hi);(try clear a6)));go_ret;exact ⟨_,zd,by (with_reducible repeat (first | apply Kd.cP | apply Kd.cQ | apply Kd.bY));exact Kd.aQ bs.out (fun _ hk=>trivial),wy⟩
 ·replace c3:=Bool.eq_false_iff.mpr c3
  subst c3;replace H:(some ([]:List Int)) = some r:=by rw [if_neg (show ¬ (false = true) by decide)] at H;exact H
  obtain rfl:=Option.some.inj H;go_enter Tryz.func37,Tryz.ntmps37;go_wp2_with (first | (refine zp 1 #[.int .i64 a0,.slice a2 z.length a3] 37 ?_;intro aa hg ee hbox hb;have j:=ae.mk hbox;have b2:=yv hg HB;have b3:=yv hg HB;replace HB:=xi HB hb;clear hb hbox hg;obtain ⟨d8,d9,db,dd⟩:=xv j.out) | (refine ws (some 7) Tryz.func61 #[.agg #[.int .i64 a0,.slice a2 z.length a3]] ?_;(with_reducible refine (ct.calls k a0 _ _ z false _ ?side1 ?side2 A2.out).mono ?_);(case side1=>exact yi (Kd.aN a7.out HB.out));(case side2=>exact a8.out);rintro e ef ⟨rfl,hb⟩;refine ⟨_,rfl,?_⟩;replace j:=xc j hb;replace HB:=xi HB hb;(try clear hb);(try clear aP);(try clear hk);(try clear hi)));go_ret;exact ⟨_,zd,af.N,wy⟩
def dJ.f (s c:Int):Option Bool:=ep.f c s
def cJ.f (k:Nat) (q:List Int) (s:Int):Option Bool:=(bf.f k q (fun c=>dJ.f s c)).bind fun b=>some (!b)
theorem cJ.mono (q:List Int) (s:Int) (k:Nat):gW (cJ.f k q s) (cJ.f (k+1) q s):=gW.bind (bf.mono (fun _=>gW.refl _) k q) fun _=>gW.refl _
def eO.f (k:Nat) (j:Int) (y:List Int):Option (List Int):=(ct.f k j y).bind fun t=>(if t = true then ((bA.f k j y).bind fun q=>(cC.f k j (fun s=>cJ.f k q s))) else (some []))
set_option maxHeartbeats 8000000 in
set_option maxRecDepth 100000 in
theorem dJ.calls (s c:Int) (b:Bool) (gb:Nat) (w:World) (hbk:w.heap[gb]? = some (.cells #[.int .i64 s] 3 (0,0))) (h:dJ.f s c = some b) :
  Calls Tryz.prog 71 #[.int .i64 c,.pointer (some ⟨gb,0,none⟩)] w fun e w'=>e = .returned (.bool b)∧Below w.heap.size w w':=by
 have y:w.cell? ⟨gb,0,none⟩ = some (.int .i64 s):=(ah hbk 0).trans rfl;have HB:=ae.mk (Below.refl w.heap.size w);have X:=ae.mk (show ep.f c s = some b from h);clear hbk h;go_enter Tryz.func71,Tryz.ntmps71;go_wp2_with (first | (refine ws (some 6) Tryz.func72 #[.int .i64 c,.int .i64 s] ?_;(with_reducible refine (ep.calls c s b _ X.out).mono ?_);rintro e z ⟨rfl,j⟩;refine ⟨_,rfl,?_⟩;have hb:=j.below;clear j;replace HB:=ae.mk (aq HB.out hb);clear hb));go_ret;exact ⟨rfl,HB.out⟩
theorem dJ.oa (s:Int) (gb:Nat) (w:World) (hbk:w.heap[gb]? = some (.cells #[.int .i64 s] 3 (0,0))) :
  af.nA Tryz.prog w (.func (.func 71) #[] #[.pointer (some ⟨gb,0,none⟩)]) (fun t=>dJ.f s t) :=
 ⟨⟨71,#[.pointer (some ⟨gb,0,none⟩)],Tryz.f71,rfl,Tryz.func71,by kernel_rfl,rfl,fun t b w' hw hg=>dJ.calls s t b gb w' (b6 hbk hw) hg⟩⟩
set_option maxHeartbeats 8000000 in
set_option maxRecDepth 100000 in
theorem cJ.calls (k:Nat) (gb:Nat) (Aq:Option Addr) (cq:Nat) (q:List Int) (s:Int) (b:Bool) (w:World) (hbk:w.heap[gb]? = some (.cells #[.slice Aq q.length cq] 22 (0,0))) (hq:Kd.C (Kd.int .i64) w Aq q.length q) (h:cJ.f k q s = some b) :
  Calls Tryz.prog 69 #[.int .i64 s,.pointer (some ⟨gb,0,none⟩)] w fun e w'=>e = .returned (.bool b)∧Below w.heap.size w w':=by
 have HB:=ae.mk (Below.refl w.heap.size w);have HQ:=ae.mk hq;have y:=ae.mk hbk;unfold cJ.f at h;obtain ⟨t,h1,h⟩:=Option.bind_eq_some_iff.mp h;have A1:=ae.mk h1;obtain rfl:=Option.some.inj h;have z:w.cell? ⟨gb,0,none⟩ = some (.slice Aq q.length cq):=(ah hbk 0).trans rfl;have X:=aj hbk 0;clear hbk hq h h1;go_enter Tryz.func69,Tryz.ntmps69;go_wp2_with (first | (refine zp 2 #[.int .i64 s] 3 ?_;intro a1 hg a2 hbox hb;clear z X;have a4:=ae.mk ((by rw [hg];exact ak HB.out):w.heap.size≤a1);have m_:=ae.mk (b6 y.out hb);clear y;have y:=m_;clear m_;replace HB:=ae.mk (aq HB.out hb);have j:=ae.mk hbox;clear hb hg hbox;have z:a2.cell? ⟨gb,0,none⟩ = some (.slice Aq q.length cq):=(ah y.out 0).trans rfl;have X:=aj y.out 0;have Y:a2.cell? ⟨a1,0,none⟩ = some (.int .i64 s):=(ah j.out 0).trans rfl;have a0:=aj j.out 0) | (refine ws (some 6) Tryz.func70 #[.slice Aq q.length cq,.func (.func 71) #[] #[.pointer (some ⟨a1,0,none⟩)]] ?_;(with_reducible refine (bf.calls k _ _ q _ (fun c=>dJ.f s c) t _ (Kd.aN HQ.out HB.out) (dJ.oa s a1 _ j.out) A1.out).mono ?_);rintro e a3 ⟨rfl,hb⟩;refine ⟨_,rfl,?_⟩;clear z X Y a0;have m_:=ae.mk (b6 y.out hb);clear y;have y:=m_;clear m_;have m_:=ae.mk (b6 j.out hb);clear j;have j:=m_;clear m_;replace HB:=ae.mk (aq HB.out hb);clear hb;have z:a3.cell? ⟨gb,0,none⟩ = some (.slice Aq q.length cq):=(ah y.out 0).trans rfl;have X:=aj y.out 0;have Y:a3.cell? ⟨a1,0,none⟩ = some (.int .i64 s):=(ah j.out 0).trans rfl;have a0:=aj j.out 0));go_ret;exact ⟨rfl,HB.out⟩
theorem cJ.oa (k:Nat) (gb:Nat) (j:Option Addr) (cq:Nat) (q:List Int) (w:World) (hbk:w.heap[gb]? = some (.cells #[.slice j q.length cq] 22 (0,0))) (hq:Kd.C (Kd.int .i64) w j q.length q) :
  af.nA Tryz.prog w (.func (.func 69) #[] #[.pointer (some ⟨gb,0,none⟩)]) (fun s=>cJ.f k q s) :=
 ⟨⟨69,#[.pointer (some ⟨gb,0,none⟩)],Tryz.f69,rfl,Tryz.func69,by kernel_rfl,rfl,fun s b w' hw hg=>cJ.calls k gb j cq q s b w' (b6 hbk hw) (Kd.aN hq hw) hg⟩⟩
set_option maxHeartbeats 8000000 in
set_option maxRecDepth 100000 in
theorem eO.calls (k:Nat) (a1:Int) (a3:Option Addr) (a4:Nat) (a0:List Int) (r:List Int) (w:World) (ao:Kd.C (Kd.int .i64) w a3 a0.length a0) (ap:a0.length≤a4) (h:eO.f k a1 a0 = some r) :
  Calls Tryz.prog 28 #[.agg #[.int .i64 a1,.slice a3 a0.length a4]] w fun e w'=>∃ aR:Value,e = .returned (aR)∧Kd.R (Kd.int .i64) 3 w' w.heap.size (fun _=>True) aR r∧Below w.heap.size w w':=by
 have b2:=Tryz.underlying37;have HR:=ae.mk ao;have HC:=ae.mk ap;have HB:=ae.mk (Below.refl w.heap.size w);unfold eO.f at h;obtain ⟨t,h1,h⟩:=Option.bind_eq_some_iff.mp h;have A1:=ae.mk h1;clear ao ap h1;cases t with
 | false =>
  rw [if_neg (by decide)] at h;obtain rfl:=Option.some.inj h;clear h;go_enter Tryz.func28,Tryz.ntmps28;go_wp2_with (first | (refine zp 1 #[.int .i64 a1,.slice a3 a0.length a4] 37 ?_;intro a5 hg a8 hbox hb;have aP:=ae.mk ((by rw [hg];exact ak HB.out):w.heap.size≤a5);replace HB:=ae.mk (aq HB.out hb);have j:=ae.mk hbox;clear hb hg hbox;have y:a8.cell? ⟨a5,0,none⟩ = some (.int .i64 a1):=(ah j.out 0).trans rfl;have z:=aj j.out 0;have X:a8.cell? ⟨a5,1,none⟩ = some (.slice a3 a0.length a4):=(ah j.out 1).trans rfl;have Y:=aj j.out 1) | (refine ws (some 5) Tryz.func61 #[.agg #[.int .i64 a1,.slice a3 a0.length a4]] ?_;(with_reducible refine (ct.calls k a1 _ _ a0 false _ (Kd.aN HR.out HB.out) HC.out A1.out).mono ?_);rintro e a9 ⟨rfl,hb⟩;refine ⟨_,rfl,?_⟩;clear y z X Y;have m_:=ae.mk (b6 j.out hb);clear j;have j:=m_;clear m_;replace HB:=ae.mk (aq HB.out hb);clear hb;have y:a9.cell? ⟨a5,0,none⟩ = some (.int .i64 a1):=(ah j.out 0).trans rfl;have z:=aj j.out 0;have X:a9.cell? ⟨a5,1,none⟩ = some (.slice a3 a0.length a4):=(ah j.out 1).trans rfl;have Y:=aj j.out 1));go_ret;exact ⟨_,rfl,Kd.ni _ _ _ _ _,HB.out⟩
 | true =>
  rw [if_pos rfl] at h;obtain ⟨q,h2,h3⟩:=Option.bind_eq_some_iff.mp h;have A2:=ae.mk h2;have A3:=ae.mk h3;clear h h2 h3;go_enter Tryz.func28,Tryz.ntmps28;go_wp2_with (first | (refine zp 1 #[.int .i64 a1,.slice a3 a0.length a4] 37 ?_;intro a5 hg a8 hbox hb;have aP:=ae.mk ((by rw [hg];exact ak HB.out):w.heap.size≤a5);replace HB:=ae.mk (aq HB.out hb);have j:=ae.mk hbox;clear hb hg hbox;have y:a8.cell? ⟨a5,0,none⟩ = some (.int .i64 a1):=(ah j.out 0).trans rfl;have z:=aj j.out 0;have X:a8.cell? ⟨a5,1,none⟩ = some (.slice a3 a0.length a4):=(ah j.out 1).trans rfl;have Y:=aj j.out 1) | (refine ws (some 5) Tryz.func61 #[.agg #[.int .i64 a1,.slice a3 a0.length a4]] ?_;(with_reducible refine (ct.calls k a1 _ _ a0 true _ (Kd.aN HR.out HB.out) HC.out A1.out).mono ?_);rintro e a9 ⟨rfl,hb⟩;refine ⟨_,rfl,?_⟩;clear y z X Y;have m_:=ae.mk (b6 j.out hb);clear j;have j:=m_;clear m_;replace HB:=ae.mk (aq HB.out hb);clear hb;have y:a9.cell? ⟨a5,0,none⟩ = some (.int .i64 a1):=(ah j.out 0).trans rfl;have z:=aj j.out 0;have X:a9.cell? ⟨a5,1,none⟩ = some (.slice a3 a0.length a4):=(ah j.out 1).trans rfl;have Y:=aj j.out 1) | (refine ws (some 8) Tryz.func37 #[.agg #[.int .i64 a1,.slice a3 a0.length a4]] ?_;(with_reducible refine (bA.calls k a1 _ _ a0 q _ (Kd.aN HR.out HB.out) HC.out A2.out).mono ?_);rintro e aL ⟨vq,rfl,ar,hb⟩;refine ⟨_,rfl,?_⟩;clear y z X Y;have Nq:=ae.mk (Kd.b5 ar (ak HB.out));have m_:=ae.mk (b6 j.out hb);clear j;have j:=m_;clear m_;replace HB:=ae.mk (aq HB.out hb);have aa:=Nq;clear Nq ar;obtain ⟨Aq,cq,aS⟩:=Kd.bk aa.out;subst aS;clear hb;have y:aL.cell? ⟨a5,0,none⟩ = some (.int .i64 a1):=(ah j.out 0).trans rfl;have z:=aj j.out 0;have X:aL.cell? ⟨a5,1,none⟩ = some (.slice a3 a0.length a4):=(ah j.out 1).trans rfl;have Y:=aj j.out 1) | (refine zp 3 #[.slice none 0 0] 22 ?_;intro ab hg aO hbox hb;have b0:=ae.mk ((by rw [hg];exact ak HB.out):w.heap.size≤ab);have aw:=ae.mk hg;have aB:=ae.mk hb;have a2:=ae.mk hbox;clear hb hg hbox;have a6:aO.cell? ⟨ab,0,none⟩ = some (.slice none 0 0):=(ah a2.out 0).trans rfl;have a7:=aj a2.out 0) | ((with_reducible refine gX (t:=22) (p:=3) rfl ?_);refine gG (t:=22) (p:=3) (v:=?vo1) (w1:=(aO.setCell ⟨ab,0,none⟩ (.slice Aq q.length cq))) ?hg ?ho ?hn ?hr ?_;(case ho=>rfl);(case hg=>rfl);(case hn=>rfl);(case hr=>first | (go_simp;done) | (go_simp;rfl));intro am hw;have hb:=(show Below _ _ am from (by rw [hw];exact dY aB.out (Nat.le_of_eq aw.out.symm)));have m5:ae (am.heap[ab]? = some (.cells #[.slice Aq q.length cq] 22 (0,0))):=⟨by rw [hw];exact gA a2.out 0 _ rfl⟩;clear a2 hw a6 a7;clear y z X Y;have m_:=ae.mk (b6 j.out hb);clear j;have j:=m_;clear m_;have m_:=ae.mk (Kd.dG aa.out hb);clear aa;have aa:=m_;clear m_;replace HB:=ae.mk (aq HB.out hb);have a2:=m5;clear m5 hb aB aw;have y:am.cell? ⟨a5,0,none⟩ = some (.int .i64 a1):=(ah j.out 0).trans rfl;have z:=aj j.out 0;have X:am.cell? ⟨a5,1,none⟩ = some (.slice a3 a0.length a4):=(ah j.out 1).trans rfl;have Y:=aj j.out 1;have a6:am.cell? ⟨ab,0,none⟩ = some (.slice Aq q.length cq):=(ah a2.out 0).trans rfl;have a7:=aj a2.out 0) | (refine ws (some 12) Tryz.func68 #[.int .i64 a1,.func (.func 69) #[] #[.pointer (some ⟨ab,0,none⟩)]] ?_;(with_reducible refine (cC.calls k a1 _ (fun s=>cJ.f k q s) r _ (cJ.oa k ab Aq cq q _ a2.out (Kd.az aa.out).2.2) A3.out).mono ?_);rintro e aF ⟨vr,rfl,ar,hb⟩;refine ⟨_,rfl,?_⟩;clear y z X Y a6 a7;have Nr:=ae.mk (Kd.b5 ar (ak HB.out));have m_:=ae.mk (b6 j.out hb);clear j;have j:=m_;clear m_;have m_:=ae.mk (b6 a2.out hb);clear a2;have a2:=m_;clear m_;have m_:=ae.mk (Kd.dG aa.out hb);clear aa;have aa:=m_;clear m_;replace HB:=ae.mk (aq HB.out hb);have HOr:=Nr;clear Nr ar;clear hb;have y:aF.cell? ⟨a5,0,none⟩ = some (.int .i64 a1):=(ah j.out 0).trans rfl;have z:=aj j.out 0;have X:aF.cell? ⟨a5,1,none⟩ = some (.slice a3 a0.length a4):=(ah j.out 1).trans rfl;have Y:=aj j.out 1;have a6:aF.cell? ⟨ab,0,none⟩ = some (.slice Aq q.length cq):=(ah a2.out 0).trans rfl;have a7:=aj a2.out 0));go_ret;exact ⟨_,rfl,HOr.out,HB.out⟩
mutual
def aI.j0:Nat→Int→Int→Bool→Int→List Int→Option (Int)
 | 0,_,_,_,_,_=>none
 | k+1,Y,z,a2,j,y=>if a2 = true then (some 0) else (if 0≤(IntKind.u64.wrap (z)) then (aI.l0 k Y z (shl .i64 1 (IntKind.u64.wrap (z))) 0 j y) else (none))
def aI.l0:Nat→Int→Int→Int→Int→Int→List Int→Option (Int)
 | 0,_,_,_,_,_,_=>none
 | k+1,Y,z,x7,X,j,y=>if X < j then ((bZ.f Y X).bind fun a0=>(if a0 = true then (if 0≤(IntKind.u64.wrap (X)) then (if 0≤(IntKind.u64.wrap (z)) then ((bj.f k y (wrap64 ((wrap64 (Y - (shl .i64 1 (IntKind.u64.wrap (X)))))+(shl .i64 1 (IntKind.u64.wrap (z)))))).bind fun a1=>(if a1 = true then (aI.l0 k Y z (wrap64 (x7+(shl .i64 1 (IntKind.u64.wrap (X))))) (wrap64 (X+1)) j y) else (aI.l0 k Y z x7 (wrap64 (X+1)) j y))) else (none)) else (none)) else (aI.l0 k Y z x7 (wrap64 (X+1)) j y))) else (some x7)
end
def aI.f (k:Nat) (j:Int) (y:List Int) (z:Int) (a2:Int):Option (Int):=(aY.f k j y).bind fun X=>(if X = true then ((bj.f k y z).bind fun Y=>(if Y = true then ((bD.f a2 0 (wrap64 (j - 1))).bind fun a0=>(if a0 = true then ((bZ.f z a2).bind fun a3=>(aI.j0 k z a2 a3 j y)) else (aI.j0 k z a2 true j y))) else (aI.j0 k z a2 true j y))) else (aI.j0 k z a2 true j y))
set_option maxHeartbeats 8000000 in
set_option maxRecDepth 100000 in
theorem aI.calls (k:Nat) (y:Int) (aa:Option Addr) (ab:Nat) (j:List Int) (a1:Int) (a2:Int) (r:Int) (w:World) (b3:Kd.C (Kd.int .i64) w aa j.length j) (b4:j.length≤ab) (h:aI.f k y j a1 a2 = some r) :
  Calls Tryz.prog 78 #[.agg #[.int .i64 y,.slice aa j.length ab],.int .i64 a1,.int .i64 a2] w fun e w'=>e = .returned (.int .i64 r)∧Below w.heap.size w w':=by
 have fi:=Tryz.underlying37;have a5:=ae.mk b3;have a6:=ae.mk b4;clear b3 b4;have HB:=ae.mk (Below.refl w.heap.size w);unfold aI.f at h;have H:=h;clear h;have c1:=ae.mk H;clear H;go_enter Tryz.func78,Tryz.ntmps78;go_upto_region 1 with (first | ((with_reducible refine bu (N:=3) rfl ?_);refine zp 3 #[.int .i64 y,.slice aa j.length ab] 37 ?_;intro ba hg w5 hbox hb;have z:=ae.mk hbox;have f1:=yv hg HB;have f2:=yv hg HB;replace HB:=xi HB hb;clear hb hbox hg))
 (try simp only [Act.put,List.setIfInBounds_toArray,List.set_cons_zero,List.set_cons_succ]);go_cut [31] (fun v31 wc=>∃ (kq:Nat) (ar:Bool),v31 = .bool ar∧ae (aI.j0 kq a1 a2 ar y j = some r)∧ae (kq≤k)∧ae (wc.heap[ba]? = some (.cells #[.int .i64 y,(.slice aa j.length ab)] 37 (0,0)))∧ae (Below w.heap.size w wc))
 case first =>
  have H:=c1.out;clear c1;obtain ⟨ci,A6,H⟩:=xa H;(try dsimp only at H);by_cases c7:ci = true
  ·subst c7
   replace H:((bj.f k j a1).bind fun bc=>(if bc = true then ((bD.f a2 0 (wrap64 (y - 1))).bind fun aw=>(if aw = true then ((bZ.f a1 a2).bind fun ap=>(aI.j0 k a1 a2 ap y j)) else (aI.j0 k a1 a2 true y j))) else (aI.j0 k a1 a2 true y j))) = some r:=by rw [if_pos rfl] at H;exact H
   obtain ⟨bc,A8,H⟩:=xa H;(try dsimp only at H);by_cases c9:bc = true
   ·subst c9
    replace H:((bD.f a2 0 (wrap64 (y - 1))).bind fun aw=>(if aw = true then ((bZ.f a1 a2).bind fun ap=>(aI.j0 k a1 a2 ap y j)) else (aI.j0 k a1 a2 true y j))) = some r:=by rw [if_pos rfl] at H;exact H
    obtain ⟨aw,cp,H⟩:=xa H;(try dsimp only at H);by_cases bo:aw = true
    ·subst bo
     replace H:((bZ.f a1 a2).bind fun ap=>(aI.j0 k a1 a2 ap y j)) = some r:=by rw [if_pos rfl] at H;exact H
     obtain ⟨ap,f3,H⟩:=xa H;(try dsimp only at H);have H':=ae.mk H;clear H;obtain ⟨cq,cx,cy,d0⟩:=xv z.out;go_wp2_with (first | ((with_reducible refine aD (f:=39) rfl ?_);refine ws (some 10) Tryz.func39 #[.agg #[.int .i64 y,.slice aa j.length ab]] ?_;(with_reducible refine (aY.calls k y _ _ j true _ ?side1 ?side2 A6.out).mono ?_);(case side1=>exact yi (Kd.aN a5.out HB.out));(case side2=>exact a6.out);rintro e fj ⟨rfl,hb⟩;refine ⟨_,rfl,?_⟩;replace z:=xc z hb;replace HB:=xi HB hb;(try clear hb);(try clear ca);(try clear hk);(try clear hi);obtain ⟨d1,d2,d3,d4⟩:=xv z.out) | (go_at_call 81;(with_reducible refine (bj.calls k _ _ j a1 true _ ?side1 ?side2 A8.out).mono ?_);(case side1=>exact yi (Kd.aN a5.out HB.out));(case side2=>exact a6.out);rintro e w' ⟨rfl,⟨nd,rfl⟩⟩) | (go_at_call 46;(with_reducible refine (bD.calls a2 0 (wrap64 (y - 1)) true _ cp.out).mono ?_);rintro e w' ⟨rfl,⟨nd,rfl⟩⟩) | (go_at_call 134;(with_reducible refine (bZ.calls a1 a2 ap _ f3.out).mono ?_);rintro e w' ⟨rfl,⟨nd,rfl⟩⟩));go_meet
     case rel=>exact ⟨_,(ap),ww,H',⟨by first | omega | exact Nat.le_refl _⟩,⟨xf z.out⟩,⟨wx HB.out⟩⟩
    ·replace bo:=Bool.eq_false_iff.mpr bo
     subst bo;replace H:(aI.j0 k a1 a2 true y j) = some r:=by rw [if_neg (show ¬ (false = true) by decide)] at H;exact H
     have H':=ae.mk H;clear H;obtain ⟨d5,d6,d7,d8⟩:=xv z.out;go_wp2_with (first | ((with_reducible refine aD (f:=39) rfl ?_);refine ws (some 10) Tryz.func39 #[.agg #[.int .i64 y,.slice aa j.length ab]] ?_;(with_reducible refine (aY.calls k y _ _ j true _ ?side1 ?side2 A6.out).mono ?_);(case side1=>exact yi (Kd.aN a5.out HB.out));(case side2=>exact a6.out);rintro e fp ⟨rfl,hb⟩;refine ⟨_,rfl,?_⟩;replace z:=xc z hb;replace HB:=xi HB hb;(try clear hb);(try clear ca);(try clear hk);(try clear hi);obtain ⟨d9,db,dd,df⟩:=xv z.out) | (go_at_call 81;(with_reducible refine (bj.calls k _ _ j a1 true _ ?side1 ?side2 A8.out).mono ?_);(case side1=>exact yi (Kd.aN a5.out HB.out));(case side2=>exact a6.out);rintro e w' ⟨rfl,⟨nd,rfl⟩⟩) | (go_at_call 46;(with_reducible refine (bD.calls a2 0 (wrap64 (y - 1)) false _ cp.out).mono ?_);rintro e w' ⟨rfl,⟨nd,rfl⟩⟩));go_meet
     case rel=>exact ⟨_,(true),ww,H',⟨by first | omega | exact Nat.le_refl _⟩,⟨xf z.out⟩,⟨wx HB.out⟩⟩
   ·replace c9:=Bool.eq_false_iff.mpr c9
    subst c9;replace H:(aI.j0 k a1 a2 true y j) = some r:=by rw [if_neg (show ¬ (false = true) by decide)] at H;exact H
    have H':=ae.mk H;clear H;obtain ⟨dk,dl,dp,dq⟩:=xv z.out;go_wp2_with (first | ((with_reducible refine aD (f:=39) rfl ?_);refine ws (some 10) Tryz.func39 #[.agg #[.int .i64 y,.slice aa j.length ab]] ?_;(with_reducible refine (aY.calls k y _ _ j true _ ?side1 ?side2 A6.out).mono ?_);(case side1=>exact yi (Kd.aN a5.out HB.out));(case side2=>exact a6.out);rintro e fs ⟨rfl,hb⟩;refine ⟨_,rfl,?_⟩;replace z:=xc z hb;replace HB:=xi HB hb;(try clear hb);(try clear ca);(try clear hk);(try clear hi);obtain ⟨dt,du,dv,dC⟩:=xv z.out) | (go_at_call 81;(with_reducible refine (bj.calls k _ _ j a1 false _ ?side1 ?side2 A8.out).mono ?_);(case side1=>exact yi (Kd.aN a5.out HB.out));(case side2=>exact a6.out);rintro e w' ⟨rfl,⟨nd,rfl⟩⟩));go_meet
    case rel=>exact ⟨_,(true),ww,H',⟨by first | omega | exact Nat.le_refl _⟩,⟨xf z.out⟩,⟨wx HB.out⟩⟩
  ·replace c7:=Bool.eq_false_iff.mpr c7
   subst c7;replace H:(aI.j0 k a1 a2 true y j) = some r:=by rw [if_neg (show ¬ (false = true) by decide)] at H;exact H
   have H':=ae.mk H;clear H;obtain ⟨dE,dT,e0,e1⟩:=xv z.out;go_wp2_with (first | ((with_reducible refine aD (f:=39) rfl ?_);refine ws (some 10) Tryz.func39 #[.agg #[.int .i64 y,.slice aa j.length ab]] ?_;(with_reducible refine (aY.calls k y _ _ j false _ ?side1 ?side2 A6.out).mono ?_);(case side1=>exact yi (Kd.aN a5.out HB.out));(case side2=>exact a6.out);rintro e ft ⟨rfl,hb⟩;refine ⟨_,rfl,?_⟩;replace z:=xc z hb;replace HB:=xi HB hb;(try clear hb);(try clear ca);(try clear hk);(try clear hi)));go_meet
   case rel=>exact ⟨_,(true),ww,H',⟨by first | omega | exact Nat.le_refl _⟩,⟨xf z.out⟩,⟨wx HB.out⟩⟩
 case rest =>
  clear c1;obtain ⟨kq,ar,rfl,HA,aS,z,HB⟩:=hcut;cases kq with
  | zero=>exact absurd HA.out (by simp [aI.j0])
  | succ bi =>
   have H:=HA.out;clear HA;simp only [aI.j0] at H;by_cases bs:ar = true
   ·subst bs
    replace H:(some 0) = some r:=by rw [if_pos rfl] at H;exact H
    obtain rfl:=Option.some.inj H;go_wp2;go_ret;exact ⟨zd,wy⟩
   ·replace bs:=Bool.eq_false_iff.mpr bs
    subst bs;replace H:(if 0≤(IntKind.u64.wrap (a2)) then (aI.l0 bi a1 a2 (shl .i64 1 (IntKind.u64.wrap (a2))) 0 y j) else (none)) = some r:=by rw [if_neg (show ¬ (false = true) by decide)] at H;exact H
    obtain ⟨a0,am⟩:∃ j_:Int,(IntKind.u64.wrap (a2)) = j_:=⟨_,rfl⟩
    replace H:(if 0≤(a0) then (aI.l0 bi a1 a2 (shl .i64 1 (a0)) 0 y j) else (none)) = some r:=by first | (rw [am] at H;exact H) | (simp only [am] at H ⊢;exact H)
    obtain ⟨cb,H⟩:=xt H;have f4:=eq_true cb;have f5:decide (0≤(a0)) = true:=decide_eq_true cb;clear cb;obtain ⟨a8,a7⟩:∃ j_:Int,(shl .i64 1 (a0)) = j_:=⟨_,rfl⟩
    replace H:(aI.l0 bi a1 a2 a8 0 y j) = some r:=by first | (rw [a7] at H;exact H) | (simp only [a7] at H ⊢;exact H)
    have aL:(IntKind.i64.wrap (1 * 2 ^ min (a0).toNat 64)) = a8:=a7;have aO:(a0)≤64→(IntKind.i64.wrap (1 * 2 ^ (a0).toNat)) = a8:=eX a7;have es:(IntKind.i64.wrap (2 ^ min (a0).toNat 64)) = a8:=by have h_:=aL;rw [Int.one_mul] at h_;exact h_
    have et:(a0)≤64→(IntKind.i64.wrap (2 ^ (a0).toNat)) = a8:=fun bm=>by have h_:=aO bm;rw [Int.one_mul] at h_;exact h_
    have ev:(wrap64 (1 * 2 ^ min (a0).toNat 64)) = a8:=(b7 _).symm.trans aL;have ew:(a0)≤64→(wrap64 (1 * 2 ^ (a0).toNat)) = a8:=fun h_=>(b7 _).symm.trans (aO h_)
    have H':=ae.mk H;clear H;go_wp2;go_loopg [7,8] bi (fun kq v7 v8 w'=>∃ (Y:Int) (X:Int),v7 = .int .i64 Y∧v8 = .int .i64 X∧ae (aI.l0 kq a1 a2 Y X y j = some r)∧ae (kq≤bi)∧ae (w'.heap[ba]? = some (.cells #[.int .i64 y,(.slice aa j.length ab)] 37 (0,0)))∧ae (Below w.heap.size w w'))
    case atStart=>exact ⟨(a8),(0),(by first | rfl | (simp;done) | (simp only [← a7] <;> (first | rfl | simp)) | (simp [*];done)),ww,H',⟨Nat.le_refl _⟩,⟨xf z.out⟩,⟨wx HB.out⟩⟩
    case round =>
     clear H';obtain ⟨Y,X,rfl,rfl,HA,b0,z,HB⟩:=hrel;cases gk with
     | zero=>exact absurd HA.out (by simp [aI.l0])
     | succ k2 =>
      have H:=HA.out;clear HA;simp only [aI.l0] at H;by_cases b2:X < y
      ·rw [if_pos b2] at H
       have cc:=decide_eq_true b2;clear b2;obtain ⟨e2,aB,H⟩:=xa H;(try dsimp only at H);by_cases bv:e2 = true
       ·subst bv
        replace H:(if 0≤(IntKind.u64.wrap (X)) then (if 0≤(IntKind.u64.wrap (a2)) then ((bj.f k2 j (wrap64 ((wrap64 (a1 - (shl .i64 1 (IntKind.u64.wrap (X)))))+(shl .i64 1 (IntKind.u64.wrap (a2)))))).bind fun a9=>(if a9 = true then (aI.l0 k2 a1 a2 (wrap64 (Y+(shl .i64 1 (IntKind.u64.wrap (X))))) (wrap64 (X+1)) y j) else (aI.l0 k2 a1 a2 Y (wrap64 (X+1)) y j))) else (none)) else (none)) = some r:=by rw [if_pos rfl] at H;exact H
        obtain ⟨a4,aF⟩:∃ j_:Int,(IntKind.u64.wrap (X)) = j_:=⟨_,rfl⟩
        replace H:(if 0≤(a4) then (if 0≤(IntKind.u64.wrap (a2)) then ((bj.f k2 j (wrap64 ((wrap64 (a1 - (shl .i64 1 (a4))))+(shl .i64 1 (IntKind.u64.wrap (a2)))))).bind fun a9=>(if a9 = true then (aI.l0 k2 a1 a2 (wrap64 (Y+(shl .i64 1 (a4)))) (wrap64 (X+1)) y j) else (aI.l0 k2 a1 a2 Y (wrap64 (X+1)) y j))) else (none)) else (none)) = some r:=by first | (rw [aF] at H;exact H) | (simp only [aF] at H ⊢;exact H)
        (try rw [aF] at aB);obtain ⟨ce,H⟩:=xt H;have f6:=eq_true ce;have f7:decide (0≤(a4)) = true:=decide_eq_true ce;clear ce;obtain ⟨a3,ao⟩:∃ j_:Int,(shl .i64 1 (a4)) = j_:=⟨_,rfl⟩
        replace H:(if 0≤(IntKind.u64.wrap (a2)) then ((bj.f k2 j (wrap64 ((wrap64 (a1 - (a3)))+(shl .i64 1 (IntKind.u64.wrap (a2)))))).bind fun a9=>(if a9 = true then (aI.l0 k2 a1 a2 (wrap64 (Y+(a3))) (wrap64 (X+1)) y j) else (aI.l0 k2 a1 a2 Y (wrap64 (X+1)) y j))) else (none)) = some r:=by first | (rw [ao] at H;exact H) | (simp only [ao] at H ⊢;exact H)
        (try rw [ao] at aB);have aP:(IntKind.i64.wrap (1 * 2 ^ min (a4).toNat 64)) = a3:=ao;have aR:(a4)≤64→(IntKind.i64.wrap (1 * 2 ^ (a4).toNat)) = a3:=eX ao;have ex:(IntKind.i64.wrap (2 ^ min (a4).toNat 64)) = a3:=by have h_:=aP;rw [Int.one_mul] at h_;exact h_
        have ey:(a4)≤64→(IntKind.i64.wrap (2 ^ (a4).toNat)) = a3:=fun bm=>by have h_:=aR bm;rw [Int.one_mul] at h_;exact h_
        have eQ:(wrap64 (1 * 2 ^ min (a4).toNat 64)) = a3:=(b7 _).symm.trans aP;have f0:(a4)≤64→(wrap64 (1 * 2 ^ (a4).toNat)) = a3:=fun h_=>(b7 _).symm.trans (aR h_)
        replace H:(if 0≤(a0) then ((bj.f k2 j (wrap64 ((wrap64 (a1 - (a3)))+(shl .i64 1 (a0))))).bind fun a9=>(if a9 = true then (aI.l0 k2 a1 a2 (wrap64 (Y+(a3))) (wrap64 (X+1)) y j) else (aI.l0 k2 a1 a2 Y (wrap64 (X+1)) y j))) else (none)) = some r:=by first | (rw [am] at H;exact H) | (simp only [am] at H ⊢;exact H)
        (try rw [am] at aB);obtain ⟨cf,H⟩:=xt H;have f8:=eq_true cf;have f9:decide (0≤(a0)) = true:=decide_eq_true cf;clear cf;replace H:((bj.f k2 j (wrap64 ((wrap64 (a1 - (a3)))+(a8)))).bind fun a9=>(if a9 = true then (aI.l0 k2 a1 a2 (wrap64 (Y+(a3))) (wrap64 (X+1)) y j) else (aI.l0 k2 a1 a2 Y (wrap64 (X+1)) y j))) = some r:=by first | (rw [a7] at H;exact H) | (simp only [a7] at H ⊢;exact H)
        (try rw [a7] at aB);obtain ⟨a9,e3,H⟩:=xa H;(try dsimp only at H);by_cases c0:a9 = true
        ·subst c0
         replace H:(aI.l0 k2 a1 a2 (wrap64 (Y+(a3))) (wrap64 (X+1)) y j) = some r:=by rw [if_pos rfl] at H;exact H
         have fd:=eq_true (yk:0≤(a4));have H':=ae.mk H;clear H;obtain ⟨e4,e5,e8,ea⟩:=xv z.out;go_wp2_with (first | ((with_reducible refine aD (f:=134) rfl ?_);refine ws (some 43) Tryz.func134 #[.int .i64 a1,.int .i64 X] ?_;(with_reducible refine (bZ.calls a1 X true _ aB.out).mono ?_);rintro e w' ⟨rfl,⟨nd,rfl⟩⟩;refine ⟨_,rfl,?_⟩) | (go_at_call 81;(with_reducible refine (bj.calls k2 _ _ j (wrap64 ((wrap64 (a1 - (a3)))+(a8))) true _ ?side1 ?side2 e3.out).mono ?_);(case side1=>exact yi (Kd.aN a5.out HB.out));(case side2=>exact a6.out);rintro e w' ⟨rfl,⟨nd,rfl⟩⟩));go_roundg k2;case measure=>have:=aS.out;have:=b0.out;omega
         case rel=>exact ⟨(wrap64 (Y+(a3))),(wrap64 (X+1)),(by first | rfl | (simp;done) | (simp only [← ao] <;> (first | rfl | simp)) | (simp [*];done)),ww,H',⟨by have:=aS.out;have:=b0.out;omega⟩,⟨xf z.out⟩,⟨wx HB.out⟩⟩
        ·replace c0:=Bool.eq_false_iff.mpr c0
         subst c0;replace H:(aI.l0 k2 a1 a2 Y (wrap64 (X+1)) y j) = some r:=by rw [if_neg (show ¬ (false = true) by decide)] at H;exact H
         have H':=ae.mk H;clear H;obtain ⟨eb,ec,ed,ee⟩:=xv z.out;go_wp2_with (first | ((with_reducible refine aD (f:=134) rfl ?_);refine ws (some 43) Tryz.func134 #[.int .i64 a1,.int .i64 X] ?_;(with_reducible refine (bZ.calls a1 X true _ aB.out).mono ?_);rintro e w' ⟨rfl,⟨nd,rfl⟩⟩;refine ⟨_,rfl,?_⟩) | (go_at_call 81;(with_reducible refine (bj.calls k2 _ _ j (wrap64 ((wrap64 (a1 - (a3)))+(a8))) false _ ?side1 ?side2 e3.out).mono ?_);(case side1=>exact yi (Kd.aN a5.out HB.out));(case side2=>exact a6.out);rintro e w' ⟨rfl,⟨nd,rfl⟩⟩));go_roundg k2;case measure=>have:=aS.out;have:=b0.out;omega
         case rel=>exact ⟨(Y),(wrap64 (X+1)),ww,ww,H',⟨by have:=aS.out;have:=b0.out;omega⟩,⟨xf z.out⟩,⟨wx HB.out⟩⟩
       ·replace bv:=Bool.eq_false_iff.mpr bv
        subst bv;replace H:(aI.l0 k2 a1 a2 Y (wrap64 (X+1)) y j) = some r:=by rw [if_neg (show ¬ (false = true) by decide)] at H;exact H
        have H':=ae.mk H;clear H;obtain ⟨ef,eh,ei,ej⟩:=xv z.out;go_wp2_with (first | ((with_reducible refine aD (f:=134) rfl ?_);refine ws (some 43) Tryz.func134 #[.int .i64 a1,.int .i64 X] ?_;(with_reducible refine (bZ.calls a1 X false _ aB.out).mono ?_);rintro e w' ⟨rfl,⟨nd,rfl⟩⟩;refine ⟨_,rfl,?_⟩));go_roundg k2;case measure=>have:=aS.out;have:=b0.out;omega
        case rel=>exact ⟨(Y),(wrap64 (X+1)),ww,ww,H',⟨by have:=aS.out;have:=b0.out;omega⟩,⟨xf z.out⟩,⟨wx HB.out⟩⟩
      ·rw [if_neg b2] at H
       have cc:decide (X < y) = false:=decide_eq_false b2;clear b2;obtain rfl:=Option.some.inj H;obtain ⟨el,em,eo,eq⟩:=xv z.out;go_wp2;go_ret;exact ⟨by first | rfl | (simp [fD,fE] <;> rfl) | (simp only [← am,← a7];first | rfl | (simp [fD,fE] <;> rfl)) | (simp [*,fD,fE] <;> rfl),wy⟩
def eE.f (a0:Int):Option (Int):=some (Go.bits .and .i64 a0 (wrap64 (-a0)))
set_option maxHeartbeats 8000000 in
set_option maxRecDepth 100000 in
theorem eE.calls (a0:Int) (r:Int) (w:World) (h:eE.f a0 = some r) :
  Calls Tryz.prog 79 #[.int .i64 a0] w fun e w'=>e = .returned (.int .i64 r)∧cT w w':=by
 unfold eE.f at h;have H:=h;clear h;obtain rfl:=Option.some.inj H;go_enter Tryz.func79,Tryz.ntmps79;go_wp2;go_ret;exact ⟨ww,zt⟩
end Pr
end
end Go.Proofs.YtlfkfdmggpipbaaGreat
