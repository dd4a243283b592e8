/- The claim FnExactCatalogue: every text that its row comes to, laid together by slim.py (the words of the kit's print, the printed walks, the pure law, the row). -/
import Derived.Lib.OwnBridge
import Derived.Lib.RowBridge
import Derived.RowKit
import Derived.Shelf.SlGeneric
import Derived.Shelf.SlLaysF0
import Derived.Shelf.SlSortCmp.NoneTotal
import Derived.Shelf.Slices.CompactI
import Derived.Shelf.Slices.In.SortNone
import Derived.Shelf.Sort.Plain
import Derived.Sort.Grow
import Derived.Sort.OwnSortedInts
import Derived.Test.YtmpbccmcaabpjaaGreatProg
import Derived.Test.YtmpbccmcaabpjaaGreatYFnExactCatalogue0
namespace Go.Proofs.YtmpbccmcaabpjaaGreat
section
namespace Pr
open Go.RowKit ag.aX ag.bQ ag.bR
attribute [local go_sem] fK fL gh gi fb fc fM fN
set_option linter.unusedVariables false
set_option linter.unusedSimpArgs false
def bI.f (k:Nat) (l:List Int) (a e f:Int):Option Bool:=if 0≤e then (if 0≤f then (eH.f k l (Go.bits .or .i64 (Go.bits .andNot .i64 a (shl .i64 1 e)) (shl .i64 1 f))) else (none)) else (none)
mutual
def ax.l0:Nat→Int→List Int→Int→Option (Int×Int×Int×Bool)
 | 0,_,_,_=>none
 | k+1,n,l,x=>if x < (l.length:Int) then (if 0≤x then (ax.l1 k n l x (rd l x) 0) else (none)) else (some (0,0,0,false))
def ax.l1:Nat→Int→List Int→Int→Int→Int→Option (Int×Int×Int×Bool)
 | 0,_,_,_,_,_=>none
 | k+1,n,l,x,a,y=>if y < (l.length:Int) then (if 0≤y then ((aJ.f k (Go.bits .andNot .i64 a (rd l y))).bind fun es=>(ax.l2 k n l x a y (rd l y) es 0)) else (none)) else (ax.l0 k n l (wrap64 (x+1)))
def ax.l2:Nat→Int→List Int→Int→Int→Int→Int→List Int→Int→Option (Int×Int×Int×Bool)
 | 0,_,_,_,_,_,_,_,_=>none
 | k+1,n,l,x,a,y,b,es,z=>if z < (es.length:Int) then (if 0≤z then ((aJ.f k (Go.bits .andNot .i64 b a)).bind fun fs=>((bH.f k fs (fun f=>bI.f k l a (rd es z) f)).bind fun t=>(if t = true then (ax.l2 k n l x a y b es (wrap64 (z+1))) else (some (a,b,rd es z,true))))) else (none)) else (ax.l1 k n l x a (wrap64 (y+1)))
end
def ax.f (k:Nat) (j:Int) (y:List Int):Option (Int×Int×Int×Bool):=(bw.f k j y).bind fun t=>(if t = true then (ax.l0 k j y 0) else (some (0,0,0,false)))
set_option maxHeartbeats 8000000 in
set_option maxRecDepth 100000 in
theorem bI.calls (k:Nat) (a9:Int) (a1:Option Addr) (a2:Nat) (j:List Int) (a e f:Int) (b:Bool) (a8 aa ab:Nat) (w:World) (h1:w.heap[a8]? = some (.cells #[.int .i64 a9,(.slice a1 j.length a2)] 26 (0,0))) (h5:w.heap[aa]? = some (.cells #[.int .i64 a] 3 (0,0))) (h9:w.heap[ab]? = some (.cells #[.int .i64 e] 3 (0,0))) (a3:Kd.C (Kd.int .i64) w a1 j.length j) (a4:j.length≤a2) (h:bI.f k j a e f = some b) :
  Calls Tryz.prog 201 #[.int .i64 f,.pointer (some ⟨a8,0,none⟩),.pointer (some ⟨aa,0,none⟩),.pointer (some ⟨ab,0,none⟩)] w fun e w'=>e = .returned (.bool b)∧Below w.heap.size w w':=by
 have b2:=Tryz.underlying26;have HR:=ae.mk a3;have HC:=ae.mk a4;have al:w.cell? ⟨a8,0,none⟩ = some (.int .i64 a9):=(ah h1 0).trans rfl;have am:w.cell? ⟨a8,1,none⟩ = some (.slice a1 j.length a2):=(ah h1 1).trans rfl;have ao:w.cell? ⟨aa,0,none⟩ = some (.int .i64 a):=(ah h5 0).trans rfl;have ap:w.cell? ⟨ab,0,none⟩ = some (.int .i64 e):=(ah h9 0).trans rfl;clear a3 a4 h1 h5 h9;have H:=h;clear h;unfold bI.f at H;by_cases a5:0≤e
 case neg=>rw [if_neg a5] at H;exact absurd H (by simp)
 rw [if_pos a5] at H;have aR:=eq_true a5;have aS:decide (0≤e) = true:=decide_eq_true a5;clear a5;by_cases a6:0≤f
 case neg=>rw [if_neg a6] at H;exact absurd H (by simp)
 rw [if_pos a6] at H;have b0:=eq_true a6;have b1:decide (0≤f) = true:=decide_eq_true a6;clear a6;obtain ⟨y,I⟩:∃ j_:Int,(shl .i64 1 e) = j_:=⟨_,rfl⟩
 rw [I] at H;have U:(IntKind.i64.wrap (1 * 2 ^ min e.toNat 64)) = y:=I;have X:e≤64→(IntKind.i64.wrap (1 * 2 ^ e.toNat)) = y:=ec I;have ar:(IntKind.i64.wrap (2 ^ min e.toNat 64)) = y:=by have J:=U;rw [Int.one_mul] at J;exact J
 have aw:e≤64→(IntKind.i64.wrap (2 ^ e.toNat)) = y:=fun a7=>by have J:=X a7;rw [Int.one_mul] at J;exact J
 have aB:(wrap64 (1 * 2 ^ min e.toNat 64)) = y:=(bq _).symm.trans U;have aE:e≤64→(wrap64 (1 * 2 ^ e.toNat)) = y:=fun J=>(bq _).symm.trans (X J)
 obtain ⟨z,M⟩:∃ j_:Int,(shl .i64 1 f) = j_:=⟨_,rfl⟩
 rw [M] at H;have Y:(IntKind.i64.wrap (1 * 2 ^ min f.toNat 64)) = z:=M;have a0:f≤64→(IntKind.i64.wrap (1 * 2 ^ f.toNat)) = z:=ec M;have aF:(IntKind.i64.wrap (2 ^ min f.toNat 64)) = z:=by have J:=Y;rw [Int.one_mul] at J;exact J
 have aL:f≤64→(IntKind.i64.wrap (2 ^ f.toNat)) = z:=fun a7=>by have J:=a0 a7;rw [Int.one_mul] at J;exact J
 have aO:(wrap64 (1 * 2 ^ min f.toNat 64)) = z:=(bq _).symm.trans Y;have aP:f≤64→(wrap64 (1 * 2 ^ f.toNat)) = z:=fun J=>(bq _).symm.trans (a0 J)
 have A1:=ae.mk H;clear H;go_enter Tryz.func201,Tryz.ntmps201;go_wp2_with fail;go_quiet (first | (go_at_call 142;(with_reducible refine (eH.calls k _ _ j (Go.bits .or .i64 (Go.bits .andNot .i64 a y) z) b _ ?side1 ?side2 A1.out).mono ?_);(case side1=>repeat (first | exact HR.out | (with_reducible refine Kd.cS ?_ _) | (with_reducible refine Kd.cT ?_ _) | (with_reducible refine Kd.dc ?_)));(case side2=>exact HC.out);rintro e w' ⟨rfl,⟨nd,rfl⟩⟩;(first | exact ⟨rfl,_,World.drewN_drewN _ _ _⟩ | exact ⟨rfl,_,Eq.trans (World.drewN_drewN _ _ _) (congrArg (World.drewN _) (Nat.add_assoc _ _ _))⟩)))
 go_wp2;go_ret;exact ⟨rfl,by first | exact cK (Below.refl _ _) _ | exact Below.refl _ _⟩
theorem bI.rA (k:Nat) (U:Int) (y:Option Addr) (z:Nat) (j:List Int) (a e:Int) (I J M:Nat) (w:World) (h1:w.heap[I]? = some (.cells #[.int .i64 U,(.slice y j.length z)] 26 (0,0))) (h5:w.heap[J]? = some (.cells #[.int .i64 a] 3 (0,0))) (h9:w.heap[M]? = some (.cells #[.int .i64 e] 3 (0,0))) (X:Kd.C (Kd.int .i64) w y j.length j) (Y:j.length≤z) :
  af.lT Tryz.prog w (.func (.func 201) #[] #[.pointer (some ⟨I,0,none⟩),.pointer (some ⟨J,0,none⟩),.pointer (some ⟨M,0,none⟩)]) (fun f=>bI.f k j a e f) :=
 ⟨⟨201,#[.pointer (some ⟨I,0,none⟩),.pointer (some ⟨J,0,none⟩),.pointer (some ⟨M,0,none⟩)],Tryz.f201,rfl,Tryz.func201,by kernel_rfl,rfl,fun f b w' hw hg=>bI.calls k U y z j a e f b I J M w' (aV h1 hw) (aV h5 hw) (aV h9 hw) (Kd.aQ X hw) Y hg⟩⟩
set_option maxHeartbeats 8000000 in
set_option maxRecDepth 100000 in
theorem ax.calls (k:Nat) (al:Int) (ar:Option Addr) (ao:Nat) (Y:List Int) (r1:Int) (r2:Int) (r3:Int) (r4:Bool) (w:World) (b3:Kd.C (Kd.int .i64) w ar Y.length Y) (b4:Y.length≤ao) (h:ax.f k al Y = some (r1,r2,r3,r4)) :
  Calls Tryz.prog 139 #[.agg #[.int .i64 al,.slice ar Y.length ao]] w fun e w'=>e = .returned (.tuple #[.agg #[.int .i64 r1,.int .i64 r2,.int .i64 r3],.bool r4])∧Below w.heap.size w w':=by
 have cy:=Tryz.underlying26;have cX:=Tryz.underlying89;have HR:=ae.mk b3;have HC:=ae.mk b4;have HB:=ae.mk (Below.refl w.heap.size w);clear b3 b4;unfold ax.f at h;obtain ⟨t,h1,h⟩:=Option.bind_eq_some_iff.mp h;have A1:=ae.mk h1;clear h1;cases t with
 | false =>
  rw [if_neg (by decide)] at h;simp only [Option.some.injEq,Prod.mk.injEq] at h;obtain ⟨rfl,rfl,rfl,rfl⟩:=h;go_enter Tryz.func139,Tryz.ntmps139;go_wp2_with (first | ((with_reducible refine aY (N:=1) rfl ?_);refine oX 1 #[.int .i64 al,.slice ar Y.length ao] 26 ?_;intro am hg w3 hbox hb;have bs:=ae.mk ((by rw [hg];exact an HB.out):w.heap.size≤am);replace HB:=ae.mk (aA HB.out hb);have y:=ae.mk hbox;have I:w3.cell? ⟨am,0,none⟩ = some ((.int .i64 al)):=(ah y.out 0).trans rfl;have J:=aj y.out 0;have M:w3.cell? ⟨am,1,none⟩ = some ((.slice ar Y.length ao)):=(ah y.out 1).trans rfl;have U:=aj y.out 1;clear hb hbox hg) | ((with_reducible refine aY (N:=2) rfl ?_);refine oX 2 #[.int .i64 0,.int .i64 0,.int .i64 0] 89 ?_;intro a8 hg w4 hbox hb;have b0:=ae.mk ((by rw [hg];exact an HB.out):w.heap.size≤a8);replace HB:=ae.mk (aA HB.out hb);have j:=ae.mk hbox;have m_:=ae.mk (aV y.out hb);clear y;have y:=m_;clear m_;have I:w4.cell? ⟨am,0,none⟩ = some ((.int .i64 al)):=(ah y.out 0).trans rfl;have J:=aj y.out 0;have M:w4.cell? ⟨am,1,none⟩ = some ((.slice ar Y.length ao)):=(ah y.out 1).trans rfl;have U:=aj y.out 1;have a0:w4.cell? ⟨a8,0,none⟩ = some (.int .i64 0):=(ah j.out 0).trans rfl;have a1:=aj j.out 0;have a2:w4.cell? ⟨a8,1,none⟩ = some (.int .i64 0):=(ah j.out 1).trans rfl;have a3:=aj j.out 1;have a4:w4.cell? ⟨a8,2,none⟩ = some (.int .i64 0):=(ah j.out 2).trans rfl;have a5:=aj j.out 2;clear hb hbox hg) | ((with_reducible refine aT (f:=140) rfl ?_);refine n7 (some 15) Tryz.func140 #[.int .i64 al,.slice ar Y.length ao] ?_;(with_reducible refine (bw.calls k al _ _ Y false _ ?side1 ?side2 A1.out).mono ?_);(case side1=>exact Kd.aQ HR.out HB.out);(case side2=>exact HC.out);rintro e w5 ⟨rfl,hd⟩;refine ⟨_,rfl,?_⟩;have hb:=hd.below;clear hd;replace HB:=ae.mk (aA HB.out hb);have m_:=ae.mk (aV y.out hb);clear y;have y:=m_;clear m_;have m_:=ae.mk (aV j.out hb);clear j;have j:=m_;clear m_;clear hb;have I:w5.cell? ⟨am,0,none⟩ = some ((.int .i64 al)):=(ah y.out 0).trans rfl;have J:=aj y.out 0;have M:w5.cell? ⟨am,1,none⟩ = some ((.slice ar Y.length ao)):=(ah y.out 1).trans rfl;have U:=aj y.out 1;have a0:w5.cell? ⟨a8,0,none⟩ = some (.int .i64 0):=(ah j.out 0).trans rfl;have a1:=aj j.out 0;have a2:w5.cell? ⟨a8,1,none⟩ = some (.int .i64 0):=(ah j.out 1).trans rfl;have a3:=aj j.out 1;have a4:w5.cell? ⟨a8,2,none⟩ = some (.int .i64 0):=(ah j.out 2).trans rfl;have a5:=aj j.out 2));refine bodyPost_ret (dX rfl _ _ a8 89 #[.int .i64 0,.int .i64 0,.int .i64 0] (0,0) _ rfl (by refine fa (cs:=#[.int .i64 0,.int .i64 0,.int .i64 0]) ?_ 2 _ rfl;refine fa (cs:=#[.int .i64 0,.int .i64 0,.int .i64 0]) ?_ 1 _ rfl;refine fa (cs:=#[.int .i64 0,.int .i64 0,.int .i64 0]) ?_ 0 _ rfl;exact j.out) Tryz.underlying89 rfl (by kernel_rfl)) rfl ?_;exact ⟨rfl,by repeat (first | exact HB.out | refine dV ?_ b0.out)⟩
 | true =>
  rw [if_pos rfl] at h;have H':=ae.mk h;clear h;go_enter Tryz.func139,Tryz.ntmps139;go_wp2_with (first | ((with_reducible refine aY (N:=1) rfl ?_);refine oX 1 #[.int .i64 al,.slice ar Y.length ao] 26 ?_;intro am hg w3 hbox hb;have bs:=ae.mk ((by rw [hg];exact an HB.out):w.heap.size≤am);replace HB:=ae.mk (aA HB.out hb);have y:=ae.mk hbox;have I:w3.cell? ⟨am,0,none⟩ = some ((.int .i64 al)):=(ah y.out 0).trans rfl;have J:=aj y.out 0;have M:w3.cell? ⟨am,1,none⟩ = some ((.slice ar Y.length ao)):=(ah y.out 1).trans rfl;have U:=aj y.out 1;clear hb hbox hg) | ((with_reducible refine aY (N:=2) rfl ?_);refine oX 2 #[.int .i64 0,.int .i64 0,.int .i64 0] 89 ?_;intro a8 hg w4 hbox hb;have b0:=ae.mk ((by rw [hg];exact an HB.out):w.heap.size≤a8);replace HB:=ae.mk (aA HB.out hb);have j:=ae.mk hbox;have m_:=ae.mk (aV y.out hb);clear y;have y:=m_;clear m_;have I:w4.cell? ⟨am,0,none⟩ = some ((.int .i64 al)):=(ah y.out 0).trans rfl;have J:=aj y.out 0;have M:w4.cell? ⟨am,1,none⟩ = some ((.slice ar Y.length ao)):=(ah y.out 1).trans rfl;have U:=aj y.out 1;have a0:w4.cell? ⟨a8,0,none⟩ = some (.int .i64 0):=(ah j.out 0).trans rfl;have a1:=aj j.out 0;have a2:w4.cell? ⟨a8,1,none⟩ = some (.int .i64 0):=(ah j.out 1).trans rfl;have a3:=aj j.out 1;have a4:w4.cell? ⟨a8,2,none⟩ = some (.int .i64 0):=(ah j.out 2).trans rfl;have a5:=aj j.out 2;clear hb hbox hg) | ((with_reducible refine aT (f:=140) rfl ?_);refine n7 (some 15) Tryz.func140 #[.int .i64 al,.slice ar Y.length ao] ?_;(with_reducible refine (bw.calls k al _ _ Y true _ ?side1 ?side2 A1.out).mono ?_);(case side1=>exact Kd.aQ HR.out HB.out);(case side2=>exact HC.out);rintro e w5 ⟨rfl,hd⟩;refine ⟨_,rfl,?_⟩;have hb:=hd.below;clear hd;replace HB:=ae.mk (aA HB.out hb);have m_:=ae.mk (aV y.out hb);clear y;have y:=m_;clear m_;have m_:=ae.mk (aV j.out hb);clear j;have j:=m_;clear m_;clear hb;have I:w5.cell? ⟨am,0,none⟩ = some ((.int .i64 al)):=(ah y.out 0).trans rfl;have J:=aj y.out 0;have M:w5.cell? ⟨am,1,none⟩ = some ((.slice ar Y.length ao)):=(ah y.out 1).trans rfl;have U:=aj y.out 1;have a0:w5.cell? ⟨a8,0,none⟩ = some (.int .i64 0):=(ah j.out 0).trans rfl;have a1:=aj j.out 0;have a2:w5.cell? ⟨a8,1,none⟩ = some (.int .i64 0):=(ah j.out 1).trans rfl;have a3:=aj j.out 1;have a4:w5.cell? ⟨a8,2,none⟩ = some (.int .i64 0):=(ah j.out 2).trans rfl;have a5:=aj j.out 2));clear I M J U a0 a2 a4 a1 a3 a5;go_loopg [21] k (fun kq v21 w'=>∃ (x1:Int),v21 = .int .i64 x1∧ae (ax.l0 kq al Y x1 = some (r1,r2,r3,r4))∧ae (kq≤k)∧ae (w'.heap[am]? = some (.cells #[.int .i64 al,(.slice ar Y.length ao)] 26 (0,0)))∧ae (w'.heap[a8]? = some (.cells #[.int .i64 0,.int .i64 0,.int .i64 0] 89 (0,0)))∧ae (Below w.heap.size w w'))
  case atStart=>exact ⟨0,rfl,H',⟨Nat.le_refl _⟩,y,j,HB⟩
  case round =>
   clear H' y j HB;obtain ⟨x1,rfl,HA,b1,y,j,HB⟩:=hrel;cases gk with
   | zero=>exact absurd HA.out (by simp [ax.l0])
   | succ k1 =>
    have H:=HA.out;clear HA;simp only [ax.l0] at H;by_cases c3:x1 < (Y.length:Int)
    case neg =>
     rw [if_neg c3] at H;have bm:decide (x1 < (Y.length:Int)) = false:=decide_eq_false c3;clear c3;simp only [Option.some.injEq,Prod.mk.injEq] at H;obtain ⟨rfl,rfl,rfl,rfl⟩:=H;have a0:wr.cell? ⟨a8,0,none⟩ = some (.int .i64 0):=(ah j.out 0).trans rfl;have a1:=aj j.out 0;have a2:wr.cell? ⟨a8,1,none⟩ = some (.int .i64 0):=(ah j.out 1).trans rfl;have a3:=aj j.out 1;have a4:wr.cell? ⟨a8,2,none⟩ = some (.int .i64 0):=(ah j.out 2).trans rfl;have a5:=aj j.out 2;go_wp2;refine bodyPost_ret (dX rfl _ _ a8 89 #[.int .i64 0,.int .i64 0,.int .i64 0] (0,0) _ rfl (by refine fa (cs:=#[.int .i64 0,.int .i64 0,.int .i64 0]) ?_ 2 _ rfl;refine fa (cs:=#[.int .i64 0,.int .i64 0,.int .i64 0]) ?_ 1 _ rfl;refine fa (cs:=#[.int .i64 0,.int .i64 0,.int .i64 0]) ?_ 0 _ rfl;exact j.out) Tryz.underlying89 rfl (by kernel_rfl)) rfl ?_;exact ⟨rfl,by repeat (first | exact HB.out | refine dV ?_ b0.out)⟩
    rw [if_pos c3] at H;have bm:=decide_eq_true c3;clear c3;by_cases c4:0≤x1
    case neg=>rw [if_neg c4] at H;exact absurd H (by simp)
    rw [if_pos c4] at H;have ca:=decide_eq_true c4;clear c4;obtain ⟨aa,bv⟩:∃ j_:Int,rd Y x1 = j_:=⟨_,rfl⟩
    rw [bv] at H;have H':=ae.mk H;clear H;have p1:0≤(x1:Int):=of_decide_eq_true (by assumption);have q1:x1 < (Y.length:Int):=of_decide_eq_true (by assumption);obtain ⟨aL,e1,aO⟩:=Kd.cN HR.out x1 p1 q1;rw [bv] at aO;clear bv;cases e1
    replace aO:=(HB.out.cell (World.block_lt_of_cell? w _ aO)).trans aO;replace p1:=eq_true p1;replace q1:=eq_true q1;have I:wr.cell? ⟨am,0,none⟩ = some ((.int .i64 al)):=(ah y.out 0).trans rfl;have J:=aj y.out 0;have M:wr.cell? ⟨am,1,none⟩ = some ((.slice (some aL) Y.length ao)):=(ah y.out 1).trans rfl;have U:=aj y.out 1;go_wp2_with (first | ((with_reducible refine aY (N:=5) rfl ?_);refine oX 5 #[.int .i64 0] 3 ?_;intro aw hg w7 hbox hb;have cr:=ae.mk ((by rw [hg];exact an HB.out):w.heap.size≤aw);have cb:=ae.mk hg;have cc:=ae.mk hb;have z:=ae.mk hbox;clear hb hg hbox;have a6:w7.cell? ⟨aw,0,none⟩ = some (.int .i64 0):=(ah z.out 0).trans rfl;have a7:=aj z.out 0) | ((with_reducible refine gv (t:=3) (p:=5) rfl ?_);refine fZ (t:=3) (p:=5) (v:=?vo1) (w1:=(w7.setCell ⟨aw,0,none⟩ (.int .i64 aa))) ?hg ?ho ?hn ?hr ?_;(case ho=>rfl);(case hg=>rfl);(case hn=>rfl);(case hr=>first | (go_simp;done) | (go_simp;rfl));intro w8 hw;have hb:Below wr.heap.size wr w8:=(by rw [hw];exact dV cc.out (Nat.le_of_eq cb.out.symm));have m5:ae (w8.heap[aw]? = some (.cells #[.int .i64 aa] 3 (0,0))):=⟨by rw [hw];exact fa z.out 0 _ rfl⟩;clear z hw a6 a7;have z:=m5;clear m5;replace HB:=ae.mk (aA HB.out hb);have m_:=ae.mk (aV y.out hb);clear y;have y:=m_;clear m_;have m_:=ae.mk (aV j.out hb);clear j;have j:=m_;clear m_;clear hb cc cb;have I:w8.cell? ⟨am,0,none⟩ = some ((.int .i64 al)):=(ah y.out 0).trans rfl;have J:=aj y.out 0;have M:w8.cell? ⟨am,1,none⟩ = some ((.slice (some aL) Y.length ao)):=(ah y.out 1).trans rfl;have U:=aj y.out 1));clear p1 q1 bm ca aO I M J U;go_loopg [28] k1 (fun kq v28 w'=>∃ (x2:Int),v28 = .int .i64 x2∧ae (ax.l1 kq al Y x1 aa x2 = some (r1,r2,r3,r4))∧ae (kq≤k1)∧ae (w'.heap[am]? = some (.cells #[.int .i64 al,(.slice (some aL) Y.length ao)] 26 (0,0)))∧ae (w'.heap[a8]? = some (.cells #[.int .i64 0,.int .i64 0,.int .i64 0] 89 (0,0)))∧ae (w'.heap[aw]? = some (.cells #[.int .i64 aa] 3 (0,0)))∧ae (Below w.heap.size w w'))
    case atStart=>exact ⟨0,rfl,H',⟨Nat.le_refl _⟩,y,j,z,HB⟩
    case round =>
     clear H' y j z HB;obtain ⟨x2,rfl,HA,b2,y,j,z,HB⟩:=hrel;cases gk with
     | zero=>exact absurd HA.out (by simp [ax.l1])
     | succ k2 =>
      have H:=HA.out;clear HA;simp only [ax.l1] at H;by_cases c5:x2 < (Y.length:Int)
      case neg =>
       rw [if_neg c5] at H;have bo:decide (x2 < (Y.length:Int)) = false:=decide_eq_false c5;clear c5;have H':=ae.mk H;clear H;go_wp2;go_roundg k2;case measure=>have:=b1.out;have:=b2.out;omega
       case rel=>exact ⟨(wrap64 (x1+1)),rfl,H',⟨by have:=b1.out;have:=b2.out;omega⟩,y,j,HB⟩
      rw [if_pos c5] at H;have bo:=decide_eq_true c5;clear c5;by_cases c6:0≤x2
      case neg=>rw [if_neg c6] at H;exact absurd H (by simp)
      rw [if_pos c6] at H;have cd:=decide_eq_true c6;clear c6;obtain ⟨bb,hbb⟩:∃ j_:Int,rd Y x2 = j_:=⟨_,rfl⟩
      rw [hbb] at H;obtain ⟨es,ch,H⟩:=Option.bind_eq_some_iff.mp H;have A2:=ae.mk ch;clear ch;have H':=ae.mk H;clear H;have p2:0≤(x2:Int):=of_decide_eq_true (by assumption);have q2:x2 < (Y.length:Int):=of_decide_eq_true (by assumption);obtain ⟨cx,e2,aP⟩:=Kd.cN HR.out x2 p2 q2;obtain rfl:aL = cx:=(by injection e2)
      clear e2;rw [hbb] at aP;clear hbb;replace aP:=(HB.out.cell (World.block_lt_of_cell? w _ aP)).trans aP;replace p2:=eq_true p2;replace q2:=eq_true q2;have I:wr.cell? ⟨am,0,none⟩ = some ((.int .i64 al)):=(ah y.out 0).trans rfl;have J:=aj y.out 0;have M:wr.cell? ⟨am,1,none⟩ = some ((.slice (some aL) Y.length ao)):=(ah y.out 1).trans rfl;have U:=aj y.out 1;have a6:wr.cell? ⟨aw,0,none⟩ = some (.int .i64 aa):=(ah z.out 0).trans rfl;have a7:=aj z.out 0;go_wp2_with (first | ((with_reducible refine aT (f:=73) rfl ?_);refine n7 (some 35) Tryz.func73 #[.int .i64 (Go.bits .andNot .i64 aa bb)] ?_;(with_reducible refine (aJ.calls k2 (Go.bits .andNot .i64 aa bb) es _ A2.out).mono ?_);rintro e w9 ⟨v1,rfl,ho,hb⟩;refine ⟨_,rfl,?_⟩;have ap:=ae.mk (Kd.bJ ho (an HB.out));have ci:=ae.mk (aA HB.out hb);clear HB;have HB:=ci;clear ci ho;have m_:=ae.mk (aV y.out hb);clear y;have y:=m_;clear m_;have m_:=ae.mk (aV j.out hb);clear j;have j:=m_;clear m_;have m_:=ae.mk (aV z.out hb);clear z;have z:=m_;clear m_;clear hb I M J U a6 a7 aP;obtain ⟨Ae,ce,eo⟩:=Kd.bC ap.out;subst eo));clear p2 q2 bo cd;go_loopg [37] k2 (fun kq v37 w'=>∃ (x3:Int),v37 = .int .i64 x3∧ae (ax.l2 kq al Y x1 aa x2 bb es x3 = some (r1,r2,r3,r4))∧ae (kq≤k2)∧ae (w'.heap[am]? = some (.cells #[.int .i64 al,(.slice (some aL) Y.length ao)] 26 (0,0)))∧ae (w'.heap[a8]? = some (.cells #[.int .i64 0,.int .i64 0,.int .i64 0] 89 (0,0)))∧ae (w'.heap[aw]? = some (.cells #[.int .i64 aa] 3 (0,0)))∧ae (Kd.R (Kd.int .i64) 3 w' w.heap.size (fun _=>True) (.slice Ae es.length ce) es)∧ae (Below w.heap.size w w'))
      case atStart=>exact ⟨0,rfl,H',⟨Nat.le_refl _⟩,y,j,z,ap,HB⟩
      case round =>
       clear H' y j z ap HB;obtain ⟨x3,rfl,HA,bk,y,j,z,ap,HB⟩:=hrel;cases gk with
       | zero=>exact absurd HA.out (by simp [ax.l2])
       | succ k3 =>
        have H:=HA.out;clear HA;simp only [ax.l2] at H;by_cases c7:x3 < (es.length:Int)
        case neg =>
         rw [if_neg c7] at H;have cl:decide (x3 < (es.length:Int)) = false:=decide_eq_false c7;clear c7;have H':=ae.mk H;clear H;go_wp2;go_roundg k3;case measure=>have:=b1.out;have:=b2.out;have:=bk.out;omega
         case rel=>exact ⟨(wrap64 (x2+1)),rfl,H',⟨by have:=b1.out;have:=b2.out;have:=bk.out;omega⟩,y,j,z,HB⟩
        rw [if_pos c7] at H;have cl:=decide_eq_true c7;clear c7;by_cases c8:0≤x3
        case neg=>rw [if_neg c8] at H;exact absurd H (by simp)
        rw [if_pos c8] at H;have cY:=decide_eq_true c8;clear c8;obtain ⟨ee,hee⟩:∃ j_:Int,rd es x3 = j_:=⟨_,rfl⟩
        rw [hee] at H;obtain ⟨fs,co,H⟩:=Option.bind_eq_some_iff.mp H;have A3:=ae.mk co;clear co;obtain ⟨t,cp,H⟩:=Option.bind_eq_some_iff.mp H;have A4:=ae.mk cp;clear cp;have p3:0≤(x3:Int):=of_decide_eq_true (by assumption);have q3:x3 < (es.length:Int):=of_decide_eq_true (by assumption);obtain ⟨d0,e3,c0⟩:=Kd.cN (Kd.aH ap.out).2.2 x3 p3 q3;rw [hee] at c0;clear hee;cases e3
        replace p3:=eq_true p3;replace q3:=eq_true q3;cases t with
        | true =>
         rw [if_pos rfl] at H;have H':=ae.mk H;clear H;have a6:wr.cell? ⟨aw,0,none⟩ = some (.int .i64 aa):=(ah z.out 0).trans rfl;have a7:=aj z.out 0;have I:wr.cell? ⟨am,0,none⟩ = some ((.int .i64 al)):=(ah y.out 0).trans rfl;have J:=aj y.out 0;have M:wr.cell? ⟨am,1,none⟩ = some ((.slice (some aL) Y.length ao)):=(ah y.out 1).trans rfl;have U:=aj y.out 1;have a0:wr.cell? ⟨a8,0,none⟩ = some (.int .i64 0):=(ah j.out 0).trans rfl;have a1:=aj j.out 0;have a2:wr.cell? ⟨a8,1,none⟩ = some (.int .i64 0):=(ah j.out 1).trans rfl;have a3:=aj j.out 1;have a4:wr.cell? ⟨a8,2,none⟩ = some (.int .i64 0):=(ah j.out 2).trans rfl;have a5:=aj j.out 2;go_wp2_with (first | ((with_reducible refine aY (N:=9) rfl ?_);refine oX 9 #[.int .i64 0] 3 ?_;intro aB hg ba hbox hb;have c1:=ae.mk ((by rw [hg];exact an HB.out):w.heap.size≤aB);have bc:=ae.mk hg;have bd:=ae.mk hb;have X:=ae.mk hbox;clear hb hg hbox;have a9:ba.cell? ⟨aB,0,none⟩ = some (.int .i64 0):=(ah X.out 0).trans rfl;have ab:=aj X.out 0) | ((with_reducible refine gv (t:=3) (p:=9) rfl ?_);refine fZ (t:=3) (p:=9) (v:=?vo2) (w1:=(ba.setCell ⟨aB,0,none⟩ (.int .i64 ee))) ?hg ?ho ?hn ?hr ?_;(case ho=>rfl);(case hg=>rfl);(case hn=>rfl);(case hr=>first | (go_simp;done) | (go_simp;rfl));intro aE hw;have hb:Below wr.heap.size wr aE:=(by rw [hw];exact dV bd.out (Nat.le_of_eq bc.out.symm));have m5:ae (aE.heap[aB]? = some (.cells #[.int .i64 ee] 3 (0,0))):=⟨by rw [hw];exact fa X.out 0 _ rfl⟩;clear X hw a9 ab;have X:=m5;clear m5;replace HB:=ae.mk (aA HB.out hb);have m_:=ae.mk (Kd.cR ap.out hb);clear ap;have ap:=m_;clear m_;have m_:=ae.mk (aV y.out hb);clear y;have y:=m_;clear m_;have m_:=ae.mk (aV j.out hb);clear j;have j:=m_;clear m_;have m_:=ae.mk (aV z.out hb);clear z;have z:=m_;clear m_;clear hb bd bc;have I:aE.cell? ⟨am,0,none⟩ = some ((.int .i64 al)):=(ah y.out 0).trans rfl;have J:=aj y.out 0;have M:aE.cell? ⟨am,1,none⟩ = some ((.slice (some aL) Y.length ao)):=(ah y.out 1).trans rfl;have U:=aj y.out 1;have a0:aE.cell? ⟨a8,0,none⟩ = some (.int .i64 0):=(ah j.out 0).trans rfl;have a1:=aj j.out 0;have a2:aE.cell? ⟨a8,1,none⟩ = some (.int .i64 0):=(ah j.out 1).trans rfl;have a3:=aj j.out 1;have a4:aE.cell? ⟨a8,2,none⟩ = some (.int .i64 0):=(ah j.out 2).trans rfl;have a5:=aj j.out 2;have a6:aE.cell? ⟨aw,0,none⟩ = some (.int .i64 aa):=(ah z.out 0).trans rfl;have a7:=aj z.out 0;have a9:aE.cell? ⟨aB,0,none⟩ = some (.int .i64 ee):=(ah X.out 0).trans rfl;have ab:=aj X.out 0) | ((with_reducible refine aT (f:=73) rfl ?_);refine n7 (some 44) Tryz.func73 #[.int .i64 (Go.bits .andNot .i64 bb aa)] ?_;(with_reducible refine (aJ.calls k3 (Go.bits .andNot .i64 bb aa) fs _ A3.out).mono ?_);rintro e aF ⟨v1,rfl,ho,hb⟩;refine ⟨_,rfl,?_⟩;obtain ⟨Af,cf,ef⟩:=Kd.bC ho;subst ef;have aR:=ae.mk (Kd.aH ho).2.2;clear ho;replace HB:=ae.mk (aA HB.out hb);have m_:=ae.mk (Kd.cR ap.out hb);clear ap;have ap:=m_;clear m_;have m_:=ae.mk (aV y.out hb);clear y;have y:=m_;clear m_;have m_:=ae.mk (aV j.out hb);clear j;have j:=m_;clear m_;have m_:=ae.mk (aV z.out hb);clear z;have z:=m_;clear m_;have m_:=ae.mk (aV X.out hb);clear X;have X:=m_;clear m_;have bi:=aR;clear aR;clear hb I M J U a6 a7 a0 a2 a4 a1 a3 a5 a9 ab;have I:aF.cell? ⟨am,0,none⟩ = some ((.int .i64 al)):=(ah y.out 0).trans rfl;have J:=aj y.out 0;have M:aF.cell? ⟨am,1,none⟩ = some ((.slice (some aL) Y.length ao)):=(ah y.out 1).trans rfl;have U:=aj y.out 1;have a0:aF.cell? ⟨a8,0,none⟩ = some (.int .i64 0):=(ah j.out 0).trans rfl;have a1:=aj j.out 0;have a2:aF.cell? ⟨a8,1,none⟩ = some (.int .i64 0):=(ah j.out 1).trans rfl;have a3:=aj j.out 1;have a4:aF.cell? ⟨a8,2,none⟩ = some (.int .i64 0):=(ah j.out 2).trans rfl;have a5:=aj j.out 2;have a6:aF.cell? ⟨aw,0,none⟩ = some (.int .i64 aa):=(ah z.out 0).trans rfl;have a7:=aj z.out 0;have a9:aF.cell? ⟨aB,0,none⟩ = some (.int .i64 ee):=(ah X.out 0).trans rfl;have ab:=aj X.out 0) | ((with_reducible refine aT (f:=200) rfl ?_);refine n7 (some 46) Tryz.func200 #[.slice Af fs.length cf,.func (.func 201) #[] #[.pointer (some ⟨am,0,none⟩),.pointer (some ⟨aw,0,none⟩),.pointer (some ⟨aB,0,none⟩)]] ?_;(with_reducible refine (bH.calls k3 _ _ fs _ (fun f=>bI.f k3 Y aa ee f) true _ bi.out (bI.rA k3 al (some aL) ao Y aa ee am aw aB _ y.out z.out X.out (Kd.aQ HR.out HB.out) HC.out) A4.out).mono ?_);rintro e aS ⟨rfl,hb⟩;refine ⟨_,rfl,?_⟩;replace HB:=ae.mk (aA HB.out hb);have m_:=ae.mk (Kd.cR ap.out hb);clear ap;have ap:=m_;clear m_;have m_:=ae.mk (aV y.out hb);clear y;have y:=m_;clear m_;have m_:=ae.mk (aV j.out hb);clear j;have j:=m_;clear m_;have m_:=ae.mk (aV z.out hb);clear z;have z:=m_;clear m_;have m_:=ae.mk (aV X.out hb);clear X;have X:=m_;clear m_;clear hb I M J U a6 a7 a0 a2 a4 a1 a3 a5 a9 ab;have a0:aS.cell? ⟨a8,0,none⟩ = some (.int .i64 0):=(ah j.out 0).trans rfl;have a1:=aj j.out 0;have a2:aS.cell? ⟨a8,1,none⟩ = some (.int .i64 0):=(ah j.out 1).trans rfl;have a3:=aj j.out 1;have a4:aS.cell? ⟨a8,2,none⟩ = some (.int .i64 0):=(ah j.out 2).trans rfl;have a5:=aj j.out 2;have a6:aS.cell? ⟨aw,0,none⟩ = some (.int .i64 aa):=(ah z.out 0).trans rfl;have a7:=aj z.out 0;have a9:aS.cell? ⟨aB,0,none⟩ = some (.int .i64 ee):=(ah X.out 0).trans rfl;have ab:=aj X.out 0));go_roundg k3;case measure=>have:=b1.out;have:=b2.out;have:=bk.out;omega
         case rel=>exact ⟨(wrap64 (x3+1)),rfl,H',⟨by have:=b1.out;have:=b2.out;have:=bk.out;omega⟩,y,j,z,ap,HB⟩
        | false =>
         rw [if_neg (by decide)] at H;simp only [Option.some.injEq,Prod.mk.injEq] at H;obtain ⟨rfl,rfl,rfl,rfl⟩:=H;have a6:wr.cell? ⟨aw,0,none⟩ = some (.int .i64 aa):=(ah z.out 0).trans rfl;have a7:=aj z.out 0;have I:wr.cell? ⟨am,0,none⟩ = some ((.int .i64 al)):=(ah y.out 0).trans rfl;have J:=aj y.out 0;have M:wr.cell? ⟨am,1,none⟩ = some ((.slice (some aL) Y.length ao)):=(ah y.out 1).trans rfl;have U:=aj y.out 1;have a0:wr.cell? ⟨a8,0,none⟩ = some (.int .i64 0):=(ah j.out 0).trans rfl;have a1:=aj j.out 0;have a2:wr.cell? ⟨a8,1,none⟩ = some (.int .i64 0):=(ah j.out 1).trans rfl;have a3:=aj j.out 1;have a4:wr.cell? ⟨a8,2,none⟩ = some (.int .i64 0):=(ah j.out 2).trans rfl;have a5:=aj j.out 2;go_wp2_with (first | ((with_reducible refine aY (N:=9) rfl ?_);refine oX 9 #[.int .i64 0] 3 ?_;intro aB hg ba hbox hb;have c1:=ae.mk ((by rw [hg];exact an HB.out):w.heap.size≤aB);have bc:=ae.mk hg;have bd:=ae.mk hb;have X:=ae.mk hbox;clear hb hg hbox;have a9:ba.cell? ⟨aB,0,none⟩ = some (.int .i64 0):=(ah X.out 0).trans rfl;have ab:=aj X.out 0) | ((with_reducible refine gv (t:=3) (p:=9) rfl ?_);refine fZ (t:=3) (p:=9) (v:=?vo3) (w1:=(ba.setCell ⟨aB,0,none⟩ (.int .i64 ee))) ?hg ?ho ?hn ?hr ?_;(case ho=>rfl);(case hg=>rfl);(case hn=>rfl);(case hr=>first | (go_simp;done) | (go_simp;rfl));intro aE hw;have hb:Below wr.heap.size wr aE:=(by rw [hw];exact dV bd.out (Nat.le_of_eq bc.out.symm));have m5:ae (aE.heap[aB]? = some (.cells #[.int .i64 ee] 3 (0,0))):=⟨by rw [hw];exact fa X.out 0 _ rfl⟩;clear X hw a9 ab;have X:=m5;clear m5;replace HB:=ae.mk (aA HB.out hb);have m_:=ae.mk (Kd.cR ap.out hb);clear ap;have ap:=m_;clear m_;have m_:=ae.mk (aV y.out hb);clear y;have y:=m_;clear m_;have m_:=ae.mk (aV j.out hb);clear j;have j:=m_;clear m_;have m_:=ae.mk (aV z.out hb);clear z;have z:=m_;clear m_;clear hb bd bc;have I:aE.cell? ⟨am,0,none⟩ = some ((.int .i64 al)):=(ah y.out 0).trans rfl;have J:=aj y.out 0;have M:aE.cell? ⟨am,1,none⟩ = some ((.slice (some aL) Y.length ao)):=(ah y.out 1).trans rfl;have U:=aj y.out 1;have a0:aE.cell? ⟨a8,0,none⟩ = some (.int .i64 0):=(ah j.out 0).trans rfl;have a1:=aj j.out 0;have a2:aE.cell? ⟨a8,1,none⟩ = some (.int .i64 0):=(ah j.out 1).trans rfl;have a3:=aj j.out 1;have a4:aE.cell? ⟨a8,2,none⟩ = some (.int .i64 0):=(ah j.out 2).trans rfl;have a5:=aj j.out 2;have a6:aE.cell? ⟨aw,0,none⟩ = some (.int .i64 aa):=(ah z.out 0).trans rfl;have a7:=aj z.out 0;have a9:aE.cell? ⟨aB,0,none⟩ = some (.int .i64 ee):=(ah X.out 0).trans rfl;have ab:=aj X.out 0) | ((with_reducible refine aT (f:=73) rfl ?_);refine n7 (some 44) Tryz.func73 #[.int .i64 (Go.bits .andNot .i64 bb aa)] ?_;(with_reducible refine (aJ.calls k3 (Go.bits .andNot .i64 bb aa) fs _ A3.out).mono ?_);rintro e aF ⟨v1,rfl,ho,hb⟩;refine ⟨_,rfl,?_⟩;obtain ⟨Af,cf,ef⟩:=Kd.bC ho;subst ef;have aR:=ae.mk (Kd.aH ho).2.2;clear ho;replace HB:=ae.mk (aA HB.out hb);have m_:=ae.mk (Kd.cR ap.out hb);clear ap;have ap:=m_;clear m_;have m_:=ae.mk (aV y.out hb);clear y;have y:=m_;clear m_;have m_:=ae.mk (aV j.out hb);clear j;have j:=m_;clear m_;have m_:=ae.mk (aV z.out hb);clear z;have z:=m_;clear m_;have m_:=ae.mk (aV X.out hb);clear X;have X:=m_;clear m_;have bi:=aR;clear aR;clear hb I M J U a6 a7 a0 a2 a4 a1 a3 a5 a9 ab;have I:aF.cell? ⟨am,0,none⟩ = some ((.int .i64 al)):=(ah y.out 0).trans rfl;have J:=aj y.out 0;have M:aF.cell? ⟨am,1,none⟩ = some ((.slice (some aL) Y.length ao)):=(ah y.out 1).trans rfl;have U:=aj y.out 1;have a0:aF.cell? ⟨a8,0,none⟩ = some (.int .i64 0):=(ah j.out 0).trans rfl;have a1:=aj j.out 0;have a2:aF.cell? ⟨a8,1,none⟩ = some (.int .i64 0):=(ah j.out 1).trans rfl;have a3:=aj j.out 1;have a4:aF.cell? ⟨a8,2,none⟩ = some (.int .i64 0):=(ah j.out 2).trans rfl;have a5:=aj j.out 2;have a6:aF.cell? ⟨aw,0,none⟩ = some (.int .i64 aa):=(ah z.out 0).trans rfl;have a7:=aj z.out 0;have a9:aF.cell? ⟨aB,0,none⟩ = some (.int .i64 ee):=(ah X.out 0).trans rfl;have ab:=aj X.out 0) | ((with_reducible refine aT (f:=200) rfl ?_);refine n7 (some 46) Tryz.func200 #[.slice Af fs.length cf,.func (.func 201) #[] #[.pointer (some ⟨am,0,none⟩),.pointer (some ⟨aw,0,none⟩),.pointer (some ⟨aB,0,none⟩)]] ?_;(with_reducible refine (bH.calls k3 _ _ fs _ (fun f=>bI.f k3 Y aa ee f) false _ bi.out (bI.rA k3 al (some aL) ao Y aa ee am aw aB _ y.out z.out X.out (Kd.aQ HR.out HB.out) HC.out) A4.out).mono ?_);rintro e aS ⟨rfl,hb⟩;refine ⟨_,rfl,?_⟩;replace HB:=ae.mk (aA HB.out hb);have m_:=ae.mk (Kd.cR ap.out hb);clear ap;have ap:=m_;clear m_;have m_:=ae.mk (aV y.out hb);clear y;have y:=m_;clear m_;have m_:=ae.mk (aV j.out hb);clear j;have j:=m_;clear m_;have m_:=ae.mk (aV z.out hb);clear z;have z:=m_;clear m_;have m_:=ae.mk (aV X.out hb);clear X;have X:=m_;clear m_;clear hb I M J U a6 a7 a0 a2 a4 a1 a3 a5 a9 ab;have a0:aS.cell? ⟨a8,0,none⟩ = some (.int .i64 0):=(ah j.out 0).trans rfl;have a1:=aj j.out 0;have a2:aS.cell? ⟨a8,1,none⟩ = some (.int .i64 0):=(ah j.out 1).trans rfl;have a3:=aj j.out 1;have a4:aS.cell? ⟨a8,2,none⟩ = some (.int .i64 0):=(ah j.out 2).trans rfl;have a5:=aj j.out 2;have a6:aS.cell? ⟨aw,0,none⟩ = some (.int .i64 aa):=(ah z.out 0).trans rfl;have a7:=aj z.out 0;have a9:aS.cell? ⟨aB,0,none⟩ = some (.int .i64 ee):=(ah X.out 0).trans rfl;have ab:=aj X.out 0));refine bodyPost_ret (dX rfl _ _ a8 89 #[.int .i64 aa,.int .i64 bb,.int .i64 ee] (0,0) _ rfl (by refine fa (cs:=#[.int .i64 aa,.int .i64 bb,.int .i64 0]) ?_ 2 _ rfl;refine fa (cs:=#[.int .i64 aa,.int .i64 0,.int .i64 0]) ?_ 1 _ rfl;refine fa (cs:=#[.int .i64 0,.int .i64 0,.int .i64 0]) ?_ 0 _ rfl;exact j.out) Tryz.underlying89 rfl (by kernel_rfl)) rfl ?_;exact ⟨rfl,by repeat (first | exact HB.out | refine dV ?_ b0.out)⟩
def cO.f (k:Nat) (y:Int) (j:List Int):Option (Bool):=(ax.f k y j).bind fun z=>((bw.f k y j).bind fun t123=>(if t123 = true then (if (j.length:Int) > 0 then (some (!z.2.2.2)) else (some false)) else (some false)))
set_option maxHeartbeats 8000000 in
set_option maxRecDepth 100000 in
theorem cO.calls (k:Nat) (z:Int) (M:Option Addr) (U:Nat) (y:List Int) (r:Bool) (w:World) (a1:Kd.C (Kd.int .i64) w M y.length y) (a2:y.length≤U) (h:cO.f k z y = some r) :
  Calls Tryz.prog 72 #[.agg #[.int .i64 z,.slice M y.length U]] w fun e w'=>e = .returned (.bool r)∧Below w.heap.size w w':=by
 have d2:=Tryz.underlying26;have d3:=Tryz.underlying89;have X:=ae.mk a1;have Y:=ae.mk a2;clear a1 a2;have HB:=ae.mk (Below.refl w.heap.size w);unfold cO.f at h;have H:=h;clear h;obtain ⟨⟨t118,t119,t120,t121⟩,A2,H⟩:=ob H;(try dsimp only at H);obtain ⟨t123,A3,H⟩:=ob H;(try dsimp only at H);by_cases c4:t123 = true
 ·subst c4
  replace H:(if (y.length:Int) > 0 then (some (!t121)) else (some false)) = some r:=by rw [if_pos rfl] at H;exact H
  by_cases c5:(y.length:Int) > 0
  ·rw [if_pos c5] at H
   have a9:=decide_eq_true c5;have aa:decide (0 < y.length) = true:=decide_eq_true (by omega);clear c5;obtain rfl:=Option.some.inj H;go_enter Tryz.func72,Tryz.ntmps72;go_wp2_with (first | ((with_reducible refine aY (N:=1) rfl ?_);(try (refine cF (by rfl) ?_;dsimp only));refine dg ?hg (N:=1) ?hd (cs:=#[.int .i64 z,.slice M y.length U]) (t:=26) ?hr ?_;(case hd=>rfl);(case hg=>rfl);(case hr=>first | (go_simp;done) | (go_simp;rfl));intro a3 hg w6 hbox hb;have j:=ae.mk hbox;have a4:=na hg HB;have a5:=na hg HB;replace HB:=nb HB hb;clear hb hbox hg;obtain ⟨cl,co,cp,cr⟩:=no j.out) | (refine n7 (some 7) Tryz.func139 #[.agg #[.int .i64 z,.slice M y.length U]] ?_;(with_reducible refine (ax.calls k z _ _ y t118 t119 t120 t121 _ ?side1 ?side2 A2.out).mono ?_);(case side1=>exact ol (Kd.aQ X.out HB.out));(case side2=>exact Y.out);rintro e w8 ⟨rfl,hb⟩;refine ⟨_,rfl,?_⟩;replace j:=nm j hb;replace HB:=ae.mk (aA n1 hb);(try clear hb);(try clear ab);(try clear hk);(try clear hi)) | ((with_reducible refine aY (N:=3) rfl ?_);(try (refine cF (by rfl) ?_;dsimp only));refine dg ?hg (N:=3) ?hd (cs:=#[.int .i64 0,.int .i64 0,.int .i64 0]) (t:=89) ?hr ?_;(case hd=>rfl);(case hg=>rfl);(case hr=>first | (go_simp;done) | (go_simp;rfl));intro a6 hg w9 hbox hb;have a0:=ae.mk hbox;have a7:=pl (w:=w) hg n1;have a8:=pl (w:=w) hg n1;replace HB:=ae.mk (aA n1 hb);have I:=ph hg j;have J:=pi hg j;replace j:=nm j hb;clear hb hbox hg;have cx:=J.out;have cy:=I.out;obtain ⟨al,am,ao,ap,ar,aw⟩:=af.lV a0.out;obtain ⟨aB,aE,aF,aL⟩:=no j.out) | (refine n7 (some 14) Tryz.func140 #[.int .i64 z,.slice M y.length U] ?_;(with_reducible refine (bw.calls k z _ _ y true _ ?side1 ?side2 A3.out).mono ?_);(case side1=>exact Kd.aQ X.out n1);(case side2=>exact Y.out);rintro e w' ⟨rfl,⟨nd,rfl⟩⟩;refine ⟨_,rfl,?_⟩));go_ret;exact ⟨pa,n1⟩
  ·rw [if_neg c5] at H
   have a9:decide (0 < (y.length:Int)) = false:=decide_eq_false c5;have aa:decide (0 < y.length) = false:=decide_eq_false (by omega);clear c5;obtain rfl:=Option.some.inj H;go_enter Tryz.func72,Tryz.ntmps72;go_wp2_with (first | ((with_reducible refine aY (N:=1) rfl ?_);(try (refine cF (by rfl) ?_;dsimp only));refine dg ?hg (N:=1) ?hd (cs:=#[.int .i64 z,.slice M y.length U]) (t:=26) ?hr ?_;(case hd=>rfl);(case hg=>rfl);(case hr=>first | (go_simp;done) | (go_simp;rfl));intro a3 hg d4 hbox hb;have j:=ae.mk hbox;have a4:=na hg HB;have a5:=na hg HB;replace HB:=nb HB hb;clear hb hbox hg;obtain ⟨aO,aP,aR,aS⟩:=no j.out) | (refine n7 (some 7) Tryz.func139 #[.agg #[.int .i64 z,.slice M y.length U]] ?_;(with_reducible refine (ax.calls k z _ _ y t118 t119 t120 t121 _ ?side1 ?side2 A2.out).mono ?_);(case side1=>exact ol (Kd.aQ X.out HB.out));(case side2=>exact Y.out);rintro e d5 ⟨rfl,hb⟩;refine ⟨_,rfl,?_⟩;replace j:=nm j hb;replace HB:=ae.mk (aA n1 hb);(try clear hb);(try clear ab);(try clear hk);(try clear hi)) | ((with_reducible refine aY (N:=3) rfl ?_);(try (refine cF (by rfl) ?_;dsimp only));refine dg ?hg (N:=3) ?hd (cs:=#[.int .i64 0,.int .i64 0,.int .i64 0]) (t:=89) ?hr ?_;(case hd=>rfl);(case hg=>rfl);(case hr=>first | (go_simp;done) | (go_simp;rfl));intro a6 hg d6 hbox hb;have a0:=ae.mk hbox;have a7:=pl (w:=w) hg n1;have a8:=pl (w:=w) hg n1;replace HB:=ae.mk (aA n1 hb);have I:=ph hg j;have J:=pi hg j;replace j:=nm j hb;clear hb hbox hg;have cX:=J.out;have cY:=I.out;obtain ⟨b0,b1,b2,b3,b4,ba⟩:=af.lV a0.out;obtain ⟨bc,bd,bi,bk⟩:=no j.out) | (refine n7 (some 14) Tryz.func140 #[.int .i64 z,.slice M y.length U] ?_;(with_reducible refine (bw.calls k z _ _ y true _ ?side1 ?side2 A3.out).mono ?_);(case side1=>exact Kd.aQ X.out n1);(case side2=>exact Y.out);rintro e w' ⟨rfl,⟨nd,rfl⟩⟩;refine ⟨_,rfl,?_⟩));go_ret;exact ⟨pa,n1⟩
 ·replace c4:=Bool.eq_false_iff.mpr c4
  subst c4;replace H:(some false) = some r:=by rw [if_neg (show ¬ (false = true) by decide)] at H;exact H
  obtain rfl:=Option.some.inj H;go_enter Tryz.func72,Tryz.ntmps72;go_wp2_with (first | ((with_reducible refine aY (N:=1) rfl ?_);(try (refine cF (by rfl) ?_;dsimp only));refine dg ?hg (N:=1) ?hd (cs:=#[.int .i64 z,.slice M y.length U]) (t:=26) ?hr ?_;(case hd=>rfl);(case hg=>rfl);(case hr=>first | (go_simp;done) | (go_simp;rfl));intro a3 hg d7 hbox hb;have j:=ae.mk hbox;have a4:=na hg HB;have a5:=na hg HB;replace HB:=nb HB hb;clear hb hbox hg;obtain ⟨bm,bo,bs,bv⟩:=no j.out) | (refine n7 (some 7) Tryz.func139 #[.agg #[.int .i64 z,.slice M y.length U]] ?_;(with_reducible refine (ax.calls k z _ _ y t118 t119 t120 t121 _ ?side1 ?side2 A2.out).mono ?_);(case side1=>exact ol (Kd.aQ X.out HB.out));(case side2=>exact Y.out);rintro e d8 ⟨rfl,hb⟩;refine ⟨_,rfl,?_⟩;replace j:=nm j hb;replace HB:=ae.mk (aA n1 hb);(try clear hb);(try clear ab);(try clear hk);(try clear hi)) | ((with_reducible refine aY (N:=3) rfl ?_);(try (refine cF (by rfl) ?_;dsimp only));refine dg ?hg (N:=3) ?hd (cs:=#[.int .i64 0,.int .i64 0,.int .i64 0]) (t:=89) ?hr ?_;(case hd=>rfl);(case hg=>rfl);(case hr=>first | (go_simp;done) | (go_simp;rfl));intro a6 hg d9 hbox hb;have a0:=ae.mk hbox;have a7:=pl (w:=w) hg n1;have a8:=pl (w:=w) hg n1;replace HB:=ae.mk (aA n1 hb);have I:=ph hg j;have J:=pi hg j;replace j:=nm j hb;clear hb hbox hg;have d0:=J.out;have d1:=I.out;obtain ⟨c0,c1,ca,cb,cc,cd⟩:=af.lV a0.out;obtain ⟨ce,cf,ch,ci⟩:=no j.out) | (refine n7 (some 14) Tryz.func140 #[.int .i64 z,.slice M y.length U] ?_;(with_reducible refine (bw.calls k z _ _ y false _ ?side1 ?side2 A3.out).mono ?_);(case side1=>exact Kd.aQ X.out n1);(case side2=>exact Y.out);rintro e w' ⟨rfl,⟨nd,rfl⟩⟩;refine ⟨_,rfl,?_⟩));go_ret;exact ⟨pa,n1⟩
def dS.f (a0:Int):Option (Int):=(cz.f a0).bind fun t124=>(if t124 = true then (if 0≤a0 then (some (wrap64 ((shl .i64 1 a0) - 1))) else (none)) else (some 0))
set_option maxHeartbeats 8000000 in
set_option maxRecDepth 100000 in
theorem dS.calls (a0:Int) (r:Int) (w:World) (h:dS.f a0 = some r) :
  Calls Tryz.prog 125 #[.int .i64 a0] w fun e w'=>e = .returned (.int .i64 r)∧cj w w':=by
 unfold dS.f at h;have H:=h;clear h;obtain ⟨t124,U,H⟩:=ob H;(try dsimp only at H);by_cases c3:t124 = true
 ·subst c3
  replace H:(if 0≤a0 then (some (wrap64 ((shl .i64 1 a0) - 1))) else (none)) = some r:=by rw [if_pos rfl] at H;exact H
  obtain ⟨c4,H⟩:=nz H;have a3:=eq_true c4;have a4:decide (0≤a0) = true:=decide_eq_true c4;clear c4;obtain ⟨y,j⟩:∃ j_:Int,(shl .i64 1 a0) = j_:=⟨_,rfl⟩
  replace H:(some (wrap64 ((y) - 1))) = some r:=by first | (rw [j] at H;exact H) | (simp only [j] at H ⊢;exact H)
  (try rw [j] at U);have z:(IntKind.i64.wrap (1 * 2 ^ min a0.toNat 64)) = y:=j;have I:a0≤64→(IntKind.i64.wrap (1 * 2 ^ a0.toNat)) = y:=ec j;have X:(IntKind.i64.wrap (2 ^ min a0.toNat 64)) = y:=by have J:=z;rw [Int.one_mul] at J;exact J
  have Y:a0≤64→(IntKind.i64.wrap (2 ^ a0.toNat)) = y:=fun M=>by have J:=I M;rw [Int.one_mul] at J;exact J
  have a1:(wrap64 (1 * 2 ^ min a0.toNat 64)) = y:=(bq _).symm.trans z;have a2:a0≤64→(wrap64 (1 * 2 ^ a0.toNat)) = y:=fun J=>(bq _).symm.trans (I J)
  obtain rfl:=Option.some.inj H;go_enter Tryz.func125,Tryz.ntmps125;go_wp2_with (first | (refine n7 (some 4) Tryz.func148 #[.int .i64 a0] ?_;(with_reducible refine (cz.calls a0 true _ U.out).mono ?_);rintro e w' ⟨rfl,⟨nd,rfl⟩⟩;refine ⟨_,rfl,?_⟩));go_ret;exact ⟨by first | rfl | (simp;done) | (simp only [← j] <;> (first | rfl | simp)) | (simp [*];done),o0⟩
 ·replace c3:=Bool.eq_false_iff.mpr c3
  subst c3;replace H:(some 0) = some r:=by rw [if_neg (show ¬ (false = true) by decide)] at H;exact H
  obtain rfl:=Option.some.inj H;go_enter Tryz.func125,Tryz.ntmps125;go_wp2_with (first | (refine n7 (some 4) Tryz.func148 #[.int .i64 a0] ?_;(with_reducible refine (cz.calls a0 false _ U.out).mono ?_);rintro e w' ⟨rfl,⟨nd,rfl⟩⟩;refine ⟨_,rfl,?_⟩));go_ret;exact ⟨n0,o0⟩
def bK.l0 (g:Int→Option Bool):Nat→Int→List Int→Int→Option (List Int)
 | 0,_,_,_=>none
 | k+1,z,y,j=>(dS.f z).bind fun t=>(if j≤t then ((g j).bind fun b=>(if b = true then (if y.length < 17592186044416 then (bK.l0 g k z (y ++ [j]) (wrap64 (j+1))) else (none)) else (bK.l0 g k z y (wrap64 (j+1))))) else (some y))
def bK.f (k:Nat) (a0:Int) (g:Int→Option Bool):Option (List Int):=bK.l0 g k a0 [] 0
set_option maxHeartbeats 8000000 in
set_option maxRecDepth 100000 in
theorem bK.calls (k:Nat) (a0:Int) (fv:Value) (g:Int→Option Bool) (r:List Int) (w:World) (hF:af.lT Tryz.prog w fv g) (h:bK.f k a0 g = some r) :
  Calls Tryz.prog 149 #[.int .i64 a0,fv] w fun e w'=>∃ a8:Value,e = .returned (a8)∧Kd.R (Kd.int .i64) 3 w' w.heap.size (fun _=>True) a8 r∧Below w.heap.size w w':=by
 have HB:=ae.mk (Below.refl w.heap.size w);obtain ⟨a1,M⟩:∃ y_:List Int,y_ = (([]:List Int)):=⟨_,rfl⟩
 have H:(bK.l0 g k a0 a1 0) = some r:=by rw [M];exact h
 clear h;have a3:=ae.mk M;clear M;have H':=ae.mk H;clear H;go_enter Tryz.func149,Tryz.ntmps149;go_wp2_with (first | (refine af.lt (Kd.int .i64) 3 7 ?_;intro ao w2 a4 hb am a5;clear am a5;rw [← a3.out] at a4;have X:=ae.mk (Kd.bJ a4 (an HB.out));replace HB:=ae.mk (aA HB.out hb);clear hb a4));go_loopg [5,6] k (fun kq v5 v6 w'=>∃ (J:List Int) (y:Int),v6 = .int .i64 y∧ae (bK.l0 g kq a0 J y = some r)∧ae (kq≤k)∧ae (Kd.R (Kd.int .i64) 3 w' w.heap.size (fun _=>True) v5 J)∧ae (Below w.heap.size w w'))
 case atStart=>exact ⟨a1,0,rfl,H',⟨Nat.le_refl _⟩,X,HB⟩
 case round =>
  clear H';(try clear HB);(try clear X);obtain ⟨J,y,rfl,HA,Y,j,HB⟩:=hrel;cases gk with
  | zero=>exact absurd HA.out (by simp [bK.l0])
  | succ k1 =>
   have H:=HA.out;clear HA;simp only [bK.l0] at H;obtain ⟨t,a9,H⟩:=Option.bind_eq_some_iff.mp H;have A4:=ae.mk a9;clear a9;by_cases c4:y≤t
   ·rw [if_pos c4] at H
    have aa:=decide_eq_true c4;clear c4;obtain ⟨t127,ab,H⟩:=Option.bind_eq_some_iff.mp H;have A5:=ae.mk ab;clear ab;by_cases c6:t127 = true
    ·subst c6
     replace H:(if J.length < 17592186044416 then (bK.l0 g k1 a0 (J ++ [y]) (wrap64 (y+1))) else (none)) = some r:=by rw [if_pos rfl] at H;exact H
     obtain ⟨c7,H⟩:=nz H;have al:=ae.mk c7;clear c7;obtain ⟨a2,U⟩:∃ y_:List Int,y_ = (J ++ [y]):=⟨_,rfl⟩
     replace H:(bK.l0 g k1 a0 a2 (wrap64 (y+1))) = some r:=by rw [U];exact H
     have a6:=ae.mk U;clear U;have H':=ae.mk H;clear H;go_wp2_with (first | (refine n7 (some 10) Tryz.func125 #[.int .i64 a0] ?_;(with_reducible refine (dS.calls a0 t _ A4.out).mono ?_);rintro e w' ⟨rfl,hd⟩;refine ⟨_,rfl,?_⟩;have z:=ae.mk (aA HB.out hd.below);have I:=ae.mk (Kd.cR j.out hd.below);clear HB j hd;have HB:=z;have j:=I;clear I z) | ((with_reducible refine aY (N:=16) rfl ?_);refine af.lU (some 16) rfl rfl 14 rfl hF A5.out HB.out rfl (by (try simp only [List.map_toArray,List.map_cons,List.map_nil]);first | done | rfl) ?_;intro w5 hb;have z:=ae.mk (aA HB.out hb);have I:=ae.mk (Kd.cR j.out hb);clear HB j hb;have HB:=z;have j:=I;clear I z) | ((with_reducible refine cB (b:=.append) (xs:=#[.tmp 17,.tmp 19]) rfl ?_);at_builtin;refine Kd.fI (Kd.int .i64) (w0:=w) w.heap.size rfl (.tmp 17) (.tmp 19) 24 3 (.int .i64 0) 8 rfl Tryz.underlying24 eC rfl (by decide) (by omega) u5 J y [.int .i64 y] (fun _=>True) (fun _=>False) rfl rfl (by exact rfl) (fun _ hk=>hk.elim) (by exact fun _ _=>trivial) (by exact by (with_reducible repeat (first | apply Kd.eZ | apply Kd.eT | apply Kd.dK));exact j.out) (by exact n1) (by exact an n1) (by have:=al.out;omega) ?_;intro ap w8 ho hb hg hat;rw [← a6.out] at ho;have I:=ae.mk (hb);have z:=ae.mk (ho);clear HB;clear j;have HB:=I;have a7:=z;clear I z;clear ho hb hg hat));go_roundg k1;case measure=>have:=Y.out;omega
     case rel=>exact ⟨(a2),(wrap64 (y+1)),rfl,H',⟨by have:=Y.out;omega⟩,a7,HB⟩
    ·replace c6:=Bool.eq_false_iff.mpr c6
     subst c6;have H1:(bK.l0 g k1 a0 J (wrap64 (y+1))) = some r:=by rw [if_neg (show ¬ (false = true) by decide)] at H;exact H
     clear H;have H':=ae.mk H1;clear H1;go_wp2_with (first | (refine n7 (some 10) Tryz.func125 #[.int .i64 a0] ?_;(with_reducible refine (dS.calls a0 t _ A4.out).mono ?_);rintro e w' ⟨rfl,hd⟩;refine ⟨_,rfl,?_⟩;have z:=ae.mk (aA HB.out hd.below);have I:=ae.mk (Kd.cR j.out hd.below);clear HB j hd;have HB:=z;have j:=I;clear I z) | ((with_reducible refine aY (N:=16) rfl ?_);refine af.lU (some 16) rfl rfl 14 rfl hF A5.out HB.out rfl (by (try simp only [List.map_toArray,List.map_cons,List.map_nil]);first | done | rfl) ?_;intro w5 hb;have z:=ae.mk (aA HB.out hb);have I:=ae.mk (Kd.cR j.out hb);clear HB j hb;have HB:=z;have j:=I;clear I z));go_roundg k1;case measure=>have:=Y.out;omega
     case rel=>exact ⟨J,(wrap64 (y+1)),rfl,H',⟨by have:=Y.out;omega⟩,j,HB⟩
   ·rw [if_neg c4] at H
    have aa:decide (y≤t) = false:=decide_eq_false c4;clear c4;obtain rfl:=Option.some.inj H;go_wp2_with (first | (refine n7 (some 10) Tryz.func125 #[.int .i64 a0] ?_;(with_reducible refine (dS.calls a0 t _ A4.out).mono ?_);rintro e w' ⟨rfl,hd⟩;refine ⟨_,rfl,?_⟩;have z:=ae.mk (aA HB.out hd.below);have I:=ae.mk (Kd.cR j.out hd.below);clear HB j hd;have HB:=z;have j:=I;clear I z));go_ret;exact ⟨_,rfl,j.out,HB.out⟩
def eE.f (a0:Int):Option (Int):=some (Go.bits .and .i64 (wrap64 (IntKind.u64.wrap ((IntKind.u64.wrap ((IntKind.u64.wrap ((Go.bits .and .u64 (IntKind.u64.wrap (((IntKind.u64.wrap ((Go.bits .and .u64 ((IntKind.u64.wrap ((Go.bits .and .u64 (a0 / 2) 6148914691236517205)+(Go.bits .and .u64 a0 6148914691236517205))) / 4) 3689348814741910323)+(Go.bits .and .u64 (IntKind.u64.wrap ((Go.bits .and .u64 (a0 / 2) 6148914691236517205)+(Go.bits .and .u64 a0 6148914691236517205))) 3689348814741910323))) / 16)+(IntKind.u64.wrap ((Go.bits .and .u64 ((IntKind.u64.wrap ((Go.bits .and .u64 (a0 / 2) 6148914691236517205)+(Go.bits .and .u64 a0 6148914691236517205))) / 4) 3689348814741910323)+(Go.bits .and .u64 (IntKind.u64.wrap ((Go.bits .and .u64 (a0 / 2) 6148914691236517205)+(Go.bits .and .u64 a0 6148914691236517205))) 3689348814741910323))))) 1085102592571150095)+((Go.bits .and .u64 (IntKind.u64.wrap (((IntKind.u64.wrap ((Go.bits .and .u64 ((IntKind.u64.wrap ((Go.bits .and .u64 (a0 / 2) 6148914691236517205)+(Go.bits .and .u64 a0 6148914691236517205))) / 4) 3689348814741910323)+(Go.bits .and .u64 (IntKind.u64.wrap ((Go.bits .and .u64 (a0 / 2) 6148914691236517205)+(Go.bits .and .u64 a0 6148914691236517205))) 3689348814741910323))) / 16)+(IntKind.u64.wrap ((Go.bits .and .u64 ((IntKind.u64.wrap ((Go.bits .and .u64 (a0 / 2) 6148914691236517205)+(Go.bits .and .u64 a0 6148914691236517205))) / 4) 3689348814741910323)+(Go.bits .and .u64 (IntKind.u64.wrap ((Go.bits .and .u64 (a0 / 2) 6148914691236517205)+(Go.bits .and .u64 a0 6148914691236517205))) 3689348814741910323))))) 1085102592571150095) / 256)))+((IntKind.u64.wrap ((Go.bits .and .u64 (IntKind.u64.wrap (((IntKind.u64.wrap ((Go.bits .and .u64 ((IntKind.u64.wrap ((Go.bits .and .u64 (a0 / 2) 6148914691236517205)+(Go.bits .and .u64 a0 6148914691236517205))) / 4) 3689348814741910323)+(Go.bits .and .u64 (IntKind.u64.wrap ((Go.bits .and .u64 (a0 / 2) 6148914691236517205)+(Go.bits .and .u64 a0 6148914691236517205))) 3689348814741910323))) / 16)+(IntKind.u64.wrap ((Go.bits .and .u64 ((IntKind.u64.wrap ((Go.bits .and .u64 (a0 / 2) 6148914691236517205)+(Go.bits .and .u64 a0 6148914691236517205))) / 4) 3689348814741910323)+(Go.bits .and .u64 (IntKind.u64.wrap ((Go.bits .and .u64 (a0 / 2) 6148914691236517205)+(Go.bits .and .u64 a0 6148914691236517205))) 3689348814741910323))))) 1085102592571150095)+((Go.bits .and .u64 (IntKind.u64.wrap (((IntKind.u64.wrap ((Go.bits .and .u64 ((IntKind.u64.wrap ((Go.bits .and .u64 (a0 / 2) 6148914691236517205)+(Go.bits .and .u64 a0 6148914691236517205))) / 4) 3689348814741910323)+(Go.bits .and .u64 (IntKind.u64.wrap ((Go.bits .and .u64 (a0 / 2) 6148914691236517205)+(Go.bits .and .u64 a0 6148914691236517205))) 3689348814741910323))) / 16)+(IntKind.u64.wrap ((Go.bits .and .u64 ((IntKind.u64.wrap ((Go.bits .and .u64 (a0 / 2) 6148914691236517205)+(Go.bits .and .u64 a0 6148914691236517205))) / 4) 3689348814741910323)+(Go.bits .and .u64 (IntKind.u64.wrap ((Go.bits .and .u64 (a0 / 2) 6148914691236517205)+(Go.bits .and .u64 a0 6148914691236517205))) 3689348814741910323))))) 1085102592571150095) / 256))) / 65536)))+((IntKind.u64.wrap ((IntKind.u64.wrap ((Go.bits .and .u64 (IntKind.u64.wrap (((IntKind.u64.wrap ((Go.bits .and .u64 ((IntKind.u64.wrap ((Go.bits .and .u64 (a0 / 2) 6148914691236517205)+(Go.bits .and .u64 a0 6148914691236517205))) / 4) 3689348814741910323)+(Go.bits .and .u64 (IntKind.u64.wrap ((Go.bits .and .u64 (a0 / 2) 6148914691236517205)+(Go.bits .and .u64 a0 6148914691236517205))) 3689348814741910323))) / 16)+(IntKind.u64.wrap ((Go.bits .and .u64 ((IntKind.u64.wrap ((Go.bits .and .u64 (a0 / 2) 6148914691236517205)+(Go.bits .and .u64 a0 6148914691236517205))) / 4) 3689348814741910323)+(Go.bits .and .u64 (IntKind.u64.wrap ((Go.bits .and .u64 (a0 / 2) 6148914691236517205)+(Go.bits .and .u64 a0 6148914691236517205))) 3689348814741910323))))) 1085102592571150095)+((Go.bits .and .u64 (IntKind.u64.wrap (((IntKind.u64.wrap ((Go.bits .and .u64 ((IntKind.u64.wrap ((Go.bits .and .u64 (a0 / 2) 6148914691236517205)+(Go.bits .and .u64 a0 6148914691236517205))) / 4) 3689348814741910323)+(Go.bits .and .u64 (IntKind.u64.wrap ((Go.bits .and .u64 (a0 / 2) 6148914691236517205)+(Go.bits .and .u64 a0 6148914691236517205))) 3689348814741910323))) / 16)+(IntKind.u64.wrap ((Go.bits .and .u64 ((IntKind.u64.wrap ((Go.bits .and .u64 (a0 / 2) 6148914691236517205)+(Go.bits .and .u64 a0 6148914691236517205))) / 4) 3689348814741910323)+(Go.bits .and .u64 (IntKind.u64.wrap ((Go.bits .and .u64 (a0 / 2) 6148914691236517205)+(Go.bits .and .u64 a0 6148914691236517205))) 3689348814741910323))))) 1085102592571150095) / 256)))+((IntKind.u64.wrap ((Go.bits .and .u64 (IntKind.u64.wrap (((IntKind.u64.wrap ((Go.bits .and .u64 ((IntKind.u64.wrap ((Go.bits .and .u64 (a0 / 2) 6148914691236517205)+(Go.bits .and .u64 a0 6148914691236517205))) / 4) 3689348814741910323)+(Go.bits .and .u64 (IntKind.u64.wrap ((Go.bits .and .u64 (a0 / 2) 6148914691236517205)+(Go.bits .and .u64 a0 6148914691236517205))) 3689348814741910323))) / 16)+(IntKind.u64.wrap ((Go.bits .and .u64 ((IntKind.u64.wrap ((Go.bits .and .u64 (a0 / 2) 6148914691236517205)+(Go.bits .and .u64 a0 6148914691236517205))) / 4) 3689348814741910323)+(Go.bits .and .u64 (IntKind.u64.wrap ((Go.bits .and .u64 (a0 / 2) 6148914691236517205)+(Go.bits .and .u64 a0 6148914691236517205))) 3689348814741910323))))) 1085102592571150095)+((Go.bits .and .u64 (IntKind.u64.wrap (((IntKind.u64.wrap ((Go.bits .and .u64 ((IntKind.u64.wrap ((Go.bits .and .u64 (a0 / 2) 6148914691236517205)+(Go.bits .and .u64 a0 6148914691236517205))) / 4) 3689348814741910323)+(Go.bits .and .u64 (IntKind.u64.wrap ((Go.bits .and .u64 (a0 / 2) 6148914691236517205)+(Go.bits .and .u64 a0 6148914691236517205))) 3689348814741910323))) / 16)+(IntKind.u64.wrap ((Go.bits .and .u64 ((IntKind.u64.wrap ((Go.bits .and .u64 (a0 / 2) 6148914691236517205)+(Go.bits .and .u64 a0 6148914691236517205))) / 4) 3689348814741910323)+(Go.bits .and .u64 (IntKind.u64.wrap ((Go.bits .and .u64 (a0 / 2) 6148914691236517205)+(Go.bits .and .u64 a0 6148914691236517205))) 3689348814741910323))))) 1085102592571150095) / 256))) / 65536))) / 4294967296)))) 127)
set_option maxHeartbeats 8000000 in
set_option maxRecDepth 100000 in
theorem eE.calls (a0:Int) (r:Int) (w:World) (h:eE.f a0 = some r) :
  Calls Tryz.prog 236 #[.int .u64 a0] w fun e w'=>e = .returned (.int .i64 r)∧cj w w':=by
 unfold eE.f at h;have H:=h;clear h;obtain rfl:=Option.some.inj H;go_enter Tryz.func236,Tryz.ntmps236;go_wp2;go_ret;exact ⟨n0,o0⟩
def eF.f (a0:Int):Option (Int):=(eE.f a0).bind fun t125=>(some t125)
set_option maxHeartbeats 8000000 in
set_option maxRecDepth 100000 in
theorem eF.calls (a0:Int) (r:Int) (w:World) (h:eF.f a0 = some r) :
  Calls Tryz.prog 197 #[.int .u64 a0] w fun e w'=>e = .returned (.int .i64 r)∧cj w w':=by
 unfold eF.f at h;have H:=h;clear h;obtain ⟨t125,j,H⟩:=ob H;(try dsimp only at H);obtain rfl:=Option.some.inj H;go_enter Tryz.func197,Tryz.ntmps197;go_wp2_with (first | (refine n7 (some 7) Tryz.func236 #[.int .u64 a0] ?_;(with_reducible refine (eE.calls a0 t125 _ j.out).mono ?_);rintro e w' ⟨rfl,⟨nd,rfl⟩⟩;refine ⟨_,rfl,?_⟩));go_ret;exact ⟨n0,o0⟩
def eL.f (a0:Int):Option (Int):=(dM.f a0).bind fun t126=>(if t126 = true then ((eF.f (IntKind.u64.wrap (a0))).bind fun t127=>(some t127)) else (some 0))
set_option maxHeartbeats 8000000 in
set_option maxRecDepth 100000 in
theorem eL.calls (a0:Int) (r:Int) (w:World) (h:eL.f a0 = some r) :
  Calls Tryz.prog 127 #[.int .i64 a0] w fun e w'=>e = .returned (.int .i64 r)∧cj w w':=by
 unfold eL.f at h;have H:=h;clear h;obtain ⟨t126,j,H⟩:=ob H;(try dsimp only at H);by_cases c3:t126 = true
 ·subst c3
  replace H:((eF.f (IntKind.u64.wrap (a0))).bind fun t127=>(some t127)) = some r:=by rw [if_pos rfl] at H;exact H
  obtain ⟨t127,y,H⟩:=ob H;(try dsimp only at H);obtain rfl:=Option.some.inj H;go_enter Tryz.func127,Tryz.ntmps127;go_wp2_with (first | (refine n7 (some 4) Tryz.func141 #[.int .i64 a0] ?_;(with_reducible refine (dM.calls a0 true _ j.out).mono ?_);rintro e w' ⟨rfl,⟨nd,rfl⟩⟩;refine ⟨_,rfl,?_⟩) | (refine n7 (some 8) Tryz.func197 #[.int .u64 (IntKind.u64.wrap (a0))] ?_;(with_reducible refine (eF.calls (IntKind.u64.wrap (a0)) t127 _ y.out).mono ?_);rintro e w' ⟨rfl,⟨nd,rfl⟩⟩;refine ⟨_,rfl,?_⟩));go_ret;exact ⟨n0,o0⟩
 ·replace c3:=Bool.eq_false_iff.mpr c3
  subst c3;replace H:(some 0) = some r:=by rw [if_neg (show ¬ (false = true) by decide)] at H;exact H
  obtain rfl:=Option.some.inj H;go_enter Tryz.func127,Tryz.ntmps127;go_wp2_with (first | (refine n7 (some 4) Tryz.func141 #[.int .i64 a0] ?_;(with_reducible refine (dM.calls a0 false _ j.out).mono ?_);rintro e w' ⟨rfl,⟨nd,rfl⟩⟩;refine ⟨_,rfl,?_⟩));go_ret;exact ⟨n0,o0⟩
def de.f (kV:Int) (s:Int):Option Bool:=(eL.f s).bind fun t=>some (t == kV)
def eM.f (k:Nat) (a0:Int) (j:Int):Option (Int×List Int):=(cz.f j).bind fun t=>(if t = true then (if a0 < 0 then (some (0,[])) else (if a0 > j then (some (0,[])) else ((bK.f k j (fun s=>de.f a0 s)).bind fun l=>(some (j,l))))) else (some (0,[])))
set_option maxHeartbeats 8000000 in
set_option maxRecDepth 100000 in
theorem de.calls (kV:Int) (s:Int) (b:Bool) (gb:Nat) (w:World) (hbk:w.heap[gb]? = some (.cells #[.int .i64 kV] 3 (0,0))) (h:de.f kV s = some b) :
  Calls Tryz.prog 150 #[.int .i64 s,.pointer (some ⟨gb,0,none⟩)] w fun e w'=>e = .returned (.bool b)∧Below w.heap.size w w':=by
 have j:w.cell? ⟨gb,0,none⟩ = some (.int .i64 kV):=(ah hbk 0).trans rfl;clear hbk;unfold de.f at h;obtain ⟨t,h1,h⟩:=Option.bind_eq_some_iff.mp h;have y:=ae.mk h1;clear h1;obtain rfl:=Option.some.inj h;clear h;go_enter Tryz.func150,Tryz.ntmps150;go_wp2_with fail;go_quiet (first | (go_at_call 127;(with_reducible refine (eL.calls s t _ y.out).mono ?_);rintro e w' ⟨rfl,⟨nd,rfl⟩⟩;(first | exact ⟨rfl,_,World.drewN_drewN _ _ _⟩ | exact ⟨rfl,_,Eq.trans (World.drewN_drewN _ _ _) (congrArg (World.drewN _) (Nat.add_assoc _ _ _))⟩)))
 go_wp2;go_ret;exact ⟨rfl,by first | exact cK (Below.refl _ _) _ | exact Below.refl _ _⟩
theorem de.rA (kV:Int) (gb:Nat) (w:World) (hbk:w.heap[gb]? = some (.cells #[.int .i64 kV] 3 (0,0))) :
  af.lT Tryz.prog w (.func (.func 150) #[] #[.pointer (some ⟨gb,0,none⟩)]) (fun s=>de.f kV s) :=
 ⟨⟨150,#[.pointer (some ⟨gb,0,none⟩)],Tryz.f150,rfl,Tryz.func150,by kernel_rfl,rfl,fun s b w' hw hg=>de.calls kV s b gb w' (aV hbk hw) hg⟩⟩
set_option maxHeartbeats 8000000 in
set_option maxRecDepth 100000 in
theorem eM.calls (k:Nat) (a0:Int) (a1:Int) (r1:Int) (r2:List Int) (w:World) (h:eM.f k a0 a1 = some (r1,r2)) :
  Calls Tryz.prog 80 #[.int .i64 a0,.int .i64 a1] w fun e w'=>∃ a6:Value,e = .returned (.agg #[.int .i64 r1,a6])∧Kd.R (Kd.int .i64) 3 w' w.heap.size (fun _=>True) a6 r2∧Below w.heap.size w w':=by
 have a9:=Tryz.underlying26;have HB:=ae.mk (Below.refl w.heap.size w);unfold eM.f at h;obtain ⟨t,h1,h⟩:=Option.bind_eq_some_iff.mp h;have A1:=ae.mk h1;clear h1;cases t with
 | false =>
  rw [if_neg (by decide)] at h;simp only [Option.some.injEq,Prod.mk.injEq] at h;obtain ⟨rfl,rfl⟩:=h;go_enter Tryz.func80,Tryz.ntmps80;go_wp2_with (first | ((with_reducible refine aY (N:=2) rfl ?_);refine oX 2 #[.int .i64 a0] 3 ?_;intro a3 hg w3 hbox hb;have a2:=ae.mk (aA HB.out hb);have a5:=ae.mk ((by rw [hg];exact an HB.out):w.heap.size≤a3);clear HB;have HB:=a2;have y:=ae.mk hbox;clear a2;have z:w3.cell? ⟨a3,0,none⟩ = some (.int .i64 a0):=(ah y.out 0).trans rfl;have I:=aj y.out 0;clear hb hbox hg) | ((with_reducible refine aY (N:=4) rfl ?_);refine oX 4 #[.int .i64 0,.slice none 0 0] 26 ?_;intro J hg w4 hbox hb;have a2:=ae.mk (aA HB.out hb);have a4:=ae.mk ((by rw [hg];exact an HB.out):w.heap.size≤J);clear HB;have HB:=a2;have j:=ae.mk hbox;clear a2;have m_:=ae.mk (aV y.out hb);clear y;have y:=m_;clear m_;have z:w4.cell? ⟨a3,0,none⟩ = some (.int .i64 a0):=(ah y.out 0).trans rfl;have I:=aj y.out 0;have M:w4.cell? ⟨J,0,none⟩ = some (.int .i64 0):=(ah j.out 0).trans rfl;have U:=aj j.out 0;have X:w4.cell? ⟨J,1,none⟩ = some (.slice none 0 0):=(ah j.out 1).trans rfl;have Y:=aj j.out 1;clear hb hbox hg) | ((with_reducible refine aT (f:=148) rfl ?_);refine n7 (some 6) Tryz.func148 #[.int .i64 a1] ?_;(with_reducible refine (cz.calls a1 false _ A1.out).mono ?_);rintro e w5 ⟨rfl,hd⟩;refine ⟨_,rfl,?_⟩;have hb:=hd.below;clear hd;replace HB:=ae.mk (aA HB.out hb);have m_:=ae.mk (aV y.out hb);clear y;have y:=m_;clear m_;have m_:=ae.mk (aV j.out hb);clear j;have j:=m_;clear m_;clear hb;have z:w5.cell? ⟨a3,0,none⟩ = some (.int .i64 a0):=(ah y.out 0).trans rfl;have I:=aj y.out 0;have M:w5.cell? ⟨J,0,none⟩ = some (.int .i64 0):=(ah j.out 0).trans rfl;have U:=aj j.out 0;have X:w5.cell? ⟨J,1,none⟩ = some (.slice none 0 0):=(ah j.out 1).trans rfl;have Y:=aj j.out 1));refine bodyPost_ret (results_cell_row rfl _ _ J 26 #[.int .i64 0,.slice none 0 0] (0,0) _ rfl pd Tryz.underlying26 rfl (by kernel_rfl)) rfl ?_;exact ⟨_,rfl,Kd.jJ _ _ _ _ _,by repeat (first | exact HB.out | refine dV ?_ a4.out)⟩
 | true =>
  rw [if_pos rfl] at h;by_cases c1:a0 < 0
  ·rw [if_pos c1] at h
   simp only [Option.some.injEq,Prod.mk.injEq] at h;obtain ⟨rfl,rfl⟩:=h;have a7:decide (a0 < 0) = true:=decide_eq_true c1;clear c1;go_enter Tryz.func80,Tryz.ntmps80;go_wp2_with (first | ((with_reducible refine aY (N:=2) rfl ?_);refine oX 2 #[.int .i64 a0] 3 ?_;intro a3 hg w3 hbox hb;have a2:=ae.mk (aA HB.out hb);have a5:=ae.mk ((by rw [hg];exact an HB.out):w.heap.size≤a3);clear HB;have HB:=a2;have y:=ae.mk hbox;clear a2;have z:w3.cell? ⟨a3,0,none⟩ = some (.int .i64 a0):=(ah y.out 0).trans rfl;have I:=aj y.out 0;clear hb hbox hg) | ((with_reducible refine aY (N:=4) rfl ?_);refine oX 4 #[.int .i64 0,.slice none 0 0] 26 ?_;intro J hg w4 hbox hb;have a2:=ae.mk (aA HB.out hb);have a4:=ae.mk ((by rw [hg];exact an HB.out):w.heap.size≤J);clear HB;have HB:=a2;have j:=ae.mk hbox;clear a2;have m_:=ae.mk (aV y.out hb);clear y;have y:=m_;clear m_;have z:w4.cell? ⟨a3,0,none⟩ = some (.int .i64 a0):=(ah y.out 0).trans rfl;have I:=aj y.out 0;have M:w4.cell? ⟨J,0,none⟩ = some (.int .i64 0):=(ah j.out 0).trans rfl;have U:=aj j.out 0;have X:w4.cell? ⟨J,1,none⟩ = some (.slice none 0 0):=(ah j.out 1).trans rfl;have Y:=aj j.out 1;clear hb hbox hg) | ((with_reducible refine aT (f:=148) rfl ?_);refine n7 (some 6) Tryz.func148 #[.int .i64 a1] ?_;(with_reducible refine (cz.calls a1 true _ A1.out).mono ?_);rintro e w5 ⟨rfl,hd⟩;refine ⟨_,rfl,?_⟩;have hb:=hd.below;clear hd;replace HB:=ae.mk (aA HB.out hb);have m_:=ae.mk (aV y.out hb);clear y;have y:=m_;clear m_;have m_:=ae.mk (aV j.out hb);clear j;have j:=m_;clear m_;clear hb;have z:w5.cell? ⟨a3,0,none⟩ = some (.int .i64 a0):=(ah y.out 0).trans rfl;have I:=aj y.out 0;have M:w5.cell? ⟨J,0,none⟩ = some (.int .i64 0):=(ah j.out 0).trans rfl;have U:=aj j.out 0;have X:w5.cell? ⟨J,1,none⟩ = some (.slice none 0 0):=(ah j.out 1).trans rfl;have Y:=aj j.out 1));refine bodyPost_ret (results_cell_row rfl _ _ J 26 #[.int .i64 0,.slice none 0 0] (0,0) _ rfl pd Tryz.underlying26 rfl (by kernel_rfl)) rfl ?_;exact ⟨_,rfl,Kd.jJ _ _ _ _ _,by repeat (first | exact HB.out | refine dV ?_ a4.out)⟩
  ·rw [if_neg c1] at h
   have a7:decide (a0 < 0) = false:=decide_eq_false c1;clear c1;by_cases c2:a0 > a1
   ·rw [if_pos c2] at h
    simp only [Option.some.injEq,Prod.mk.injEq] at h;obtain ⟨rfl,rfl⟩:=h;have a8:decide (a1 < a0) = true:=decide_eq_true c2;clear c2;go_enter Tryz.func80,Tryz.ntmps80;go_wp2_with (first | ((with_reducible refine aY (N:=2) rfl ?_);refine oX 2 #[.int .i64 a0] 3 ?_;intro a3 hg w3 hbox hb;have a2:=ae.mk (aA HB.out hb);have a5:=ae.mk ((by rw [hg];exact an HB.out):w.heap.size≤a3);clear HB;have HB:=a2;have y:=ae.mk hbox;clear a2;have z:w3.cell? ⟨a3,0,none⟩ = some (.int .i64 a0):=(ah y.out 0).trans rfl;have I:=aj y.out 0;clear hb hbox hg) | ((with_reducible refine aY (N:=4) rfl ?_);refine oX 4 #[.int .i64 0,.slice none 0 0] 26 ?_;intro J hg w4 hbox hb;have a2:=ae.mk (aA HB.out hb);have a4:=ae.mk ((by rw [hg];exact an HB.out):w.heap.size≤J);clear HB;have HB:=a2;have j:=ae.mk hbox;clear a2;have m_:=ae.mk (aV y.out hb);clear y;have y:=m_;clear m_;have z:w4.cell? ⟨a3,0,none⟩ = some (.int .i64 a0):=(ah y.out 0).trans rfl;have I:=aj y.out 0;have M:w4.cell? ⟨J,0,none⟩ = some (.int .i64 0):=(ah j.out 0).trans rfl;have U:=aj j.out 0;have X:w4.cell? ⟨J,1,none⟩ = some (.slice none 0 0):=(ah j.out 1).trans rfl;have Y:=aj j.out 1;clear hb hbox hg) | ((with_reducible refine aT (f:=148) rfl ?_);refine n7 (some 6) Tryz.func148 #[.int .i64 a1] ?_;(with_reducible refine (cz.calls a1 true _ A1.out).mono ?_);rintro e w5 ⟨rfl,hd⟩;refine ⟨_,rfl,?_⟩;have hb:=hd.below;clear hd;replace HB:=ae.mk (aA HB.out hb);have m_:=ae.mk (aV y.out hb);clear y;have y:=m_;clear m_;have m_:=ae.mk (aV j.out hb);clear j;have j:=m_;clear m_;clear hb;have z:w5.cell? ⟨a3,0,none⟩ = some (.int .i64 a0):=(ah y.out 0).trans rfl;have I:=aj y.out 0;have M:w5.cell? ⟨J,0,none⟩ = some (.int .i64 0):=(ah j.out 0).trans rfl;have U:=aj j.out 0;have X:w5.cell? ⟨J,1,none⟩ = some (.slice none 0 0):=(ah j.out 1).trans rfl;have Y:=aj j.out 1));refine bodyPost_ret (results_cell_row rfl _ _ J 26 #[.int .i64 0,.slice none 0 0] (0,0) _ rfl pd Tryz.underlying26 rfl (by kernel_rfl)) rfl ?_;exact ⟨_,rfl,Kd.jJ _ _ _ _ _,by repeat (first | exact HB.out | refine dV ?_ a4.out)⟩
   ·rw [if_neg c2] at h
    have a8:decide (a1 < a0) = false:=decide_eq_false c2;clear c2;obtain ⟨l,h2,h⟩:=Option.bind_eq_some_iff.mp h;have A2:=ae.mk h2;clear h2;simp only [Option.some.injEq,Prod.mk.injEq] at h;obtain ⟨rfl,rfl⟩:=h;go_enter Tryz.func80,Tryz.ntmps80;go_wp2_with (first | ((with_reducible refine aY (N:=2) rfl ?_);refine oX 2 #[.int .i64 a0] 3 ?_;intro a3 hg w3 hbox hb;have a2:=ae.mk (aA HB.out hb);have a5:=ae.mk ((by rw [hg];exact an HB.out):w.heap.size≤a3);clear HB;have HB:=a2;have y:=ae.mk hbox;clear a2;have z:w3.cell? ⟨a3,0,none⟩ = some (.int .i64 a0):=(ah y.out 0).trans rfl;have I:=aj y.out 0;clear hb hbox hg) | ((with_reducible refine aY (N:=4) rfl ?_);refine oX 4 #[.int .i64 0,.slice none 0 0] 26 ?_;intro J hg w4 hbox hb;have a2:=ae.mk (aA HB.out hb);have a4:=ae.mk ((by rw [hg];exact an HB.out):w.heap.size≤J);clear HB;have HB:=a2;have j:=ae.mk hbox;clear a2;have m_:=ae.mk (aV y.out hb);clear y;have y:=m_;clear m_;have z:w4.cell? ⟨a3,0,none⟩ = some (.int .i64 a0):=(ah y.out 0).trans rfl;have I:=aj y.out 0;have M:w4.cell? ⟨J,0,none⟩ = some (.int .i64 0):=(ah j.out 0).trans rfl;have U:=aj j.out 0;have X:w4.cell? ⟨J,1,none⟩ = some (.slice none 0 0):=(ah j.out 1).trans rfl;have Y:=aj j.out 1;clear hb hbox hg) | ((with_reducible refine aT (f:=148) rfl ?_);refine n7 (some 6) Tryz.func148 #[.int .i64 a1] ?_;(with_reducible refine (cz.calls a1 true _ A1.out).mono ?_);rintro e w5 ⟨rfl,hd⟩;refine ⟨_,rfl,?_⟩;have hb:=hd.below;clear hd;replace HB:=ae.mk (aA HB.out hb);have m_:=ae.mk (aV y.out hb);clear y;have y:=m_;clear m_;have m_:=ae.mk (aV j.out hb);clear j;have j:=m_;clear m_;clear hb;have z:w5.cell? ⟨a3,0,none⟩ = some (.int .i64 a0):=(ah y.out 0).trans rfl;have I:=aj y.out 0;have M:w5.cell? ⟨J,0,none⟩ = some (.int .i64 0):=(ah j.out 0).trans rfl;have U:=aj j.out 0;have X:w5.cell? ⟨J,1,none⟩ = some (.slice none 0 0):=(ah j.out 1).trans rfl;have Y:=aj j.out 1) | ((with_reducible refine aT (f:=149) rfl ?_);refine n7 (some 21) Tryz.func149 #[.int .i64 a1,.func (.func 150) #[] #[.pointer (some ⟨a3,0,none⟩)]] ?_;(with_reducible refine (bK.calls k a1 _ (fun s=>de.f a0 s) l _ (de.rA a0 a3 _ y.out) A2.out).mono ?_);rintro e w6 ⟨v1,rfl,ho,hb⟩;refine ⟨_,rfl,?_⟩;have HO:=ae.mk (Kd.bJ ho (an HB.out));replace HB:=ae.mk (aA HB.out hb);have m_:=ae.mk (aV j.out hb);clear j;have j:=m_;clear m_;clear hb ho;obtain ⟨Ao,co,eo⟩:=Kd.bC HO.out;subst eo;have M:w6.cell? ⟨J,0,none⟩ = some (.int .i64 0):=(ah j.out 0).trans rfl;have U:=aj j.out 0;have X:w6.cell? ⟨J,1,none⟩ = some (.slice none 0 0):=(ah j.out 1).trans rfl;have Y:=aj j.out 1));refine bodyPost_ret (results_cell_row rfl _ _ J 26 #[.int .i64 a1,.slice Ao l.length co] (0,0) _ rfl pd Tryz.underlying26 rfl (by kernel_rfl)) rfl ?_;exact ⟨_,rfl,Kd.aZ (Kd.bV (p:=⟨J,1,none⟩) (Kd.bV (p:=⟨J,0,none⟩) (Kd.bl HO.out j.out (by decide)) (fun _ hk=>hk.2) (.int .i64 a1)) (fun _ hk=>hk.2) (.slice Ao l.length co)) (fun _ hk=>trivial),by repeat (first | exact HB.out | refine dV ?_ a4.out)⟩
mutual
def aC.l0:Nat→Int→List Int→List (cV)→Int→Option ((List (cV)))
 | 0,_,_,_,_=>none
 | k+1,X,I,M,U=>if U < (shl .i64 1 (I.length:Int)) then (aC.l1 k X I M U I (I.length:Int) 0 X ([]:List Int)) else (some M)
def aC.l1:Nat→Int→List Int→List (cV)→Int→List Int→Int→Int→Int→List Int→Option ((List (cV)))
 | 0,_,_,_,_,_,_,_,_,_=>none
 | k+1,X,I,M,U,J,Y,z,y,j=>if z < Y then (if 0≤z then (if z < (J.length:Int) then (if (Go.bits .and .i64 (shr .i64 U z) 1) = 1 then (if j.length < 17592186044416 then (aC.l1 k X I M U J Y (wrap64 (z+1)) y (j ++ [rd J z])) else (none)) else (aC.l1 k X I M U J Y (wrap64 (z+1)) y j)) else (none)) else (none)) else ((cO.f k y j).bind fun t140=>(if t140 = true then (if M.length < 4398046511104 then (aC.l0 k X I (M ++ [(⟨y,j⟩:cV)]) (wrap64 (U+1))) else (none)) else (aC.l0 k X I M (wrap64 (U+1)))))
end
def aC.f (k:Nat) (a0:Int) (y:Int):Option ((List (cV))):=(eM.f k y a0).bind fun j=>(aC.l0 k a0 j.2 (([]:List (cV))) 1)
set_option maxHeartbeats 8000000 in
set_option maxRecDepth 100000 in
theorem aC.calls (k:Nat) (a0:Int) (a1:Int) (r:List (cV)) (w:World) (h:aC.f k a0 a1 = some r) :
  Calls Tryz.prog 93 #[.int .i64 a0,.int .i64 a1] w fun e w'=>∃ d2:Value,e = .returned (d2)∧Kd.S fq 26 w' w.heap.size (fun _=>True) d2 r∧Below w.heap.size w w':=by
 have d3:=Tryz.underlying26;have d1:∀ (d4 ce:Value) (W_:World),Sem.run Tryz.prog (Instr.field 26 (Value.agg #[d4,ce]) 1) W_ = .ok ce W_:=fun d4 ce W_=>by
  simp [Instr.field,d3,underlying,part,asAgg]
 have HB:=ae.mk (Below.refl w.heap.size w);unfold aC.f at h;have H:=h;clear h;obtain ⟨⟨t128,t129⟩,A3,H⟩:=ob H;(try dsimp only at H);obtain ⟨cc,aR⟩:∃ y_:List (cV),y_ = (([]:List (cV))):=⟨_,rfl⟩
 replace H:(aC.l0 k a0 t129 cc 1) = some r:=by (try rw [aR]);exact pf
 have bc:=ae.mk aR;clear aR;have H':=ae.mk H;clear H;go_enter Tryz.func93,Tryz.ntmps93;go_wp2_with (first | (refine n7 (some 13) Tryz.func80 #[.int .i64 a1,.int .i64 a0] ?_;(with_reducible refine (eM.calls k a1 a0 t128 t129 _ A3.out).mono ?_);rintro e w4 ⟨v130,rfl,d5,hb⟩;refine ⟨_,rfl,?_⟩;have a8:=ae.mk (Kd.bJ d5 (an (mx HB.out)));replace HB:=nb HB hb;(try clear hb);(try clear d6);(try clear hk);(try clear hi);(try clear d5);have fw:Value.cells v130 = #[v130]:=(by obtain ⟨_,_,e_⟩:=Kd.bC a8.out;rw [e_];rfl)) | ((with_reducible refine aY (N:=15) rfl ?_);refine Kd.tB fq _ 26 ?hg (N:=15) ?hd (xs:=([]:List (cV))) (inner:=[]) (ok:=fun _=>True) (okp:=fun _=>True) ?hr ?hp (fun _ hk=>hk) trivial (Below.refl _ _) (Nat.le_refl _) (by simp) ?_;(case hd=>rfl);(case hg=>rfl);(case hr=>first | (go_simp;done) | (go_simp;rfl));(case hp=>exact (ck.none _ _));intro fx w5 bd hb f1 cf;clear f1 cf;(first | rw [← bc.out] at bd | (simp only [Int.reduceToNat] at bd;rw [← bc.out] at bd));have ch:=ae.mk (Kd.o3 (Kd.sB bd (Kd.dF (ac a8.out))) (an (mx HB.out)));replace a8:=pj a8 hb;replace HB:=nb HB hb;clear hb bd));go_loopg [6,7] k (fun kq v6 v7 w'=>∃ (a3:List (cV)) (Y:Int),v7 = .int .i64 Y∧ae (aC.l0 kq a0 t129 a3 Y = some r)∧ae (kq≤k)∧ae (Kd.R (Kd.int .i64) 3 w' w.heap.size (fun _=>True) v130 t129)∧ae (Kd.S fq 26 w' w.heap.size (fun k_=>some k_≠(v130:Value).ownBlock) v6 a3)∧ae (Below w.heap.size w w'))
 case atStart=>exact ⟨(cc),(1),n0,H',⟨Nat.le_refl _⟩,⟨ac a8.out⟩,⟨af.Sw (Kd.dH ch.out (fun _ hk=>hk.2))⟩,⟨mx HB.out⟩⟩
 case round =>
  clear H';obtain ⟨a3,Y,rfl,HA,al,M,U,HB⟩:=hrel;cases gk with
  | zero=>exact absurd HA.out (by simp [aC.l0])
  | succ k1 =>
   have H:=HA.out;clear HA;simp only [aC.l0] at H;obtain ⟨a5,am⟩:∃ j_:Int,(shl .i64 1 (t129.length:Int)) = j_:=⟨_,rfl⟩
   replace H:(if Y < (a5) then (aC.l1 k1 a0 t129 a3 Y t129 (t129.length:Int) 0 a0 ([]:List Int)) else (some a3)) = some r:=by first | (rw [am] at H;exact H) | (simp only [am] at H ⊢;exact H)
   have b0:(IntKind.i64.wrap (1 * 2 ^ min (t129.length:Int).toNat 64)) = a5:=am;have b1:(t129.length:Int)≤64→(IntKind.i64.wrap (1 * 2 ^ (t129.length:Int).toNat)) = a5:=ec am;have ci:(IntKind.i64.wrap (1 * 2 ^ min t129.length 64)) = a5:=b0;have cl:(t129.length:Int)≤64→(IntKind.i64.wrap (1 * 2 ^ t129.length)) = a5:=b1;have f2:(IntKind.i64.wrap (2 ^ min t129.length 64)) = a5:=by have h_:=ci;rw [Int.one_mul] at h_;exact h_
   have f3:(t129.length:Int)≤64→(IntKind.i64.wrap (2 ^ t129.length)) = a5:=fun bi=>by have h_:=cl bi;rw [Int.one_mul] at h_;exact h_
   have f4:(IntKind.i64.wrap (2 ^ min (t129.length:Int).toNat 64)) = a5:=by have h_:=b0;rw [Int.one_mul] at h_;exact h_
   have f5:(t129.length:Int)≤64→(IntKind.i64.wrap (2 ^ (t129.length:Int).toNat)) = a5:=fun bi=>by have h_:=b1 bi;rw [Int.one_mul] at h_;exact h_
   have f6:(wrap64 (1 * 2 ^ min (t129.length:Int).toNat 64)) = a5:=(bq _).symm.trans b0;have f7:(t129.length:Int)≤64→(wrap64 (1 * 2 ^ (t129.length:Int).toNat)) = a5:=fun h_=>(bq _).symm.trans (b1 h_)
   by_cases c8:Y < (a5)
   ·rw [if_pos c8] at H
    have d7:=decide_eq_true c8;clear c8;have H':=ae.mk H;clear H;obtain ⟨a7,a4,f8⟩:=Kd.bC M.out;subst f8;go_wp2_with (first | (refine oX 8 #[.int .i64 0,.slice none 0 0] 26 ?_;intro I hg g0 hbox hb;replace M:=pj M hb;replace U:=ae.mk (Kd.ew (Kd.ig (af.Sw U.out) I (Nat.le_of_eq hg.symm)) hb);have z:=ae.mk hbox;have f9:=na hg HB;have fd:=na hg HB;replace HB:=nb HB hb;clear hb hbox hg;obtain ⟨d8,d9,db,dd⟩:=no z.out));go_loopg [27] k1 (fun kq fi w'=>∃ (J:Int) (j:List Int) (a2:Value),fi = .int .i64 J∧ae (aC.l1 kq a0 t129 a3 Y t129 (t129.length:Int) J a0 j = some r)∧ae (kq≤k1)∧ae (Kd.R (Kd.int .i64) 3 w' w.heap.size (fun k_=>some k_≠(a2:Value).ownBlock) (.slice a7 t129.length a4) t129)∧ae (Kd.S fq 26 w' w.heap.size (fun k_=>some k_≠((.slice a7 t129.length a4):Value).ownBlock∧some k_≠((.slice a7 t129.length a4):Value).ownBlock∧some k_≠(a2:Value).ownBlock∧k_≠I) u6 a3)∧ae (Kd.R (Kd.int .i64) 3 w' w.heap.size (fun k_=>some k_≠(a2:Value).ownBlock) (.slice a7 t129.length a4) t129)∧ae (Kd.R (Kd.int .i64) 3 w' w.heap.size (fun k_=>some k_≠((.slice a7 t129.length a4):Value).ownBlock∧some k_≠((.slice a7 t129.length a4):Value).ownBlock) a2 j)∧ae (w'.heap[I]? = some (.cells #[.int .i64 a0,a2] 26 (0,0)))∧ae (Below w.heap.size w w'))
    case atStart=>exact ⟨(0),(([]:List Int)),(.slice none 0 0),n0,H',⟨Nat.le_refl _⟩,⟨ac (Kd.aZ (Kd.bV (p:=⟨I,1,none⟩) (Kd.bV (p:=⟨I,0,none⟩) (Kd.bl M.out z.out (by decide)) (fun _ hk=>hk.2) (.int .i64 a0)) (fun _ hk=>hk.2) (.slice none 0 0)) (fun _ hk=>(by simp [Value.ownBlock])))⟩,⟨af.Sw (Kd.dH (Kd.ic (p:=⟨I,1,none⟩) (Kd.ic (p:=⟨I,0,none⟩) (Kd.dH U.out (fun k_ hk=>(⟨hk,hk.2⟩:_∧k_≠I))) (fun _ hk=>hk.2) (.int .i64 a0)) (fun _ hk=>hk.2) (.slice none 0 0)) (fun _ hk=>⟨hk.1.1,⟨hk.1.1,⟨(by simp [Value.ownBlock]),hk.1.2⟩⟩⟩))⟩,⟨ac (Kd.aZ (Kd.bV (p:=⟨I,1,none⟩) (Kd.bV (p:=⟨I,0,none⟩) (Kd.bl M.out z.out (by decide)) (fun _ hk=>hk.2) (.int .i64 a0)) (fun _ hk=>hk.2) (.slice none 0 0)) (fun _ hk=>(by simp [Value.ownBlock])))⟩,⟨af.N⟩,⟨pd⟩,⟨n1⟩⟩
    case round =>
     clear H';obtain ⟨J,j,a2,rfl,HA,ao,M,U,X,y,z,HB⟩:=hrel;cases gk with
     | zero=>exact absurd HA.out (by simp [aC.l1])
     | succ k2 =>
      have H:=HA.out;clear HA;simp only [aC.l1] at H;by_cases ba:J < (t129.length:Int)
      ·rw [if_pos ba] at H
       have co:=decide_eq_true ba;clear ba;obtain ⟨df,H⟩:=nz H;have fj:=decide_eq_true df;clear df;obtain ⟨dk,H⟩:=nz H;have fp:=decide_eq_true dk;clear dk;have fs:=eq_true (np:0≤J);obtain ⟨a6,ab⟩:∃ j_:Int,(shr .i64 Y J) = j_:=⟨_,rfl⟩
       replace H:(if (Go.bits .and .i64 (a6) 1) = 1 then (if j.length < 17592186044416 then (aC.l1 k2 a0 t129 a3 Y t129 (t129.length:Int) (wrap64 (J+1)) a0 (j ++ [rd t129 J])) else (none)) else (aC.l1 k2 a0 t129 a3 Y t129 (t129.length:Int) (wrap64 (J+1)) a0 j)) = some r:=by first | (rw [ab] at H;exact H) | (simp only [ab] at H ⊢;exact H)
       have eW:(Y / 2 ^ min J.toNat 64) = a6:=ab;have f0:J≤64→(Y / 2 ^ J.toNat) = a6:=iz ab;by_cases b2:(Go.bits .and .i64 (a6) 1) = 1
       ·rw [if_pos b2] at H
        have cp:((Go.bits .and .i64 (a6) 1) == 1) = true:=beq_iff_eq.mpr b2;have cr:((Go.bits .and .i64 (a6) 1) != 1) = false:=bne_eq_false_iff_eq.mpr b2;clear b2;obtain ⟨dl,H⟩:=nz H;have cx:=ae.mk dl;clear dl;obtain ⟨a9,b3⟩:∃ y_:List Int,y_ = (j ++ [rd t129 J]):=⟨_,rfl⟩
        replace H:(aC.l1 k2 a0 t129 a3 Y t129 (t129.length:Int) (wrap64 (J+1)) a0 a9) = some r:=by (try rw [b3]);exact pf
        have cy:=ae.mk b3;clear b3;have H':=ae.mk H;clear H;obtain ⟨aa,bk,bm,dp,dq⟩:=oY (Kd.aH X.out).2.2 J;cases bk
        obtain ⟨dt,du,dv,dC⟩:=no z.out;go_wp2_with (first | ((with_reducible refine cB (b:=.append) (xs:=#[.tmp 38,.tmp 40]) rfl ?_);at_builtin;refine Kd.fI (Kd.int .i64) (w0:=w) w.heap.size rfl (.tmp 38) (.tmp 40) 24 3 (.int .i64 0) 8 rfl Tryz.underlying24 eC rfl (by decide) (by omega) a2 j (rd t129 J) [.int .i64 (rd t129 J)] (fun k_=>some k_≠(.slice (some aa) t129.length a4:Value).ownBlock∧some k_≠(.slice (some aa) t129.length a4:Value).ownBlock) (fun _=>False) rfl rfl (by exact rfl) (fun _ hk=>hk.elim) (by exact fun k_ hk=>⟨Kd.fresh' (Kd.dF (ac M.out)) k_ hk,Kd.fresh' (Kd.dF (ac X.out)) k_ hk⟩) (by exact ac y.out) (by exact n1) (by exact an n1) (by have:=cx.out;omega) ?_;intro v138 g1 ho hb hg hat;rw [← cy.out] at ho;have bo:=ae.mk (Kd.e6 (ok:=(fun _=>True)) (ac (Kd.aZ M.out (fun _ hk=>⟨trivial,hk⟩))) hg hat);have bs:=ae.mk (Kd.o4 (ok:=(fun k_=>some k_≠(.slice (some aa) t129.length a4:Value).ownBlock∧some k_≠(.slice (some aa) t129.length a4:Value).ownBlock∧k_≠I)) (af.Sw (Kd.dH U.out (fun _ hk=>⟨⟨hk.1,⟨hk.2.1,hk.2.2.2⟩⟩,hk.2.2.1⟩))) hg hat);have bv:=ae.mk (Kd.e6 (ok:=(fun _=>True)) (ac (Kd.aZ X.out (fun _ hk=>⟨trivial,hk⟩))) hg hat);have c0:=ae.mk (cH (g:=I) (o:=.cells #[.int .i64 a0,a2] 26 (0,0)) (ne z.out) hg (Kd.iL y.out z.out (by decide)));have c1:=ae.mk hb;have dE:=ae.mk ho;clear M;clear U;clear X;clear z;clear HB;clear y;have M:=bo;have U:=bs;have X:=bv;have z:=c0;have HB:=c1;have ca:=dE;clear bo bs bv c0 c1 dE;clear ho hb hg hat;obtain ⟨ap,ar,dT⟩:=Kd.bC ca.out;subst dT;obtain ⟨e0,e1,e2,e3⟩:=no z.out));go_roundg k2;case measure=>have:=al.out;have:=ao.out;omega
        case rel=>exact ⟨(wrap64 (J+1)),(a9),(.slice ap a9.length ar),n0,H',⟨by have:=al.out;have:=ao.out;omega⟩,⟨ac (Kd.aZ (Kd.bV (p:=⟨I,1,none⟩) (Kd.bl M.out z.out (by decide)) (fun _ hk=>hk.2) (.slice ap a9.length ar)) (fun _ hk=>hk.1.2))⟩,⟨af.Sw (Kd.dH (Kd.ic (p:=⟨I,1,none⟩) (Kd.dH U.out (fun k_ hk=>(⟨hk,hk.1.2.2⟩:_∧k_≠I))) (fun _ hk=>hk.2) (.slice ap a9.length ar)) (fun _ hk=>⟨hk.1.1.1,⟨hk.1.1.2.1,⟨hk.1.2,hk.1.1.2.2⟩⟩⟩))⟩,⟨ac (Kd.aZ (Kd.bV (p:=⟨I,1,none⟩) (Kd.bl X.out z.out (by decide)) (fun _ hk=>hk.2) (.slice ap a9.length ar)) (fun _ hk=>hk.1.2))⟩,⟨ac (Kd.aZ (Kd.bV (p:=⟨I,1,none⟩) (Kd.bl ca.out z.out (by decide)) (fun _ hk=>hk.2) (.slice ap a9.length ar)) (fun _ hk=>(by first | exact ⟨hk.1.1,hk.1.2⟩ | (simp_all;done))))⟩,⟨pd⟩,⟨n1⟩⟩
       ·rw [if_neg b2] at H
        have cp:((Go.bits .and .i64 (a6) 1) == 1) = false:=beq_eq_false_iff_ne.mpr b2;have cr:((Go.bits .and .i64 (a6) 1) != 1) = true:=bne_iff_ne.mpr b2;have H':=ae.mk H;clear H;obtain ⟨aa,bk,bm,dp,dq⟩:=oY (Kd.aH X.out).2.2 J;cases bk
        go_wp2;go_roundg k2;case measure=>have:=al.out;have:=ao.out;omega
        case rel=>exact ⟨(wrap64 (J+1)),(j),(a2),n0,H',⟨by have:=al.out;have:=ao.out;omega⟩,⟨ac M.out⟩,⟨af.Sw U.out⟩,⟨ac X.out⟩,⟨ac y.out⟩,⟨ne z.out⟩,⟨n1⟩⟩
      ·rw [if_neg ba] at H
       have co:decide (J < (t129.length:Int)) = false:=decide_eq_false ba;clear ba;obtain ⟨t140,e4,H⟩:=ob H;(try dsimp only at H);by_cases cb:t140 = true
       ·subst cb
        replace H:(if a3.length < 4398046511104 then (aC.l0 k2 a0 t129 (a3 ++ [(⟨a0,j⟩:cV)]) (wrap64 (Y+1))) else (none)) = some r:=by rw [if_pos rfl] at H;exact H
        obtain ⟨e8,H⟩:=nz H;have cX:=ae.mk e8;clear e8;obtain ⟨cd,b4⟩:∃ y_:List (cV),y_ = (a3 ++ [(⟨a0,j⟩:cV)]):=⟨_,rfl⟩
        replace H:(aC.l0 k2 a0 t129 cd (wrap64 (Y+1))) = some r:=by (try rw [b4]);exact pf
        have cY:=ae.mk b4;clear b4;have H':=ae.mk H;clear H;obtain ⟨ea,eb,ed,ee⟩:=no z.out;obtain ⟨aw,aE,ef⟩:=Kd.bC y.out;subst ef;go_wp2_with (first | (refine n7 (some 45) Tryz.func72 #[.agg #[.int .i64 a0,.slice aw j.length aE]] ?_;(with_reducible refine (cO.calls k2 a0 _ _ j true _ ?side1 ?side2 e4.out).mono ?_);(case side1=>exact ol ((Kd.aH y.out).2.2));(case side2=>exact (Kd.aH y.out).2.1);rintro e g2 ⟨rfl,hb⟩;refine ⟨_,rfl,?_⟩;replace M:=pj M hb;replace U:=ae.mk (Kd.ew (af.Sw U.out) hb);replace X:=pj X hb;replace y:=pj y hb;replace z:=nm z hb;replace HB:=ae.mk (aA n1 hb);(try clear hb);(try clear d6);(try clear hk);(try clear hi);obtain ⟨eg,eh,el,em⟩:=no z.out) | ((with_reducible refine cB (b:=.append) (xs:=#[.tmp 46,.tmp 48]) rfl ?_);at_builtin;refine Kd.pZ fq (w0:=w) w.heap.size rfl (.tmp 46) (.tmp 48) 47 26 (.agg #[(.int .i64 0),(.slice none 0 0)]) 32 rfl Tryz.underlying47 iZ rfl (by decide) (by omega) u6 a3 (⟨a0,j⟩:cV) [.int .i64 a0,.slice aw j.length aE] (fun k_=>some k_≠(.slice a7 t129.length a4:Value).ownBlock∧some k_≠(.slice a7 t129.length a4:Value).ownBlock∧k_≠I) (fun k_=>some k_ = (.slice aw j.length aE:Value).ownBlock) rfl rfl ?aP (fun k_ ft=>((Kd.aZ (ok':=fun k_=>((fun k_=>some k_≠(.slice a7 t129.length a4:Value).ownBlock∧some k_≠(.slice a7 t129.length a4:Value).ownBlock∧k_≠I)) k_∧some k_≠(u6:Value).ownBlock) (Kd.bl (Kd.gM (y.out) (Kd.jU U.out) (by decide)) z.out (by decide)) (fun k_ hk=>⟨⟨hk.1.1.1,⟨hk.1.1.2,hk.2⟩⟩,hk.1.2⟩))).1 k_ ft.symm) ?aF ?aO ?aB ?aS ?aL ?_;(case aP=>exact od _ _ _ (⟨a0,j⟩:cV) (Kd.aZ (Kd.jT rfl (Kd.aZ (ok':=fun k_=>((fun k_=>some k_≠(.slice a7 t129.length a4:Value).ownBlock∧some k_≠(.slice a7 t129.length a4:Value).ownBlock∧k_≠I)) k_∧some k_≠(u6:Value).ownBlock) (Kd.bl (Kd.gM (y.out) (Kd.jU U.out) (by decide)) z.out (by decide)) (fun k_ hk=>⟨⟨hk.1.1.1,⟨hk.1.1.2,hk.2⟩⟩,hk.1.2⟩))) (fun _ h_=>h_)));(case aB=>exact n1);(case aF=>exact (fun k_ hk=>⟨Kd.fresh' (Kd.dF (ac M.out)) k_ hk,Kd.fresh' (Kd.dF (ac X.out)) k_ hk,Kd.fk (g:=I) (o:=.cells #[.int .i64 a0,.slice aw j.length aE] 26 (0,0)) (ne z.out) k_ hk⟩));(case aO=>exact (af.Sw (Kd.dH U.out (fun k_ hk=>⟨⟨hk.1,⟨hk.2.1,hk.2.2.2⟩⟩,fun e_=>hk.2.2.1 e_⟩))));(case aS=>exact (an n1));(case aL=>have:=cX.out;omega);intro fy g3 ho hb hg hat;rw [← cY.out] at ho;have bo:=ae.mk (Kd.lI (ac M.out) (Kd.jU (af.Sw U.out)) (by decide) hg);have bs:=ae.mk (Kd.lI (ac X.out) (Kd.jU (af.Sw U.out)) (by decide) hg);have bv:=ae.mk (cH (g:=I) (o:=.cells #[.int .i64 a0,.slice aw j.length aE] 26 (0,0)) (ne z.out) hg (Kd.sD U.out (fun _ hk=>hk.2.2.2)));have c0:=ae.mk hb;have c1:=ae.mk ho;clear M;clear X;clear z;clear HB;clear U;clear y;have M:=bo;have X:=bs;have z:=bv;have HB:=c0;have d0:=c1;clear bo bs bv c0 c1;clear ho hb hg hat));go_roundg k2;case measure=>have:=al.out;have:=ao.out;omega
        case rel=>exact ⟨(cd),(wrap64 (Y+1)),n0,H',⟨by have:=al.out;have:=ao.out;omega⟩,⟨ac (Kd.aZ M.out (fun _ hk=>trivial))⟩,⟨af.Sw (Kd.dH d0.out (fun _ hk=>hk.1))⟩,⟨n1⟩⟩
       ·replace cb:=Bool.eq_false_iff.mpr cb
        subst cb;replace H:(aC.l0 k2 a0 t129 a3 (wrap64 (Y+1))) = some r:=by rw [if_neg (show ¬ (false = true) by decide)] at H;exact H
        have H':=ae.mk H;clear H;obtain ⟨eo,eq,es,et⟩:=no z.out;obtain ⟨eu,ev,ex⟩:=Kd.bC y.out;subst ex;go_wp2_with (first | (refine n7 (some 45) Tryz.func72 #[.agg #[.int .i64 a0,.slice eu j.length ev]] ?_;(with_reducible refine (cO.calls k2 a0 _ _ j false _ ?side1 ?side2 e4.out).mono ?_);(case side1=>exact ol ((Kd.aH y.out).2.2));(case side2=>exact (Kd.aH y.out).2.1);rintro e g4 ⟨rfl,hb⟩;refine ⟨_,rfl,?_⟩;replace M:=pj M hb;replace U:=ae.mk (Kd.ew (af.Sw U.out) hb);replace X:=pj X hb;replace y:=pj y hb;replace z:=nm z hb;replace HB:=ae.mk (aA n1 hb);(try clear hb);(try clear d6);(try clear hk);(try clear hi)));go_roundg k2;case measure=>have:=al.out;have:=ao.out;omega
        case rel=>exact ⟨(a3),(wrap64 (Y+1)),n0,H',⟨by have:=al.out;have:=ao.out;omega⟩,⟨ac (Kd.aZ M.out (fun _ hk=>trivial))⟩,⟨af.Sw (Kd.dH U.out (fun _ hk=>hk.1))⟩,⟨n1⟩⟩
   ·rw [if_neg c8] at H
    have d7:decide (Y < (a5)) = false:=decide_eq_false c8;clear c8;obtain rfl:=Option.some.inj H;obtain ⟨fX,fY,eQ⟩:=Kd.bC M.out;subst eQ;go_wp2;go_ret;exact ⟨_,by first | rfl | (simp [eA,eB] <;> rfl) | (simp only [← am];first | rfl | (simp [eA,eB] <;> rfl)) | (simp [*,eA,eB] <;> rfl),by (with_reducible repeat (first | apply Kd.eJ | apply Kd.ey | apply Kd.fA));exact Kd.dH U.out (fun _ hk=>trivial),n1⟩
def bU.f (z:Int) (j:List Int):Option (Int×List Int):=(some (([]:List Int):List Int)).bind fun y=>(if y.length+j.length < 17592186044416 then (some (z,(y ++ j))) else (none))
def bU.T1:Bool×List (List Nat×List Nat):=(true,[([],[]),([0],[0]),([],[]),([],[]),([3],[3]),([2,4],[2,4]),([1,5],[1,5]),([6,5,0,1,2,3,4,5,6],[6])])
def bU.B1:List Nat:=[0,1,0,0,8,28,63,127]
theorem bU.sR:fe .any (opsOf Tryz.f158 1) = bU.T1:=by kernel_rfl
theorem bU.qe:eK bU.T1.2 bU.B1 = true:=by kernel_rfl
set_option maxHeartbeats 8000000 in
set_option maxRecDepth 100000 in
theorem bU.calls (M:Int) (a0:Option Addr) (a1:Nat) (J:List Int) (r1:Int) (r2:List Int) (w:World) (a6:Kd.C (Kd.int .i64) w a0 J.length J) (a7:J.length≤a1) (h:bU.f M J = some (r1,r2)) :
  Calls Tryz.prog 158 #[.agg #[.int .i64 M,.slice a0 J.length a1]] w fun e w'=>∃ ap:Value,e = .returned (.agg #[.int .i64 r1,ap])∧Kd.R (Kd.int .i64) 3 w' w.heap.size (fun _=>True) ap r2∧Below w.heap.size w w':=by
 have ci:=Tryz.underlying26;have al:=ae.mk a6;have bs:=ae.mk a7;clear a6 a7;have HB:=ae.mk (Below.refl w.heap.size w);unfold bU.f at h;have H:=h;clear h;obtain ⟨a5,a2⟩:∃ y_:List Int,y_ = (([]:List Int)):=⟨_,rfl⟩
 replace H:(if a5.length+J.length < 17592186044416 then (some (M,(a5 ++ J))) else (none)) = some (r1,r2):=by (try rw [a2]);exact pf
 have a8:=ae.mk a2;clear a2;obtain ⟨c2,H⟩:=nz H;have ar:=ae.mk c2;clear c2;obtain ⟨a9,a3⟩:∃ y_:List Int,y_ = (a5 ++ J):=⟨_,rfl⟩
 replace H:(some (M,a9)) = some (r1,r2):=by (try rw [a3]);exact pf
 have am:=ae.mk a3;clear a3;simp only [Option.some.injEq,Prod.mk.injEq] at H;obtain ⟨rfl,rfl⟩:=H;go_enter Tryz.func158,Tryz.ntmps158;(try go_wp2_with (first | (refine oX 1 #[.int .i64 M,.slice a0 J.length a1] 26 ?_;intro a4 hg w3 hbox hb;have j:=ae.mk hbox;have bv:=na hg HB;have c0:=na hg HB;replace HB:=nb HB hb;clear hb hbox hg) | (refine oX 2 #[.int .i64 0,.slice none 0 0] 26 ?_;intro I hg w4 hbox hb;have y:=ae.mk hbox;have c1:=na hg HB;have ca:=na hg HB;replace HB:=nb HB hb;have z:=ph hg j;have U:=pi hg j;replace j:=nm j hb;clear hb hbox hg)));replace j:=ae.mk (dW j.out);replace y:=ae.mk (dW y.out);replace HB:=ae.mk (ct HB.out);refine ez (n:=8) (S:=fun w'=>w'.cell? ⟨a4,0,none⟩ = some (.int .i64 M)∧w'.cell? ⟨a4,1,none⟩ = some (.slice a0 J.length a1)) (ds:=[]) #[false,false,false,false,false,false,false,false] (by kernel_rfl) rfl rfl ⟨(ah j.out 0).trans rfl,(ah j.out 1).trans rfl⟩ (fun hHeld=>?_);refine dh bU.sR bU.qe (fun X aw=>?_);generalize w4.drew = w5 at j y HB hHeld ⊢;refine n8 0 3 X ?_;refine n8 3 6 X ?_;refine pm 1 4 X aw hHeld ?_;refine pm 4 7 X aw hHeld ?_;refine fm (i:=2) (N:=some 5) #[true,true,true,true,true,false,false,false] rfl rfl (dn X.out (by kernel_rfl)) (by decide) (fun K hK=>?_);refine Kd.cL (Kd.int .i64) _ 3 ?hg (N:=5) ?hd (xs:=([]:List Int)) (inner:=[]) (ok:=fun _=>True) (okp:=fun _=>True) ?hr ?hp (fun _ hk=>hk) trivial (Below.refl _ _) (Nat.le_refl _) (by simp) ?_;(case hd=>rfl);(case hg=>rfl);(case hr=>first | (go_simp;done) | (go_simp;rfl));(case hp=>exact (ck.none _ _));intro aE w6 aa hb cb ao;clear cb ao;(first | rw [← a8.out] at aa | (simp only [Int.reduceToNat] at aa;rw [← a8.out] at aa));have Y:=ae.mk (Kd.bJ aa (an (mx HB.out)));replace j:=nm j hb;replace y:=nm y hb;replace HB:=nb HB hb;clear hb aa;refine hK.out _ _ ⟨(ah j.out 0).trans rfl,(ah j.out 1).trans rfl⟩ (fun hHeld=>?_);clear hK K;refine cg (a':=?_) ?_ ?_;rotate_left
 ·show Act.put _ (some 5) _ = _
  simp only [Act.put,List.setIfInBounds_toArray,List.set_cons_zero,List.set_cons_succ,bq,bS];rfl
 refine fm (i:=5) (N:=some 8) #[true,true,true,true,true,true,false,false] rfl rfl (dn X.out (by kernel_rfl)) (by decide) (fun K hK=>?_);refine Kd.cM (Kd.int .i64) (w0:=w) w.heap.size (by rfl) (.tmp 5) (.tmp 7) 24 3 (.int .i64 0) 8 rfl Tryz.underlying24 eC rfl (by decide) (by omega) aE a5 J _ _ _ (fun _=>True) (fun _=>False) rfl rfl ?aO ?aR (fun _ _ h=>h) (fun _ h=>h.elim) ?aF ?aB ?aS ?aL ?_;(case aR=>repeat (first | exact (Kd.aQ al.out HB.out) | (with_reducible refine Kd.cS ?_ _) | (with_reducible refine Kd.cT ?_ _) | (with_reducible refine Kd.dc ?_)));(case aB=>exact (mx HB.out));(case aF=>exact (fun _ _=>trivial));(case aO=>exact (ac Y.out));(case aS=>exact (an (mx HB.out)));(case aL=>have:=ar.out;omega);intro cl w8 ho hb hg hat;rw [← am.out] at ho;have aP:=ae.mk (cH (g:=a4) (o:=.cells #[.int .i64 M,.slice a0 J.length a1] 26 (0,0)) (ne j.out) hg (Kd.iL Y.out j.out (by decide)));have b0:=ae.mk (cH (g:=I) (o:=.cells #[.int .i64 0,.slice none 0 0] 26 (0,0)) (ne y.out) hg (Kd.iL Y.out y.out (by decide)));have b1:=ae.mk hb;have b2:=ae.mk ho;clear j;clear y;clear HB;clear Y;have j:=aP;have y:=b0;have HB:=b1;have ab:=b2;clear aP b0 b1 b2;clear ho hb hg hat;obtain ⟨b3,b4,ba⟩:=Kd.bC ab.out;(first | subst ba | (injection ba with bc cc bd;have cd:=bc.symm;have ce:=bd.symm;clear bc cc bd;subst cd;subst ce));refine hK.out _ _ ⟨(ah j.out 0).trans rfl,(ah j.out 1).trans rfl⟩ (fun hHeld=>?_);clear hK K;refine cg (a':=?_) ?_ ?_;rotate_left
 ·show Act.put _ (some 8) _ = _
  simp only [Act.put,List.setIfInBounds_toArray,List.set_cons_zero,List.set_cons_succ,bq,bS];rfl
 refine n8 6 9 X ?_;refine fm (i:=7) (N:=none) #[true,true,true,true,true,true,true,true] rfl rfl (dn X.out (by kernel_rfl)) (by decide) (fun K hK=>?_);have co:w8.cell? ⟨I,0,none⟩ = some (.int .i64 0):=(ah y.out 0).trans rfl;have cf:=aj y.out 0;have bi:=z.out;have bk:=U.out;have cp:w8.cell? ⟨I,1,none⟩ = some (.slice none 0 0):=(ah y.out 1).trans rfl;have ch:=aj y.out 1;have bm:=z.out;have bo:=U.out;refine nZ (w1:=?_) (by rfl) rfl ?_ ?_;rotate_left
 ·go_simp
  rfl
 refine hK.out _ _ ⟨((cell_far (p:=⟨I,_,none⟩) z.out _).trans (((cell_far (p:=⟨I,_,none⟩) z.out _).trans (hHeld.1)))),((cell_far (p:=⟨I,_,none⟩) z.out _).trans (((cell_far (p:=⟨I,_,none⟩) z.out _).trans (hHeld.2))))⟩ (fun hHeld=>?_);clear hK K;refine fD (dR X.out (by kernel_rfl)) ?_;(try go_wp2);refine bodyPost_ret (results_cell_row rfl _ _ I 26 #[.int .i64 M,.slice b3 a9.length b4] (0,0) _ rfl pd Tryz.underlying26 rfl (by kernel_rfl)) rfl ?_;exact ⟨_,pa,by (with_reducible repeat (first | apply Kd.eZ | apply Kd.eT | apply Kd.dK));exact Kd.aZ (Kd.bV (p:=⟨I,1,none⟩) (Kd.bV (p:=⟨I,0,none⟩) (Kd.bl ab.out y.out (by decide)) (fun _ hk=>hk.2) (.int .i64 M)) (fun _ hk=>hk.2) (.slice b3 a9.length b4)) (fun _ hk=>trivial),n1⟩
structure ak.Kp (gb:Nat) (w w':World):Prop where
 b:Below gb w w'
 k:bj w w' gb none
theorem ak.Kp.refl (gb:Nat) (w:World):ak.Kp gb w w:=⟨Below.refl _ _,bj.refl _ _ _⟩
theorem ak.Kp.trans {gb:Nat} {w w1 j:World} (h:ak.Kp gb w w1) (k:ak.Kp gb w1 j):ak.Kp gb w j :=
 ⟨⟨k.b.os.trans h.b.os,k.b.tape.trans h.b.tape,k.b.output.trans h.b.output,Nat.le_trans h.b.size k.b.size,fun i hi=>(k.b.block i hi).trans (h.b.block i hi)⟩,bj.trans h.k k.k (.inl rfl)⟩
theorem ak.Kp.of {gb:Nat} {w w':World} (h:Below w.heap.size w w') (hg:gb < w.heap.size):ak.Kp gb w w' :=
 ⟨⟨h.os,h.tape,h.output,h.size,fun i hi=>h.block i (by omega)⟩,bj.fH h gb none⟩
structure ak.nv (w:World) (gb base:Nat) (b:Int×List Int):Prop where
 out:∃ (A:Option Addr) (c:Nat),w.heap[gb]? = some (.cells #[.int .i64 b.1,.slice A b.2.length c] 26 (0,0))∧base≤gb∧∀ W_,bj w W_ gb none→Kd.R (Kd.int .i64) 3 W_ base (fun _=>True) (.slice A b.2.length c) b.2
theorem ak.nv.below {w w':World} {gb base:Nat} {b:Int×List Int} (h:ak.nv w gb base b) (hb:Below w.heap.size w w'):ak.nv w' gb base b:=by
 obtain ⟨A,c,h1,h2,h3⟩:=h.out;exact ⟨A,c,aV h1 hb,h2,fun W_ hk=>h3 W_ (bj.trans (bj.fH hb gb none) hk (.inl rfl))⟩
theorem ak.nv.lt {w:World} {gb base:Nat} {b:Int×List Int} (h:ak.nv w gb base b):gb < w.heap.size:=by
 obtain ⟨A,c,h1,h2,h3⟩:=h.out;exact ia h1
structure ak.u0 (P:Program) (W:World) (fv:Value) (gb base:Nat) (g:List Int→Int×List Int→Option (Int×List Int)):Prop where
 out:∃ (f:Nat) (caps:Array Value) (fn:Func),fv = .func (.func f) #[] caps∧P.funcs[f]? = some fn∧(fn.name == "runtime.NumGoroutine") = false∧fn.body.isSome = true ∧
  ∀ (A:Option Addr) (c:Nat) (xs:List Int) (b b':Int×List Int) (w:World),ak.Kp gb W w→ak.nv w gb base b→Kd.C (Kd.int .i64) w A xs.length xs→xs.length≤c→g xs b = some b'→Calls P f (#[.slice A xs.length c] ++ caps) w fun e w'=>e = .returned (.bool true)∧ak.nv w' gb base b'∧ak.Kp gb w w'
theorem ak.sS {P:Program} {ops:Array Oper} {Q:Exit→Act→World→Prop} {rest:List Oper} {oi:Oper} {a:Act} {W w:World} {fv:Value} {gb base:Nat} {g:List Int→Int×List Int→Option (Int×List Int)} {A:Option Addr} {c:Nat} {xs:List Int} {b b':Int×List Int} (N:Option Tmp) (hd:oi.dst = N) (hg:oi.guard = none) (t:Tmp) {ars:Array Operand} {ts:Array TypeId}
  (hop:oi.op = .call { callee:=.value (.tmp t),args:=ars,argTypes:=ts }) (hF:ak.u0 P W fv gb base g) (hb:g xs b = some b') (hK:ak.Kp gb W w) (hJ:ak.nv w gb base b) (hC:Kd.C (Kd.int .i64) w A xs.length xs) (hc:xs.length≤c) (hv:a.eval (.tmp t) = fv) (hargs:ars.map a.eval = #[.slice A xs.length c])
  (h:∀ w',ak.nv w' gb base b'→ak.Kp gb w w'→wpList P ops Q rest (a.put N (.bool true)) w'):wpList P ops Q (oi :: rest) a w:=by
 obtain ⟨f,caps,fn,rfl,hf,hname,hbody,hcl⟩:=hF.out;refine wpList_plain hg fun K hK'=>?_
 have he:=iw hf hname hbody (#[.slice A xs.length c] ++ caps) w;have hrun:(execOp a.eval oi).run P w = .ok (.enter f (#[.slice A xs.length c] ++ caps)) w:=by
  unfold execOp;simp [hop,resolve,Deferred.ofValue,invoke,hv,hargs];simpa using he
 unfold Oper.wp;rw [hrun,Oper.upon_enter];refine (hcl A c xs b b' w hK hJ hC hc hb).mono fun e w'' hh=>?_
 obtain ⟨rfl,hj,hk⟩:=hh;subst hd;exact hK' _ _ (h _ hj hk)
mutual
def ak.l0 (g:List Int→Int×List Int→Option (Int×List Int)):Nat→Int→List Int→Int→Int×List Int→Option (Int×List Int)
 | 0,_,_,_,_=>none
 | k+1,I,y,z,b=>if z < I then ((aW.f k y z).bind fun j=>(if j = true then (ak.l0 g k I y (wrap64 (z+1)) b) else (if y.length < 17592186044416 then ((ak.f g k I (y ++ [z]) b).bind fun J=>(ak.l0 g k I y (wrap64 (z+1)) J)) else none))) else (some b)
def ak.f (g:List Int→Int×List Int→Option (Int×List Int)):Nat→Int→List Int→Int×List Int→Option (Int×List Int)
 | 0,_,_,_=>none
 | k+1,a0,l1,b=>if (l1.length:Int) = a0 then (g l1 b) else (ak.l0 g k a0 l1 0 b)
end
theorem ak.eD {g g':List Int→Int×List Int→Option (Int×List Int)} (hg:∀ x b,fl (g x b) (g' x b)):∀ k,(∀ y0 y1 y2,fl (ak.f g k y0 y1 y2) (ak.f g' (k+1) y0 y1 y2))∧(∀ y0 y1 y2 y3,fl (ak.l0 g k y0 y1 y2 y3) (ak.l0 g' (k+1) y0 y1 y2 y3))
 | 0=>⟨fun _ _ _ r h=>by simp [ak.f] at h,fun _ _ _ _ r h=>by simp [ak.l0] at h⟩
 | k+1=>by
  obtain ⟨y,j⟩:=ak.eD hg k;refine ⟨fun y0 y1 y2=>?_,fun y0 y1 y2 y3=>?_⟩
  ·unfold ak.f
   exact fl.ite (hg _ _) (j _ _ _ _)
  ·unfold ak.l0
   exact fl.ite (fl.bind (aW.mono _ _ _) fun _=>fl.ite (j _ _ _ _) (fl.ite (fl.bind (y _ _ _) fun _=>j _ _ _ _) (fl.refl _))) (fl.refl _)
theorem ak.mono {g g':List Int→Int×List Int→Option (Int×List Int)} (hg:∀ x b,fl (g x b) (g' x b)) (k:Nat) (n:Int) (l:List Int) (b:Int×List Int):fl (ak.f g k n l b) (ak.f g' (k+1) n l b):=(ak.eD hg k).1 n l b
set_option maxHeartbeats 8000000 in
set_option maxRecDepth 100000 in
theorem ak.calls {fv:Value} {gb base:Nat} {W:World} {g:List Int→Int×List Int→Option (Int×List Int)} (hF:ak.u0 Tryz.prog W fv gb base g) (k:Nat):∀ (a0:Int) (A1:Option Addr) (c1:Nat) (l1:List Int) (b r:Int×List Int) (w:World) (hK:ak.Kp gb W w) (hJ:ak.nv w gb base b) (al:∀ W_,bj w W_ gb none→Kd.C (Kd.int .i64) W_ A1 l1.length l1) (am:l1.length≤c1) (h:ak.f g k a0 l1 b = some r),
  Calls Tryz.prog 159 #[.int .i64 a0,.slice A1 l1.length c1,fv] w fun e w'=>e = .returned (.bool true)∧ak.nv w' gb base r∧ak.Kp gb w w':=by
 induction k using Nat.strongRecOn with
 | _ k ih =>
 intro a0 A1 c1 l1 b r w hK hJ al am h;cases k with
 | zero=>exact absurd h (by simp [ak.f])
 | succ k =>
 simp only [ak.f] at h;have a9:=ae.mk al;have ao:=ae.mk am;have HKK:=ae.mk hK;have aF:=ae.mk hJ;clear al am hK hJ;have H:(if (l1.length:Int) = a0 then (g l1 b) else (ak.l0 g k a0 l1 0 b)) = some r:=h;clear h;by_cases c4:(l1.length:Int) = a0
 ·rw [if_pos c4] at H
  have aL:((l1.length:Int) == a0) = true:=beq_iff_eq.mpr c4;have aO:((l1.length:Int) != a0) = false:=bne_eq_false_iff_eq.mpr c4;clear c4;have A5:=ae.mk H;clear H;go_enter Tryz.func159,Tryz.ntmps159;go_wp2_with (first | ((with_reducible refine aY (N:=14) rfl ?_);refine ak.sS (some 14) rfl rfl 12 rfl hF A5.out HKK.out aF.out (a9.out _ (bj.refl _ _ _)) ao.out rfl (by (try simp only [List.map_toArray,List.map_cons,List.map_nil]);first | done | rfl) ?_;intro w5 hj hk;have b3:=ae.mk hj;have b4:=ae.mk hk;clear hj hk));go_ret;exact ⟨rfl,b3.out,b4.out⟩
 ·rw [if_neg c4] at H
  have aL:((l1.length:Int) == a0) = false:=beq_eq_false_iff_ne.mpr c4;have aO:((l1.length:Int) != a0) = true:=bne_iff_ne.mpr c4;have H':=ae.mk H;clear H;go_enter Tryz.func159,Tryz.ntmps159;go_wp2;go_loopg [7] k (fun kq v7 w'=>∃ (j:Int) (b1:Int×List Int),v7 = .int .i64 j∧ae (ak.l0 g kq a0 l1 j b1 = some r)∧ae (kq≤k)∧ae (ak.nv w' gb base b1)∧ae (ak.Kp gb w w'))
  case atStart=>exact ⟨0,b,n0,H',⟨Nat.le_refl _⟩,aF,⟨ak.Kp.refl _ _⟩⟩
  case round =>
   clear H';obtain ⟨j,b1,rfl,HA,a6,HJ,HP⟩:=hrel;have HB:=ae.mk (Below.refl wr.heap.size wr);cases gk with
   | zero=>exact absurd HA.out (by simp [ak.l0])
   | succ k1 =>
    have H:=HA.out;clear HA;simp only [ak.l0] at H;by_cases c6:j < a0
    ·rw [if_pos c6] at H
     have aP:=decide_eq_true c6;clear c6;obtain ⟨ap,A7,H⟩:=ob H;(try dsimp only at H);by_cases c8:ap = true
     ·subst c8
      replace H:(ak.l0 g k1 a0 l1 (wrap64 (j+1)) b1) = some r:=by rw [if_pos rfl] at H;exact H
      have H':=ae.mk H;clear H;go_wp2_with (first | ((with_reducible refine aT (f:=203) rfl ?_);refine n7 (some 22) Tryz.func203 #[.slice A1 l1.length c1,.int .i64 j] ?_;(with_reducible refine (aW.calls k1 _ _ l1 j true _ ?side1 ?side2 A7.out).mono ?_);(case side1=>exact a9.out _ HP.out.k);(case side2=>exact ao.out);rintro e w' ⟨rfl,hd⟩;refine ⟨_,rfl,?_⟩;have HD:=ae.mk hd.below;clear hd));go_roundg k1;case measure=>have:=a6.out;omega
      case rel=>exact ⟨(wrap64 (j+1)),b1,n0,H',⟨by have:=a6.out;omega⟩,⟨HJ.out.below HD.out⟩,⟨HP.out.trans (ak.Kp.of HD.out HJ.out.lt)⟩⟩
     ·replace c8:=Bool.eq_false_iff.mpr c8
      subst c8;replace H:(if l1.length < 17592186044416 then ((ak.f g k1 a0 (l1 ++ [j]) b1).bind fun b1=>(ak.l0 g k1 a0 l1 (wrap64 (j+1)) b1)) else none) = some r:=by rw [if_neg (show ¬ (false = true) by decide)] at H;exact H
      obtain ⟨c9,H⟩:=nz H;obtain ⟨a1,y⟩:∃ y_:List Int,y_ = (([]:List Int)):=⟨_,rfl⟩
      have aR:=ae.mk (show a1.length+l1.length < 17592186044416 by rw [y,List.length_nil,Nat.zero_add];exact c9);have a3:=ae.mk y;obtain ⟨z,I⟩:∃ y_:List Int,y_ = (a1 ++ l1):=⟨_,rfl⟩
      have a2:z = l1:=by rw [I,y,List.nil_append]
      have ar:=ae.mk (show z.length < 17592186044416 by rw [a2];exact c9);have aa:=ae.mk I;obtain ⟨J,U⟩:∃ y_:List Int,y_ = (z ++ [j]):=⟨_,rfl⟩
      replace H:((ak.f g k1 a0 J b1).bind fun b1=>(ak.l0 g k1 a0 l1 (wrap64 (j+1)) b1)) = some r:=by rw [U,a2];exact H
      have ab:=ae.mk U;clear U I y a2 c9;obtain ⟨b2,ba,H⟩:=ob H;(try dsimp only at H);have H':=ae.mk H;clear H;go_wp2_with (first | ((with_reducible refine aT (f:=203) rfl ?_);refine n7 (some 22) Tryz.func203 #[.slice A1 l1.length c1,.int .i64 j] ?_;(with_reducible refine (aW.calls k1 _ _ l1 j false _ ?side1 ?side2 A7.out).mono ?_);(case side1=>exact a9.out _ HP.out.k);(case side2=>exact ao.out);rintro e w' ⟨rfl,⟨nd,rfl⟩⟩;refine ⟨_,rfl,?_⟩) | ((with_reducible refine aY (N:=26) rfl ?_);(try (refine cF (by rfl) ?_;dsimp only));refine Kd.nW (Kd.int .i64) _ 3 ?hg (N:=26) ?hd (xs:=([]:List Int)) (inner:=[]) (ok:=fun _=>True) (okp:=fun _=>True) ?hr ?hp (fun _ hk=>hk) trivial (Below.refl _ _) (Nat.le_refl _) (by simp) ?_;(case hd=>rfl);(case hg=>rfl);(case hr=>first | (go_simp;done) | (go_simp;rfl));(case hp=>exact (ck.none _ _));intro aw c0 Y hb bc aB;clear bc aB;(first | rw [← a3.out] at Y | (simp only [Int.reduceToNat] at Y;rw [← a3.out] at Y));have a4:=ae.mk (Kd.bJ Y (an (mx HB.out)));replace HB:=nb HB hb;clear hb Y) | ((with_reducible refine cB (b:=.append) (xs:=#[.tmp 26,.tmp 27]) rfl ?_);(try (refine cF (by rfl) ?_;dsimp only));at_builtin;refine Kd.fU (Kd.int .i64) (w0:=wr) wr.heap.size rfl (.tmp 26) (.tmp 27) 24 3 (.int .i64 0) 8 rfl Tryz.underlying24 eC rfl (by decide) (by omega) aw a1 l1 _ _ _ (fun _=>True) (fun _=>False) rfl rfl (by exact ac a4.out) (by exact a9.out _ (HP.out.k.trans (bj.fH (mx HB.out) gb none) (.inl rfl))) (fun _ _ h=>h) (fun _ h=>h.elim) (by exact fun _ _=>trivial) (by exact mx HB.out) (by exact an (mx HB.out)) (by have:=aR.out;omega) ?_;intro aE ca ho hb hg hat;rw [← aa.out] at ho;have a7:=ae.mk hb;have a8:=ae.mk ho;clear HB;clear a4;have HB:=a7;have a5:=a8;clear a7 a8;clear ho hb hg hat) | ((with_reducible refine cB (b:=.append) (xs:=#[.tmp 28,.tmp 30]) rfl ?_);(try (refine cF (by rfl) ?_;dsimp only));at_builtin;refine Kd.fI (Kd.int .i64) (w0:=wr) wr.heap.size rfl (.tmp 28) (.tmp 30) 24 3 (.int .i64 0) 8 rfl Tryz.underlying24 eC rfl (by decide) (by omega) aE z j [.int .i64 j] (fun _=>True) (fun _=>False) rfl rfl (by exact rfl) (fun _ hk=>hk.elim) (by exact fun _ _=>trivial) (by exact ac a5.out) (by exact mx HB.out) (by exact an (mx HB.out)) (by have:=ar.out;omega) ?_;intro bd bi ho hb hg hat;rw [← ab.out] at ho;have a7:=ae.mk hb;have a8:=ae.mk ho;clear HB;clear a5;have HB:=a7;have X:=a8;clear a7 a8;clear ho hb hg hat;obtain ⟨aS,bv,b0⟩:=Kd.bC X.out;subst b0;have bk:=ae.mk (show ∀ W_,bj bi W_ gb none→Kd.C (Kd.int .i64) W_ aS J.length J from fun W_ bm=>(Kd.aH (Kd.pO (Kd.aZ (ok':=fun k_=>k_≠gb) (Kd.ek (M:=fun k_=>(wr.heap.size≤k_)) X.out (Nat.le_refl _) (fun k_ h_=>h_)) (fun k_ h_=>by have cb:=HJ.out.lt;have cc:=h_.1;omega)) bm (fun k_ h_=>h_))).2.2)) | (go_at_call 159;(refine (ih k1 (by have:=a6.out;omega) a0 _ _ J b1 b2 _ ?side1 ?side2 ?side3 ?side4 ba.out).mono ?_);(case side1=>exact HKK.out.trans (HP.out.trans (ak.Kp.of (mx HB.out) HJ.out.lt)));(case side2=>exact HJ.out.below (mx HB.out));(case side3=>exact bk.out);(case side4=>exact (Kd.aH X.out).2.1);rintro e cd ⟨rfl,hj,hk⟩;have bo:=ae.mk hj;have bs:=ae.mk ((HP.out.trans (ak.Kp.of (mx HB.out) HJ.out.lt)).trans hk);clear hj hk));go_roundg k1;case measure=>have:=a6.out;omega
      case rel=>exact ⟨(wrap64 (j+1)),b2,n0,H',⟨by have:=a6.out;omega⟩,bo,bs⟩
    ·rw [if_neg c6] at H
     have aP:decide (j < a0) = false:=decide_eq_false c6;clear c6;obtain rfl:=Option.some.inj H;go_wp2;go_ret;exact ⟨rfl,HJ.out,HP.out⟩
def b8.l0:Nat→List Int→Int→List Int→Int→Int→Option (Int)
 | 0,_,_,_,_,_=>none
 | k+1,I,J,y,z,j=>if j < z then (if 0≤j then (if j < (y.length:Int) then (if 0≤(rd y j) then (if (rd y j) < (I.length:Int) then (if 0≤(rd I (rd y j)) then (b8.l0 k I (Go.bits .or .i64 J (shl .i64 1 (rd I (rd y j)))) y z (wrap64 (j+1))) else (none)) else (none)) else (none)) else (none)) else (none)) else (some J)
def b8.f (k:Nat) (l0:List Int) (j:Int):Option (Int):=(aJ.f k j).bind fun t152=>(b8.l0 k l0 0 t152 (t152.length:Int) 0)
theorem b8.eD:∀ k,af.S5 b8.l0 k
 | 0=>by and_intros <;> (repeat intro _) <;> exact af.mz rfl
 | k+1=>by
  have j:=b8.eD k;and_intros <;> (repeat intro _) <;> unfold b8.l0 <;> exact ⟨pp⟩
theorem b8.mono:∀ a0 j k,fl (b8.f k a0 j) (b8.f (k+1) a0 j):=by
 intro a0 j k;have y:=b8.eD k;unfold b8.f;exact pp
instance b8.m:af.V2 b8.f:=fun _ _ _=>⟨b8.mono _ _ _⟩
set_option maxHeartbeats 8000000 in
set_option maxRecDepth 100000 in
theorem b8.calls (k:Nat) (A0:Option Addr) (c0:Nat) (l0:List Int) (a1:Int) (r:Int) (w:World) (a2:Kd.C (Kd.int .i64) w A0 l0.length l0) (a3:l0.length≤c0) (h:b8.f k l0 a1 = some r) :
  Calls Tryz.prog 208 #[.slice A0 l0.length c0,.int .i64 a1] w fun e w'=>e = .returned (.int .i64 r)∧Below w.heap.size w w':=by
 have ap:=ae.mk a2;have bc:=ae.mk a3;clear a2 a3;have HB:=ae.mk (Below.refl w.heap.size w);unfold b8.f at h;have H:=h;clear h;obtain ⟨t152,A3,H⟩:=ob H;(try dsimp only at H);have H':=ae.mk H;clear H;go_enter Tryz.func208,Tryz.ntmps208;go_wp2_with (first | (refine n7 (some 9) Tryz.func73 #[.int .i64 a1] ?_;(with_reducible refine (aJ.calls k a1 t152 _ A3.out).mono ?_);rintro e w4 ⟨aR,rfl,a4,hb⟩;refine ⟨_,rfl,?_⟩;have X:=ae.mk (Kd.bJ a4 (an (mx HB.out)));replace HB:=nb HB hb;(try clear hb);(try clear bd);(try clear hk);(try clear hi);(try clear a4);obtain ⟨ar,aw,aB⟩:=Kd.bC X.out;subst aB));go_loopg [5,11] k (fun kq v5 v11 w'=>∃ (J:Int) (j:Int),v5 = .int .i64 J∧v11 = .int .i64 j∧ae (b8.l0 kq l0 J t152 (t152.length:Int) j = some r)∧ae (kq≤k)∧ae (Kd.R (Kd.int .i64) 3 w' w.heap.size (fun _=>True) (.slice ar t152.length aw) t152)∧ae (Below w.heap.size w w'))
 case atStart=>exact ⟨(0),(0),n0,n0,H',⟨Nat.le_refl _⟩,⟨ac X.out⟩,⟨mx HB.out⟩⟩
 case round =>
  clear H';obtain ⟨J,j,rfl,rfl,HA,a5,Y,HB⟩:=hrel;cases gk with
  | zero=>exact absurd HA.out (by simp [b8.l0])
  | succ k1 =>
   have H:=HA.out;clear HA;simp only [b8.l0] at H;by_cases c6:j < (t152.length:Int)
   ·rw [if_pos c6] at H
    have a6:=decide_eq_true c6;clear c6;obtain ⟨c7,H⟩:=nz H;have aS:=decide_eq_true c7;clear c7;obtain ⟨c8,H⟩:=nz H;have b0:=decide_eq_true c8;clear c8;obtain ⟨c9,H⟩:=nz H;have b1:=decide_eq_true c9;clear c9;obtain ⟨iM,H⟩:=nz H;have aE:=decide_eq_true iM;clear iM;obtain ⟨a0,H⟩:=nz H;have aF:=eq_true a0;have aL:decide (0≤(rd l0 (rd t152 j))) = true:=decide_eq_true a0;clear a0;obtain ⟨y,z⟩:∃ j_:Int,(shl .i64 1 (rd l0 (rd t152 j))) = j_:=⟨_,rfl⟩
    replace H:(b8.l0 k1 l0 (Go.bits .or .i64 J (y)) t152 (t152.length:Int) (wrap64 (j+1))) = some r:=by first | (rw [z] at H;exact H) | (simp only [z] at H ⊢;exact H)
    have M:(IntKind.i64.wrap (1 * 2 ^ min (rd l0 (rd t152 j)).toNat 64)) = y:=z;have U:(rd l0 (rd t152 j))≤64→(IntKind.i64.wrap (1 * 2 ^ (rd l0 (rd t152 j)).toNat)) = y:=ec z;have ab:(IntKind.i64.wrap (2 ^ min (rd l0 (rd t152 j)).toNat 64)) = y:=by have h_:=M;rw [Int.one_mul] at h_;exact h_
    have al:(rd l0 (rd t152 j))≤64→(IntKind.i64.wrap (2 ^ (rd l0 (rd t152 j)).toNat)) = y:=fun a7=>by have h_:=U a7;rw [Int.one_mul] at h_;exact h_
    have am:(wrap64 (1 * 2 ^ min (rd l0 (rd t152 j)).toNat 64)) = y:=(bq _).symm.trans M;have ao:(rd l0 (rd t152 j))≤64→(wrap64 (1 * 2 ^ (rd l0 (rd t152 j)).toNat)) = y:=fun h_=>(bq _).symm.trans (U h_)
    have H':=ae.mk H;clear H;obtain ⟨aO,a8,a9,b2,b3⟩:=oY (Kd.aH Y.out).2.2 j;cases a8
    obtain ⟨aP,aa,I,b4,ba⟩:=oY ap.out (rd t152 j);cases aa
    (try replace I:=(HB.out.cell (World.block_lt_of_cell? w _ I)).trans I);go_wp2;go_roundg k1;case measure=>have:=a5.out;omega
    case rel=>exact ⟨(Go.bits .or .i64 J (y)),(wrap64 (j+1)),(by first | rfl | (simp;done) | (simp only [← z] <;> (first | rfl | simp)) | (simp [*];done)),n0,H',⟨by have:=a5.out;omega⟩,⟨ac Y.out⟩,⟨mx HB.out⟩⟩
   ·rw [if_neg c6] at H
    have a6:decide (j < (t152.length:Int)) = false:=decide_eq_false c6;clear c6;obtain rfl:=Option.some.inj H;go_wp2;go_ret;exact ⟨pa,n1⟩
end Pr
end
section
namespace Lay
open Go.Shelf Go.Proofs
def lW:Go.Shelf.Ren:=⟨fun | 189=>244 | 125=>165 | 257=>268 | 128=>219 | 129=>220 | 294=>277 | 295=>278 | 296=>279 | 297=>280 | 298=>281 | 299=>282 | 216=>283 | 300=>284 | 301=>285 | 328=>291 | 329=>248 | 330=>249 | 331=>292 | 332=>293 | 215=>246 | 343=>297 | n=>n,fun | 28=>24 | 3=>3 | 46=>105 | 0=>0 | 51=>155 | 53=>157 | 4=>4 | 183=>149 | 182=>148 | 131=>51 | 5=>5 | 9=>9 | 218=>167 | 222=>171 | 228=>182 | 229=>45 | n=>n,fun | n=>n⟩
theorem mL:Go.Proofs.Lays.n189 Tryz.prog lW:={
 mixed:=by kernel_rfl
 f125:=Tryz.func165.trans (congrArg some (by kernel_rfl))
 f128:=Tryz.func219.trans (congrArg some (by kernel_rfl))
 f129:=Tryz.func220.trans (congrArg some (by kernel_rfl))
 f189:=Tryz.func244.trans (congrArg some (by kernel_rfl))
 f215:=Tryz.func246.trans (congrArg some (by kernel_rfl))
 f216:=Tryz.func283.trans (congrArg some (by kernel_rfl))
 f257:=Tryz.func268.trans (congrArg some (by kernel_rfl))
 f294:=Tryz.func277.trans (congrArg some (by kernel_rfl))
 f295:=Tryz.func278.trans (congrArg some (by kernel_rfl))
 f296:=Tryz.func279.trans (congrArg some (by kernel_rfl))
 f297:=Tryz.func280.trans (congrArg some (by kernel_rfl))
 f298:=Tryz.func281.trans (congrArg some (by kernel_rfl))
 f299:=Tryz.func282.trans (congrArg some (by kernel_rfl))
 f300:=Tryz.func284.trans (congrArg some (by kernel_rfl))
 f301:=Tryz.func285.trans (congrArg some (by kernel_rfl))
 f328:=Tryz.func291.trans (congrArg some (by kernel_rfl))
 f329:=Tryz.func248.trans (congrArg some (by kernel_rfl))
 f330:=Tryz.func249.trans (congrArg some (by kernel_rfl))
 f331:=Tryz.func292.trans (congrArg some (by kernel_rfl))
 f332:=Tryz.func293.trans (congrArg some (by kernel_rfl))
 f343:=Tryz.func297.trans (congrArg some (by kernel_rfl))
 t0:=Tryz.underlying0
 a0:=Tryz.isAgg0
 z0:=Tryz.sizeOf0
 v0:=Tryz.zeroValue0
 t3:=Tryz.underlying3
 a3:=Tryz.isAgg3
 z3:=Tryz.sizeOf3
 v3:=Tryz.zeroValue3
 t4:=Tryz.underlying4
 a4:=Tryz.isAgg4
 z4:=Tryz.sizeOf4
 v4:=Tryz.zeroValue4
 t5:=Tryz.underlying5
 a5:=Tryz.isAgg5
 z5:=Tryz.sizeOf5
 v5:=Tryz.zeroValue5
 t9:=Tryz.underlying9
 a9:=Tryz.isAgg9
 z9:=Tryz.sizeOf9
 v9:=Tryz.zeroValue9
 t28:=Tryz.underlying24
 a28:=Tryz.isAgg24
 z28:=Tryz.sizeOf24
 v28:=Tryz.zeroValue24
 t46:=Tryz.underlying105
 a46:=Tryz.isAgg105
 z46:=Tryz.sizeOf105
 v46:=Tryz.zeroValue105
 t51:=Tryz.underlying155
 a51:=Tryz.isAgg155
 z51:=Tryz.sizeOf155
 v51:=Tryz.zeroValue155
 t53:=Tryz.underlying157
 a53:=Tryz.isAgg157
 z53:=Tryz.sizeOf157
 v53:=Tryz.zeroValue157
 t131:=Tryz.underlying51
 a131:=Tryz.isAgg51
 z131:=Tryz.sizeOf51
 v131:=Tryz.zeroValue51
 t182:=Tryz.underlying148
 a182:=Tryz.isAgg148
 z182:=Tryz.sizeOf148
 v182:=Tryz.zeroValue148
 t183:=Tryz.underlying149
 a183:=Tryz.isAgg149
 z183:=Tryz.sizeOf149
 v183:=Tryz.zeroValue149
 t218:=Tryz.underlying167
 a218:=Tryz.isAgg167
 z218:=Tryz.sizeOf167
 v218:=Tryz.zeroValue167
 t222:=Tryz.underlying171
 a222:=Tryz.isAgg171
 z222:=Tryz.sizeOf171
 v222:=Tryz.zeroValue171
 t228:=Tryz.underlying182
 a228:=Tryz.isAgg182
 z228:=Tryz.sizeOf182
 v228:=Tryz.zeroValue182
 t229:=Tryz.underlying45
 a229:=Tryz.isAgg45
 z229:=Tryz.sizeOf45
 v229:=Tryz.zeroValue45 }
def jR:Go.Shelf.Ren:=⟨fun | 20=>245 | n=>n,fun | 22=>24 | 3=>3 | 4=>4 | 0=>0 | n=>n,fun | n=>n⟩
theorem jM:Go.Proofs.Lays2.n20 Tryz.prog jR:={
 mixed:=by kernel_rfl
 f20:=Tryz.func245.trans (congrArg some (by kernel_rfl))
 t0:=Tryz.underlying0
 a0:=Tryz.isAgg0
 z0:=Tryz.sizeOf0
 v0:=Tryz.zeroValue0
 t3:=Tryz.underlying3
 a3:=Tryz.isAgg3
 z3:=Tryz.sizeOf3
 v3:=Tryz.zeroValue3
 t4:=Tryz.underlying4
 a4:=Tryz.isAgg4
 z4:=Tryz.sizeOf4
 v4:=Tryz.zeroValue4
 t22:=Tryz.underlying24
 a22:=Tryz.isAgg24
 z22:=Tryz.sizeOf24
 v22:=Tryz.zeroValue24
 i3:=by kernel_rfl }
end Lay
end
section
namespace jn
open Go.RowKit Go.Shelf Go.Sort ag.aX
def sorted (xs:List Int):List Int:=xs.mergeSort fun x y=>decide (x≤y)
theorem fV (xs:List Int):(sorted xs).length = xs.length:=List.length_mergeSort xs
theorem kx {w:World} {base:Nat} {ok:Nat→Prop} {v:Value} {xs:List Int} (h:(Kd.int .i64).R 3 w base ok v xs) (hs:xs.length < 4611686018427387904) :
  Calls Tryz.prog 244 #[v] w fun e w'=>e = .returned (.tuple #[])∧(Kd.int .i64).R 3 w' base ok v (sorted xs)∧(∀ w0:World,Below base w0 w→Below base w0 w')∧w.grownBy w' v.ownBlock:=by
 have ho:=Kd.j7 h;rcases ho.2 with ⟨rfl,I⟩ | ⟨g,cap,cur,rfl,hbase,hb,h1,h2,h3,h4⟩
 ·have hx:xs = []:=List.length_eq_zero_iff.1 I
  subst hx;refine (Any.slices_Sort_int_none Lay.mL none 0 w).mono ?_;rintro e w' ⟨rfl,rfl⟩
  exact ⟨rfl,by simpa [sorted] using h,fun _ hb=>hb,⟨rfl,rfl,rfl,Nat.le_refl _,fun _ _ _=>rfl⟩⟩
 ·have hH:Holds (Value.int .i64) w g 0 xs.toArray:=by
   obtain ⟨g',cap',he,_,_,_,_,_,hH⟩:=Lib.holds_of_ownsRow ho (by simp);injection he with y _ _
   injection y with y
   injection y with y _ _
   subst y;exact hH
  have hlt:g < w.heap.size:=(Array.getElem?_eq_some_iff.1 hb).1;refine (Any.slices_Sort_int Lay.mL g 0 cap xs w hH hlt hs).mono ?_;rintro e w' ⟨rfl,n,os,rfl⟩
  have hown:=ownsRow_sortedI (n:=n) (os:=os) (ts:=sorted xs) (fV xs) hbase hb h1 h2 h3;rw [← fV xs] at hown;have hg:w.grownBy (grow (putRow (Value.int .i64) (Sort.ahead w n) g 0 (sorted xs).toArray) os) (some g):=grownBy_sortedI _;refine ⟨rfl,?_,fun w0 z=>?_,?_⟩
  ·have:=Kd.kj (enc:=Value.int .i64) (h1:=fun _=>rfl) (ok:=ok) hown (fun k hk=>h.1 k (by simpa [Value.ownBlock] using hk))
   rw [fV xs] at this;exact this
  ·exact z.grown hg (by omega) (fun j hj=>by cases hj;exact hbase)
  ·exact hg
theorem kT {w:World} {base:Nat} {ok:Nat→Prop} {v:Value} {xs:List Int} (h:(Kd.int .i64).R 3 w base ok v xs) (hs:xs.length≤9223372036854775807) :
  Calls Tryz.prog 245 #[v] w fun e w'=>∃ v',e = .returned v'∧(Kd.int .i64).R 3 w' base ok v' (Lib.compact xs)∧(∀ w0:World,Below base w0 w→Below base w0 w'):=by
 have ho:=Kd.j7 h;rcases ho.2 with ⟨rfl,z⟩ | ⟨g,cap,cur,rfl,hbase,hb,h1,h2,h3,h4⟩
 ·have hx:xs = []:=List.length_eq_zero_iff.1 z
  subst hx;refine (Any.slices_Compact_int_empty Lay.jM none 0 w).mono ?_;rintro e w' ⟨rfl,rfl⟩
  exact ⟨_,rfl,by simpa [Lib.compact,Lib.compactUpTo] using h,fun _ hb=>hb⟩
 ·have hH:Holds (Value.int .i64) w g 0 xs.toArray:=by
   obtain ⟨g',cap',he,_,_,_,_,_,hH⟩:=Lib.holds_of_ownsRow ho (by simp);injection he with j _ _
   injection j with j
   injection j with j _ _
   subst j;exact hH
  refine (Any.slices_Compact_int Lay.jM g 0 cap xs w hH hs h1).mono ?_;rintro e w' ⟨rfl,q,rfl⟩
  have hle:=Lib.compact_length_le xs;have hc:=Lib.ownsRow_putRow (q:=q) (k:=(Lib.compact xs).length) (ys:=Lib.compact xs ++ List.replicate (xs.length - (Lib.compact xs).length) 0) ho (by simp;omega) hle;rw [List.take_left] at hc;refine ⟨_,rfl,?_,fun w0 y=>Lib.below_putRow y hbase⟩;exact Kd.kj (enc:=Value.int .i64) (h1:=fun _=>rfl) (ok:=ok) hc (fun k hk=>h.1 k (by simpa [Value.ownBlock] using hk))
end jn
end
section
namespace Pr
open Go.RowKit ag.aX ag.bQ ag.bR
attribute [local go_sem] fK fL gh gi fb fc fM fN
set_option linter.unusedVariables false
set_option linter.unusedSimpArgs false
def ep.f (l0:List Int):Option (List Int):=if l0.length < 17592186044416 then (some (Lib.compact (jn.sorted l0))) else (none)
set_option maxHeartbeats 8000000 in
set_option maxRecDepth 100000 in
theorem ep.calls (A0:Option Addr) (c0:Nat) (l0:List Int) (r:List Int) (w:World) (z:Kd.C (Kd.int .i64) w A0 l0.length l0) (I:l0.length≤c0) (h:ep.f l0 = some r) :
  Calls Tryz.prog 209 #[.slice A0 l0.length c0] w fun e w'=>∃ J:Value,e = .returned (J)∧Kd.R (Kd.int .i64) 3 w' w.heap.size (fun _=>True) J r∧Below w.heap.size w w':=by
 unfold ep.f at h;by_cases hl:l0.length < 17592186044416
 ·rw [if_pos hl] at h
  obtain rfl:=Option.some.inj h;have HL:=ae.mk hl;have HR:=ae.mk z;have HC:=ae.mk I;clear z I h hl;go_enter Tryz.func209,Tryz.ntmps209;go_wp2_with (first | (refine af.lt (Kd.int .i64) 3 4 ?_;intro v4 w1 M j a6 y;have a7:=ae.mk M;have U:=ae.mk j;have a8:=ae.mk (Kd.aQ HR.out j);clear a6 y M j) | ((with_reducible refine cB (b:=.append) (xs:=#[.tmp 4,.tmp 5]) rfl ?_);at_builtin;refine Kd.fU (Kd.int .i64) (w0:=w) w.heap.size rfl (.tmp 4) (.tmp 5) 24 3 (.int .i64 0) 8 rfl Tryz.underlying24 eC rfl (by decide) (by omega) v4 ([]:List Int) l0 _ _ _ (fun _=>True) (fun _=>False) rfl rfl a7.out a8.out (fun _ _ h=>h) (fun _ h=>h.elim) (fun _ _=>trivial) U.out U.out.size (by have:=HL.out;simp;omega) ?_;intro v6 w2 X Y a9 a0;have a1:=ae.mk X;have aa:=ae.mk Y;clear X Y a9 a0;simp only [List.nil_append] at a1) | (refine n7 (some 8) Tryz.func244 #[v6] ?_;(with_reducible refine (jn.kx a1.out (by have:=HL.out;omega)).mono ?_);rintro e w3 ⟨rfl,a2,a3,ab⟩;refine ⟨_,rfl,?_⟩;have al:=ae.mk a2;have am:=ae.mk (a3 w aa.out);clear a2 a3 ab) | (refine n7 (some 10) Tryz.func245 #[v6] ?_;(with_reducible refine (jn.kT al.out (by have:=HL.out;have:=jn.fV l0;omega)).mono ?_);rintro e w4 ⟨v10,rfl,a4,a5⟩;refine ⟨_,rfl,?_⟩;have ao:=ae.mk a4;have ap:=ae.mk (a5 w am.out);clear a4 a5));go_ret;exact ⟨_,rfl,ao.out,ap.out⟩
 ·rw [if_neg hl] at h
  exact absurd h (by simp)
def b5.l0:Nat→List Int→List Int→Int→Int→Int→List Int→Option (Int×List Int)
 | 0,_,_,_,_,_,_=>none
 | k+1,X,I,J,z,y,j=>if z < J then (if 0≤z then (if z < (I.length:Int) then ((b8.f k X (rd I z)).bind fun M=>(if j.length < 17592186044416 then (b5.l0 k X I J (wrap64 (z+1)) y (j ++ [M])) else (none))) else (none)) else (none)) else ((ep.f j).bind fun U=>(some (y,U)))
def b5.f (k:Nat) (y:Int) (j:List Int) (l1:List Int):Option (Int×List Int):=b5.l0 k l1 j (j.length:Int) 0 y ([]:List Int)
theorem b5.eD:∀ k,af.S6 b5.l0 k
 | 0=>by and_intros <;> (repeat intro _) <;> exact af.mz rfl
 | k+1=>by
  have j:=b5.eD k;and_intros <;> (repeat intro _) <;> unfold b5.l0 <;> exact ⟨pp⟩
theorem b5.mono:∀ a0 j a2 k,fl (b5.f k a0 j a2) (b5.f (k+1) a0 j a2):=by
 intro a0 j a2 k;have y:=b5.eD k;unfold b5.f;exact pp
instance b5.m:af.V3 b5.f:=fun _ _ _ _=>⟨b5.mono _ _ _ _⟩
def b5.T5:Bool×List (List Nat×List Nat):=(true,[([],[]),([0],[0]),([],[]),([],[]),([2,3],[2,3]),([4],[4]),([1,5,4],[1,5]),([0,1,2,3,4,5,6],[]),([7,6,6,0,1,2,3,4,5,6],[6,7])])
def b5.B5:List Nat:=[0,1,0,0,12,28,63,127,255]
theorem b5.u4:fe .any (opsOf Tryz.f161 5) = b5.T5:=by kernel_rfl
theorem b5.tJ:eK b5.T5.2 b5.B5 = true:=by kernel_rfl
set_option maxHeartbeats 8000000 in
set_option maxRecDepth 100000 in
theorem b5.calls (k:Nat) (Y:Int) (al:Option Addr) (aa:Nat) (M:List Int) (A1:Option Addr) (c1:Nat) (l1:List Int) (r1:Int) (r2:List Int) (w:World) (aw:Kd.C (Kd.int .i64) w al M.length M) (aE:M.length≤aa) (bv:Kd.C (Kd.int .i64) w A1 l1.length l1) (c0:l1.length≤c1) (h:b5.f k Y M l1 = some (r1,r2)) :
  Calls Tryz.prog 161 #[.agg #[.int .i64 Y,.slice al M.length aa],.slice A1 l1.length c1] w fun e w'=>∃ ca:Value,e = .returned (.agg #[.int .i64 r1,ca])∧Kd.R (Kd.int .i64) 3 w' w.heap.size (fun _=>True) ca r2∧Below w.heap.size w w':=by
 have f9:=Tryz.underlying26;have bd:=ae.mk aw;have ea:=ae.mk aE;clear aw aE;have eb:=ae.mk bv;have ed:=ae.mk c0;clear bv c0;have HB:=ae.mk (Below.refl w.heap.size w);unfold b5.f at h;have H:=h;clear h;have H':=ae.mk H;clear H;go_enter Tryz.func161,Tryz.ntmps161;go_wp2_with (first | (refine oX 2 #[.int .i64 Y,.slice al M.length aa] 26 ?_;intro aR hg w3 hbox hb;have z:=ae.mk hbox;have ee:=na hg HB;have ef:=na hg HB;replace HB:=nb HB hb;clear hb hbox hg) | (refine oX 4 #[.int .i64 0,.slice none 0 0] 26 ?_;intro a5 hg w4 hbox hb;have I:=ae.mk hbox;have eg:=pl (w:=w) hg n1;have eh:=pl (w:=w) hg n1;replace HB:=ae.mk (aA n1 hb);have a6:=ph hg z;have a7:=pi hg z;replace z:=nm z hb;clear hb hbox hg;have fd:=a6.out;have fi:=a7.out;obtain ⟨e2,e3,e4,e8⟩:=no z.out) | (refine oX 5 #[.int .i64 0,.slice none 0 0] 26 ?_;intro a0 hg w7 hbox hb;have y:=ae.mk hbox;have el:=pl (w:=w) hg n1;have em:=pl (w:=w) hg n1;replace HB:=ae.mk (aA n1 hb);have a1:=ph hg z;have a2:=pi hg z;replace z:=nm z hb;have a3:=ph hg I;have a4:=pi hg I;replace I:=nm I hb;clear hb hbox hg;have fj:=a2.out;have fp:=a1.out;have fs:=a4.out;have ft:=a3.out;obtain ⟨cb,cc,cd,ce⟩:=no y.out;obtain ⟨cf,ch,ci,cl⟩:=no z.out));go_loopg [14] k (fun kq eo w'=>∃ (X:Int) (J:List Int) (U:Value),eo = .int .i64 X∧ae (b5.l0 kq l1 M (M.length:Int) X Y J = some (r1,r2))∧ae (kq≤k)∧ae (Kd.R (Kd.int .i64) 3 w' w.heap.size (fun _=>True) U J)∧ae (w'.heap[aR]? = some (.cells #[.int .i64 Y,(.slice al M.length aa)] 26 (0,0)))∧ae (w'.heap[a5]? = some (.cells #[.int .i64 0,(.slice none 0 0)] 26 (0,0)))∧ae (w'.heap[a0]? = some (.cells #[.int .i64 Y,U] 26 (0,0)))∧ae (Below w.heap.size w w'))
 case atStart=>exact ⟨(0),(([]:List Int)),(.slice none 0 0),n0,H',⟨Nat.le_refl _⟩,⟨af.N⟩,⟨pd⟩,⟨pd⟩,⟨pd⟩,⟨n1⟩⟩
 case round =>
  clear H';obtain ⟨X,J,U,rfl,HA,co,j,z,I,y,HB⟩:=hrel;cases gk with
  | zero=>exact absurd HA.out (by simp [b5.l0])
  | succ k1 =>
   have H:=HA.out;clear HA;simp only [b5.l0] at H;by_cases ar:X < (M.length:Int)
   ·rw [if_pos ar] at H
    have bi:=decide_eq_true ar;clear ar;obtain ⟨cp,H⟩:=nz H;have eq:=decide_eq_true cp;clear cp;obtain ⟨cr,H⟩:=nz H;have es:=decide_eq_true cr;clear cr;obtain ⟨am,et,H⟩:=ob H;(try dsimp only at H);obtain ⟨cx,H⟩:=nz H;have bk:=ae.mk cx;clear cx;obtain ⟨ao,ab⟩:∃ y_:List Int,y_ = (J ++ [am]):=⟨_,rfl⟩
    replace H:(b5.l0 k1 l1 M (M.length:Int) (wrap64 (X+1)) Y ao) = some (r1,r2):=by (try rw [ab]);exact pf
    have bm:=ae.mk ab;clear ab;have H':=ae.mk H;clear H;obtain ⟨bo,cy,a8,fw,fx⟩:=oY bd.out X;cases cy
    (try replace a8:=(HB.out.cell (World.block_lt_of_cell? w _ a8)).trans a8);(try go_wp2);replace j:=ae.mk (Kd.dK j.out);replace z:=ae.mk (dW z.out);replace I:=ae.mk (dW I.out);replace y:=ae.mk (dW y.out);replace HB:=ae.mk (ct HB.out);refine ez (n:=9) (S:=fun w'=>w'.cell? ⟨a0,0,none⟩ = some (.int .i64 Y)∧w'.cell? ⟨a0,1,none⟩ = some (U)) (ds:=[8]) #[false,false,false,false,false,false,false,false,false] (by kernel_rfl) rfl rfl ⟨(ah y.out 0).trans rfl,(ah y.out 1).trans rfl⟩ (fun hHeld=>?_);refine dh b5.u4 b5.tJ (fun a9 eu=>?_);generalize wr.drew = g0 at j z I y HB hHeld ⊢;refine n8 0 18 a9 ?_;refine n8 2 20 a9 ?_;refine n8 3 21 a9 ?_;refine pm 1 19 a9 eu hHeld ?_;refine fm (i:=4) (N:=some 22) #[true,true,true,true,true,false,false,false,false] rfl rfl (dn a9.out (by kernel_rfl)) (by decide) (fun K hK=>?_);refine jd Tryz.func208 (by kernel_rfl) rfl #[.slice A1 l1.length c1,.int .i64 (rd M X)] (by rfl) rfl rfl (by (try simp only [List.map_toArray,List.map_cons,List.map_nil]);first | done | rfl) ?_;with_reducible refine (b8.calls k1 _ _ l1 (rd M X) am _ ?side1 ?side2 et.out).mono ?_
    (case side1=>exact ol (Kd.aQ eb.out HB.out));(case side2=>exact ed.out);rintro e g1 ⟨rfl,hb⟩
    refine ⟨_,rfl,?_⟩;replace j:=pj j hb;replace z:=nm z hb;replace I:=nm I hb;replace y:=nm y hb;replace HB:=ae.mk (aA n1 hb);(try clear hb);(try clear ev);(try clear hk);(try clear hi);refine hK.out _ _ ⟨(ah y.out 0).trans rfl,(ah y.out 1).trans rfl⟩ (fun hHeld=>?_);clear hK K;refine cg (a':=?_) ?_ ?_;rotate_left
    ·show Act.put _ (some 22) _ = _
     simp only [Act.put,List.setIfInBounds_toArray,List.set_cons_zero,List.set_cons_succ,bq,bS];rfl
    refine fm (i:=5) (N:=some 23) #[true,true,true,true,true,true,false,false,false] rfl rfl (dn a9.out (by kernel_rfl)) (by decide) (fun K hK=>?_);refine nr (w1:=?_) (v:=?_) (by rfl) rfl ?_ ?_;rotate_left 2
    ·go_simp
     constructor
     ·rfl
     ·rfl
    refine hK.out _ _ ⟨(ah (jr y.out _) 0).trans rfl,(ah (jr y.out _) 1).trans rfl⟩ (fun hHeld=>?_);clear hK K;refine cg (a':=?_) ?_ ?_;rotate_left
    ·show Act.put _ (some 23) _ = _
     simp only [Act.put,List.setIfInBounds_toArray,List.set_cons_zero,List.set_cons_succ,bq,bS];rfl
    refine fm (i:=6) (N:=some 24) #[true,true,true,true,true,true,true,false,false] rfl rfl (dn a9.out (by kernel_rfl)) (by decide) (fun K hK=>?_);refine Kd.gI (Kd.int .i64) (w0:=w) w.heap.size (by rfl) (.tmp 19) (.tmp 23) 24 3 (.int .i64 0) 8 rfl Tryz.underlying24 eC rfl (by decide) (by omega) U J am [.int .i64 am] (fun _=>True) (fun _=>False) rfl rfl ?aP (fun _ hk=>hk.elim) ?aF ?aO ?aB ?aS ?aL ?_;(case aP=>exact rfl);(case aB=>exact n1);(case aF=>exact (fun _ _=>trivial));(case aO=>exact (ac j.out));(case aS=>exact (an n1));(case aL=>have:=bk.out;omega);intro fy ex ho hb hg hat;rw [← bm.out] at ho;have cX:=ae.mk (cH (g:=aR) (o:=.cells #[.int .i64 Y,.slice (some bo) M.length aa] 26 (0,0)) (ne z.out) hg (Kd.iL j.out z.out (by decide)));have cY:=ae.mk (cH (g:=a5) (o:=.cells #[.int .i64 0,.slice none 0 0] 26 (0,0)) (ne I.out) hg (Kd.iL j.out I.out (by decide)));have d0:=ae.mk (cH (g:=a0) (o:=.cells #[.int .i64 Y,U] 26 (0,0)) (ne y.out) hg (Kd.iL j.out y.out (by decide)));have d1:=ae.mk hb;have d2:=ae.mk ho;clear z;clear I;clear y;clear HB;clear j;have z:=cX;have I:=cY;have y:=d0;have HB:=d1;have b0:=d2;clear cX cY d0 d1 d2;clear ho hb hg hat;obtain ⟨b4,ba,bc⟩:=Kd.bC b0.out;(first | subst bc | (injection bc with d3 eQ d4;have eW:=d3.symm;have f0:=d4.symm;clear d3 eQ d4;subst eW;subst f0));refine hK.out _ _ ⟨(ah y.out 0).trans rfl,(ah y.out 1).trans rfl⟩ (fun hHeld=>?_);clear hK K;refine cg (a':=?_) ?_ ?_;rotate_left
    ·show Act.put _ (some 24) _ = _
     simp only [Act.put,List.setIfInBounds_toArray,List.set_cons_zero,List.set_cons_succ,bq,bS];rfl
    refine n8 7 25 a9 ?_;refine tv (i:=8) (N:=none) #[true,true,true,true,true,true,true,true,true] rfl rfl (dn a9.out (by kernel_rfl)) (by decide) (fun K hK=>?_);have fX:ex.cell? ⟨a0,1,none⟩ = some (U):=(ah y.out 1).trans rfl;have f1:=aj y.out 1;have d5:=a1.out;have d6:=a3.out;have d7:=a2.out;have d8:=a4.out;refine nZ (w1:=?_) (by rfl) rfl ?_ ?_;rotate_left
    ·go_simp
     rfl
    refine hK.out _ _ ?_;clear hK K;refine fD (dR a9.out (by kernel_rfl)) ?_;(try go_wp2);go_roundg k1;case measure=>have:=co.out;omega
    case rel=>exact ⟨(wrap64 (X+1)),(ao),(.slice b4 ao.length ba),n0,H',⟨by have:=co.out;omega⟩,⟨ac (Kd.aZ (Kd.bV (p:=⟨a0,1,none⟩) (Kd.bl b0.out y.out (by decide)) (fun _ hk=>hk.2) (.slice b4 ao.length ba)) (fun _ hk=>trivial))⟩,⟨pd⟩,⟨pd⟩,⟨pd⟩,⟨n1⟩⟩
   ·rw [if_neg ar] at H
    have bi:decide (X < (M.length:Int)) = false:=decide_eq_false ar;clear ar;obtain ⟨ap,f2,H⟩:=ob H;(try dsimp only at H);simp only [Option.some.injEq,Prod.mk.injEq] at H;obtain ⟨rfl,rfl⟩:=H;have f3:=a2.out;have f4:=a1.out;have f5:=a4.out;have f6:=a3.out;obtain ⟨d9,db,dd,df⟩:=no y.out;obtain ⟨dk,dl,dp⟩:=Kd.bC j.out;subst dp;go_wp2_with (first | (refine n7 (some 29) Tryz.func209 #[.slice dk J.length dl] ?_;(with_reducible refine (ep.calls _ _ J ap _ ?side1 ?side2 f2.out).mono ?_);(case side1=>exact ol ((Kd.aH j.out).2.2));(case side2=>exact (Kd.aH j.out).2.1);rintro e g2 ⟨fY,rfl,bs,hb⟩;refine ⟨_,rfl,?_⟩;have b1:=ae.mk (Kd.bJ (Kd.dz bs (Kd.dF (ac j.out))) (an n1));replace j:=ae.mk (Kd.cE (ac j.out) (Kd.bX bs) hb);replace z:=nm z hb;replace I:=nm I hb;replace y:=nm y hb;replace HB:=ae.mk (aA n1 hb);(try clear hb);(try clear ev);(try clear hk);(try clear hi);(try clear bs);obtain ⟨b2,b3,dq⟩:=Kd.bC b1.out;subst dq;obtain ⟨dt,du,dv,dC⟩:=no y.out;have f7:=a7.out;have f8:=a6.out;obtain ⟨dE,dT,e0,e1⟩:=no I.out));refine bodyPost_ret (results_cell_row rfl _ _ a5 26 #[.int .i64 Y,.slice b2 ap.length b3] (0,0) _ rfl pd Tryz.underlying26 rfl (by kernel_rfl)) rfl ?_;exact ⟨_,pa,by (with_reducible repeat (first | apply Kd.eZ | apply Kd.eT | apply Kd.dK));exact Kd.aZ (Kd.bV (p:=⟨a5,1,none⟩) (Kd.bV (p:=⟨a5,0,none⟩) (Kd.bV (p:=⟨a0,1,none⟩) (Kd.bl (Kd.bl b1.out y.out (by decide)) I.out (by decide)) (fun _ hk=>hk.1.2) (.slice b2 ap.length b3)) (fun _ hk=>hk.2) (.int .i64 Y)) (fun _ hk=>hk.2) (.slice b2 ap.length b3)) (fun _ hk=>trivial),n1⟩
def cmp_isNaN_int.f (a0:Int):Option (Bool):=some (a0 != a0)
set_option maxHeartbeats 8000000 in
set_option maxRecDepth 100000 in
theorem cmp_isNaN_int.calls (a0:Int) (r:Bool) (w:World) (h:cmp_isNaN_int.f a0 = some r) :
  Calls Tryz.prog 246 #[.int .i64 a0] w fun e w'=>e = .returned (.bool r)∧cj w w':=by
 unfold cmp_isNaN_int.f at h;have H:=h;clear h;obtain rfl:=Option.some.inj H;go_enter Tryz.func246,Tryz.ntmps246;go_wp2;go_ret;exact ⟨n0,o0⟩
def cP.f (a0:Int) (z:Int):Option (Int):=(cmp_isNaN_int.f a0).bind fun y=>((cmp_isNaN_int.f z).bind fun j=>(if y = true then (if j = true then (some 0) else (some (-1))) else (if j = true then (some 1) else (if a0 < z then (some (-1)) else (if a0 > z then (some 1) else (some 0))))))
set_option maxHeartbeats 8000000 in
set_option maxRecDepth 100000 in
theorem cP.calls (a0:Int) (j:Int) (r:Int) (w:World) (h:cP.f a0 j = some r) :
  Calls Tryz.prog 210 #[.int .i64 a0,.int .i64 j] w fun e w'=>e = .returned (.int .i64 r)∧cj w w':=by
 unfold cP.f at h;have H:=h;clear h;obtain ⟨J,z,H⟩:=ob H;(try dsimp only at H);obtain ⟨y,I,H⟩:=ob H;(try dsimp only at H);by_cases c5:J = true
 ·subst c5
  replace H:(if y = true then (some 0) else (some (-1))) = some r:=by rw [if_pos rfl] at H;exact H
  by_cases c6:y = true
  ·subst c6
   replace H:(some 0) = some r:=by rw [if_pos rfl] at H;exact H
   obtain rfl:=Option.some.inj H;go_enter Tryz.func210,Tryz.ntmps210;go_wp2_with (first | (refine n7 (some 8) Tryz.func246 #[.int .i64 a0] ?_;(with_reducible refine (cmp_isNaN_int.calls a0 true _ z.out).mono ?_);rintro e w' ⟨rfl,⟨nd,rfl⟩⟩;refine ⟨_,rfl,?_⟩) | (refine n7 (some 10) Tryz.func246 #[.int .i64 j] ?_;(with_reducible refine (cmp_isNaN_int.calls j true _ I.out).mono ?_);rintro e w' ⟨rfl,⟨nd,rfl⟩⟩;refine ⟨_,rfl,?_⟩));go_ret;exact ⟨n0,o0⟩
  ·replace c6:=Bool.eq_false_iff.mpr c6
   subst c6;replace H:(some (-1)) = some r:=by rw [if_neg (show ¬ (false = true) by decide)] at H;exact H
   obtain rfl:=Option.some.inj H;go_enter Tryz.func210,Tryz.ntmps210;go_wp2_with (first | (refine n7 (some 8) Tryz.func246 #[.int .i64 a0] ?_;(with_reducible refine (cmp_isNaN_int.calls a0 true _ z.out).mono ?_);rintro e w' ⟨rfl,⟨nd,rfl⟩⟩;refine ⟨_,rfl,?_⟩) | (refine n7 (some 10) Tryz.func246 #[.int .i64 j] ?_;(with_reducible refine (cmp_isNaN_int.calls j false _ I.out).mono ?_);rintro e w' ⟨rfl,⟨nd,rfl⟩⟩;refine ⟨_,rfl,?_⟩));go_ret;exact ⟨n0,o0⟩
 ·replace c5:=Bool.eq_false_iff.mpr c5
  subst c5;replace H:(if y = true then (some 1) else (if a0 < j then (some (-1)) else (if a0 > j then (some 1) else (some 0)))) = some r:=by rw [if_neg (show ¬ (false = true) by decide)] at H;exact H
  by_cases c7:y = true
  ·subst c7
   replace H:(some 1) = some r:=by rw [if_pos rfl] at H;exact H
   obtain rfl:=Option.some.inj H;go_enter Tryz.func210,Tryz.ntmps210;go_wp2_with (first | (refine n7 (some 8) Tryz.func246 #[.int .i64 a0] ?_;(with_reducible refine (cmp_isNaN_int.calls a0 false _ z.out).mono ?_);rintro e w' ⟨rfl,⟨nd,rfl⟩⟩;refine ⟨_,rfl,?_⟩) | (refine n7 (some 10) Tryz.func246 #[.int .i64 j] ?_;(with_reducible refine (cmp_isNaN_int.calls j true _ I.out).mono ?_);rintro e w' ⟨rfl,⟨nd,rfl⟩⟩;refine ⟨_,rfl,?_⟩));go_ret;exact ⟨n0,o0⟩
  ·replace c7:=Bool.eq_false_iff.mpr c7
   subst c7;replace H:(if a0 < j then (some (-1)) else (if a0 > j then (some 1) else (some 0))) = some r:=by rw [if_neg (show ¬ (false = true) by decide)] at H;exact H
   by_cases c8:a0 < j
   ·rw [if_pos c8] at H
    have M:=decide_eq_true c8;clear c8;obtain rfl:=Option.some.inj H;go_enter Tryz.func210,Tryz.ntmps210;go_wp2_with (first | (refine n7 (some 8) Tryz.func246 #[.int .i64 a0] ?_;(with_reducible refine (cmp_isNaN_int.calls a0 false _ z.out).mono ?_);rintro e w' ⟨rfl,⟨nd,rfl⟩⟩;refine ⟨_,rfl,?_⟩) | (refine n7 (some 10) Tryz.func246 #[.int .i64 j] ?_;(with_reducible refine (cmp_isNaN_int.calls j false _ I.out).mono ?_);rintro e w' ⟨rfl,⟨nd,rfl⟩⟩;refine ⟨_,rfl,?_⟩));go_ret;exact ⟨n0,o0⟩
   ·rw [if_neg c8] at H
    have M:decide (a0 < j) = false:=decide_eq_false c8;clear c8;by_cases c9:a0 > j
    ·rw [if_pos c9] at H
     have U:=decide_eq_true c9;clear c9;obtain rfl:=Option.some.inj H;go_enter Tryz.func210,Tryz.ntmps210;go_wp2_with (first | (refine n7 (some 8) Tryz.func246 #[.int .i64 a0] ?_;(with_reducible refine (cmp_isNaN_int.calls a0 false _ z.out).mono ?_);rintro e w' ⟨rfl,⟨nd,rfl⟩⟩;refine ⟨_,rfl,?_⟩) | (refine n7 (some 10) Tryz.func246 #[.int .i64 j] ?_;(with_reducible refine (cmp_isNaN_int.calls j false _ I.out).mono ?_);rintro e w' ⟨rfl,⟨nd,rfl⟩⟩;refine ⟨_,rfl,?_⟩));go_ret;exact ⟨n0,o0⟩
    ·rw [if_neg c9] at H
     have U:decide (j < a0) = false:=decide_eq_false c9;clear c9;obtain rfl:=Option.some.inj H;go_enter Tryz.func210,Tryz.ntmps210;go_wp2_with (first | (refine n7 (some 8) Tryz.func246 #[.int .i64 a0] ?_;(with_reducible refine (cmp_isNaN_int.calls a0 false _ z.out).mono ?_);rintro e w' ⟨rfl,⟨nd,rfl⟩⟩;refine ⟨_,rfl,?_⟩) | (refine n7 (some 10) Tryz.func246 #[.int .i64 j] ?_;(with_reducible refine (cmp_isNaN_int.calls j false _ I.out).mono ?_);rintro e w' ⟨rfl,⟨nd,rfl⟩⟩;refine ⟨_,rfl,?_⟩));go_ret;exact ⟨n0,o0⟩
def ay.l0:Nat→List Int→List Int→List Int→Int→Int→Option (Int)
 | 0,_,_,_,_,_=>none
 | k+1,M,z,J,I,j=>if j < I then (if 0≤j then (if j < (J.length:Int) then (if j≥(z.length:Int) then (some 1) else (if j < (z.length:Int) then ((cP.f (rd J j) (rd z j)).bind fun y=>(if y = 0 then (ay.l0 k M z J I (wrap64 (j+1))) else (some y))) else (none))) else (none)) else (none)) else (if (M.length:Int) < (z.length:Int) then (some (-1)) else (some 0))
def ay.f (k:Nat) (l0:List Int) (l1:List Int):Option (Int):=ay.l0 k l0 l1 l0 (l0.length:Int) 0
theorem ay.eD:∀ k,af.S5 ay.l0 k
 | 0=>by and_intros <;> (repeat intro _) <;> exact af.mz rfl
 | k+1=>by
  have j:=ay.eD k;and_intros <;> (repeat intro _) <;> unfold ay.l0 <;> exact ⟨pp⟩
theorem ay.mono:∀ a0 j k,fl (ay.f k a0 j) (ay.f (k+1) a0 j):=by
 intro a0 j k;have y:=ay.eD k;unfold ay.f;exact pp
instance ay.m:af.V2 ay.f:=fun _ _ _=>⟨ay.mono _ _ _⟩
set_option maxHeartbeats 8000000 in
set_option maxRecDepth 100000 in
theorem ay.calls (k:Nat) (A0:Option Addr) (c0:Nat) (l0:List Int) (A1:Option Addr) (c1:Nat) (l1:List Int) (r:Int) (w:World) (a4:Kd.C (Kd.int .i64) w A0 l0.length l0) (a5:l0.length≤c0) (a6:Kd.C (Kd.int .i64) w A1 l1.length l1) (a7:l1.length≤c1) (h:ay.f k l0 l1 = some r) :
  Calls Tryz.prog 162 #[.slice A0 l0.length c0,.slice A1 l1.length c1] w fun e w'=>e = .returned (.int .i64 r)∧cj w w':=by
 have a0:=ae.mk a4;have aE:=ae.mk a5;clear a4 a5;have a8:=ae.mk a6;have aF:=ae.mk a7;clear a6 a7;unfold ay.f at h;have H:=h;clear h;have H':=ae.mk H;clear H;go_enter Tryz.func162,Tryz.ntmps162;go_wp2;go_loopg [11] k (fun kq v11 w'=>∃ (j:Int),v11 = .int .i64 j∧ae (ay.l0 kq l0 l1 l0 (l0.length:Int) j = some r)∧ae (kq≤k)∧cj w w')
 case atStart=>exact ⟨(0),n0,H',⟨Nat.le_refl _⟩,o0⟩
 case round =>
  clear H';obtain ⟨j,rfl,HA,a9,⟨m1,rfl⟩⟩:=hrel;cases gk with
  | zero=>exact absurd HA.out (by simp [ay.l0])
  | succ k1 =>
   have H:=HA.out;clear HA;simp only [ay.l0] at H;by_cases c3:j < (l0.length:Int)
   ·rw [if_pos c3] at H
    have aa:=decide_eq_true c3;clear c3;obtain ⟨c4,H⟩:=nz H;have ar:=decide_eq_true c4;clear c4;obtain ⟨c5,H⟩:=nz H;have aw:=decide_eq_true c5;clear c5;by_cases c6:j≥(l1.length:Int)
    ·rw [if_pos c6] at H
     have ab:=decide_eq_true c6;clear c6;obtain rfl:=Option.some.inj H;obtain ⟨J,z,I,X,Y⟩:=oY a0.out j;cases z
     go_wp2;go_ret;exact ⟨n0,o0⟩
    ·rw [if_neg c6] at H
     have ab:decide ((l1.length:Int)≤j) = false:=decide_eq_false c6;clear c6;obtain ⟨c7,H⟩:=nz H;have aB:=decide_eq_true c7;clear c7;obtain ⟨y,A8,H⟩:=ob H;(try dsimp only at H);by_cases c9:y = 0
     ·rw [if_pos c9] at H
      have al:(y == 0) = true:=beq_iff_eq.mpr c9;have am:(y != 0) = false:=bne_eq_false_iff_eq.mpr c9;clear c9;have H':=ae.mk H;clear H;obtain ⟨J,z,I,X,Y⟩:=oY a0.out j;cases z
      obtain ⟨a1,M,U,ao,ap⟩:=oY a8.out j;cases M
      go_wp2_with (first | (refine n7 (some 26) Tryz.func210 #[.int .i64 (rd l0 j),.int .i64 (rd l1 j)] ?_;(with_reducible refine (cP.calls (rd l0 j) (rd l1 j) y _ A8.out).mono ?_);rintro e w' ⟨rfl,⟨nd,rfl⟩⟩;refine ⟨_,rfl,?_⟩));go_roundg k1;case measure=>have:=a9.out;omega
      case rel=>exact ⟨(wrap64 (j+1)),n0,H',⟨by have:=a9.out;omega⟩,o0⟩
     ·rw [if_neg c9] at H
      have al:(y == 0) = false:=beq_eq_false_iff_ne.mpr c9;have am:(y != 0) = true:=bne_iff_ne.mpr c9;obtain rfl:=Option.some.inj H;obtain ⟨J,z,I,X,Y⟩:=oY a0.out j;cases z
      obtain ⟨a1,M,U,ao,ap⟩:=oY a8.out j;cases M
      go_wp2_with (first | (refine n7 (some 26) Tryz.func210 #[.int .i64 (rd l0 j),.int .i64 (rd l1 j)] ?_;(with_reducible refine (cP.calls (rd l0 j) (rd l1 j) y _ A8.out).mono ?_);rintro e w' ⟨rfl,⟨nd,rfl⟩⟩;refine ⟨_,rfl,?_⟩));go_ret;exact ⟨n0,o0⟩
   ·rw [if_neg c3] at H
    have aa:decide (j < (l0.length:Int)) = false:=decide_eq_false c3;clear c3;by_cases iM:(l0.length:Int) < (l1.length:Int)
    ·rw [if_pos iM] at H
     have a2:=decide_eq_true iM;have a3:decide (l0.length < l1.length) = true:=decide_eq_true (Int.ofNat_lt.mp iM);clear iM;obtain rfl:=Option.some.inj H;go_wp2;go_ret;exact ⟨n0,o0⟩
    ·rw [if_neg iM] at H
     have a2:decide ((l0.length:Int) < (l1.length:Int)) = false:=decide_eq_false iM;have a3:decide (l0.length < l1.length) = false:=decide_eq_false (fun h=>iM (Int.ofNat_lt.mpr h));clear iM;obtain rfl:=Option.some.inj H;go_wp2;go_ret;exact ⟨n0,o0⟩
theorem ak.tK {W:World} {gb base j:Nat} {A:Option Addr} {c:Nat} {s:Int} {xs:List Int} {ok:Nat→Prop} (hb:W.heap[gb]? = some (.cells #[.int .i64 s,.slice A xs.length c] 26 (0,0))) (hg:base≤gb) (hl:base≤j) (h:Kd.R (Kd.int .i64) 3 W j ok (.slice A xs.length c) xs) (hok:∀ k,ok k→k≠gb):ak.nv W gb base (s,xs) :=
 ⟨A,c,hb,hg,fun W_ hk=>Kd.bJ (Kd.aZ (Kd.pO h hk hok) (fun _ _=>trivial)) hl⟩
def bG.f (k:Nat) (y:Int) (z:List Int) (l0:List Int) (b:Int×List Int):Option (Int×List Int):=(b5.f k y z l0).bind fun x=>((ay.f k x.2 b.2).bind fun j=>(if j < 0 then (some x) else (some b)))
theorem bG.mono (j:Int) (y l0:List Int) (b:Int×List Int) (k:Nat):fl (bG.f k j y l0 b) (bG.f (k+1) j y l0 b):=fl.bind (b5.mono _ _ _ _) fun _=>fl.bind (ay.mono _ _ _) fun _=>fl.refl _
set_option maxHeartbeats 8000000 in
set_option maxRecDepth 100000 in
theorem bG.calls (k:Nat) (gm gb base:Nat) (a5:Int) (al:Option Addr) (am:Nat) (a2:List Int) (W:World) (hbm:W.heap[gm]? = some (.cells #[.int .i64 a5,.slice al a2.length am] 26 (0,0))) (hne:gm≠gb) (ap:∀ W_,bj W W_ gb none→Kd.C (Kd.int .i64) W_ al a2.length a2) (ar:a2.length≤am) (A0:Option Addr) (c0:Nat) (l0:List Int) (b b':Int×List Int) (w:World) (hK:ak.Kp gb W w) (hJ:ak.nv w gb base b) (cd:Kd.C (Kd.int .i64) w A0 l0.length l0) (ce:l0.length≤c0) (h:bG.f k a5 a2 l0 b = some b') :
  Calls Tryz.prog 160 #[.slice A0 l0.length c0,.pointer (some ⟨gm,0,none⟩),.pointer (some ⟨gb,0,none⟩)] w fun e w'=>e = .returned (.bool true)∧ak.nv w' gb base b'∧ak.Kp gb w w':=by
 have cY:=Tryz.underlying26;have cf:=ae.mk cd;have ch:=ae.mk ce;clear cd ce;have aw:=ae.mk (ap w hK.k);have aB:=ae.mk ar;have y:=ae.mk (hK.k.blk hbm hne (by simp));clear ap ar hbm hK;have LT:=ae.mk hJ.lt;obtain ⟨d0,ao⟩:=b;obtain ⟨aE,aF,bk,hbase,a8⟩:=hJ.out;have BS:=ae.mk hbase;have j:=ae.mk bk;have aL:=ae.mk a8;have aa:=ae.mk (Kd.aH (a8 w (bj.refl _ _ _))).2.2;have ab:=ae.mk (Kd.aH (a8 w (bj.refl _ _ _))).2.1;clear a8 bk hJ hbase;dsimp only at j aa ab aL;have HB:=ae.mk (Below.refl w.heap.size w);unfold bG.f at h;have H:=h;clear h;obtain ⟨⟨a4,U⟩,A4,H⟩:=ob H;(try dsimp only at H);obtain ⟨a9,A5,H⟩:=ob H;(try dsimp only at H);have NB:=ae.mk hne;have NC:=ae.mk hne.symm;clear hne;by_cases c6:a9 < 0
 ·rw [if_pos c6] at H
  have ci:=decide_eq_true c6;clear c6;obtain rfl:=Option.some.inj H;go_enter Tryz.func160,Tryz.ntmps160;have cl:=NB.out;have co:=NC.out;obtain ⟨aO,aP,aR,aS⟩:=no y.out;go_wp2_with (first | (refine n7 (some 8) Tryz.func161 #[.agg #[.int .i64 a5,.slice al a2.length am],.slice A0 l0.length c0] ?_;(with_reducible refine (b5.calls k a5 _ _ a2 _ _ l0 a4 U _ ?side1 ?side2 ?side3 ?side4 A4.out).mono ?_);(case side1=>exact ol (Kd.aQ aw.out HB.out));(case side2=>exact aB.out);(case side3=>exact ol (Kd.aQ cf.out HB.out));(case side4=>exact ch.out);rintro e cr ⟨bv,rfl,b0,hb⟩;refine ⟨_,rfl,?_⟩;have z:=ae.mk (Kd.ek (M:=fun k_=>(w.heap.size≤k_)) b0 (an (mx HB.out)) (fun k_ h_=>h_));replace y:=nm y hb;replace j:=nm j hb;replace HB:=nb HB hb;(try clear hb);(try clear cx);(try clear hk);(try clear hi);(try clear b0)) | (refine oX 5 #[.int .i64 0,.slice none 0 0] 26 ?_;intro J hg cy hbox hb;replace z:=pj z hb;have a3:=ae.mk hbox;have I:=na hg HB;have bo:=na hg HB;replace HB:=nb HB hb;have X:=ph hg y;have Y:=pi hg y;replace y:=nm y hb;have a0:=ph hg j;have a1:=pi hg j;replace j:=nm j hb;clear hb hbox hg;have c1:=Y.out;have ca:=X.out;have cb:=a1.out;have cc:=a0.out;obtain ⟨b1,b2,b3,b4⟩:=no a3.out;obtain ⟨a6,a7,ba⟩:=Kd.bC z.out;subst ba;obtain ⟨bc,bd,bi,bm⟩:=no j.out;have bs:=ae.mk (Kd.bV (p:=⟨J,1,none⟩) (Kd.bV (p:=⟨J,0,none⟩) (Kd.bl z.out a3.out (by decide)) (fun _ hk=>hk.2) (.int .i64 a4)) (fun _ hk=>hk.2) (.slice a6 U.length a7))) | (refine n7 (some 13) Tryz.func162 #[.slice a6 U.length a7,.slice aE ao.length aF] ?_;(with_reducible refine (ay.calls k _ _ U _ _ ao a9 _ ?side1 ?side2 ?side3 ?side4 A5.out).mono ?_);(case side1=>exact (Kd.aH bs.out).2.2);(case side2=>exact (Kd.aH z.out).2.1);(case side3=>exact Kd.aQ aa.out n1);(case side4=>exact ab.out);rintro e w' ⟨rfl,⟨nd,rfl⟩⟩;refine ⟨_,rfl,?_⟩));go_ret;have hlt:=LT.out;refine ⟨rfl,ak.tK pd BS.out (Nat.le_trans BS.out (Nat.le_of_lt hlt)) (Kd.bV (p:=⟨gb,1,none⟩) (Kd.bV (p:=⟨gb,0,none⟩) (Kd.eT bs.out nd) (fun k_ h_=>by have cp:=h_.1.1;show k_≠gb;omega) (.int .i64 a4)) (fun k_ h_=>by have cp:=h_.1.1;show k_≠gb;omega) (.slice a6 U.length a7)) (fun k_ h_=>by have cp:=h_.1.1;omega),⟨?_,?_⟩⟩
  ·exact ((cK (((ak.Kp.of HB.out hlt).b.setCell (p:=⟨J,0,none⟩) (Nat.le_trans (Nat.le_of_lt hlt) I.out) _).setCell (p:=⟨J,1,none⟩) (Nat.le_trans (Nat.le_of_lt hlt) I.out) _) nd).setCell (p:=⟨gb,0,none⟩) (Nat.le_refl _) _).setCell (p:=⟨gb,1,none⟩) (Nat.le_refl _) _
  ·exact bj.oH (bj.oH (gT (gu (gu (bj.fH HB.out gb none) I.out _) I.out _) nd) 0 _) 1 _
 ·rw [if_neg c6] at H
  have ci:decide (a9 < 0) = false:=decide_eq_false c6;clear c6;obtain rfl:=Option.some.inj H;go_enter Tryz.func160,Tryz.ntmps160;have cl:=NB.out;have co:=NC.out;obtain ⟨aO,aP,aR,aS⟩:=no y.out;go_wp2_with (first | (refine n7 (some 8) Tryz.func161 #[.agg #[.int .i64 a5,.slice al a2.length am],.slice A0 l0.length c0] ?_;(with_reducible refine (b5.calls k a5 _ _ a2 _ _ l0 a4 U _ ?side1 ?side2 ?side3 ?side4 A4.out).mono ?_);(case side1=>exact ol (Kd.aQ aw.out HB.out));(case side2=>exact aB.out);(case side3=>exact ol (Kd.aQ cf.out HB.out));(case side4=>exact ch.out);rintro e cr ⟨bv,rfl,b0,hb⟩;refine ⟨_,rfl,?_⟩;have z:=ae.mk (Kd.ek (M:=fun k_=>(w.heap.size≤k_)) b0 (an (mx HB.out)) (fun k_ h_=>h_));replace y:=nm y hb;replace j:=nm j hb;replace HB:=nb HB hb;(try clear hb);(try clear cx);(try clear hk);(try clear hi);(try clear b0)) | (refine oX 5 #[.int .i64 0,.slice none 0 0] 26 ?_;intro J hg cy hbox hb;replace z:=pj z hb;have a3:=ae.mk hbox;have I:=na hg HB;have bo:=na hg HB;replace HB:=nb HB hb;have X:=ph hg y;have Y:=pi hg y;replace y:=nm y hb;have a0:=ph hg j;have a1:=pi hg j;replace j:=nm j hb;clear hb hbox hg;have c1:=Y.out;have ca:=X.out;have cb:=a1.out;have cc:=a0.out;obtain ⟨b1,b2,b3,b4⟩:=no a3.out;obtain ⟨a6,a7,ba⟩:=Kd.bC z.out;subst ba;obtain ⟨bc,bd,bi,bm⟩:=no j.out;have bs:=ae.mk (Kd.bV (p:=⟨J,1,none⟩) (Kd.bV (p:=⟨J,0,none⟩) (Kd.bl z.out a3.out (by decide)) (fun _ hk=>hk.2) (.int .i64 a4)) (fun _ hk=>hk.2) (.slice a6 U.length a7))) | (refine n7 (some 13) Tryz.func162 #[.slice a6 U.length a7,.slice aE ao.length aF] ?_;(with_reducible refine (ay.calls k _ _ U _ _ ao a9 _ ?side1 ?side2 ?side3 ?side4 A5.out).mono ?_);(case side1=>exact (Kd.aH bs.out).2.2);(case side2=>exact (Kd.aH z.out).2.1);(case side3=>exact Kd.aQ aa.out n1);(case side4=>exact ab.out);rintro e w' ⟨rfl,⟨nd,rfl⟩⟩;refine ⟨_,rfl,?_⟩));go_ret;have hlt:=LT.out;refine ⟨rfl,⟨aE,aF,pd,BS.out,fun W_ cX=>aL.out W_ (bj.trans (gT (gu (gu (bj.fH HB.out gb none) I.out _) I.out _) nd) cX (.inl rfl))⟩,⟨?_,?_⟩⟩
  ·exact cK (((ak.Kp.of HB.out hlt).b.setCell (p:=⟨J,0,none⟩) (Nat.le_trans (Nat.le_of_lt hlt) I.out) _).setCell (p:=⟨J,1,none⟩) (Nat.le_trans (Nat.le_of_lt hlt) I.out) _) nd
  ·exact gT (gu (gu (bj.fH HB.out gb none) I.out _) I.out _) nd
theorem bG.use (k:Nat) (U gb base:Nat) (y:Int) (z:Option Addr) (I:Nat) (j:List Int) (W:World) (hbm:W.heap[U]? = some (.cells #[.int .i64 y,.slice z j.length I] 26 (0,0))) (hne:U≠gb) (J:∀ W_,bj W W_ gb none→Kd.C (Kd.int .i64) W_ z j.length j) (M:j.length≤I) :
  ak.u0 Tryz.prog W (.func (.func 160) #[] #[.pointer (some ⟨U,0,none⟩),.pointer (some ⟨gb,0,none⟩)]) gb base (fun xs b=>bG.f k y j xs b) :=
 ⟨160,#[.pointer (some ⟨U,0,none⟩),.pointer (some ⟨gb,0,none⟩)],Tryz.f160,rfl,Tryz.func160,by kernel_rfl,rfl,fun A c xs b b' w hK hJ hC hc h=>bG.calls k U gb base y z I j W hbm hne J M A c xs b b' w hK hJ hC hc h⟩
def cw.j0:Nat→Bool→Int→List Int→Option (Int×List Int×Bool)
 | 0,_,_,_=>none
 | k+1,J,j,y=>if J = true then (some (0,([]:List Int),false)) else ((bU.f j y).bind fun I=>((ak.f (fun xs b=>bG.f k j y xs b) k j ([]:List Int) I).bind fun z=>(some (z.1,z.2,true))))
def cw.f (k:Nat) (j:Int) (y:List Int):Option (Int×List Int×Bool):=(cO.f k j y).bind fun z=>(if z = true then (cw.j0 k (decide (j > 6)) j y) else (cw.j0 k true j y))
set_option maxHeartbeats 8000000 in
set_option maxRecDepth 100000 in
theorem cw.calls (k:Nat) (z:Int) (a1:Option Addr) (a2:Nat) (I:List Int) (r1:Int) (r2:List Int) (r3:Bool) (w:World) (ap:Kd.C (Kd.int .i64) w a1 I.length I) (ar:I.length≤a2) (h:cw.f k z I = some (r1,r2,r3)) :
  Calls Tryz.prog 94 #[.agg #[.int .i64 z,.slice a1 I.length a2]] w fun e w'=>∃ aR:Value,e = .returned (.tuple #[.agg #[.int .i64 r1,aR],.bool r3])∧Kd.R (Kd.int .i64) 3 w' w.heap.size (fun _=>True) aR r2∧Below w.heap.size w w':=by
 have eb:=Tryz.underlying26;have a7:=ae.mk ap;have a8:=ae.mk ar;clear ap ar;have HB:=ae.mk (Below.refl w.heap.size w);unfold cw.f at h;have H:=h;clear h;have aO:=ae.mk H;clear H;go_enter Tryz.func94,Tryz.ntmps94;go_upto_region 1 with (first | (refine oX 1 #[.int .i64 z,.slice a1 I.length a2] 26 ?_;intro a5 hg w3 hbox hb;have j:=ae.mk hbox;have d6:=na hg HB;have d7:=na hg HB;replace HB:=nb HB hb;clear hb hbox hg) | (refine oX 2 #[.int .i64 0,.slice none 0 0] 26 ?_;intro Y hg w4 hbox hb;have y:=ae.mk hbox;have d8:=na hg HB;have d9:=na hg HB;replace HB:=nb HB hb;have J:=ph hg j;have M:=pi hg j;replace j:=nm j hb;clear hb hbox hg))
 (try simp only [Act.put,List.setIfInBounds_toArray,List.set_cons_zero,List.set_cons_succ]);go_cut [12] (fun v12 wc=>∃ (kq:Nat) (a9:Bool),v12 = .bool a9∧ae (cw.j0 kq a9 z I = some (r1,r2,r3))∧ae (kq≤k)∧ae (wc.heap[a5]? = some (.cells #[.int .i64 z,(.slice a1 I.length a2)] 26 (0,0)))∧ae (wc.heap[Y]? = some (.cells #[.int .i64 0,(.slice none 0 0)] 26 (0,0)))∧ae (Below w.heap.size w wc))
 case first =>
  have H:=aO.out;clear aO;obtain ⟨aP,A5,H⟩:=ob H;(try dsimp only at H);by_cases c6:aP = true
  ·subst c6
   replace H:(cw.j0 k (decide (z > 6)) z I) = some (r1,r2,r3):=by rw [if_pos rfl] at H;exact H
   have H':=ae.mk H;clear H;have ed:=J.out;have ee:=M.out;obtain ⟨db,dd,df,dk⟩:=no j.out;go_wp2_with (first | (refine n7 (some 6) Tryz.func72 #[.agg #[.int .i64 z,.slice a1 I.length a2]] ?_;(with_reducible refine (cO.calls k z _ _ I true _ ?side1 ?side2 A5.out).mono ?_);(case side1=>exact ol (Kd.aQ a7.out HB.out));(case side2=>exact a8.out);rintro e w9 ⟨rfl,hb⟩;refine ⟨_,rfl,?_⟩;replace j:=nm j hb;replace y:=nm y hb;replace HB:=nb HB hb;(try clear hb);(try clear aS);(try clear hk);(try clear hi);obtain ⟨b0,b1,b2,b3⟩:=no j.out));go_meet
   case rel=>exact ⟨_,(decide (z > 6)),n0,H',⟨by first | omega | exact Nat.le_refl _⟩,⟨ne j.out⟩,⟨ne y.out⟩,⟨mx HB.out⟩⟩
  ·replace c6:=Bool.eq_false_iff.mpr c6
   subst c6;replace H:(cw.j0 k true z I) = some (r1,r2,r3):=by rw [if_neg (show ¬ (false = true) by decide)] at H;exact H
   have H':=ae.mk H;clear H;have dp:=J.out;have dq:=M.out;obtain ⟨b4,ba,bc,bd⟩:=no j.out;go_wp2_with (first | (refine n7 (some 6) Tryz.func72 #[.agg #[.int .i64 z,.slice a1 I.length a2]] ?_;(with_reducible refine (cO.calls k z _ _ I false _ ?side1 ?side2 A5.out).mono ?_);(case side1=>exact ol (Kd.aQ a7.out HB.out));(case side2=>exact a8.out);rintro e ef ⟨rfl,hb⟩;refine ⟨_,rfl,?_⟩;replace j:=nm j hb;replace y:=nm y hb;replace HB:=nb HB hb;(try clear hb);(try clear aS);(try clear hk);(try clear hi)));go_meet
   case rel=>exact ⟨_,(true),n0,H',⟨by first | omega | exact Nat.le_refl _⟩,⟨ne j.out⟩,⟨ne y.out⟩,⟨mx HB.out⟩⟩
 case rest =>
  clear aO;obtain ⟨kq,a9,rfl,HA,eg,j,y,HB⟩:=hcut;cases kq with
  | zero=>exact absurd HA.out (by simp [cw.j0])
  | succ aw =>
   have H:=HA.out;clear HA;simp only [cw.j0] at H;by_cases aB:a9 = true
   ·subst aB
    replace H:(some (0,([]:List Int),false)) = some (r1,r2,r3):=by rw [if_pos rfl] at H;exact H
    simp only [Option.some.injEq,Prod.mk.injEq] at H;obtain ⟨rfl,rfl,rfl⟩:=H;have dt:=M.out;have du:=J.out;obtain ⟨bi,bk,bm,bo⟩:=no y.out;go_wp2;refine bodyPost_ret (dX rfl _ _ Y 26 #[.int .i64 0,.slice none 0 0] (0,0) _ rfl pd Tryz.underlying26 rfl (by kernel_rfl)) rfl ?_;exact ⟨_,pa,af.N,n1⟩
   ·replace aB:=Bool.eq_false_iff.mpr aB
    subst aB;replace H:((bU.f z I).bind fun aE=>((ak.f (fun xs b=>bG.f aw z I xs b) aw z ([]:List Int) aE).bind fun X=>(some (X.1,X.2,true)))) = some (r1,r2,r3):=by rw [if_neg (show ¬ (false = true) by decide)] at H;exact H
    obtain ⟨⟨am,ao⟩,dv,H⟩:=ob H;(try dsimp only at H);obtain ⟨X,dC,H⟩:=ob H;(try dsimp only at H);simp only [Option.some.injEq,Prod.mk.injEq] at H;obtain ⟨rfl,rfl,rfl⟩:=H;have dE:=J.out;have dT:=M.out;obtain ⟨bs,bv,c0,c1⟩:=no j.out;go_wp2_with (first | (refine n7 (some 15) Tryz.func158 #[.agg #[.int .i64 z,.slice a1 I.length a2]] ?_;(with_reducible refine (bU.calls z _ _ I am ao _ ?side1 ?side2 dv.out).mono ?_);(case side1=>exact ol (Kd.aQ a7.out HB.out));(case side2=>exact a8.out);rintro e eh ⟨e0,rfl,ca,hb⟩;refine ⟨_,rfl,?_⟩;have a0:=ae.mk (Kd.bJ ca (an (mx HB.out)));replace j:=nm j hb;replace y:=nm y hb;replace HB:=nb HB hb;(try clear hb);(try clear aS);(try clear hk);(try clear hi);(try clear ca)) | (refine oX 4 #[.int .i64 0,.slice none 0 0] 26 ?_;intro a3 hg el hbox hb;replace a0:=pj a0 hb;have a6:=ae.mk hbox;have aa:=na hg HB;have dl:=na hg HB;replace HB:=nb HB hb;have U:=ph hg j;have ab:=pi hg j;replace j:=nm j hb;have a4:=ph hg y;have al:=pi hg y;replace y:=nm y hb;clear hb hbox hg;have e1:=ab.out;have e2:=U.out;have e3:=al.out;have e4:=a4.out;obtain ⟨cb,cc,cd,ce⟩:=no a6.out;obtain ⟨cf,ch,ci⟩:=Kd.bC a0.out;subst ci;obtain ⟨cl,co,cp,cx⟩:=no j.out) | (refine n7 (some 19) Tryz.func159 #[.int .i64 z,.slice none 0 0,.func (.func 160) #[] #[.pointer (some ⟨a5,0,none⟩),.pointer (some ⟨a3,0,none⟩)]] ?_;refine (ak.calls (base:=w.heap.size) (bG.use aw a5 a3 w.heap.size z a1 a2 I _ ?u1 U.out ?u3 a8.out) aw z none 0 [] (am,ao) X _ (ak.Kp.refl _ _) ?side1 (fun _ _=>Kd.rR _ _) (Nat.le_refl _) dC.out).mono ?_;(case u1=>exact pd);(case u3=>exact fun W_ e8=>Kd.su (0:Int) a7.out (bj.trans (bj.oH (bj.oH (bj.fH HB.out a3 none) 0 _) 1 _) e8 (.inl rfl)) (Kd.tu (0:Int) a7.out aa.out));(case side1=>exact ak.tK pd aa.out (Nat.le_refl _) (Kd.bV (p:=⟨a3,1,none⟩) (Kd.bV (p:=⟨a3,0,none⟩) (Kd.bl a0.out a6.out (by decide)) (fun _ hk=>hk.2) (.int .i64 am)) (fun _ hk=>hk.2) (.slice cf ao.length ch)) (fun _ hk=>hk.2));rintro e cy ⟨rfl,hj,hkp⟩;refine ⟨_,rfl,?_⟩;obtain ⟨Ar,cr,aF,_,aL⟩:=hj.out;have a0:=ae.mk (aL cy (bj.refl _ _ _));replace j:=ae.mk (bj.blk hkp.k (g':=a5) (o:=.cells #[.int .i64 z,.slice a1 I.length a2] 26 (0,0)) pd U.out (by simp));replace y:=ae.mk (bj.blk hkp.k (g':=Y) (o:=.cells #[.int .i64 0,.slice none 0 0] 26 (0,0)) pd a4.out (by simp));replace a6:=ae.mk aF;replace HB:=ae.mk (Below.trans (show Below w.heap.size w _ from n1) (⟨hkp.b.os,hkp.b.tape,hkp.b.output,hkp.b.size,fun i_ ea=>hkp.b.block i_ (Nat.lt_of_lt_of_le ea aa.out)⟩:Below w.heap.size _ cy));clear hj hkp aF aL;obtain ⟨cX,cY,d0,d1⟩:=no a6.out;obtain ⟨d2,d3,d4,d5⟩:=no y.out));refine bodyPost_ret (dX rfl _ _ Y 26 #[.int .i64 X.1,.slice Ar X.2.length cr] (0,0) _ rfl pd Tryz.underlying26 rfl (by kernel_rfl)) rfl ?_;exact ⟨_,pa,by (with_reducible repeat (first | apply Kd.eZ | apply Kd.eT | apply Kd.dK));exact Kd.aZ (Kd.bV (p:=⟨Y,1,none⟩) (Kd.bV (p:=⟨Y,0,none⟩) (Kd.bl a0.out y.out (by decide)) (fun _ hk=>hk.2) (.int .i64 X.1)) (fun _ hk=>hk.2) (.slice Ar X.2.length cr)) (fun _ hk=>trivial),n1⟩
def bD.l0:Nat→List Int→List Int→Int→Int→Option (Bool)
 | 0,_,_,_,_=>none
 | k+1,z,I,y,j=>if j < y then (if 0≤j then (if j < (z.length:Int) then (if j < (I.length:Int) then (if (rd z j) = (rd I j) then (bD.l0 k z I y (wrap64 (j+1))) else (some false)) else (none)) else (none)) else (none)) else (some true)
def bD.f (k:Nat) (l0:List Int) (l1:List Int):Option (Bool):=if (l0.length:Int) = (l1.length:Int) then (bD.l0 k l0 l1 (l0.length:Int) 0) else (some false)
set_option maxHeartbeats 8000000 in
set_option maxRecDepth 100000 in
theorem bD.calls (k:Nat) (A0:Option Addr) (c0:Nat) (l0:List Int) (A1:Option Addr) (c1:Nat) (l1:List Int) (r:Bool) (w:World) (X:Kd.C (Kd.int .i64) w A0 l0.length l0) (Y:l0.length≤c0) (a0:Kd.C (Kd.int .i64) w A1 l1.length l1) (a1:l1.length≤c1) (h:bD.f k l0 l1 = some r) :
  Calls Tryz.prog 163 #[.slice A0 l0.length c0,.slice A1 l1.length c1] w fun e w'=>e = .returned (.bool r)∧cj w w':=by
 have a2:=ae.mk X;have aE:=ae.mk Y;clear X Y;have a3:=ae.mk a0;have aF:=ae.mk a1;clear a0 a1;unfold bD.f at h;have H:=h;clear h;by_cases c3:(l0.length:Int) = (l1.length:Int)
 ·rw [if_pos c3] at H
  have a4:((l0.length:Int) == (l1.length:Int)) = true:=beq_iff_eq.mpr c3;have a5:((l0.length:Int) != (l1.length:Int)) = false:=bne_eq_false_iff_eq.mpr c3;have a6:(l0.length == l1.length) = true:=by first | simpa using c3 | (simp at c3 ⊢;omega)
  clear c3;have H':=ae.mk H;clear H;go_enter Tryz.func163,Tryz.ntmps163;go_wp2;repeat (go_quiet (fail);try go_wp2)
  go_loopg [13] k (fun kq ap w'=>∃ (j:Int),ap = .int .i64 j∧ae (bD.l0 kq l0 l1 (l0.length:Int) j = some r)∧ae (kq≤k)∧cj w w')
  case atStart=>exact ⟨(0),n0,H',⟨Nat.le_refl _⟩,o0⟩
  case round =>
   clear H';obtain ⟨j,rfl,HA,a7,⟨m1,rfl⟩⟩:=hrel;cases gk with
   | zero=>exact absurd HA.out (by simp [bD.l0])
   | succ k1 =>
    have H:=HA.out;clear HA;simp only [bD.l0] at H;by_cases c4:j < (l0.length:Int)
    ·rw [if_pos c4] at H
     have a8:=decide_eq_true c4;clear c4;obtain ⟨c5,H⟩:=nz H;have ar:=decide_eq_true c5;clear c5;obtain ⟨c6,H⟩:=nz H;have aw:=decide_eq_true c6;clear c6;obtain ⟨c7,H⟩:=nz H;have aB:=decide_eq_true c7;clear c7;by_cases c8:(rd l0 j) = (rd l1 j)
     ·rw [if_pos c8] at H
      have a9:((rd l0 j) == (rd l1 j)) = true:=beq_iff_eq.mpr c8;have aa:((rd l0 j) != (rd l1 j)) = false:=bne_eq_false_iff_eq.mpr c8;clear c8;have H':=ae.mk H;clear H;obtain ⟨M,y,z,ab,al⟩:=oY a2.out j;cases y
      obtain ⟨U,I,J,am,ao⟩:=oY a3.out j;cases I
      go_wp2;repeat (go_quiet (fail);try go_wp2)
      go_roundg k1;case measure=>have:=a7.out;omega
      case rel=>exact ⟨(wrap64 (j+1)),n0,H',⟨by have:=a7.out;omega⟩,o0⟩
     ·rw [if_neg c8] at H
      have a9:((rd l0 j) == (rd l1 j)) = false:=beq_eq_false_iff_ne.mpr c8;have aa:((rd l0 j) != (rd l1 j)) = true:=bne_iff_ne.mpr c8;obtain rfl:=Option.some.inj H;obtain ⟨M,y,z,ab,al⟩:=oY a2.out j;cases y
      obtain ⟨U,I,J,am,ao⟩:=oY a3.out j;cases I
      go_wp2;repeat (go_quiet (fail);try go_wp2)
      go_ret;exact ⟨n0,o0⟩
    ·rw [if_neg c4] at H
     have a8:decide (j < (l0.length:Int)) = false:=decide_eq_false c4;clear c4;obtain rfl:=Option.some.inj H;go_wp2;repeat (go_quiet (fail);try go_wp2)
     go_ret;exact ⟨n0,o0⟩
 ·rw [if_neg c3] at H
  have a4:((l0.length:Int) == (l1.length:Int)) = false:=beq_eq_false_iff_ne.mpr c3;have a5:((l0.length:Int) != (l1.length:Int)) = true:=bne_iff_ne.mpr c3;have a6:(l0.length == l1.length) = false:=by first | simpa using c3 | (simp at c3 ⊢;omega)
  obtain rfl:=Option.some.inj H;go_enter Tryz.func163,Tryz.ntmps163;go_wp2;repeat (go_quiet (fail);try go_wp2)
  go_ret;exact ⟨n0,o0⟩
def cW.f (k:Nat) (j:Int) (y:List Int) (z:Int) (I:List Int):Option (Bool):=if j = z then ((bD.f k y I).bind fun J=>(some J)) else (some false)
set_option maxHeartbeats 8000000 in
set_option maxRecDepth 100000 in
theorem cW.calls (k:Nat) (I:Int) (Y:Option Addr) (a0:Nat) (M:List Int) (J:Int) (a1:Option Addr) (a2:Nat) (U:List Int) (r:Bool) (w:World) (a3:Kd.C (Kd.int .i64) w Y M.length M) (a4:M.length≤a0) (a5:Kd.C (Kd.int .i64) w a1 U.length U) (a6:U.length≤a2) (h:cW.f k I M J U = some r) :
  Calls Tryz.prog 95 #[.agg #[.int .i64 I,.slice Y M.length a0],.agg #[.int .i64 J,.slice a1 U.length a2]] w fun e w'=>e = .returned (.bool r)∧Below w.heap.size w w':=by
 have bs:=Tryz.underlying26;have a7:=ae.mk a3;have a8:=ae.mk a4;clear a3 a4;have a9:=ae.mk a5;have aa:=ae.mk a6;clear a5 a6;have HB:=ae.mk (Below.refl w.heap.size w);unfold cW.f at h;have H:=h;clear h;by_cases c3:I = J
 ·rw [if_pos c3] at H
  have aw:(I == J) = true:=beq_iff_eq.mpr c3;have aB:(I != J) = false:=bne_eq_false_iff_eq.mpr c3;clear c3;obtain ⟨aE,A4,H⟩:=ob H;(try dsimp only at H);obtain rfl:=Option.some.inj H;go_enter Tryz.func95,Tryz.ntmps95;go_wp2_with (first | ((with_reducible refine aY (N:=2) rfl ?_);refine oX 2 #[.int .i64 I,.slice Y M.length a0] 26 ?_;intro ab hg w5 hbox hb;have j:=ae.mk hbox;have al:=na hg HB;have am:=na hg HB;replace HB:=nb HB hb;clear hb hbox hg) | ((with_reducible refine aY (N:=3) rfl ?_);refine oX 3 #[.int .i64 J,.slice a1 U.length a2] 26 ?_;intro ao hg w6 hbox hb;have X:=ae.mk hbox;have ap:=na hg HB;have ar:=na hg HB;replace HB:=nb HB hb;have y:=ph hg j;have z:=pi hg j;replace j:=nm j hb;clear hb hbox hg;have bv:=y.out;have c0:=z.out;obtain ⟨b2,b3,b4,ba⟩:=no j.out;obtain ⟨bc,bd,bi,bk⟩:=no X.out) | (go_at_call 163;(with_reducible refine (bD.calls k _ _ M _ _ U aE _ ?side1 ?side2 ?side3 ?side4 A4.out).mono ?_);(case side1=>exact ol (Kd.aQ a7.out HB.out));(case side2=>exact a8.out);(case side3=>exact ol (Kd.aQ a9.out HB.out));(case side4=>exact aa.out);rintro e w' ⟨rfl,⟨nd,rfl⟩⟩));go_ret;exact ⟨pa,n1⟩
 ·rw [if_neg c3] at H
  have aw:(I == J) = false:=beq_eq_false_iff_ne.mpr c3;have aB:(I != J) = true:=bne_iff_ne.mpr c3;obtain rfl:=Option.some.inj H;go_enter Tryz.func95,Tryz.ntmps95;go_wp2_with (first | ((with_reducible refine aY (N:=2) rfl ?_);refine oX 2 #[.int .i64 I,.slice Y M.length a0] 26 ?_;intro ab hg c1 hbox hb;have j:=ae.mk hbox;have al:=na hg HB;have am:=na hg HB;replace HB:=nb HB hb;clear hb hbox hg) | ((with_reducible refine aY (N:=3) rfl ?_);refine oX 3 #[.int .i64 J,.slice a1 U.length a2] 26 ?_;intro ao hg ca hbox hb;have X:=ae.mk hbox;have ap:=na hg HB;have ar:=na hg HB;replace HB:=nb HB hb;have y:=ph hg j;have z:=pi hg j;replace j:=nm j hb;clear hb hbox hg;have bm:=y.out;have bo:=z.out;obtain ⟨aF,aL,aO,aP⟩:=no j.out;obtain ⟨aR,aS,b0,b1⟩:=no X.out));go_ret;exact ⟨pa,n1⟩
def cm.f (k:Nat) (l0:List Int) (l1:List Int):Option (Int):=if (l0.length:Int) = (l1.length:Int) then ((ay.f k l0 l1).bind fun j=>(some j)) else (some (wrap64 ((l0.length:Int) - (l1.length:Int))))
theorem cm.mono:∀ a0 j k,fl (cm.f k a0 j) (cm.f (k+1) a0 j):=by
 intro a0 j k;unfold cm.f;exact pp
instance cm.m:af.V2 cm.f:=fun _ _ _=>⟨cm.mono _ _ _⟩
set_option maxHeartbeats 8000000 in
set_option maxRecDepth 100000 in
theorem cm.calls (k:Nat) (Y:Option Addr) (c0:Nat) (l0:List Int) (A1:Option Addr) (c1:Nat) (l1:List Int) (r:Int) (w:World) (j:Kd.C (Kd.int .i64) w Y l0.length l0) (y:l0.length≤c0) (z:Kd.C (Kd.int .i64) w A1 l1.length l1) (I:l1.length≤c1) (h:cm.f k l0 l1 = some r) :
  Calls Tryz.prog 166 #[.slice Y l0.length c0,.slice A1 l1.length c1] w fun e w'=>e = .returned (.int .i64 r)∧cj w w':=by
 have a0:=ae.mk j;have a1:=ae.mk y;clear j y;have a2:=ae.mk z;have a3:=ae.mk I;clear z I;unfold cm.f at h;have H:=h;clear h;by_cases c3:(l0.length:Int) = (l1.length:Int)
 ·rw [if_pos c3] at H
  have J:((l0.length:Int) == (l1.length:Int)) = true:=beq_iff_eq.mpr c3;have M:((l0.length:Int) != (l1.length:Int)) = false:=bne_eq_false_iff_eq.mpr c3;have U:(l0.length == l1.length) = true:=by first | simpa using c3 | (simp at c3 ⊢;omega)
  clear c3;obtain ⟨X,A4,H⟩:=ob H;(try dsimp only at H);obtain rfl:=Option.some.inj H;go_enter Tryz.func166,Tryz.ntmps166;go_wp2_with (first | (refine n7 (some 17) Tryz.func162 #[.slice Y l0.length c0,.slice A1 l1.length c1] ?_;(with_reducible refine (ay.calls k _ _ l0 _ _ l1 X _ ?side1 ?side2 ?side3 ?side4 A4.out).mono ?_);(case side1=>exact ol a0.out);(case side2=>exact a1.out);(case side3=>exact ol a2.out);(case side4=>exact a3.out);rintro e w' ⟨rfl,⟨nd,rfl⟩⟩;refine ⟨_,rfl,?_⟩));go_ret;exact ⟨n0,o0⟩
 ·rw [if_neg c3] at H
  have J:((l0.length:Int) == (l1.length:Int)) = false:=beq_eq_false_iff_ne.mpr c3;have M:((l0.length:Int) != (l1.length:Int)) = true:=bne_iff_ne.mpr c3;have U:(l0.length == l1.length) = false:=by first | simpa using c3 | (simp at c3 ⊢;omega)
  obtain rfl:=Option.some.inj H;go_enter Tryz.func166,Tryz.ntmps166;go_wp2;go_ret;exact ⟨n0,o0⟩
def cn.f (k:Nat) (I:Int) (j:List Int) (J:Int) (y:List Int):Option (Int):=(cm.f k j y).bind fun z=>(some z)
theorem cn.mono:∀ a0 j a2 a3 k,fl (cn.f k a0 j a2 a3) (cn.f (k+1) a0 j a2 a3):=by
 intro a0 j a2 a3 k;unfold cn.f;exact pp
end Pr
end
section
namespace ga
open Go.RowKit Go.Shelf Go.Sort Go.Proofs.YtmpbccmcaabpjaaGreat.Pr ag.aX ag.bQ ag.bR
set_option linter.unusedVariables false
def Gr (w W:World):Prop:=∃ q os,W = grow (w.drewN q) os
theorem Gr.refl (w:World):Gr w w:=⟨0,#[],by unfold grow World.drewN;simp⟩
theorem Gr.drewN {w W:World} (h:Gr w W) (n:Nat):Gr w (W.drewN n):=by
 obtain ⟨q,os,rfl⟩:=h;exact ⟨q+n,os,by unfold grow World.drewN;simp [Nat.add_assoc]⟩
theorem Gr.drew {w W:World} (h:Gr w W):Gr w W.drew:=by
 obtain ⟨q,os,rfl⟩:=h;exact ⟨q+1,os,by unfold grow World.drewN World.drew;simp [Nat.add_assoc]⟩
theorem Gr.alloc {w W:World} (h:Gr w W) (o:Obj):Gr w (W.alloc o):=by
 obtain ⟨q,os,rfl⟩:=h;exact ⟨q,os.push o,by unfold grow World.drewN World.alloc;simp⟩
theorem uf {P:Program} {ops:Array Oper} {rest:List Oper} {a:Act} {Q:Exit→Act→World→Prop} {o:Oper} {W:World} (N:Tmp) (cs:Array Value) (t:TypeId)
  (h:∀ g,g = W.heap.size→∀ w1,(∀ w0,Gr w0 W→Gr w0 w1)→w1.heap[g]? = some (.cells cs t (0,0))→Below W.heap.size W w1→wpList P ops Q rest (a.put o.dst (.pointer (some ⟨g,0,none⟩))) w1) (hd:o.dst = some N:=by with_reducible rfl) (hgd:o.guard = none:=by rfl)
  (hrun:(execOp a.eval o).run P W = .ok (.value (.pointer (some ⟨W.heap.size,0,none⟩))) (W.alloc (.cells cs t (0,0))):=by first | (go_simp;done) | (go_simp;rfl)):wpList P ops Q (o :: rest) a W :=
 Kd.jt hgd hrun (h _ rfl _ (fun _ hg=>hg.alloc _) (nS W _) (dB (Below.refl _ _) _))
set_option maxHeartbeats 8000000 in
set_option maxRecDepth 100000 in
theorem kinds (k:Nat) (a0:Int) (M:Option Addr) (U:Nat) (y:List Int) (a1:Int) (X:Option Addr) (Y:Nat) (z:List Int) (r:Int) (w:World) (a2:Kd.C (Kd.int .i64) w M y.length y) (a3:y.length≤U) (a4:Kd.C (Kd.int .i64) w X z.length z) (a5:z.length≤Y) (h:cn.f k a0 y a1 z = some r) :
  Calls Tryz.prog 97 #[.agg #[.int .i64 a0,.slice M y.length U],.agg #[.int .i64 a1,.slice X z.length Y]] w fun e w'=>e = .returned (.int .i64 r)∧Gr w w':=by
 have aR:=Tryz.underlying26;have a7:=ae.mk a2;have a8:=ae.mk a3;clear a2 a3;have a9:=ae.mk a4;have aa:=ae.mk a5;clear a4 a5;have HB:=ae.mk (Below.refl w.heap.size w);have HG:=ae.mk (Gr.refl w);unfold cn.f at h;have H:=h;clear h;obtain ⟨ab,A3,H⟩:=ob H;(try dsimp only at H);obtain rfl:=Option.some.inj H;go_enter Tryz.func97,Tryz.ntmps97;go_wp2_with (first | (refine uf 2 #[.int .i64 a0,.slice M y.length U] 26 ?_;intro al hg w4 hgr hbox hb;replace HG:=ae.mk (hgr w (by repeat (first | exact HG.out | apply Gr.drewN | apply Gr.drew)));have j:=ae.mk hbox;have am:=na hg HB;replace HB:=nb HB hb;clear hb hbox hg hgr) | (refine uf 3 #[.int .i64 a1,.slice X z.length Y] 26 ?_;intro ao hg w5 hgr hbox hb;replace HG:=ae.mk (hgr w (by repeat (first | exact HG.out | apply Gr.drewN | apply Gr.drew)));have a6:=ae.mk hbox;have ap:=na hg HB;replace HB:=nb HB hb;have I:=ph hg j;have J:=pi hg j;replace j:=nm j hb;clear hb hbox hg hgr;have aS:=I.out;have b0:=J.out;obtain ⟨ar,aw,aB,aE⟩:=no j.out;obtain ⟨aF,aL,aO,aP⟩:=no a6.out) | (refine n7 (some 9) Tryz.func166 #[.slice M y.length U,.slice X z.length Y] ?_;(with_reducible refine (cm.calls k _ _ y _ _ z ab _ ?side1 ?side2 ?side3 ?side4 A3.out).mono ?_);(case side1=>exact ol (Kd.aQ a7.out HB.out));(case side2=>exact a8.out);(case side3=>exact ol (Kd.aQ a9.out HB.out));(case side4=>exact aa.out);rintro e w' ⟨rfl,⟨nd,rfl⟩⟩;refine ⟨_,rfl,?_⟩));go_ret;exact ⟨pa,by repeat (first | exact HG.out | apply Gr.drewN | apply Gr.drew)⟩
end ga
end
section
namespace Lay
open Go.Shelf Go.Proofs
def kU:Go.Shelf.Ren:=⟨fun | 6=>96 | 15=>165 | 14=>164 | 28=>219 | 29=>220 | 20=>211 | 21=>212 | 22=>213 | 23=>214 | 24=>215 | 25=>216 | 26=>217 | 27=>218 | 46=>247 | 47=>248 | 48=>249 | 49=>250 | 50=>251 | 57=>269 | n=>n,fun | 22=>47 | 24=>26 | 25=>96 | 3=>3 | 39=>105 | 0=>0 | 53=>155 | 55=>157 | 4=>4 | 46=>149 | 45=>148 | 50=>51 | 5=>5 | 9=>9 | 66=>167 | 70=>171 | 76=>182 | 77=>45 | n=>n,fun | n=>n⟩
theorem iD:Go.Proofs.SlLaysF0.n6 Tryz.prog kU:={
 mixed:=by kernel_rfl
 f6:=⟨"slices.SortFunc[[]loop.example/g00593/impl.Matroid,loop.example/g00593/impl.Matroid]", by decide,Tryz.func96.trans (congrArg some (by kernel_rfl))⟩
 f14:=⟨"slices.pdqsortCmpFunc[loop.example/g00593/impl.Matroid]", by decide,Tryz.func164.trans (congrArg some (by kernel_rfl))⟩
 f15:=Tryz.func165.trans (congrArg some (by kernel_rfl))
 f20:=⟨"slices.insertionSortCmpFunc[loop.example/g00593/impl.Matroid]", by decide,Tryz.func211.trans (congrArg some (by kernel_rfl))⟩
 f21:=⟨"slices.heapSortCmpFunc[loop.example/g00593/impl.Matroid]", by decide,Tryz.func212.trans (congrArg some (by kernel_rfl))⟩
 f22:=⟨"slices.breakPatternsCmpFunc[loop.example/g00593/impl.Matroid]", by decide,Tryz.func213.trans (congrArg some (by kernel_rfl))⟩
 f23:=⟨"slices.choosePivotCmpFunc[loop.example/g00593/impl.Matroid]", by decide,Tryz.func214.trans (congrArg some (by kernel_rfl))⟩
 f24:=⟨"slices.reverseRangeCmpFunc[loop.example/g00593/impl.Matroid]", by decide,Tryz.func215.trans (congrArg some (by kernel_rfl))⟩
 f25:=⟨"slices.partialInsertionSortCmpFunc[loop.example/g00593/impl.Matroid]", by decide,Tryz.func216.trans (congrArg some (by kernel_rfl))⟩
 f26:=⟨"slices.partitionEqualCmpFunc[loop.example/g00593/impl.Matroid]", by decide,Tryz.func217.trans (congrArg some (by kernel_rfl))⟩
 f27:=⟨"slices.partitionCmpFunc[loop.example/g00593/impl.Matroid]", by decide,Tryz.func218.trans (congrArg some (by kernel_rfl))⟩
 f28:=Tryz.func219.trans (congrArg some (by kernel_rfl))
 f29:=Tryz.func220.trans (congrArg some (by kernel_rfl))
 f46:=⟨"slices.siftDownCmpFunc[loop.example/g00593/impl.Matroid]", by decide,Tryz.func247.trans (congrArg some (by kernel_rfl))⟩
 f47:=Tryz.func248.trans (congrArg some (by kernel_rfl))
 f48:=Tryz.func249.trans (congrArg some (by kernel_rfl))
 f49:=⟨"slices.medianAdjacentCmpFunc[loop.example/g00593/impl.Matroid]", by decide,Tryz.func250.trans (congrArg some (by kernel_rfl))⟩
 f50:=⟨"slices.medianCmpFunc[loop.example/g00593/impl.Matroid]", by decide,Tryz.func251.trans (congrArg some (by kernel_rfl))⟩
 f57:=⟨"slices.order2CmpFunc[loop.example/g00593/impl.Matroid]", by decide,Tryz.func269.trans (congrArg some (by kernel_rfl))⟩
 t0:=Tryz.underlying0
 a0:=Tryz.isAgg0
 z0:=Tryz.sizeOf0
 v0:=Tryz.zeroValue0
 t3:=Tryz.underlying3
 a3:=Tryz.isAgg3
 z3:=Tryz.sizeOf3
 v3:=Tryz.zeroValue3
 t4:=Tryz.underlying4
 a4:=Tryz.isAgg4
 z4:=Tryz.sizeOf4
 v4:=Tryz.zeroValue4
 t5:=Tryz.underlying5
 a5:=Tryz.isAgg5
 z5:=Tryz.sizeOf5
 v5:=Tryz.zeroValue5
 t9:=Tryz.underlying9
 a9:=Tryz.isAgg9
 z9:=Tryz.sizeOf9
 v9:=Tryz.zeroValue9
 t22:=Tryz.underlying47
 a22:=Tryz.isAgg47
 z22:=Tryz.sizeOf47
 v22:=Tryz.zeroValue47
 t25:=Tryz.underlying96
 a25:=Tryz.isAgg96
 z25:=Tryz.sizeOf96
 v25:=Tryz.zeroValue96
 t39:=Tryz.underlying105
 a39:=Tryz.isAgg105
 z39:=Tryz.sizeOf105
 v39:=Tryz.zeroValue105
 t45:=Tryz.underlying148
 a45:=Tryz.isAgg148
 z45:=Tryz.sizeOf148
 v45:=Tryz.zeroValue148
 t46:=Tryz.underlying149
 a46:=Tryz.isAgg149
 z46:=Tryz.sizeOf149
 v46:=Tryz.zeroValue149
 t50:=Tryz.underlying51
 a50:=Tryz.isAgg51
 z50:=Tryz.sizeOf51
 v50:=Tryz.zeroValue51
 t53:=Tryz.underlying155
 a53:=Tryz.isAgg155
 z53:=Tryz.sizeOf155
 v53:=Tryz.zeroValue155
 t55:=Tryz.underlying157
 a55:=Tryz.isAgg157
 z55:=Tryz.sizeOf157
 v55:=Tryz.zeroValue157
 t66:=Tryz.underlying167
 a66:=Tryz.isAgg167
 z66:=Tryz.sizeOf167
 v66:=Tryz.zeroValue167
 t70:=Tryz.underlying171
 a70:=Tryz.isAgg171
 z70:=Tryz.sizeOf171
 v70:=Tryz.zeroValue171
 t76:=Tryz.underlying182
 a76:=Tryz.isAgg182
 z76:=Tryz.sizeOf182
 v76:=Tryz.zeroValue182
 t77:=Tryz.underlying45
 a77:=Tryz.isAgg45
 z77:=Tryz.sizeOf45
 v77:=Tryz.zeroValue45 }
end Lay
end
section
namespace ga
set_option linter.unusedVariables false
def fG:List Int→List Int→Int
 | [],[]=>0
 | [],_ :: _=>-1
 | _ :: _,[]=>1
 | x :: a,y :: b=>if x = y then fG a b else if x < y then -1 else 1
theorem jx:∀ a,fG a a = 0
 | []=>rfl
 | x :: a=>by rw [fG,if_pos rfl,jx a]
theorem l8:∀ a b,fG b a = -fG a b
 | [],[]=>rfl
 | [],_ :: _=>rfl
 | _ :: _,[]=>rfl
 | x :: a,y :: b=>by
  rw [fG,fG];by_cases h:x = y
  ·rw [if_pos h,if_pos h.symm,l8 a b]
  ·rw [if_neg h,if_neg fun k=>h k.symm]
   by_cases h2:x < y
   ·rw [if_pos h2,if_neg (by omega)];rfl
   ·rw [if_neg h2,if_pos (by omega)]
theorem oe:∀ a b,fG a b = 0→a = b
 | [],[],_=>rfl
 | [],_ :: _,h=>by simp [fG] at h
 | _ :: _,[],h=>by simp [fG] at h
 | x :: a,y :: b,h=>by
  rw [fG] at h;by_cases hx:x = y
  ·rw [if_pos hx] at h
   rw [hx,oe a b h]
  ·rw [if_neg hx] at h
   by_cases h2:x < y
   ·rw [if_pos h2] at h
    exact absurd h (by decide)
   ·rw [if_neg h2] at h
    exact absurd h (by decide)
theorem kz:∀ a b c,fG a b < 0→fG b c < 0→fG a c < 0
 | [],[],[],h1,_=>h1
 | [],_ :: _,[],_,h2=>by simp [fG] at h2
 | [],_,_ :: _,_,_=>by simp [fG]
 | _ :: _,[],_,h1,_=>by simp [fG] at h1
 | _ :: _,_ :: _,[],_,h2=>by simp [fG] at h2
 | x :: a,y :: b,z :: c,h1,h2=>by
  rw [fG] at h1 h2 ⊢;by_cases hx:x = y
  ·rw [if_pos hx] at h1
   subst hx;by_cases hz:x = z
   ·rw [if_pos hz] at h2 ⊢
    exact kz a b c h1 h2
   ·rw [if_neg hz] at h2 ⊢
    exact h2
  ·rw [if_neg hx] at h1
   have hxy:x < y:=Classical.byContradiction fun h=>by rw [if_neg h] at h1;exact absurd h1 (by decide)
   by_cases hz:y = z
   ·subst hz
    rw [if_neg hx,if_pos hxy];decide
   ·rw [if_neg hz] at h2
    have hyz:y < z:=Classical.byContradiction fun h=>by rw [if_neg h] at h2;exact absurd h2 (by decide)
    rw [if_neg (by omega),if_pos (by omega)];decide
def dw (a b:List Int):Int:=if a.length = b.length then fG a b else (a.length:Int) - (b.length:Int)
theorem oU (a:List Int):dw a a = 0:=by rw [dw,if_pos rfl,jx]
theorem ff (a b:List Int):dw b a = -dw a b:=by
 unfold dw;by_cases h:a.length = b.length
 ·rw [if_pos h,if_pos h.symm,l8]
 ·rw [if_neg h,if_neg fun k=>h k.symm];omega
theorem iE (a b:List Int) (h:dw a b = 0):a = b:=by
 unfold dw at h;by_cases hl:a.length = b.length
 ·rw [if_pos hl] at h
  exact oe a b h
 ·rw [if_neg hl] at h
  omega
theorem gW (a b c:List Int) (h1:dw a b < 0) (h2:dw b c < 0):dw a c < 0:=by
 unfold dw at *;by_cases hab:a.length = b.length
 ·rw [if_pos hab] at h1
  by_cases hbc:b.length = c.length
  ·rw [if_pos hbc] at h2
   rw [if_pos (hab.trans hbc)];exact kz a b c h1 h2
  ·rw [if_neg hbc] at h2
   rw [if_neg (by omega)];omega
 ·rw [if_neg hab] at h1
  by_cases hbc:b.length = c.length
  ·rw [if_neg (by omega)]
   omega
  ·rw [if_neg hbc] at h2
   rw [if_neg (by omega)];omega
end ga
end
section
namespace ga
open Go.RowKit Go.Shelf Go.Sort Go.Proofs.YtmpbccmcaabpjaaGreat.Pr ag.aX ag.bQ ag.bR
set_option linter.unusedVariables false
theorem tL {α:Type} (f:α→List Int):SWO (ltOf fun x y=>dw (f x) (f y)):=by
 refine ⟨fun x=>?_,fun x y z h1 h2=>?_,fun x y z h1 h2=>?_⟩
 ·unfold ltOf
  show decide (dw (f x) (f x) < 0) = false;rw [oU];rfl
 ·unfold ltOf at *
  rw [decide_eq_true_iff] at *;exact gW _ _ _ h1 h2
 ·unfold ltOf at *
  rw [decide_eq_false_iff_not] at *;dsimp only at h1 h2 ⊢;intro h3;have j:=ff (f x) (f y);have I:=ff (f y) (f z);by_cases hxy:dw (f x) (f y) = 0
  ·rw [iE _ _ hxy] at h3
   exact h2 h3
  ·exact h2 (gW _ _ _ (by omega:dw (f y) (f x) < 0) h3)
abbrev SM:=cV
def oV (k:Nat) (xs:List SM):Bool:=(xs.all fun x=>xs.all fun y=>decide (cn.f k x.f0 x.f1 y.f0 y.f1 = some (dw x.f1 y.f1))) && decide ((xs.map fun x=>x.f1).Nodup)
def fF (xs:List SM):List SM:=xs.mergeSort fun x y=>!decide (dw y.f1 x.f1 < 0)
theorem qf {k:Nat} {xs:List SM} (h:oV k xs = true):oV (k+1) xs = true:=by
 unfold oV at *;rw [Bool.and_eq_true] at *;refine ⟨List.all_eq_true.2 fun x hx=>List.all_eq_true.2 fun y hy=>?_,h.2⟩;have h1:=List.all_eq_true.1 (List.all_eq_true.1 h.1 x hx) y hy;rw [decide_eq_true_iff] at h1 ⊢;exact cn.mono _ _ _ _ k _ h1
theorem mM {n:Nat} {rows:List (List Value)} {inner:List Value} (hr:ck (fun x cs=>cs = x∧cs.length = 2∧∀ u∈cs,u.oneCell' = true) 2 rows inner) {t:Nat} (ht:t < rows.length * 2):inner[t]? = ((rows[t / 2]?).getD [])[t % 2]?:=by
 have h1:t / 2 < rows.length:=by omega
 obtain ⟨h2,_⟩:=hr.2 (t / 2) (rows[t / 2]) (List.getElem?_eq_getElem h1);rw [List.getElem?_eq_getElem h1,Option.getD_some,← h2,List.getElem?_take,if_pos (Nat.mod_lt _ (by decide)),List.getElem?_drop];congr 1
 omega
theorem fg {α:Type} [Inhabited α] {enc:α→List Value} {w:World} {g n:Nat} {os:Array Obj} (d:Array α):w.grownBy (sortWorldK enc 2 w g 0 n d os) (some g):=by
 unfold sortWorldK putRowK;refine ⟨rfl,rfl,rfl,by simp,fun k hk hne=>?_⟩;rw [heap_grow_old _ _ (by simpa using hk)];have:g≠k:=fun e=>hne (by rw [e])
 simp [putRow,mapBlock,Sort.ahead,Array.getElem?_modify,this]
theorem nw {w:World} {base:Nat} {ok:Nat→Prop} {xs:List SM} {rows:List (List Value)} {g cap n:Nat} {cur:Array Value} {os:Array Obj} {m:Nat} (hbase:base≤g) (hb:w.heap[g]? = some (.cells cur 26 (0,0))) (hn:m+1≤cap) (hm:cap≤maxLen) (hcs:cur.size = cap * 2) (X:ok g) (hrl:rows.length = m+1) (hxl:xs.length = m+1)
  (J:∀ r∈rows,r.length = 2∧∀ u∈r,u.oneCell' = true) (hf:∀ (j:Nat) (x:SM) (c:List Value),xs[j]? = some x→rows[j]? = some c→Kd.FK fq w (fun k=>ok k∧some k≠some g) x c) (p:List (Fin (m+1))) (hp:p.length = m+1) :
  Kd.N fq 26 (sortWorldK (fun i:Fin (m+1)=>(rows[i.val]?).getD []) 2 w g 0 n p.toArray os) base ok (.slice (some ⟨g,0,none⟩) (m+1) cap) (p.map fun i:Fin (m+1)=>xs[i.val]'(by omega)):=by
 have y:=fg (enc:=fun i:Fin (m+1)=>(rows[i.val]?).getD []) (w:=w) (g:=g) (n:=n) (os:=os) p.toArray;have z:∀ i:Fin (m+1),((rows[i.val]?).getD []).length = 2∧∀ u∈(rows[i.val]?).getD [],u.oneCell' = true:=fun i=>by
  have hi:i.val < rows.length:=by omega
  rw [List.getElem?_eq_getElem hi,Option.getD_some];exact J _ (List.getElem_mem hi)
 have hsize:(flatK (fun i:Fin (m+1)=>(rows[i.val]?).getD []) 2 p.toArray).size = (m+1) * 2:=by rw [size_flatK];simp [hp]
 have hheap:(sortWorldK (fun i:Fin (m+1)=>(rows[i.val]?).getD []) 2 w g 0 n p.toArray os).heap[g]? = some (.cells (putCells id 0 (flatK (fun i:Fin (m+1)=>(rows[i.val]?).getD []) 2 p.toArray) cur) 26 (0,0)):=by
  have hlt:g < w.heap.size:=(Array.getElem?_eq_some_iff.1 hb).1;unfold sortWorldK putRowK;rw [heap_grow_old _ _ (by simpa [putRow,mapBlock,Sort.ahead] using hlt)];simp [putRow,mapBlock,Sort.ahead,Array.getElem?_modify,hb,onCells]
 have hown:(sortWorldK (fun i:Fin (m+1)=>(rows[i.val]?).getD []) 2 w g 0 n p.toArray os).ownsRow base 26 2 (.slice (some ⟨g,0,none⟩) (m+1) cap) (m+1) (flatK (fun i:Fin (m+1)=>(rows[i.val]?).getD []) 2 p.toArray).toList:=by
  refine ⟨by rw [Array.length_toList,hsize],.inr ⟨g,cap,_,rfl,hbase,hheap,hn,hm,by simpa [putCells] using hcs,?_⟩⟩;apply List.ext_getElem?
  intro j;rw [List.getElem?_take,Array.getElem?_toList,Array.getElem?_toList];by_cases hj:j < (m+1) * 2
  ·have hjc:j < cur.size:=by omega
   rw [if_pos hj];simp only [putCells,Array.getElem?_mapIdx,Array.getElem?_eq_getElem hjc,Option.map_some];rw [if_pos (by rw [hsize];omega),Array.getElem?_eq_getElem (by rw [hsize];exact hj),Nat.sub_zero,getElem!_pos _ _ (by rw [hsize];exact hj)];rfl
  ·rw [if_neg hj,Array.getElem?_eq_none (by rw [hsize];omega)]
 refine ⟨fun k hk=>?_,p.map fun i:Fin (m+1)=>(rows[i.val]?).getD [],by rw [List.length_map,List.length_map],⟨fun k hk=>hk.symm,_,by rw [List.length_map,hp];exact hown,?_⟩,fun j x c hx hc=>?_⟩
 ·simp only [Value.ownBlock,Option.some.injEq] at hk
  rw [← hk];exact X
 ·refine ⟨by rw [Array.length_toList,hsize,List.length_map,hp];rfl,fun j q hq=>?_⟩
  have hj:j < m+1:=by
   have:=(List.getElem?_eq_some_iff.1 hq).1;rw [List.length_map] at this;omega
  have I:q = (rows[(p[j]'(by omega)).val]?).getD []:=by
   rw [List.getElem?_map,List.getElem?_eq_getElem (by omega)] at hq;exact (Option.some.inj hq).symm
  obtain ⟨M,U⟩:=z (p[j]'(by omega));rw [← I] at M U;have Y:((flatK (fun i:Fin (m+1)=>(rows[i.val]?).getD []) 2 p.toArray).toList.drop (j * 2)).take 2 = q:=by
   apply List.ext_getElem?
   intro t;rw [List.getElem?_take,List.getElem?_drop,Array.getElem?_toList];by_cases ht:t < 2
   ·rw [if_pos ht,Array.getElem?_eq_getElem (by rw [hsize];omega),← getElem!_pos _ _ (by rw [hsize];omega),get_flatK _ _ _ _ (by simp [hp];omega)]
    have d1:(j * 2+t) / 2 = j:=by omega
    have d2:(j * 2+t) % 2 = t:=by omega
    rw [d1,d2,getElem!_pos p.toArray j (by simp [hp];omega)];have d3:p.toArray[j]'(by simp [hp];omega) = p[j]'(by omega):=by simp
    rw [d3,← I,List.getElem?_eq_getElem (by omega),getElem!_pos q t (by omega)]
   ·rw [if_neg ht,List.getElem?_eq_none (by omega)]
  show ((flatK (fun i:Fin (m+1)=>(rows[i.val]?).getD []) 2 p.toArray).toList.drop (j * 2)).take 2 = q∧(((flatK (fun i:Fin (m+1)=>(rows[i.val]?).getD []) 2 p.toArray).toList.drop (j * 2)).take 2).length = 2∧∀ u∈((flatK (fun i:Fin (m+1)=>(rows[i.val]?).getD []) 2 p.toArray).toList.drop (j * 2)).take 2,u.oneCell' = true;rw [Y];exact ⟨rfl,M,U⟩
 ·have hj:j < p.length:=by
   have:=(List.getElem?_eq_some_iff.1 hx).1;rwa [List.length_map] at this
  rw [List.getElem?_map,List.getElem?_eq_getElem hj] at hx hc;obtain rfl:=Option.some.inj hx;obtain rfl:=Option.some.inj hc;have hi:(p[j]).val < rows.length:=by omega
  have:=hf (p[j]).val _ ((rows[(p[j]).val]?).getD []) (List.getElem?_eq_getElem (by omega)) (by rw [List.getElem?_eq_getElem hi];rfl);exact Kd.je this y (fun k hk=>hk.2)
set_option maxHeartbeats 2000000 in
theorem kx {w:World} {base:Nat} {ok:Nat→Prop} {v:Value} {xs:List SM} (k:Nat) (h:Kd.N fq 26 w base ok v xs) (hs:xs.length < 4611686018427387904) (hk:oV k xs = true) :
  Calls Tryz.prog 96 #[v,.func (.func 97) #[] #[]] w fun e w'=>e = .returned (.tuple #[])∧Kd.N fq 26 w' base ok v (fF xs)∧(∀ w0:World,Below base w0 w→Below base w0 w')∧w.grownBy w' v.ownBlock:=by
 have hN:=h;obtain ⟨h0,rows,hl,⟨_,inner,ho,hr⟩,hf⟩:=h;replace hr:ck (fun x cs=>cs = x∧cs.length = 2∧∀ u∈cs,u.oneCell' = true) 2 rows inner:=hr;have none_:∀ (q:Option Addr) (c:Nat),v = .slice q 0 c→xs = []→Calls Tryz.prog 96 #[v,.func (.func 97) #[] #[]] w fun e w'=>e = .returned (.tuple #[])∧Kd.N fq 26 w' base ok v (fF xs)∧(∀ w0:World,Below base w0 w→Below base w0 w')∧w.grownBy w' v.ownBlock:=by
  intro q c hv hx;subst hx;refine (show Calls Tryz.prog 96 #[v,.func (.func 97) #[] #[]] w fun e w'=>e = .returned (.tuple #[])∧w' = w by rw [hv];exact AnyF.slices_SortFunc_none Lay.iD q c _ w).mono ?_;rintro e w' ⟨rfl,rfl⟩
  exact ⟨rfl,by simpa [fF] using hN,fun _ hb=>hb,⟨rfl,rfl,rfl,Nat.le_refl _,fun _ _ _=>rfl⟩⟩
 rcases ho.2 with ⟨rfl,a1⟩ | ⟨g,cap,cur,rfl,hbase,hb,hn,hm,hcs,htk⟩
 ·exact none_ none 0 rfl (List.length_eq_zero_iff.1 (by omega))
 ·replace hcs:cur.size = cap * 2:=hcs
  replace htk:cur.toList.take (rows.length * 2) = inner:=htk;by_cases I:xs = []
  ·refine none_ (some ⟨g,0,none⟩) cap ?_ I
   have:rows.length = 0:=by rw [hl,I];rfl
   rw [this]
  ·obtain ⟨m,J⟩:∃ m,xs.length = m+1:=⟨xs.length - 1,by have:=List.length_pos_iff.2 I;omega⟩
   have hrl:rows.length = m+1:=by omega
   have z:∀ r∈rows,r.length = 2∧∀ u∈r,u.oneCell' = true:=fun r U=>by
    obtain ⟨j,hj⟩:=List.mem_iff_getElem?.1 U;have:=hr.2 j r hj;rw [← this.1];exact this.2
   have hok:ok g:=h0 g rfl;unfold oV at hk;rw [Bool.and_eq_true,decide_eq_true_iff] at hk;have hcf:∀ i j:Fin (m+1),cn.f k (xs[i.val]'(by omega)).f0 (xs[i.val]'(by omega)).f1 (xs[j.val]'(by omega)).f0 (xs[j.val]'(by omega)).f1 = some (dw (xs[i.val]'(by omega)).f1 (xs[j.val]'(by omega)).f1):=fun i j=>by
    have:=List.all_eq_true.1 (List.all_eq_true.1 hk.1 _ (List.getElem_mem (show i.val < xs.length by omega))) _ (List.getElem_mem (show j.val < xs.length by omega));exact of_decide_eq_true this
   have hpick:(List.finRange (m+1)).map (fun i:Fin (m+1)=>xs[i.val]'(by omega)) = xs:=by
    apply List.ext_getElem
    ·simp [J]
    ·intro j h1 h2
     simp
   have hT:∀ x y:Fin (m+1),(ltOf fun i j:Fin (m+1)=>dw (xs[i.val]'(by omega)).f1 (xs[j.val]'(by omega)).f1) x y = false→(ltOf fun i j:Fin (m+1)=>dw (xs[i.val]'(by omega)).f1 (xs[j.val]'(by omega)).f1) y x = false→x = y:=by
    intro x y h1 h2;unfold ltOf at h1 h2;rw [decide_eq_false_iff_not] at h1 h2;have M:=ff (xs[x.val]'(by omega)).f1 (xs[y.val]'(by omega)).f1;dsimp only at h1 h2;have X:=iE (xs[x.val]'(by omega)).f1 (xs[y.val]'(by omega)).f1 (by omega);have e3:(xs.map fun x=>x.f1)[x.val]'(by rw [List.length_map];omega) = (xs.map fun x=>x.f1)[y.val]'(by rw [List.length_map];omega):=by simpa using X
    exact Fin.ext ((List.getElem_inj hk.2).1 e3)
   have hH:HoldsK (fun i:Fin (m+1)=>(rows[i.val]?).getD []) 2 w g 0 (List.finRange (m+1)).toArray:=by
    intro j hj;have Y:j < (m+1) * 2:=by simpa using hj
    refine ⟨?_,by simp [World.frozen?,hb]⟩;have M:(cur.toList.take (rows.length * 2))[j]? = inner[j]?:=by rw [htk]
    rw [List.getElem?_take,if_pos (by omega),Array.getElem?_toList,mM (n:=m+1) hr (by omega)] at M;simp only [World.cell?,hb,Nat.zero_add];simp only [Option.isSome_none,Bool.false_eq_true,if_false];rw [M,get_flatK _ _ _ _ (by simpa using Y)];have hjm:j / 2 < m+1:=by omega
    have d3:(List.finRange (m+1)).toArray[j / 2]! = (⟨j / 2,hjm⟩:Fin (m+1)):=by
     rw [getElem!_pos _ _ (by simpa using hjm)];simp
    rw [d3];have hrow:((rows[j / 2]?).getD []).length = 2:=by
     rw [List.getElem?_eq_getElem (by omega),Option.getD_some];exact (z _ (List.getElem_mem (by omega))).1
    show ((rows[j / 2]?).getD [])[j % 2]? = some (id (((rows[j / 2]?).getD [])[j % 2]!));rw [List.getElem?_eq_getElem (by omega),getElem!_pos _ _ (by omega)];rfl
   have hcmp:CmpLays Tryz.prog 97 #[] (fun i:Fin (m+1)=>(rows[i.val]?).getD []) 2 (fun i j:Fin (m+1)=>dw (xs[i.val]'(by omega)).f1 (xs[j.val]'(by omega)).f1) g 0 (List.finRange (m+1)).toArray.size w:=by
    intro q os dk _ x y;have hgr:=fg (enc:=fun i:Fin (m+1)=>(rows[i.val]?).getD []) (w:=w) (g:=g) (n:=q) (os:=os) dk;have key:∀ i:Fin (m+1),Kd.K fq (sortWorldK (fun i:Fin (m+1)=>(rows[i.val]?).getD []) 2 w g 0 q dk os) (xs[i.val]'(by omega)) ((rows[i.val]?).getD []):=fun i=>by
     have hi:i.val < rows.length:=by omega
     exact Kd.gU (Kd.je (hf i.val _ ((rows[i.val]?).getD []) (List.getElem?_eq_getElem (by omega)) (by rw [List.getElem?_eq_getElem hi];rfl)) hgr (fun k hk=>hk.2))
    obtain ⟨A1,c1,M,l1,g1⟩:=gy (key x);obtain ⟨A2,c2,X,l2,g2⟩:=gy (key y);have:=kinds k _ A1 c1 _ _ A2 c2 _ _ (sortWorldK (fun i:Fin (m+1)=>(rows[i.val]?).getD []) 2 w g 0 q dk os) g1 l1 g2 l2 (hcf x y);dsimp only;rw [M,X];exact this
   have hmain:=AnyQ.slices_SortFunc_total Lay.iD 2 (by intro w';kernel_rfl) (by intro w';kernel_rfl) (fun i:Fin (m+1)=>(rows[i.val]?).getD []) (fun i=>by
     rw [List.getElem?_eq_getElem (by omega),Option.getD_some];exact (z _ (List.getElem_mem (by omega))).1) (fun i=>by
     rw [List.getElem?_eq_getElem (by omega),Option.getD_some];exact (z _ (List.getElem_mem (by omega))).2) (fun i j:Fin (m+1)=>dw (xs[i.val]'(by omega)).f1 (xs[j.val]'(by omega)).f1) (tL fun i:Fin (m+1)=>(xs[i.val]'(by omega)).f1) 97 #[] g 0 cap (List.finRange (m+1)).toArray w (iw Tryz.func97 (by kernel_rfl) rfl) hcmp hH (Array.getElem?_eq_some_iff.1 hb).1 (by simp;omega) hT
   have hsz:(List.finRange (m+1)).toArray.size = rows.length:=by simp [hrl]
   rw [hsz] at hmain;refine hmain.mono ?_;rintro e w' ⟨rfl,q,os,rfl⟩
   have hlen:((List.finRange (m+1)).toArray.toList.mergeSort fun x y:Fin (m+1)=>!(ltOf fun i j:Fin (m+1)=>dw (xs[i.val]'(by omega)).f1 (xs[j.val]'(by omega)).f1) y x).length = m+1:=by simp
   have hrow:=nw (ok:=ok) (n:=q) (os:=os) hbase hb (by omega) hm hcs hok hrl J z hf _ hlen;have hys:((List.finRange (m+1)).toArray.toList.mergeSort fun x y:Fin (m+1)=>!(ltOf fun i j:Fin (m+1)=>dw (xs[i.val]'(by omega)).f1 (xs[j.val]'(by omega)).f1) y x).map (fun i:Fin (m+1)=>xs[i.val]'(by omega)) = fF xs:=by
    unfold fF;refine (List.map_mergeSort (s:=fun x y:SM=>!decide (dw y.f1 x.f1 < 0)) (f:=fun i:Fin (m+1)=>xs[i.val]'(by omega)) fun a _ b _=>rfl).trans ?_;rw [List.toList_toArray,hpick]
   rw [hys] at hrow;have hgr:=fg (enc:=fun i:Fin (m+1)=>(rows[i.val]?).getD []) (w:=w) (g:=g) (n:=q) (os:=os) ((List.finRange (m+1)).toArray.toList.mergeSort fun x y:Fin (m+1)=>!(ltOf fun i j:Fin (m+1)=>dw (xs[i.val]'(by omega)).f1 (xs[j.val]'(by omega)).f1) y x).toArray;rw [hrl];have hlt:g < w.heap.size:=(Array.getElem?_eq_some_iff.1 hb).1;exact ⟨rfl,hrow,fun w0 a0=>a0.grown hgr (by omega) (fun j hj=>by cases hj;exact hbase),hgr⟩
def qg (k:Nat) (xs:List SM):Option (List SM):=if xs.length < 4398046511104 then (if oV k xs = true then some (fF xs) else none) else none
theorem qh (xs:List SM) (k:Nat):fl (qg k xs) (qg (k+1) xs):=by
 unfold qg;refine fl.ite ?_ (fl.refl _);by_cases h:oV k xs = true
 ·rw [if_pos h,if_pos (qf h)]
  exact fl.refl _
 ·rw [if_neg h]
  exact fl.none _
instance qg.m:af.V1 qg:=fun _ _=>⟨qh _ _⟩
end ga
end
section
namespace Pr
open Go.RowKit ag.aX ag.bQ ag.bR
attribute [local go_sem] fK fL gh gi fb fc fM fN
set_option linter.unusedVariables false
set_option linter.unusedSimpArgs false
def b9.l0:Nat→List (cV)→List (cV)→Int→Int→Option ((List (cV)))
 | 0,_,_,_,_=>none
 | k+1,M,y,I,j=>if j < I then (if 0≤j then (if j < (y.length:Int) then ((cw.f k ((av y j).f0) ((av y j).f1)).bind fun z=>((cW.f k z.1 z.2.1 ((av y j).f0) ((av y j).f1)).bind fun J=>(if J = true then (if M.length < 4398046511104 then (b9.l0 k (M ++ [(⟨(av y j).f0,(av y j).f1⟩:cV)]) y I (wrap64 (j+1))) else (none)) else (b9.l0 k M y I (wrap64 (j+1)))))) else (none)) else (none)) else (ga.qg k M)
def b9.f (k:Nat) (a0:Int) (z:Int):Option ((List (cV))):=(dx.f a0 z).bind fun y=>(if y = true then ((aC.f k a0 z).bind fun j=>(b9.l0 k (([]:List (cV))) j (j.length:Int) 0)) else (some ([]:List (cV))))
mutual
def aK.j0:Nat→Bool→Int→List Int→Int→List Int→Option (Bool)
 | 0,_,_,_,_,_=>none
 | k+1,M,z,j,I,y=>if M = true then (some false) else (aK.l0 k 0 z j I y)
def aK.l0:Nat→Int→Int→List Int→Int→List Int→Option (Bool)
 | 0,_,_,_,_,_=>none
 | k+1,J,z,j,I,y=>if J < (j.length:Int) then (if 0≤J then (if J < (y.length:Int) then (if (rd j J) = (rd y J) then (aK.l0 k (wrap64 (J+1)) z j I y) else (some false)) else (none)) else (none)) else (some true)
end
def aK.f (k:Nat) (j:Int) (y:List Int) (z:Int) (I:List Int):Option (Bool):=if j = z then (aK.j0 k ((y.length:Int) != (I.length:Int)) j y z I) else (aK.j0 k true j y z I)
set_option maxHeartbeats 8000000 in
set_option maxRecDepth 100000 in
theorem aK.calls (k:Nat) (X:Int) (a2:Option Addr) (a3:Nat) (y:List Int) (Y:Int) (a4:Option Addr) (a5:Nat) (M:List Int) (r:Bool) (w:World) (al:Kd.C (Kd.int .i64) w a2 y.length y) (am:y.length≤a3) (ao:Kd.C (Kd.int .i64) w a4 M.length M) (ap:M.length≤a5) (h:aK.f k X y Y M = some r) :
  Calls Tryz.prog 22 #[.agg #[.int .i64 X,.slice a2 y.length a3],.agg #[.int .i64 Y,.slice a4 M.length a5]] w fun e w'=>e = .returned (.bool r)∧Below w.heap.size w w':=by
 have ee:=Tryz.underlying26;have ar:=ae.mk al;have dv:=ae.mk am;clear al am;have aw:=ae.mk ao;have dC:=ae.mk ap;clear ao ap;have HB:=ae.mk (Below.refl w.heap.size w);unfold aK.f at h;have H:=h;clear h;have aS:=ae.mk H;clear H;go_enter Tryz.func22,Tryz.ntmps22;go_upto_region 1 with (first | ((with_reducible refine aY (N:=2) rfl ?_);(try (refine cF (by rfl) ?_;dsimp only));refine dg ?hg (N:=2) ?hd (cs:=#[.int .i64 X,.slice a2 y.length a3]) (t:=26) ?hr ?_;(case hd=>rfl);(case hg=>rfl);(case hr=>first | (go_simp;done) | (go_simp;rfl));intro a6 hg w4 hbox hb;have j:=ae.mk hbox;have aB:=na hg HB;have aE:=na hg HB;replace HB:=nb HB hb;clear hb hbox hg) | ((with_reducible refine aY (N:=3) rfl ?_);(try (refine cF (by rfl) ?_;dsimp only));refine dg ?hg (N:=3) ?hd (cs:=#[.int .i64 Y,.slice a4 M.length a5]) (t:=26) ?hr ?_;(case hd=>rfl);(case hg=>rfl);(case hr=>first | (go_simp;done) | (go_simp;rfl));intro a7 hg w5 hbox hb;have U:=ae.mk hbox;have aF:=na hg HB;have aL:=na hg HB;replace HB:=nb HB hb;have z:=ph hg j;have I:=pi hg j;replace j:=nm j hb;clear hb hbox hg))
 repeat (go_quiet (first | ((with_reducible refine aY (N:=2) rfl ?_);(try (refine cF (by rfl) ?_;dsimp only));refine dg ?hg (N:=2) ?hd (cs:=#[.int .i64 X,.slice a2 y.length a3]) (t:=26) ?hr ?_;(case hd=>rfl);(case hg=>rfl);(case hr=>first | (go_simp;done) | (go_simp;rfl));intro a6 hg w4 hbox hb;have j:=ae.mk hbox;have aB:=na hg HB;have aE:=na hg HB;replace HB:=nb HB hb;clear hb hbox hg) | ((with_reducible refine aY (N:=3) rfl ?_);(try (refine cF (by rfl) ?_;dsimp only));refine dg ?hg (N:=3) ?hd (cs:=#[.int .i64 Y,.slice a4 M.length a5]) (t:=26) ?hr ?_;(case hd=>rfl);(case hg=>rfl);(case hr=>first | (go_simp;done) | (go_simp;rfl));intro a7 hg w5 hbox hb;have U:=ae.mk hbox;have aF:=na hg HB;have aL:=na hg HB;replace HB:=nb HB hb;have z:=ph hg j;have I:=pi hg j;replace j:=nm j hb;clear hb hbox hg));go_upto_region 1 with (first | ((with_reducible refine aY (N:=2) rfl ?_);(try (refine cF (by rfl) ?_;dsimp only));refine dg ?hg (N:=2) ?hd (cs:=#[.int .i64 X,.slice a2 y.length a3]) (t:=26) ?hr ?_;(case hd=>rfl);(case hg=>rfl);(case hr=>first | (go_simp;done) | (go_simp;rfl));intro a6 hg w4 hbox hb;have j:=ae.mk hbox;have aB:=na hg HB;have aE:=na hg HB;replace HB:=nb HB hb;clear hb hbox hg) | ((with_reducible refine aY (N:=3) rfl ?_);(try (refine cF (by rfl) ?_;dsimp only));refine dg ?hg (N:=3) ?hd (cs:=#[.int .i64 Y,.slice a4 M.length a5]) (t:=26) ?hr ?_;(case hd=>rfl);(case hg=>rfl);(case hr=>first | (go_simp;done) | (go_simp;rfl));intro a7 hg w5 hbox hb;have U:=ae.mk hbox;have aF:=na hg HB;have aL:=na hg HB;replace HB:=nb HB hb;have z:=ph hg j;have I:=pi hg j;replace j:=nm j hb;clear hb hbox hg)))
 (try simp only [Act.put,List.setIfInBounds_toArray,List.set_cons_zero,List.set_cons_succ]);go_cut [19] (fun dE wc=>∃ (kq:Nat) (a8:Bool),dE = .bool a8∧ae (aK.j0 kq a8 X y Y M = some r)∧ae (kq≤k)∧ae (wc.heap[a6]? = some (.cells #[.int .i64 X,(.slice a2 y.length a3)] 26 (0,0)))∧ae (wc.heap[a7]? = some (.cells #[.int .i64 Y,(.slice a4 M.length a5)] 26 (0,0)))∧ae (Below w.heap.size w wc))
 case first =>
  have H:=aS.out;clear aS;by_cases c6:X = Y
  ·rw [if_pos c6] at H
   have a9:(X == Y) = true:=beq_iff_eq.mpr c6;have bc:(X != Y) = false:=bne_eq_false_iff_eq.mpr c6;clear c6;(first | rw [a9] | (simp only [bq,bS];rw [a9]) | skip);have H':=ae.mk H;clear H;have ef:=z.out;have eg:=I.out;obtain ⟨dd,df,dk,dl⟩:=no j.out;obtain ⟨dp,dq,dt,du⟩:=no U.out;go_wp2;repeat (go_quiet (fail);try go_wp2)
   go_meet
   case rel=>exact ⟨_,(((y.length:Int) != (M.length:Int))),n0,H',⟨by first | omega | exact Nat.le_refl _⟩,⟨ne j.out⟩,⟨ne U.out⟩,⟨mx HB.out⟩⟩
  ·rw [if_neg c6] at H
   have a9:(X == Y) = false:=beq_eq_false_iff_ne.mpr c6;have bc:(X != Y) = true:=bne_iff_ne.mpr c6;(first | rw [a9] | (simp only [bq,bS];rw [a9]) | skip);have H':=ae.mk H;clear H;have dT:=z.out;have e0:=I.out;obtain ⟨bd,bi,bk,bm⟩:=no j.out;obtain ⟨bo,bs,bv,c0⟩:=no U.out;go_wp2;repeat (go_quiet (fail);try go_wp2)
   go_meet
   case rel=>exact ⟨_,(true),n0,H',⟨by first | omega | exact Nat.le_refl _⟩,⟨ne j.out⟩,⟨ne U.out⟩,⟨mx HB.out⟩⟩
 case rest =>
  clear aS;obtain ⟨kq,a8,rfl,HA,c1,j,U,HB⟩:=hcut;cases kq with
  | zero=>exact absurd HA.out (by simp [aK.j0])
  | succ b0 =>
   have H:=HA.out;clear HA;simp only [aK.j0] at H;by_cases aR:a8 = true
   ·subst aR
    replace H:(some false) = some r:=by rw [if_pos rfl] at H;exact H
    obtain rfl:=Option.some.inj H;go_wp2;repeat (go_quiet (fail);try go_wp2)
    go_ret;exact ⟨pa,n1⟩
   ·replace aR:=Bool.eq_false_iff.mpr aR
    subst aR;replace H:(aK.l0 b0 0 X y Y M) = some r:=by rw [if_neg (show ¬ (false = true) by decide)] at H;exact H
    have H':=ae.mk H;clear H;go_wp2;repeat (go_quiet (fail);try go_wp2)
    go_loopg [5] b0 (fun kq v5 w'=>∃ (J:Int),v5 = .int .i64 J∧ae (aK.l0 kq J X y Y M = some r)∧ae (kq≤b0)∧ae (w'.heap[a6]? = some (.cells #[.int .i64 X,(.slice a2 y.length a3)] 26 (0,0)))∧ae (w'.heap[a7]? = some (.cells #[.int .i64 Y,(.slice a4 M.length a5)] 26 (0,0)))∧ae (Below w.heap.size w w'))
    case atStart=>exact ⟨(0),n0,H',⟨Nat.le_refl _⟩,⟨ne j.out⟩,⟨ne U.out⟩,⟨mx HB.out⟩⟩
    case round =>
     clear H';obtain ⟨J,rfl,HA,ca,j,U,HB⟩:=hrel;cases gk with
     | zero=>exact absurd HA.out (by simp [aK.l0])
     | succ k2 =>
      have H:=HA.out;clear HA;simp only [aK.l0] at H;by_cases ab:J < (y.length:Int)
      ·rw [if_pos ab] at H
       have b1:=decide_eq_true ab;clear ab;obtain ⟨cb,H⟩:=nz H;have e1:=decide_eq_true cb;clear cb;obtain ⟨cc,H⟩:=nz H;have e2:=decide_eq_true cc;clear cc;by_cases aa:(rd y J) = (rd M J)
       ·rw [if_pos aa] at H
        have b2:((rd y J) == (rd M J)) = true:=beq_iff_eq.mpr aa;have b3:((rd y J) != (rd M J)) = false:=bne_eq_false_iff_eq.mpr aa;clear aa;have H':=ae.mk H;clear H;have e3:=z.out;have e4:=I.out;obtain ⟨cd,ce,cf,ch⟩:=no j.out;obtain ⟨b4,aO,a0,ci,cl⟩:=oY ar.out J;cases aO
        (try replace a0:=(HB.out.cell (World.block_lt_of_cell? w _ a0)).trans a0);obtain ⟨co,cp,cr,cx⟩:=no U.out;obtain ⟨ba,aP,a1,cy,cX⟩:=oY aw.out J;cases aP
        (try replace a1:=(HB.out.cell (World.block_lt_of_cell? w _ a1)).trans a1);go_wp2;repeat (go_quiet (fail);try go_wp2)
        go_roundg k2;case measure=>have:=c1.out;have:=ca.out;omega
        case rel=>exact ⟨(wrap64 (J+1)),n0,H',⟨by have:=c1.out;have:=ca.out;omega⟩,⟨ne j.out⟩,⟨ne U.out⟩,⟨mx HB.out⟩⟩
       ·rw [if_neg aa] at H
        have b2:((rd y J) == (rd M J)) = false:=beq_eq_false_iff_ne.mpr aa;have b3:((rd y J) != (rd M J)) = true:=bne_iff_ne.mpr aa;obtain rfl:=Option.some.inj H;have e8:=z.out;have ea:=I.out;obtain ⟨cY,d0,d1,d2⟩:=no j.out;obtain ⟨b4,aO,a0,ci,cl⟩:=oY ar.out J;cases aO
        (try replace a0:=(HB.out.cell (World.block_lt_of_cell? w _ a0)).trans a0);obtain ⟨d3,d4,d5,d6⟩:=no U.out;obtain ⟨ba,aP,a1,cy,cX⟩:=oY aw.out J;cases aP
        (try replace a1:=(HB.out.cell (World.block_lt_of_cell? w _ a1)).trans a1);go_wp2;repeat (go_quiet (fail);try go_wp2)
        go_ret;exact ⟨pa,n1⟩
      ·rw [if_neg ab] at H
       have b1:decide (J < (y.length:Int)) = false:=decide_eq_false ab;clear ab;obtain rfl:=Option.some.inj H;have eb:=z.out;have ed:=I.out;obtain ⟨d7,d8,d9,db⟩:=no j.out;go_wp2;repeat (go_quiet (fail);try go_wp2)
       go_ret;exact ⟨pa,n1⟩
def bE.f (a0:Int) (j:Int) (a2:Int):Option (Bool):=if a0≥j then (some (decide (a0≤a2))) else (some false)
set_option maxHeartbeats 8000000 in
set_option maxRecDepth 100000 in
theorem bE.calls (a0:Int) (y:Int) (a2:Int) (r:Bool) (w:World) (h:bE.f a0 y a2 = some r) :
  Calls Tryz.prog 88 #[.int .i64 a0,.int .i64 y,.int .i64 a2] w fun e w'=>e = .returned (.bool r)∧cj w w':=by
 unfold bE.f at h;have H:=h;clear h;by_cases c4:a0≥y
 ·rw [if_pos c4] at H
  have j:=decide_eq_true c4;clear c4;obtain rfl:=Option.some.inj H;go_enter Tryz.func88,Tryz.ntmps88;go_wp2;go_ret;exact ⟨n0,o0⟩
 ·rw [if_neg c4] at H
  have j:decide (y≤a0) = false:=decide_eq_false c4;clear c4;obtain rfl:=Option.some.inj H;go_enter Tryz.func88,Tryz.ntmps88;go_wp2;go_ret;exact ⟨n0,o0⟩
def cG.f (a0:Int) (z:Int):Option (Bool):=(bE.f a0 0 8).bind fun j=>(if j = true then (if 0≤(IntKind.u64.wrap (a0)) then ((bE.f z 0 (wrap64 ((shl .i64 1 (IntKind.u64.wrap (a0))) - 1))).bind fun y=>(some y)) else (none)) else (some false))
set_option maxHeartbeats 8000000 in
set_option maxRecDepth 100000 in
theorem cG.calls (a0:Int) (Y:Int) (r:Bool) (w:World) (h:cG.f a0 Y = some r) :
  Calls Tryz.prog 132 #[.int .i64 a0,.int .i64 Y] w fun e w'=>e = .returned (.bool r)∧cj w w':=by
 unfold cG.f at h;have H:=h;clear h;obtain ⟨a2,A3,H⟩:=ob H;(try dsimp only at H);by_cases c4:a2 = true
 ·subst c4
  replace H:(if 0≤(IntKind.u64.wrap (a0)) then ((bE.f Y 0 (wrap64 ((shl .i64 1 (IntKind.u64.wrap (a0))) - 1))).bind fun y=>(some y)) else (none)) = some r:=by rw [if_pos rfl] at H;exact H
  obtain ⟨j,J⟩:∃ j_:Int,(IntKind.u64.wrap (a0)) = j_:=⟨_,rfl⟩
  replace H:(if 0≤(j) then ((bE.f Y 0 (wrap64 ((shl .i64 1 (j)) - 1))).bind fun y=>(some y)) else (none)) = some r:=by first | (rw [J] at H;exact H) | (simp only [J] at H ⊢;exact H)
  (try rw [J] at A3);obtain ⟨c6,H⟩:=nz H;have a8:=eq_true c6;have a9:decide (0≤(j)) = true:=decide_eq_true c6;clear c6;obtain ⟨I,z⟩:∃ j_:Int,(shl .i64 1 (j)) = j_:=⟨_,rfl⟩
  replace H:((bE.f Y 0 (wrap64 ((I) - 1))).bind fun y=>(some y)) = some r:=by first | (rw [z] at H;exact H) | (simp only [z] at H ⊢;exact H)
  (try rw [z] at A3);have M:(IntKind.i64.wrap (1 * 2 ^ min (j).toNat 64)) = I:=z;have U:(j)≤64→(IntKind.i64.wrap (1 * 2 ^ (j).toNat)) = I:=ec z;have a4:(IntKind.i64.wrap (2 ^ min (j).toNat 64)) = I:=by have X:=M;rw [Int.one_mul] at X;exact X
  have a5:(j)≤64→(IntKind.i64.wrap (2 ^ (j).toNat)) = I:=fun a3=>by have X:=U a3;rw [Int.one_mul] at X;exact X
  have a6:(wrap64 (1 * 2 ^ min (j).toNat 64)) = I:=(bq _).symm.trans M;have a7:(j)≤64→(wrap64 (1 * 2 ^ (j).toNat)) = I:=fun X=>(bq _).symm.trans (U X)
  obtain ⟨y,A8,H⟩:=ob H;(try dsimp only at H);obtain rfl:=Option.some.inj H;go_enter Tryz.func132,Tryz.ntmps132;go_wp2_with (first | ((with_reducible refine aT (f:=88) rfl ?_);refine n7 (some 6) Tryz.func88 #[.int .i64 a0,.int .i64 0,.int .i64 8] ?_;(with_reducible refine (bE.calls a0 0 8 true _ A3.out).mono ?_);rintro e w' ⟨rfl,⟨nd,rfl⟩⟩;refine ⟨_,rfl,?_⟩) | (go_at_call 88;(with_reducible refine (bE.calls Y 0 (wrap64 ((I) - 1)) y _ A8.out).mono ?_);rintro e w' ⟨rfl,⟨nd,rfl⟩⟩));go_ret;exact ⟨by first | rfl | (simp;done) | (simp only [← J,← z] <;> (first | rfl | simp)) | (simp [*];done),o0⟩
 ·replace c4:=Bool.eq_false_iff.mpr c4
  subst c4;replace H:(some false) = some r:=by rw [if_neg (show ¬ (false = true) by decide)] at H;exact H
  obtain rfl:=Option.some.inj H;go_enter Tryz.func132,Tryz.ntmps132;go_wp2_with (first | ((with_reducible refine aT (f:=88) rfl ?_);refine n7 (some 6) Tryz.func88 #[.int .i64 a0,.int .i64 0,.int .i64 8] ?_;(with_reducible refine (bE.calls a0 0 8 false _ A3.out).mono ?_);rintro e w' ⟨rfl,⟨nd,rfl⟩⟩;refine ⟨_,rfl,?_⟩));go_ret;exact ⟨n0,o0⟩
end Pr
end
end Go.Proofs.YtmpbccmcaabpjaaGreat
