/- The claim FnExactCountKinds: every text that its row comes to, laid together by slim.py (the words of the kit's print, the printed walks, the pure law, the row). -/
import Derived.Lib.OwnBridge
import Derived.Lib.RowBridge
import Derived.RowKit
import Derived.Shelf.SlGeneric
import Derived.Shelf.SlLaysF0
import Derived.Shelf.SlSortCmp.NoneTotal
import Derived.Shelf.Slices.CompactI
import Derived.Shelf.Slices.In.SortNone
import Derived.Shelf.Sort.Plain
import Derived.Sort.Grow
import Derived.Sort.OwnSortedInts
import Derived.Test.YtlfkfdmggpipbaaGreatProg
import Derived.Test.YtlfkfdmggpipbaaGreatYFnExactCountKinds2
namespace Go.Proofs.YtlfkfdmggpipbaaGreat
section
namespace Pr
open Go.RowKit ag.b6 ag.cz ag.cA
attribute [local go_sem] gh gi gV gW fF fG gj gn
set_option linter.unusedVariables false
set_option linter.unusedSimpArgs false
structure ak.Kp (gb:Nat) (w w':World):Prop where
 b:Below gb w w'
 k:bn w w' gb none
theorem ak.Kp.refl (gb:Nat) (w:World):ak.Kp gb w w:=⟨Below.refl _ _,bn.refl _ _ _⟩
theorem ak.Kp.trans {gb:Nat} {w w1 j:World} (h:ak.Kp gb w w1) (k:ak.Kp gb w1 j):ak.Kp gb w j :=
 ⟨⟨k.b.os.trans h.b.os,k.b.tape.trans h.b.tape,k.b.output.trans h.b.output,Nat.le_trans h.b.size k.b.size,fun i hi=>(k.b.block i hi).trans (h.b.block i hi)⟩,bn.trans h.k k.k (.inl rfl)⟩
theorem ak.Kp.of {gb:Nat} {w w':World} (h:Below w.heap.size w w') (hg:gb < w.heap.size):ak.Kp gb w w' :=
 ⟨⟨h.os,h.tape,h.output,h.size,fun i hi=>h.block i (by omega)⟩,bn.fh h gb none⟩
structure ak.mM (w:World) (gb base:Nat) (b:Int×List Int):Prop where
 out:∃ (A:Option Addr) (c:Nat),w.heap[gb]? = some (.cells #[.int .i64 b.1,.slice A b.2.length c] 37 (0,0))∧base≤gb∧∀ W_,bn w W_ gb none→Kd.R (Kd.int .i64) 3 W_ base (fun _=>True) (.slice A b.2.length c) b.2
theorem ak.mM.below {w w':World} {gb base:Nat} {b:Int×List Int} (h:ak.mM w gb base b) (hb:Below w.heap.size w w'):ak.mM w' gb base b:=by
 obtain ⟨A,c,h1,h2,h3⟩:=h.out;exact ⟨A,c,aU h1 hb,h2,fun W_ hk=>h3 W_ (bn.trans (bn.fh hb gb none) hk (.inl rfl))⟩
theorem ak.mM.lt {w:World} {gb base:Nat} {b:Int×List Int} (h:ak.mM w gb base b):gb < w.heap.size:=by
 obtain ⟨A,c,h1,h2,h3⟩:=h.out;exact gH h1
structure ak.sL (P:Program) (W:World) (fv:Value) (gb base:Nat) (g:List Int→Int×List Int→Option (Int×List Int)):Prop where
 out:∃ (f:Nat) (caps:Array Value) (fn:Func),fv = .func (.func f) #[] caps∧P.funcs[f]? = some fn∧(fn.name == "runtime.NumGoroutine") = false∧fn.body.isSome = true ∧
  ∀ (A:Option Addr) (c:Nat) (xs:List Int) (b b':Int×List Int) (w:World),ak.Kp gb W w→ak.mM w gb base b→Kd.C (Kd.int .i64) w A xs.length xs→xs.length≤c→g xs b = some b'→Calls P f (#[.slice A xs.length c] ++ caps) w fun e w'=>e = .returned (.bool true)∧ak.mM w' gb base b'∧ak.Kp gb w w'
theorem ak.rR {P:Program} {ops:Array Oper} {Q:Exit→Act→World→Prop} {rest:List Oper} {oi:Oper} {a:Act} {W w:World} {fv:Value} {gb base:Nat} {g:List Int→Int×List Int→Option (Int×List Int)} {A:Option Addr} {c:Nat} {xs:List Int} {b b':Int×List Int} (N:Option Tmp) (hd:oi.dst = N) (hg:oi.guard = none) (t:Tmp) {ars:Array Operand} {ts:Array TypeId}
  (hop:oi.op = .call { callee:=.value (.tmp t),args:=ars,argTypes:=ts }) (hF:ak.sL P W fv gb base g) (hb:g xs b = some b') (hK:ak.Kp gb W w) (hJ:ak.mM w gb base b) (hC:Kd.C (Kd.int .i64) w A xs.length xs) (hc:xs.length≤c) (hv:a.eval (.tmp t) = fv) (hargs:ars.map a.eval = #[.slice A xs.length c])
  (h:∀ w',ak.mM w' gb base b'→ak.Kp gb w w'→wpList P ops Q rest (a.put N (.bool true)) w'):wpList P ops Q (oi :: rest) a w:=by
 obtain ⟨f,caps,fn,rfl,hf,hname,hbody,hcl⟩:=hF.out;refine wpList_plain hg fun K hK'=>?_
 have he:=iQ hf hname hbody (#[.slice A xs.length c] ++ caps) w;have hrun:(execOp a.eval oi).run P w = .ok (.enter f (#[.slice A xs.length c] ++ caps)) w:=by
  unfold execOp;simp [hop,resolve,Deferred.ofValue,invoke,hv,hargs];simpa using he
 unfold Oper.wp;rw [hrun,Oper.upon_enter];refine (hcl A c xs b b' w hK hJ hC hc hb).mono fun e w'' hh=>?_
 obtain ⟨rfl,hj,hk⟩:=hh;subst hd;exact hK' _ _ (h _ hj hk)
mutual
def ak.l0 (g:List Int→Int×List Int→Option (Int×List Int)):Nat→Int→List Int→Int→Int×List Int→Option (Int×List Int)
 | 0,_,_,_,_=>none
 | k+1,I,y,z,b=>if z < I then ((aV.f k y z).bind fun j=>(if j = true then (ak.l0 g k I y (wrap64 (z+1)) b) else (if y.length < 17592186044416 then ((ak.f g k I (y ++ [z]) b).bind fun J=>(ak.l0 g k I y (wrap64 (z+1)) J)) else none))) else (some b)
def ak.f (g:List Int→Int×List Int→Option (Int×List Int)):Nat→Int→List Int→Int×List Int→Option (Int×List Int)
 | 0,_,_,_=>none
 | k+1,a0,l1,b=>if (l1.length:Int) = a0 then (g l1 b) else (ak.l0 g k a0 l1 0 b)
end
theorem ak.eB {g g':List Int→Int×List Int→Option (Int×List Int)} (hg:∀ x b,eX (g x b) (g' x b)):∀ k,(∀ y0 y1 y2,eX (ak.f g k y0 y1 y2) (ak.f g' (k+1) y0 y1 y2))∧(∀ y0 y1 y2 y3,eX (ak.l0 g k y0 y1 y2 y3) (ak.l0 g' (k+1) y0 y1 y2 y3))
 | 0=>⟨fun _ _ _ r h=>by simp [ak.f] at h,fun _ _ _ _ r h=>by simp [ak.l0] at h⟩
 | k+1=>by
  obtain ⟨y,j⟩:=ak.eB hg k;refine ⟨fun y0 y1 y2=>?_,fun y0 y1 y2 y3=>?_⟩
  ·unfold ak.f
   exact eX.ite (hg _ _) (j _ _ _ _)
  ·unfold ak.l0
   exact eX.ite (eX.bind (aV.mono _ _ _) fun _=>eX.ite (j _ _ _ _) (eX.ite (eX.bind (y _ _ _) fun _=>j _ _ _ _) (eX.refl _))) (eX.refl _)
theorem ak.mono {g g':List Int→Int×List Int→Option (Int×List Int)} (hg:∀ x b,eX (g x b) (g' x b)) (k:Nat) (n:Int) (l:List Int) (b:Int×List Int):eX (ak.f g k n l b) (ak.f g' (k+1) n l b):=(ak.eB hg k).1 n l b
set_option maxHeartbeats 8000000 in
set_option maxRecDepth 100000 in
theorem ak.calls {fv:Value} {gb base:Nat} {W:World} {g:List Int→Int×List Int→Option (Int×List Int)} (hF:ak.sL Tryz.prog W fv gb base g) (k:Nat):∀ (a0:Int) (A1:Option Addr) (c1:Nat) (l1:List Int) (b r:Int×List Int) (w:World) (hK:ak.Kp gb W w) (hJ:ak.mM w gb base b) (al:∀ W_,bn w W_ gb none→Kd.C (Kd.int .i64) W_ A1 l1.length l1) (am:l1.length≤c1) (h:ak.f g k a0 l1 b = some r),
  Calls Tryz.prog 111 #[.int .i64 a0,.slice A1 l1.length c1,fv] w fun e w'=>e = .returned (.bool true)∧ak.mM w' gb base r∧ak.Kp gb w w':=by
 induction k using Nat.strongRecOn with
 | _ k ih =>
 intro a0 A1 c1 l1 b r w hK hJ al am h;cases k with
 | zero=>exact absurd h (by simp [ak.f])
 | succ k =>
 simp only [ak.f] at h;have a9:=ae.mk al;have ao:=ae.mk am;have HKK:=ae.mk hK;have aF:=ae.mk hJ;clear al am hK hJ;have H:(if (l1.length:Int) = a0 then (g l1 b) else (ak.l0 g k a0 l1 0 b)) = some r:=h;clear h;by_cases c4:(l1.length:Int) = a0
 ·rw [if_pos c4] at H
  have aL:((l1.length:Int) == a0) = true:=beq_iff_eq.mpr c4;have aO:((l1.length:Int) != a0) = false:=bne_eq_false_iff_eq.mpr c4;clear c4;have A5:=ae.mk H;clear H;go_enter Tryz.func111,Tryz.ntmps111;go_wp2_with (first | ((with_reducible refine aY (N:=14) rfl ?_);refine ak.rR (some 14) rfl rfl 12 rfl hF A5.out HKK.out aF.out (a9.out _ (bn.refl _ _ _)) ao.out rfl (by (try simp only [List.map_toArray,List.map_cons,List.map_nil]);first | done | rfl) ?_;intro w5 hj hk;have b3:=ae.mk hj;have b4:=ae.mk hk;clear hj hk));go_ret;exact ⟨rfl,b3.out,b4.out⟩
 ·rw [if_neg c4] at H
  have aL:((l1.length:Int) == a0) = false:=beq_eq_false_iff_ne.mpr c4;have aO:((l1.length:Int) != a0) = true:=bne_iff_ne.mpr c4;have H':=ae.mk H;clear H;go_enter Tryz.func111,Tryz.ntmps111;go_wp2;go_loopg [7] k (fun kq v7 w'=>∃ (j:Int) (b1:Int×List Int),v7 = .int .i64 j∧ae (ak.l0 g kq a0 l1 j b1 = some r)∧ae (kq≤k)∧ae (ak.mM w' gb base b1)∧ae (ak.Kp gb w w'))
  case atStart=>exact ⟨0,b,na,H',⟨Nat.le_refl _⟩,aF,⟨ak.Kp.refl _ _⟩⟩
  case round =>
   clear H';obtain ⟨j,b1,rfl,HA,a6,HJ,HP⟩:=hrel;have HB:=ae.mk (Below.refl wr.heap.size wr);cases gk with
   | zero=>exact absurd HA.out (by simp [ak.l0])
   | succ k1 =>
    have H:=HA.out;clear HA;simp only [ak.l0] at H;by_cases c6:j < a0
    ·rw [if_pos c6] at H
     have aP:=decide_eq_true c6;clear c6;obtain ⟨ap,A7,H⟩:=oY H;(try dsimp only at H);by_cases c8:ap = true
     ·subst c8
      replace H:(ak.l0 g k1 a0 l1 (wrap64 (j+1)) b1) = some r:=by rw [if_pos rfl] at H;exact H
      have H':=ae.mk H;clear H;go_wp2_with (first | ((with_reducible refine aQ (f:=131) rfl ?_);refine ne (some 22) Tryz.func131 #[.slice A1 l1.length c1,.int .i64 j] ?_;(with_reducible refine (aV.calls k1 _ _ l1 j true _ ?side1 ?side2 A7.out).mono ?_);(case side1=>exact a9.out _ HP.out.k);(case side2=>exact ao.out);rintro e w' ⟨rfl,hd⟩;refine ⟨_,rfl,?_⟩;have HD:=ae.mk hd.below;clear hd));go_roundg k1;case measure=>have:=a6.out;omega
      case rel=>exact ⟨(wrap64 (j+1)),b1,na,H',⟨by have:=a6.out;omega⟩,⟨HJ.out.below HD.out⟩,⟨HP.out.trans (ak.Kp.of HD.out HJ.out.lt)⟩⟩
     ·replace c8:=Bool.eq_false_iff.mpr c8
      subst c8;replace H:(if l1.length < 17592186044416 then ((ak.f g k1 a0 (l1 ++ [j]) b1).bind fun b1=>(ak.l0 g k1 a0 l1 (wrap64 (j+1)) b1)) else none) = some r:=by rw [if_neg (show ¬ (false = true) by decide)] at H;exact H
      obtain ⟨c9,H⟩:=ol H;obtain ⟨a1,y⟩:∃ y_:List Int,y_ = (([]:List Int)):=⟨_,rfl⟩
      have aR:=ae.mk (show a1.length+l1.length < 17592186044416 by rw [y,List.length_nil,Nat.zero_add];exact c9);have a3:=ae.mk y;obtain ⟨z,I⟩:∃ y_:List Int,y_ = (a1 ++ l1):=⟨_,rfl⟩
      have a2:z = l1:=by rw [I,y,List.nil_append]
      have ar:=ae.mk (show z.length < 17592186044416 by rw [a2];exact c9);have aa:=ae.mk I;obtain ⟨J,U⟩:∃ y_:List Int,y_ = (z ++ [j]):=⟨_,rfl⟩
      replace H:((ak.f g k1 a0 J b1).bind fun b1=>(ak.l0 g k1 a0 l1 (wrap64 (j+1)) b1)) = some r:=by rw [U,a2];exact H
      have ab:=ae.mk U;clear U I y a2 c9;obtain ⟨b2,ba,H⟩:=oY H;(try dsimp only at H);have H':=ae.mk H;clear H;go_wp2_with (first | ((with_reducible refine aQ (f:=131) rfl ?_);refine ne (some 22) Tryz.func131 #[.slice A1 l1.length c1,.int .i64 j] ?_;(with_reducible refine (aV.calls k1 _ _ l1 j false _ ?side1 ?side2 A7.out).mono ?_);(case side1=>exact a9.out _ HP.out.k);(case side2=>exact ao.out);rintro e w' ⟨rfl,⟨nd,rfl⟩⟩;refine ⟨_,rfl,?_⟩) | ((with_reducible refine aY (N:=26) rfl ?_);(try (refine cG (by rfl) ?_;dsimp only));refine Kd.nh (Kd.int .i64) _ 3 ?hg (N:=26) ?hd (xs:=([]:List Int)) (inner:=[]) (ok:=fun _=>True) (okp:=fun _=>True) ?hr ?hp (fun _ hk=>hk) trivial (Below.refl _ _) (Nat.le_refl _) (by simp) ?_;(case hd=>rfl);(case hg=>rfl);(case hr=>first | (go_simp;done) | (go_simp;rfl));(case hp=>exact (ck.none _ _));intro aw c0 Y hb bc aB;clear bc aB;(first | rw [← a3.out] at Y | (simp only [Int.reduceToNat] at Y;rw [← a3.out] at Y));have a4:=ae.mk (Kd.bD Y (an (n8 HB.out)));replace HB:=no HB hb;clear hb Y) | ((with_reducible refine bY (b:=.append) (xs:=#[.tmp 26,.tmp 27]) rfl ?_);(try (refine cG (by rfl) ?_;dsimp only));at_builtin;refine Kd.fz (Kd.int .i64) (w0:=wr) wr.heap.size rfl (.tmp 26) (.tmp 27) 22 3 (.int .i64 0) 8 rfl Tryz.underlying22 e9 rfl (by decide) (by omega) aw a1 l1 _ _ _ (fun _=>True) (fun _=>False) rfl rfl (by exact ac a4.out) (by exact a9.out _ (HP.out.k.trans (bn.fh (n8 HB.out) gb none) (.inl rfl))) (fun _ _ h=>h) (fun _ h=>h.elim) (by exact fun _ _=>trivial) (by exact n8 HB.out) (by exact an (n8 HB.out)) (by have:=aR.out;omega) ?_;intro aE ca ho hb hg hat;rw [← aa.out] at ho;have a7:=ae.mk hb;have a8:=ae.mk ho;clear HB;clear a4;have HB:=a7;have a5:=a8;clear a7 a8;clear ho hb hg hat) | ((with_reducible refine bY (b:=.append) (xs:=#[.tmp 28,.tmp 30]) rfl ?_);(try (refine cG (by rfl) ?_;dsimp only));at_builtin;refine Kd.eO (Kd.int .i64) (w0:=wr) wr.heap.size rfl (.tmp 28) (.tmp 30) 22 3 (.int .i64 0) 8 rfl Tryz.underlying22 e9 rfl (by decide) (by omega) aE z j [.int .i64 j] (fun _=>True) (fun _=>False) rfl rfl (by exact rfl) (fun _ hk=>hk.elim) (by exact fun _ _=>trivial) (by exact ac a5.out) (by exact n8 HB.out) (by exact an (n8 HB.out)) (by have:=ar.out;omega) ?_;intro bd bi ho hb hg hat;rw [← ab.out] at ho;have a7:=ae.mk hb;have a8:=ae.mk ho;clear HB;clear a5;have HB:=a7;have X:=a8;clear a7 a8;clear ho hb hg hat;obtain ⟨aS,bv,b0⟩:=Kd.bE X.out;subst b0;have bk:=ae.mk (show ∀ W_,bn bi W_ gb none→Kd.C (Kd.int .i64) W_ aS J.length J from fun W_ bm=>(Kd.az (Kd.oH (Kd.aX (ok':=fun k_=>k_≠gb) (Kd.en (M:=fun k_=>(wr.heap.size≤k_)) X.out (Nat.le_refl _) (fun k_ h_=>h_)) (fun k_ h_=>by have cb:=HJ.out.lt;have cc:=h_.1;omega)) bm (fun k_ h_=>h_))).2.2)) | (go_at_call 111;(refine (ih k1 (by have:=a6.out;omega) a0 _ _ J b1 b2 _ ?side1 ?side2 ?side3 ?side4 ba.out).mono ?_);(case side1=>exact HKK.out.trans (HP.out.trans (ak.Kp.of (n8 HB.out) HJ.out.lt)));(case side2=>exact HJ.out.below (n8 HB.out));(case side3=>exact bk.out);(case side4=>exact (Kd.az X.out).2.1);rintro e cd ⟨rfl,hj,hk⟩;have bo:=ae.mk hj;have bs:=ae.mk ((HP.out.trans (ak.Kp.of (n8 HB.out) HJ.out.lt)).trans hk);clear hj hk));go_roundg k1;case measure=>have:=a6.out;omega
      case rel=>exact ⟨(wrap64 (j+1)),b2,na,H',⟨by have:=a6.out;omega⟩,bo,bs⟩
    ·rw [if_neg c6] at H
     have aP:decide (j < a0) = false:=decide_eq_false c6;clear c6;obtain rfl:=Option.some.inj H;go_wp2;go_ret;exact ⟨rfl,HJ.out,HP.out⟩
end Pr
end
section
namespace Lay
open Go.Shelf Go.Proofs
def lA:Go.Shelf.Ren:=⟨fun | 189=>140 | 125=>117 | 257=>188 | 128=>172 | 129=>173 | 294=>204 | 295=>205 | 296=>206 | 297=>207 | 298=>208 | 299=>209 | 216=>210 | 300=>211 | 301=>212 | 328=>227 | 329=>197 | 330=>198 | 331=>228 | 332=>229 | 215=>195 | 343=>237 | n=>n,fun | 28=>22 | 3=>3 | 46=>58 | 0=>0 | 51=>118 | 53=>120 | 4=>4 | 183=>112 | 182=>111 | 131=>35 | 5=>5 | 9=>9 | 218=>126 | 222=>130 | 228=>146 | 229=>147 | n=>n,fun | n=>n⟩
theorem mb:Go.Proofs.Lays.n189 Tryz.prog lA:={
 mixed:=by kernel_rfl
 f125:=Tryz.func117.trans (congrArg some (by kernel_rfl))
 f128:=Tryz.func172.trans (congrArg some (by kernel_rfl))
 f129:=Tryz.func173.trans (congrArg some (by kernel_rfl))
 f189:=Tryz.func140.trans (congrArg some (by kernel_rfl))
 f215:=Tryz.func195.trans (congrArg some (by kernel_rfl))
 f216:=Tryz.func210.trans (congrArg some (by kernel_rfl))
 f257:=Tryz.func188.trans (congrArg some (by kernel_rfl))
 f294:=Tryz.func204.trans (congrArg some (by kernel_rfl))
 f295:=Tryz.func205.trans (congrArg some (by kernel_rfl))
 f296:=Tryz.func206.trans (congrArg some (by kernel_rfl))
 f297:=Tryz.func207.trans (congrArg some (by kernel_rfl))
 f298:=Tryz.func208.trans (congrArg some (by kernel_rfl))
 f299:=Tryz.func209.trans (congrArg some (by kernel_rfl))
 f300:=Tryz.func211.trans (congrArg some (by kernel_rfl))
 f301:=Tryz.func212.trans (congrArg some (by kernel_rfl))
 f328:=Tryz.func227.trans (congrArg some (by kernel_rfl))
 f329:=Tryz.func197.trans (congrArg some (by kernel_rfl))
 f330:=Tryz.func198.trans (congrArg some (by kernel_rfl))
 f331:=Tryz.func228.trans (congrArg some (by kernel_rfl))
 f332:=Tryz.func229.trans (congrArg some (by kernel_rfl))
 f343:=Tryz.func237.trans (congrArg some (by kernel_rfl))
 t0:=Tryz.underlying0
 a0:=Tryz.isAgg0
 z0:=Tryz.sizeOf0
 v0:=Tryz.zeroValue0
 t3:=Tryz.underlying3
 a3:=Tryz.isAgg3
 z3:=Tryz.sizeOf3
 v3:=Tryz.zeroValue3
 t4:=Tryz.underlying4
 a4:=Tryz.isAgg4
 z4:=Tryz.sizeOf4
 v4:=Tryz.zeroValue4
 t5:=Tryz.underlying5
 a5:=Tryz.isAgg5
 z5:=Tryz.sizeOf5
 v5:=Tryz.zeroValue5
 t9:=Tryz.underlying9
 a9:=Tryz.isAgg9
 z9:=Tryz.sizeOf9
 v9:=Tryz.zeroValue9
 t28:=Tryz.underlying22
 a28:=Tryz.isAgg22
 z28:=Tryz.sizeOf22
 v28:=Tryz.zeroValue22
 t46:=Tryz.underlying58
 a46:=Tryz.isAgg58
 z46:=Tryz.sizeOf58
 v46:=Tryz.zeroValue58
 t51:=Tryz.underlying118
 a51:=Tryz.isAgg118
 z51:=Tryz.sizeOf118
 v51:=Tryz.zeroValue118
 t53:=Tryz.underlying120
 a53:=Tryz.isAgg120
 z53:=Tryz.sizeOf120
 v53:=Tryz.zeroValue120
 t131:=Tryz.underlying35
 a131:=Tryz.isAgg35
 z131:=Tryz.sizeOf35
 v131:=Tryz.zeroValue35
 t182:=Tryz.underlying111
 a182:=Tryz.isAgg111
 z182:=Tryz.sizeOf111
 v182:=Tryz.zeroValue111
 t183:=Tryz.underlying112
 a183:=Tryz.isAgg112
 z183:=Tryz.sizeOf112
 v183:=Tryz.zeroValue112
 t218:=Tryz.underlying126
 a218:=Tryz.isAgg126
 z218:=Tryz.sizeOf126
 v218:=Tryz.zeroValue126
 t222:=Tryz.underlying130
 a222:=Tryz.isAgg130
 z222:=Tryz.sizeOf130
 v222:=Tryz.zeroValue130
 t228:=Tryz.underlying146
 a228:=Tryz.isAgg146
 z228:=Tryz.sizeOf146
 v228:=Tryz.zeroValue146
 t229:=Tryz.underlying147
 a229:=Tryz.isAgg147
 z229:=Tryz.sizeOf147
 v229:=Tryz.zeroValue147 }
def jy:Go.Shelf.Ren:=⟨fun | 20=>141 | n=>n,fun | 22=>22 | 3=>3 | 4=>4 | 0=>0 | n=>n,fun | n=>n⟩
theorem jt:Go.Proofs.Lays2.n20 Tryz.prog jy:={
 mixed:=by kernel_rfl
 f20:=Tryz.func141.trans (congrArg some (by kernel_rfl))
 t0:=Tryz.underlying0
 a0:=Tryz.isAgg0
 z0:=Tryz.sizeOf0
 v0:=Tryz.zeroValue0
 t3:=Tryz.underlying3
 a3:=Tryz.isAgg3
 z3:=Tryz.sizeOf3
 v3:=Tryz.zeroValue3
 t4:=Tryz.underlying4
 a4:=Tryz.isAgg4
 z4:=Tryz.sizeOf4
 v4:=Tryz.zeroValue4
 t22:=Tryz.underlying22
 a22:=Tryz.isAgg22
 z22:=Tryz.sizeOf22
 v22:=Tryz.zeroValue22
 i3:=by kernel_rfl }
end Lay
end
section
namespace j4
open Go.RowKit Go.Shelf Go.Sort ag.b6
def sorted (xs:List Int):List Int:=xs.mergeSort fun x y=>decide (x≤y)
theorem fA (xs:List Int):(sorted xs).length = xs.length:=List.length_mergeSort xs
theorem iK {w:World} {base:Nat} {ok:Nat→Prop} {v:Value} {xs:List Int} (h:(Kd.int .i64).R 3 w base ok v xs) (hs:xs.length < 4611686018427387904) :
  Calls Tryz.prog 140 #[v] w fun e w'=>e = .returned (.tuple #[])∧(Kd.int .i64).R 3 w' base ok v (sorted xs)∧(∀ w0:World,Below base w0 w→Below base w0 w')∧w.grownBy w' v.ownBlock:=by
 have ho:=Kd.iN h;rcases ho.2 with ⟨rfl,I⟩ | ⟨g,cap,cur,rfl,hbase,hb,h1,h2,h3,h4⟩
 ·have hx:xs = []:=List.length_eq_zero_iff.1 I
  subst hx;refine (Any.slices_Sort_int_none Lay.mb none 0 w).mono ?_;rintro e w' ⟨rfl,rfl⟩
  exact ⟨rfl,by simpa [sorted] using h,fun _ hb=>hb,⟨rfl,rfl,rfl,Nat.le_refl _,fun _ _ _=>rfl⟩⟩
 ·have hH:Holds (Value.int .i64) w g 0 xs.toArray:=by
   obtain ⟨g',cap',he,_,_,_,_,_,hH⟩:=Lib.holds_of_ownsRow ho (by simp);injection he with y _ _
   injection y with y
   injection y with y _ _
   subst y;exact hH
  have hlt:g < w.heap.size:=(Array.getElem?_eq_some_iff.1 hb).1;refine (Any.slices_Sort_int Lay.mb g 0 cap xs w hH hlt hs).mono ?_;rintro e w' ⟨rfl,n,os,rfl⟩
  have hown:=ownsRow_sortedI (n:=n) (os:=os) (ts:=sorted xs) (fA xs) hbase hb h1 h2 h3;rw [← fA xs] at hown;have hg:w.grownBy (grow (putRow (Value.int .i64) (Sort.ahead w n) g 0 (sorted xs).toArray) os) (some g):=grownBy_sortedI _;refine ⟨rfl,?_,fun w0 z=>?_,?_⟩
  ·have:=Kd.jN (enc:=Value.int .i64) (h1:=fun _=>rfl) (ok:=ok) hown (fun k hk=>h.1 k (by simpa [Value.ownBlock] using hk))
   rw [fA xs] at this;exact this
  ·exact z.grown hg (by omega) (fun j hj=>by cases hj;exact hbase)
  ·exact hg
theorem ku {w:World} {base:Nat} {ok:Nat→Prop} {v:Value} {xs:List Int} (h:(Kd.int .i64).R 3 w base ok v xs) (hs:xs.length≤9223372036854775807) :
  Calls Tryz.prog 141 #[v] w fun e w'=>∃ v',e = .returned v'∧(Kd.int .i64).R 3 w' base ok v' (Lib.compact xs)∧(∀ w0:World,Below base w0 w→Below base w0 w'):=by
 have ho:=Kd.iN h;rcases ho.2 with ⟨rfl,z⟩ | ⟨g,cap,cur,rfl,hbase,hb,h1,h2,h3,h4⟩
 ·have hx:xs = []:=List.length_eq_zero_iff.1 z
  subst hx;refine (Any.slices_Compact_int_empty Lay.jt none 0 w).mono ?_;rintro e w' ⟨rfl,rfl⟩
  exact ⟨_,rfl,by simpa [Lib.compact,Lib.compactUpTo] using h,fun _ hb=>hb⟩
 ·have hH:Holds (Value.int .i64) w g 0 xs.toArray:=by
   obtain ⟨g',cap',he,_,_,_,_,_,hH⟩:=Lib.holds_of_ownsRow ho (by simp);injection he with j _ _
   injection j with j
   injection j with j _ _
   subst j;exact hH
  refine (Any.slices_Compact_int Lay.jt g 0 cap xs w hH hs h1).mono ?_;rintro e w' ⟨rfl,q,rfl⟩
  have hle:=Lib.compact_length_le xs;have hc:=Lib.ownsRow_putRow (q:=q) (k:=(Lib.compact xs).length) (ys:=Lib.compact xs ++ List.replicate (xs.length - (Lib.compact xs).length) 0) ho (by simp;omega) hle;rw [List.take_left] at hc;refine ⟨_,rfl,?_,fun w0 y=>Lib.below_putRow y hbase⟩;exact Kd.jN (enc:=Value.int .i64) (h1:=fun _=>rfl) (ok:=ok) hc (fun k hk=>h.1 k (by simpa [Value.ownBlock] using hk))
end j4
end
section
namespace Pr
open Go.RowKit ag.b6 ag.cz ag.cA
attribute [local go_sem] gh gi gV gW fF fG gj gn
set_option linter.unusedVariables false
set_option linter.unusedSimpArgs false
def er.f (l0:List Int):Option (List Int):=if l0.length < 17592186044416 then (some (Lib.compact (j4.sorted l0))) else (none)
set_option maxHeartbeats 8000000 in
set_option maxRecDepth 100000 in
theorem er.calls (A0:Option Addr) (c0:Nat) (l0:List Int) (r:List Int) (w:World) (z:Kd.C (Kd.int .i64) w A0 l0.length l0) (I:l0.length≤c0) (h:er.f l0 = some r) :
  Calls Tryz.prog 88 #[.slice A0 l0.length c0] w fun e w'=>∃ J:Value,e = .returned (J)∧Kd.R (Kd.int .i64) 3 w' w.heap.size (fun _=>True) J r∧Below w.heap.size w w':=by
 unfold er.f at h;by_cases hl:l0.length < 17592186044416
 ·rw [if_pos hl] at h
  obtain rfl:=Option.some.inj h;have HL:=ae.mk hl;have HR:=ae.mk z;have HC:=ae.mk I;clear z I h hl;go_enter Tryz.func88,Tryz.ntmps88;go_wp2_with (first | (refine af.lt (Kd.int .i64) 3 4 ?_;intro v4 w1 M j a6 y;have a7:=ae.mk M;have U:=ae.mk j;have a8:=ae.mk (Kd.aW HR.out j);clear a6 y M j) | ((with_reducible refine bY (b:=.append) (xs:=#[.tmp 4,.tmp 5]) rfl ?_);at_builtin;refine Kd.fz (Kd.int .i64) (w0:=w) w.heap.size rfl (.tmp 4) (.tmp 5) 22 3 (.int .i64 0) 8 rfl Tryz.underlying22 e9 rfl (by decide) (by omega) v4 ([]:List Int) l0 _ _ _ (fun _=>True) (fun _=>False) rfl rfl a7.out a8.out (fun _ _ h=>h) (fun _ h=>h.elim) (fun _ _=>trivial) U.out U.out.size (by have:=HL.out;simp;omega) ?_;intro v6 w2 X Y a9 a0;have a1:=ae.mk X;have aa:=ae.mk Y;clear X Y a9 a0;simp only [List.nil_append] at a1) | (refine ne (some 8) Tryz.func140 #[v6] ?_;(with_reducible refine (j4.iK a1.out (by have:=HL.out;omega)).mono ?_);rintro e w3 ⟨rfl,a2,a3,ab⟩;refine ⟨_,rfl,?_⟩;have al:=ae.mk a2;have am:=ae.mk (a3 w aa.out);clear a2 a3 ab) | (refine ne (some 10) Tryz.func141 #[v6] ?_;(with_reducible refine (j4.ku al.out (by have:=HL.out;have:=j4.fA l0;omega)).mono ?_);rintro e w4 ⟨v10,rfl,a4,a5⟩;refine ⟨_,rfl,?_⟩;have ao:=ae.mk a4;have ap:=ae.mk (a5 w am.out);clear a4 a5));go_ret;exact ⟨_,rfl,ao.out,ap.out⟩
 ·rw [if_neg hl] at h
  exact absurd h (by simp)
def bf.l0:Nat→List Int→Int→List Int→Int→Int→Option (Int)
 | 0,_,_,_,_,_=>none
 | k+1,I,J,y,z,j=>if j < z then (if 0≤j then (if j < (y.length:Int) then (if 0≤(rd y j) then (if (rd y j) < (I.length:Int) then (if 0≤(rd I (rd y j)) then (bf.l0 k I (Go.bits .or .i64 J (shl .i64 1 (rd I (rd y j)))) y z (wrap64 (j+1))) else (none)) else (none)) else (none)) else (none)) else (none)) else (some J)
def bf.f (k:Nat) (l0:List Int) (y:Int):Option (Int):=(aJ.f k y).bind fun j=>(bf.l0 k l0 0 j (j.length:Int) 0)
theorem bf.eB:∀ k,af.S5 bf.l0 k
 | 0=>by and_intros <;> (repeat intro _) <;> exact af.mz rfl
 | k+1=>by
  have j:=bf.eB k;and_intros <;> (repeat intro _) <;> unfold bf.l0 <;> exact ⟨pv⟩
theorem bf.mono:∀ a0 j k,eX (bf.f k a0 j) (bf.f (k+1) a0 j):=by
 intro a0 j k;have y:=bf.eB k;unfold bf.f;exact pv
instance bf.m:af.V2 bf.f:=fun _ _ _=>⟨bf.mono _ _ _⟩
set_option maxHeartbeats 8000000 in
set_option maxRecDepth 100000 in
theorem bf.calls (k:Nat) (A0:Option Addr) (c0:Nat) (l0:List Int) (a1:Int) (r:Int) (w:World) (a6:Kd.C (Kd.int .i64) w A0 l0.length l0) (a7:l0.length≤c0) (h:bf.f k l0 a1 = some r) :
  Calls Tryz.prog 162 #[.slice A0 l0.length c0,.int .i64 a1] w fun e w'=>e = .returned (.int .i64 r)∧Below w.heap.size w w':=by
 have aB:=ae.mk a6;have bd:=ae.mk a7;clear a6 a7;have HB:=ae.mk (Below.refl w.heap.size w);unfold bf.f at h;have H:=h;clear h;obtain ⟨j,A3,H⟩:=oY H;(try dsimp only at H);have H':=ae.mk H;clear H;go_enter Tryz.func162,Tryz.ntmps162;go_wp2_with (first | (refine ne (some 9) Tryz.func74 #[.int .i64 a1] ?_;(with_reducible refine (aJ.calls k a1 j _ A3.out).mono ?_);rintro e w4 ⟨aE,rfl,a8,hb⟩;refine ⟨_,rfl,?_⟩;have U:=ae.mk (Kd.bD a8 (an (n8 HB.out)));replace HB:=no HB hb;(try clear hb);(try clear bi);(try clear hk);(try clear hi);(try clear a8);obtain ⟨aF,aL,aO⟩:=Kd.bE U.out;subst aO));go_loopg [5,11] k (fun kq v5 v11 w'=>∃ (M:Int) (y:Int),v5 = .int .i64 M∧v11 = .int .i64 y∧ae (bf.l0 kq l0 M j (j.length:Int) y = some r)∧ae (kq≤k)∧ae (Kd.R (Kd.int .i64) 3 w' w.heap.size (fun _=>True) (.slice aF j.length aL) j)∧ae (Below w.heap.size w w'))
 case atStart=>exact ⟨(0),(0),na,na,H',⟨Nat.le_refl _⟩,⟨ac U.out⟩,⟨n8 HB.out⟩⟩
 case round =>
  clear H';obtain ⟨M,y,rfl,rfl,HA,a9,a0,HB⟩:=hrel;cases gk with
  | zero=>exact absurd HA.out (by simp [bf.l0])
  | succ k1 =>
   have H:=HA.out;clear HA;simp only [bf.l0] at H;by_cases c6:y < (j.length:Int)
   ·rw [if_pos c6] at H
    have aa:=decide_eq_true c6;clear c6;obtain ⟨c7,H⟩:=ol H;have b4:=decide_eq_true c7;clear c7;obtain ⟨c8,H⟩:=ol H;have ba:=decide_eq_true c8;clear c8;obtain ⟨c9,H⟩:=ol H;have bc:=decide_eq_true c9;clear c9;obtain ⟨iw,H⟩:=ol H;have aP:=decide_eq_true iw;clear iw;obtain ⟨a2,H⟩:=ol H;have aR:=eq_true a2;have aS:decide (0≤(rd l0 (rd j y))) = true:=decide_eq_true a2;clear a2;obtain ⟨I,J⟩:∃ j_:Int,(shl .i64 1 (rd l0 (rd j y))) = j_:=⟨_,rfl⟩
    replace H:(bf.l0 k1 l0 (Go.bits .or .i64 M (I)) j (j.length:Int) (wrap64 (y+1))) = some r:=by first | (rw [J] at H;exact H) | (simp only [J] at H ⊢;exact H)
    have X:(IntKind.i64.wrap (1 * 2 ^ min (rd l0 (rd j y)).toNat 64)) = I:=J;have Y:(rd l0 (rd j y))≤64→(IntKind.i64.wrap (1 * 2 ^ (rd l0 (rd j y)).toNat)) = I:=dZ J;have al:(IntKind.i64.wrap (2 ^ min (rd l0 (rd j y)).toNat 64)) = I:=by have h_:=X;rw [Int.one_mul] at h_;exact h_
    have am:(rd l0 (rd j y))≤64→(IntKind.i64.wrap (2 ^ (rd l0 (rd j y)).toNat)) = I:=fun ab=>by have h_:=Y ab;rw [Int.one_mul] at h_;exact h_
    have ao:(wrap64 (1 * 2 ^ min (rd l0 (rd j y)).toNat 64)) = I:=(bw _).symm.trans X;have ap:(rd l0 (rd j y))≤64→(wrap64 (1 * 2 ^ (rd l0 (rd j y)).toNat)) = I:=fun h_=>(bw _).symm.trans (Y h_)
    have H':=ae.mk H;clear H;obtain ⟨ar,a3,a5,b0,b1⟩:=pf (Kd.az a0.out).2.2 y;cases a3
    obtain ⟨aw,a4,z,b2,b3⟩:=pf aB.out (rd j y);cases a4
    (try replace z:=(HB.out.cell (World.block_lt_of_cell? w _ z)).trans z);go_wp2;go_roundg k1;case measure=>have:=a9.out;omega
    case rel=>exact ⟨(Go.bits .or .i64 M (I)),(wrap64 (y+1)),(by first | rfl | (simp;done) | (simp only [← J] <;> (first | rfl | simp)) | (simp [*];done)),na,H',⟨by have:=a9.out;omega⟩,⟨ac a0.out⟩,⟨n8 HB.out⟩⟩
   ·rw [if_neg c6] at H
    have aa:decide (y < (j.length:Int)) = false:=decide_eq_false c6;clear c6;obtain rfl:=Option.some.inj H;go_wp2;go_ret;exact ⟨pi,nb⟩
def b5.l0:Nat→List Int→List Int→Int→Int→Int→List Int→Option (Int×List Int)
 | 0,_,_,_,_,_,_=>none
 | k+1,X,I,U,z,y,j=>if z < U then (if 0≤z then (if z < (I.length:Int) then ((bf.f k X (rd I z)).bind fun J=>(if j.length < 17592186044416 then (b5.l0 k X I U (wrap64 (z+1)) y (j ++ [J])) else (none))) else (none)) else (none)) else ((er.f j).bind fun M=>(some (y,M)))
def b5.f (k:Nat) (y:Int) (j:List Int) (l1:List Int):Option (Int×List Int):=b5.l0 k l1 j (j.length:Int) 0 y ([]:List Int)
theorem b5.eB:∀ k,af.S6 b5.l0 k
 | 0=>by and_intros <;> (repeat intro _) <;> exact af.mz rfl
 | k+1=>by
  have j:=b5.eB k;and_intros <;> (repeat intro _) <;> unfold b5.l0 <;> exact ⟨pv⟩
theorem b5.mono:∀ a0 j a2 k,eX (b5.f k a0 j a2) (b5.f (k+1) a0 j a2):=by
 intro a0 j a2 k;have y:=b5.eB k;unfold b5.f;exact pv
instance b5.m:af.V3 b5.f:=fun _ _ _ _=>⟨b5.mono _ _ _ _⟩
def b5.T5:Bool×List (List Nat×List Nat):=(true,[([],[]),([0],[0]),([],[]),([],[]),([2,3],[2,3]),([4],[4]),([1,5,4],[1,5]),([0,1,2,3,4,5,6],[]),([7,6,6,0,1,2,3,4,5,6],[6,7])])
def b5.B5:List Nat:=[0,1,0,0,12,28,63,127,255]
theorem b5.sM:eW .any (opsOf Tryz.f113 5) = b5.T5:=by kernel_rfl
theorem b5.sA:eN b5.T5.2 b5.B5 = true:=by kernel_rfl
set_option maxHeartbeats 8000000 in
set_option maxRecDepth 100000 in
theorem b5.calls (k:Nat) (a4:Int) (ap:Option Addr) (ao:Nat) (U:List Int) (A1:Option Addr) (c1:Nat) (l1:List Int) (r1:Int) (r2:List Int) (w:World) (b0:Kd.C (Kd.int .i64) w ap U.length U) (b1:U.length≤ao) (c0:Kd.C (Kd.int .i64) w A1 l1.length l1) (ca:l1.length≤c1) (h:b5.f k a4 U l1 = some (r1,r2)) :
  Calls Tryz.prog 113 #[.agg #[.int .i64 a4,.slice ap U.length ao],.slice A1 l1.length c1] w fun e w'=>∃ cb:Value,e = .returned (.agg #[.int .i64 r1,cb])∧Kd.R (Kd.int .i64) 3 w' w.heap.size (fun _=>True) cb r2∧Below w.heap.size w w':=by
 have ft:=Tryz.underlying37;have bk:=ae.mk b0;have eh:=ae.mk b1;clear b0 b1;have el:=ae.mk c0;have em:=ae.mk ca;clear c0 ca;have HB:=ae.mk (Below.refl w.heap.size w);unfold b5.f at h;have H:=h;clear h;have H':=ae.mk H;clear H;go_enter Tryz.func113,Tryz.ntmps113;go_wp2_with (first | (refine pd 2 #[.int .i64 a4,.slice ap U.length ao] 37 ?_;intro ar hg w3 hbox hb;have z:=ae.mk hbox;have e2:=o0 hg HB;have e3:=o0 hg HB;replace HB:=no HB hb;clear hb hbox hg) | (refine pd 4 #[.int .i64 0,.slice none 0 0] 37 ?_;intro a5 hg w4 hbox hb;have I:=ae.mk hbox;have e4:=pr (w:=w) hg nb;have e8:=pr (w:=w) hg nb;replace HB:=ae.mk (aH nb hb);have a6:=pk hg z;have a7:=pl hg z;replace z:=nz z hb;clear hb hbox hg;have fw:=a6.out;have fx:=a7.out;obtain ⟨ea,eb,ed,ee⟩:=ob z.out) | (refine pd 5 #[.int .i64 0,.slice none 0 0] 37 ?_;intro Y hg w7 hbox hb;have y:=ae.mk hbox;have ef:=pr (w:=w) hg nb;have eg:=pr (w:=w) hg nb;replace HB:=ae.mk (aH nb hb);have a0:=pk hg z;have a1:=pl hg z;replace z:=nz z hb;have a2:=pk hg I;have a3:=pl hg I;replace I:=nz I hb;clear hb hbox hg;have fy:=a1.out;have fX:=a0.out;have fY:=a3.out;have g0:=a2.out;obtain ⟨cc,cd,ce,cf⟩:=ob y.out;obtain ⟨ch,ci,cl,co⟩:=ob z.out));go_loopg [14] k (fun kq eo w'=>∃ (X:Int) (J:List Int) (M:Value),eo = .int .i64 X∧ae (b5.l0 kq l1 U (U.length:Int) X a4 J = some (r1,r2))∧ae (kq≤k)∧ae (Kd.R (Kd.int .i64) 3 w' w.heap.size (fun _=>True) M J)∧ae (w'.heap[ar]? = some (.cells #[.int .i64 a4,(.slice ap U.length ao)] 37 (0,0)))∧ae (w'.heap[a5]? = some (.cells #[.int .i64 0,(.slice none 0 0)] 37 (0,0)))∧ae (w'.heap[Y]? = some (.cells #[.int .i64 a4,M] 37 (0,0)))∧ae (Below w.heap.size w w'))
 case atStart=>exact ⟨(0),(([]:List Int)),(.slice none 0 0),na,H',⟨Nat.le_refl _⟩,⟨af.N⟩,⟨pj⟩,⟨pj⟩,⟨pj⟩,⟨nb⟩⟩
 case round =>
  clear H';obtain ⟨X,J,M,rfl,HA,cp,j,z,I,y,HB⟩:=hrel;cases gk with
  | zero=>exact absurd HA.out (by simp [b5.l0])
  | succ k1 =>
   have H:=HA.out;clear HA;simp only [b5.l0] at H;by_cases aR:X < (U.length:Int)
   ·rw [if_pos aR] at H
    have bm:=decide_eq_true aR;clear aR;obtain ⟨cr,H⟩:=ol H;have eq:=decide_eq_true cr;clear cr;obtain ⟨cx,H⟩:=ol H;have es:=decide_eq_true cx;clear cx;obtain ⟨aa,et,H⟩:=oY H;(try dsimp only at H);obtain ⟨cy,H⟩:=ol H;have bo:=ae.mk cy;clear cy;obtain ⟨ab,al⟩:∃ y_:List Int,y_ = (J ++ [aa]):=⟨_,rfl⟩
    replace H:(b5.l0 k1 l1 U (U.length:Int) (wrap64 (X+1)) a4 ab) = some (r1,r2):=by (try rw [al]);exact ph
    have b4:=ae.mk al;clear al;have H':=ae.mk H;clear H;obtain ⟨ba,bs,a8,ev,ex⟩:=pf bk.out X;cases bs
    (try replace a8:=(HB.out.cell (World.block_lt_of_cell? w _ a8)).trans a8);(try go_wp2);replace j:=ae.mk (Kd.dz j.out);replace z:=ae.mk (dQ z.out);replace I:=ae.mk (dQ I.out);replace y:=ae.mk (dQ y.out);replace HB:=ae.mk (cu HB.out);refine eL (n:=9) (S:=fun w'=>w'.cell? ⟨Y,0,none⟩ = some (.int .i64 a4)∧w'.cell? ⟨Y,1,none⟩ = some (M)) (ds:=[8]) #[false,false,false,false,false,false,false,false,false] (by kernel_rfl) rfl rfl ⟨(ah y.out 0).trans rfl,(ah y.out 1).trans rfl⟩ (fun hHeld=>?_);refine dn b5.sM b5.sA (fun a9 eQ=>?_);generalize wr.drew = g2 at j z I y HB hHeld ⊢;refine np 0 18 a9 ?_;refine np 2 20 a9 ?_;refine np 3 21 a9 ?_;refine pt 1 19 a9 eQ hHeld ?_;refine ff (i:=4) (N:=some 22) #[true,true,true,true,true,false,false,false,false] rfl rfl (dw a9.out (by kernel_rfl)) (by decide) (fun K hK=>?_);refine jR Tryz.func162 (by kernel_rfl) rfl #[.slice A1 l1.length c1,.int .i64 (rd U X)] (by rfl) rfl rfl (by (try simp only [List.map_toArray,List.map_cons,List.map_nil]);first | done | rfl) ?_;with_reducible refine (bf.calls k1 _ _ l1 (rd U X) aa _ ?side1 ?side2 et.out).mono ?_
    (case side1=>exact pa (Kd.aW el.out HB.out));(case side2=>exact em.out);rintro e g3 ⟨rfl,hb⟩
    refine ⟨_,rfl,?_⟩;replace j:=pm j hb;replace z:=nz z hb;replace I:=nz I hb;replace y:=nz y hb;replace HB:=ae.mk (aH nb hb);(try clear hb);(try clear f0);(try clear hk);(try clear hi);refine hK.out _ _ ⟨(ah y.out 0).trans rfl,(ah y.out 1).trans rfl⟩ (fun hHeld=>?_);clear hK K;refine bX (a':=?_) ?_ ?_;rotate_left
    ·show Act.put _ (some 22) _ = _
     simp only [Act.put,List.setIfInBounds_toArray,List.set_cons_zero,List.set_cons_succ,bw,bR];rfl
    refine ff (i:=5) (N:=some 23) #[true,true,true,true,true,true,false,false,false] rfl rfl (dw a9.out (by kernel_rfl)) (by decide) (fun K hK=>?_);refine mI (w1:=?_) (v:=?_) (by rfl) rfl ?_ ?_;rotate_left 2
    ·go_simp
     constructor
     ·rfl
     ·rfl
    refine hK.out _ _ ⟨(ah (j7 y.out _) 0).trans rfl,(ah (j7 y.out _) 1).trans rfl⟩ (fun hHeld=>?_);clear hK K;refine bX (a':=?_) ?_ ?_;rotate_left
    ·show Act.put _ (some 23) _ = _
     simp only [Act.put,List.setIfInBounds_toArray,List.set_cons_zero,List.set_cons_succ,bw,bR];rfl
    refine ff (i:=6) (N:=some 24) #[true,true,true,true,true,true,true,false,false] rfl rfl (dw a9.out (by kernel_rfl)) (by decide) (fun K hK=>?_);refine Kd.fU (Kd.int .i64) (w0:=w) w.heap.size (by rfl) (.tmp 19) (.tmp 23) 22 3 (.int .i64 0) 8 rfl Tryz.underlying22 e9 rfl (by decide) (by omega) M J aa [.int .i64 aa] (fun _=>True) (fun _=>False) rfl rfl ?aP (fun _ hk=>hk.elim) ?aF ?aO ?aB ?aS ?aL ?_;(case aP=>exact rfl);(case aB=>exact nb);(case aF=>exact (fun _ _=>trivial));(case aO=>exact (ac j.out));(case aS=>exact (an nb));(case aL=>have:=bo.out;omega);intro f1 f2 ho hb hg hat;rw [← b4.out] at ho;have cX:=ae.mk (cI (g:=ar) (o:=.cells #[.int .i64 a4,.slice (some ba) U.length ao] 37 (0,0)) (nm z.out) hg (Kd.iv j.out z.out (by decide)));have cY:=ae.mk (cI (g:=a5) (o:=.cells #[.int .i64 0,.slice none 0 0] 37 (0,0)) (nm I.out) hg (Kd.iv j.out I.out (by decide)));have d0:=ae.mk (cI (g:=Y) (o:=.cells #[.int .i64 a4,M] 37 (0,0)) (nm y.out) hg (Kd.iv j.out y.out (by decide)));have d1:=ae.mk hb;have d2:=ae.mk ho;clear z;clear I;clear y;clear HB;clear j;have z:=cX;have I:=cY;have y:=d0;have HB:=d1;have aw:=d2;clear cX cY d0 d1 d2;clear ho hb hg hat;obtain ⟨bc,bd,bi⟩:=Kd.bE aw.out;(first | subst bi | (injection bi with d3 f3 d4;have f4:=d3.symm;have f5:=d4.symm;clear d3 f3 d4;subst f4;subst f5));refine hK.out _ _ ⟨(ah y.out 0).trans rfl,(ah y.out 1).trans rfl⟩ (fun hHeld=>?_);clear hK K;refine bX (a':=?_) ?_ ?_;rotate_left
    ·show Act.put _ (some 24) _ = _
     simp only [Act.put,List.setIfInBounds_toArray,List.set_cons_zero,List.set_cons_succ,bw,bR];rfl
    refine np 7 25 a9 ?_;refine sg (i:=8) (N:=none) #[true,true,true,true,true,true,true,true,true] rfl rfl (dw a9.out (by kernel_rfl)) (by decide) (fun K hK=>?_);have g1:f2.cell? ⟨Y,1,none⟩ = some (M):=(ah y.out 1).trans rfl;have f6:=aj y.out 1;have d5:=a0.out;have d6:=a2.out;have d7:=a1.out;have d8:=a3.out;refine nk (w1:=?_) (by rfl) rfl ?_ ?_;rotate_left
    ·go_simp
     rfl
    refine hK.out _ _ ?_;clear hK K;refine fm (e7 a9.out (by kernel_rfl)) ?_;(try go_wp2);go_roundg k1;case measure=>have:=cp.out;omega
    case rel=>exact ⟨(wrap64 (X+1)),(ab),(.slice bc ab.length bd),na,H',⟨by have:=cp.out;omega⟩,⟨ac (Kd.aX (Kd.bU (p:=⟨Y,1,none⟩) (Kd.bp aw.out y.out (by decide)) (fun _ hk=>hk.2) (.slice bc ab.length bd)) (fun _ hk=>trivial))⟩,⟨pj⟩,⟨pj⟩,⟨pj⟩,⟨nb⟩⟩
   ·rw [if_neg aR] at H
    have bm:decide (X < (U.length:Int)) = false:=decide_eq_false aR;clear aR;obtain ⟨am,f7,H⟩:=oY H;(try dsimp only at H);simp only [Option.some.injEq,Prod.mk.injEq] at H;obtain ⟨rfl,rfl⟩:=H;have f8:=a1.out;have f9:=a0.out;have fd:=a3.out;have fi:=a2.out;obtain ⟨d9,db,dd,df⟩:=ob y.out;obtain ⟨dk,dl,dp⟩:=Kd.bE j.out;subst dp;go_wp2_with (first | (refine ne (some 29) Tryz.func88 #[.slice dk J.length dl] ?_;(with_reducible refine (er.calls _ _ J am _ ?side1 ?side2 f7.out).mono ?_);(case side1=>exact pa ((Kd.az j.out).2.2));(case side2=>exact (Kd.az j.out).2.1);rintro e g4 ⟨fj,rfl,bv,hb⟩;refine ⟨_,rfl,?_⟩;have aE:=ae.mk (Kd.bD (Kd.dj bv (Kd.dx (ac j.out))) (an nb));replace j:=ae.mk (Kd.cC (ac j.out) (Kd.bQ bv) hb);replace z:=nz z hb;replace I:=nz I hb;replace y:=nz y hb;replace HB:=ae.mk (aH nb hb);(try clear hb);(try clear f0);(try clear hk);(try clear hi);(try clear bv);obtain ⟨b2,b3,dq⟩:=Kd.bE aE.out;subst dq;obtain ⟨dt,du,dv,dC⟩:=ob y.out;have fp:=a7.out;have fs:=a6.out;obtain ⟨dE,dT,e0,e1⟩:=ob I.out));refine bodyPost_ret (results_cell_row rfl _ _ a5 37 #[.int .i64 a4,.slice b2 am.length b3] (0,0) _ rfl pj Tryz.underlying37 rfl (by kernel_rfl)) rfl ?_;exact ⟨_,pi,by (with_reducible repeat (first | apply Kd.ew | apply Kd.e5 | apply Kd.dz));exact Kd.aX (Kd.bU (p:=⟨a5,1,none⟩) (Kd.bU (p:=⟨a5,0,none⟩) (Kd.bU (p:=⟨Y,1,none⟩) (Kd.bp (Kd.bp aE.out y.out (by decide)) I.out (by decide)) (fun _ hk=>hk.1.2) (.slice b2 am.length b3)) (fun _ hk=>hk.2) (.int .i64 a4)) (fun _ hk=>hk.2) (.slice b2 am.length b3)) (fun _ hk=>trivial),nb⟩
def cmp_isNaN_int.f (a0:Int):Option (Bool):=some (a0 != a0)
set_option maxHeartbeats 8000000 in
set_option maxRecDepth 100000 in
theorem cmp_isNaN_int.calls (a0:Int) (r:Bool) (w:World) (h:cmp_isNaN_int.f a0 = some r) :
  Calls Tryz.prog 195 #[.int .i64 a0] w fun e w'=>e = .returned (.bool r)∧cj w w':=by
 unfold cmp_isNaN_int.f at h;have H:=h;clear h;obtain rfl:=Option.some.inj H;go_enter Tryz.func195,Tryz.ntmps195;go_wp2;go_ret;exact ⟨na,oX⟩
def cQ.f (a0:Int) (z:Int):Option (Int):=(cmp_isNaN_int.f a0).bind fun y=>((cmp_isNaN_int.f z).bind fun j=>(if y = true then (if j = true then (some 0) else (some (-1))) else (if j = true then (some 1) else (if a0 < z then (some (-1)) else (if a0 > z then (some 1) else (some 0))))))
set_option maxHeartbeats 8000000 in
set_option maxRecDepth 100000 in
theorem cQ.calls (a0:Int) (j:Int) (r:Int) (w:World) (h:cQ.f a0 j = some r) :
  Calls Tryz.prog 163 #[.int .i64 a0,.int .i64 j] w fun e w'=>e = .returned (.int .i64 r)∧cj w w':=by
 unfold cQ.f at h;have H:=h;clear h;obtain ⟨z,I,H⟩:=oY H;(try dsimp only at H);obtain ⟨y,J,H⟩:=oY H;(try dsimp only at H);by_cases c5:z = true
 ·subst c5
  replace H:(if y = true then (some 0) else (some (-1))) = some r:=by rw [if_pos rfl] at H;exact H
  by_cases c6:y = true
  ·subst c6
   replace H:(some 0) = some r:=by rw [if_pos rfl] at H;exact H
   obtain rfl:=Option.some.inj H;go_enter Tryz.func163,Tryz.ntmps163;go_wp2_with (first | (refine ne (some 8) Tryz.func195 #[.int .i64 a0] ?_;(with_reducible refine (cmp_isNaN_int.calls a0 true _ I.out).mono ?_);rintro e w' ⟨rfl,⟨nd,rfl⟩⟩;refine ⟨_,rfl,?_⟩) | (refine ne (some 10) Tryz.func195 #[.int .i64 j] ?_;(with_reducible refine (cmp_isNaN_int.calls j true _ J.out).mono ?_);rintro e w' ⟨rfl,⟨nd,rfl⟩⟩;refine ⟨_,rfl,?_⟩));go_ret;exact ⟨na,oX⟩
  ·replace c6:=Bool.eq_false_iff.mpr c6
   subst c6;replace H:(some (-1)) = some r:=by rw [if_neg (show ¬ (false = true) by decide)] at H;exact H
   obtain rfl:=Option.some.inj H;go_enter Tryz.func163,Tryz.ntmps163;go_wp2_with (first | (refine ne (some 8) Tryz.func195 #[.int .i64 a0] ?_;(with_reducible refine (cmp_isNaN_int.calls a0 true _ I.out).mono ?_);rintro e w' ⟨rfl,⟨nd,rfl⟩⟩;refine ⟨_,rfl,?_⟩) | (refine ne (some 10) Tryz.func195 #[.int .i64 j] ?_;(with_reducible refine (cmp_isNaN_int.calls j false _ J.out).mono ?_);rintro e w' ⟨rfl,⟨nd,rfl⟩⟩;refine ⟨_,rfl,?_⟩));go_ret;exact ⟨na,oX⟩
 ·replace c5:=Bool.eq_false_iff.mpr c5
  subst c5;replace H:(if y = true then (some 1) else (if a0 < j then (some (-1)) else (if a0 > j then (some 1) else (some 0)))) = some r:=by rw [if_neg (show ¬ (false = true) by decide)] at H;exact H
  by_cases c7:y = true
  ·subst c7
   replace H:(some 1) = some r:=by rw [if_pos rfl] at H;exact H
   obtain rfl:=Option.some.inj H;go_enter Tryz.func163,Tryz.ntmps163;go_wp2_with (first | (refine ne (some 8) Tryz.func195 #[.int .i64 a0] ?_;(with_reducible refine (cmp_isNaN_int.calls a0 false _ I.out).mono ?_);rintro e w' ⟨rfl,⟨nd,rfl⟩⟩;refine ⟨_,rfl,?_⟩) | (refine ne (some 10) Tryz.func195 #[.int .i64 j] ?_;(with_reducible refine (cmp_isNaN_int.calls j true _ J.out).mono ?_);rintro e w' ⟨rfl,⟨nd,rfl⟩⟩;refine ⟨_,rfl,?_⟩));go_ret;exact ⟨na,oX⟩
  ·replace c7:=Bool.eq_false_iff.mpr c7
   subst c7;replace H:(if a0 < j then (some (-1)) else (if a0 > j then (some 1) else (some 0))) = some r:=by rw [if_neg (show ¬ (false = true) by decide)] at H;exact H
   by_cases c8:a0 < j
   ·rw [if_pos c8] at H
    have M:=decide_eq_true c8;clear c8;obtain rfl:=Option.some.inj H;go_enter Tryz.func163,Tryz.ntmps163;go_wp2_with (first | (refine ne (some 8) Tryz.func195 #[.int .i64 a0] ?_;(with_reducible refine (cmp_isNaN_int.calls a0 false _ I.out).mono ?_);rintro e w' ⟨rfl,⟨nd,rfl⟩⟩;refine ⟨_,rfl,?_⟩) | (refine ne (some 10) Tryz.func195 #[.int .i64 j] ?_;(with_reducible refine (cmp_isNaN_int.calls j false _ J.out).mono ?_);rintro e w' ⟨rfl,⟨nd,rfl⟩⟩;refine ⟨_,rfl,?_⟩));go_ret;exact ⟨na,oX⟩
   ·rw [if_neg c8] at H
    have M:decide (a0 < j) = false:=decide_eq_false c8;clear c8;by_cases c9:a0 > j
    ·rw [if_pos c9] at H
     have U:=decide_eq_true c9;clear c9;obtain rfl:=Option.some.inj H;go_enter Tryz.func163,Tryz.ntmps163;go_wp2_with (first | (refine ne (some 8) Tryz.func195 #[.int .i64 a0] ?_;(with_reducible refine (cmp_isNaN_int.calls a0 false _ I.out).mono ?_);rintro e w' ⟨rfl,⟨nd,rfl⟩⟩;refine ⟨_,rfl,?_⟩) | (refine ne (some 10) Tryz.func195 #[.int .i64 j] ?_;(with_reducible refine (cmp_isNaN_int.calls j false _ J.out).mono ?_);rintro e w' ⟨rfl,⟨nd,rfl⟩⟩;refine ⟨_,rfl,?_⟩));go_ret;exact ⟨na,oX⟩
    ·rw [if_neg c9] at H
     have U:decide (j < a0) = false:=decide_eq_false c9;clear c9;obtain rfl:=Option.some.inj H;go_enter Tryz.func163,Tryz.ntmps163;go_wp2_with (first | (refine ne (some 8) Tryz.func195 #[.int .i64 a0] ?_;(with_reducible refine (cmp_isNaN_int.calls a0 false _ I.out).mono ?_);rintro e w' ⟨rfl,⟨nd,rfl⟩⟩;refine ⟨_,rfl,?_⟩) | (refine ne (some 10) Tryz.func195 #[.int .i64 j] ?_;(with_reducible refine (cmp_isNaN_int.calls j false _ J.out).mono ?_);rintro e w' ⟨rfl,⟨nd,rfl⟩⟩;refine ⟨_,rfl,?_⟩));go_ret;exact ⟨na,oX⟩
def ax.l0:Nat→List Int→List Int→List Int→Int→Int→Option (Int)
 | 0,_,_,_,_,_=>none
 | k+1,M,z,J,I,j=>if j < I then (if 0≤j then (if j < (J.length:Int) then (if j≥(z.length:Int) then (some 1) else (if j < (z.length:Int) then ((cQ.f (rd J j) (rd z j)).bind fun y=>(if y = 0 then (ax.l0 k M z J I (wrap64 (j+1))) else (some y))) else (none))) else (none)) else (none)) else (if (M.length:Int) < (z.length:Int) then (some (-1)) else (some 0))
def ax.f (k:Nat) (l0:List Int) (l1:List Int):Option (Int):=ax.l0 k l0 l1 l0 (l0.length:Int) 0
theorem ax.eB:∀ k,af.S5 ax.l0 k
 | 0=>by and_intros <;> (repeat intro _) <;> exact af.mz rfl
 | k+1=>by
  have j:=ax.eB k;and_intros <;> (repeat intro _) <;> unfold ax.l0 <;> exact ⟨pv⟩
theorem ax.mono:∀ a0 j k,eX (ax.f k a0 j) (ax.f (k+1) a0 j):=by
 intro a0 j k;have y:=ax.eB k;unfold ax.f;exact pv
instance ax.m:af.V2 ax.f:=fun _ _ _=>⟨ax.mono _ _ _⟩
set_option maxHeartbeats 8000000 in
set_option maxRecDepth 100000 in
theorem ax.calls (k:Nat) (A0:Option Addr) (c0:Nat) (l0:List Int) (A1:Option Addr) (c1:Nat) (l1:List Int) (r:Int) (w:World) (a6:Kd.C (Kd.int .i64) w A0 l0.length l0) (a7:l0.length≤c0) (a8:Kd.C (Kd.int .i64) w A1 l1.length l1) (a9:l1.length≤c1) (h:ax.f k l0 l1 = some r) :
  Calls Tryz.prog 114 #[.slice A0 l0.length c0,.slice A1 l1.length c1] w fun e w'=>e = .returned (.int .i64 r)∧cj w w':=by
 have a1:=ae.mk a6;have aE:=ae.mk a7;clear a6 a7;have aa:=ae.mk a8;have aF:=ae.mk a9;clear a8 a9;unfold ax.f at h;have H:=h;clear h;have H':=ae.mk H;clear H;go_enter Tryz.func114,Tryz.ntmps114;go_wp2;go_loopg [11] k (fun kq v11 w'=>∃ (j:Int),v11 = .int .i64 j∧ae (ax.l0 kq l0 l1 l0 (l0.length:Int) j = some r)∧ae (kq≤k)∧cj w w')
 case atStart=>exact ⟨(0),na,H',⟨Nat.le_refl _⟩,oX⟩
 case round =>
  clear H';obtain ⟨j,rfl,HA,ab,⟨m1,rfl⟩⟩:=hrel;cases gk with
  | zero=>exact absurd HA.out (by simp [ax.l0])
  | succ k1 =>
   have H:=HA.out;clear HA;simp only [ax.l0] at H;by_cases c3:j < (l0.length:Int)
   ·rw [if_pos c3] at H
    have al:=decide_eq_true c3;clear c3;obtain ⟨c4,H⟩:=ol H;have ar:=decide_eq_true c4;clear c4;obtain ⟨c5,H⟩:=ol H;have aw:=decide_eq_true c5;clear c5;by_cases c6:j≥(l1.length:Int)
    ·rw [if_pos c6] at H
     have am:=decide_eq_true c6;clear c6;obtain rfl:=Option.some.inj H;obtain ⟨M,z,I,X,Y⟩:=pf a1.out j;cases z
     go_wp2;go_ret;exact ⟨na,oX⟩
    ·rw [if_neg c6] at H
     have am:decide ((l1.length:Int)≤j) = false:=decide_eq_false c6;clear c6;obtain ⟨c7,H⟩:=ol H;have aB:=decide_eq_true c7;clear c7;obtain ⟨y,A8,H⟩:=oY H;(try dsimp only at H);by_cases c9:y = 0
     ·rw [if_pos c9] at H
      have ao:(y == 0) = true:=beq_iff_eq.mpr c9;have ap:(y != 0) = false:=bne_eq_false_iff_eq.mpr c9;clear c9;have H':=ae.mk H;clear H;obtain ⟨M,z,I,X,Y⟩:=pf a1.out j;cases z
      obtain ⟨a0,J,U,a2,a3⟩:=pf aa.out j;cases J
      go_wp2_with (first | (refine ne (some 26) Tryz.func163 #[.int .i64 (rd l0 j),.int .i64 (rd l1 j)] ?_;(with_reducible refine (cQ.calls (rd l0 j) (rd l1 j) y _ A8.out).mono ?_);rintro e w' ⟨rfl,⟨nd,rfl⟩⟩;refine ⟨_,rfl,?_⟩));go_roundg k1;case measure=>have:=ab.out;omega
      case rel=>exact ⟨(wrap64 (j+1)),na,H',⟨by have:=ab.out;omega⟩,oX⟩
     ·rw [if_neg c9] at H
      have ao:(y == 0) = false:=beq_eq_false_iff_ne.mpr c9;have ap:(y != 0) = true:=bne_iff_ne.mpr c9;obtain rfl:=Option.some.inj H;obtain ⟨M,z,I,X,Y⟩:=pf a1.out j;cases z
      obtain ⟨a0,J,U,a2,a3⟩:=pf aa.out j;cases J
      go_wp2_with (first | (refine ne (some 26) Tryz.func163 #[.int .i64 (rd l0 j),.int .i64 (rd l1 j)] ?_;(with_reducible refine (cQ.calls (rd l0 j) (rd l1 j) y _ A8.out).mono ?_);rintro e w' ⟨rfl,⟨nd,rfl⟩⟩;refine ⟨_,rfl,?_⟩));go_ret;exact ⟨na,oX⟩
   ·rw [if_neg c3] at H
    have al:decide (j < (l0.length:Int)) = false:=decide_eq_false c3;clear c3;by_cases iw:(l0.length:Int) < (l1.length:Int)
    ·rw [if_pos iw] at H
     have a4:=decide_eq_true iw;have a5:decide (l0.length < l1.length) = true:=decide_eq_true (Int.ofNat_lt.mp iw);clear iw;obtain rfl:=Option.some.inj H;go_wp2;go_ret;exact ⟨na,oX⟩
    ·rw [if_neg iw] at H
     have a4:decide ((l0.length:Int) < (l1.length:Int)) = false:=decide_eq_false iw;have a5:decide (l0.length < l1.length) = false:=decide_eq_false (fun h=>iw (Int.ofNat_lt.mpr h));clear iw;obtain rfl:=Option.some.inj H;go_wp2;go_ret;exact ⟨na,oX⟩
theorem ak.sB {W:World} {gb base j:Nat} {A:Option Addr} {c:Nat} {s:Int} {xs:List Int} {ok:Nat→Prop} (hb:W.heap[gb]? = some (.cells #[.int .i64 s,.slice A xs.length c] 37 (0,0))) (hg:base≤gb) (hl:base≤j) (h:Kd.R (Kd.int .i64) 3 W j ok (.slice A xs.length c) xs) (hok:∀ k,ok k→k≠gb):ak.mM W gb base (s,xs) :=
 ⟨A,c,hb,hg,fun W_ hk=>Kd.bD (Kd.aX (Kd.oH h hk hok) (fun _ _=>trivial)) hl⟩
def bI.f (k:Nat) (y:Int) (z:List Int) (l0:List Int) (b:Int×List Int):Option (Int×List Int):=(b5.f k y z l0).bind fun x=>((ax.f k x.2 b.2).bind fun j=>(if j < 0 then (some x) else (some b)))
theorem bI.mono (j:Int) (y l0:List Int) (b:Int×List Int) (k:Nat):eX (bI.f k j y l0 b) (bI.f (k+1) j y l0 b):=eX.bind (b5.mono _ _ _ _) fun _=>eX.bind (ax.mono _ _ _) fun _=>eX.refl _
set_option maxHeartbeats 8000000 in
set_option maxRecDepth 100000 in
theorem bI.calls (k:Nat) (gm gb base:Nat) (a5:Int) (al:Option Addr) (am:Nat) (a2:List Int) (W:World) (hbm:W.heap[gm]? = some (.cells #[.int .i64 a5,.slice al a2.length am] 37 (0,0))) (hne:gm≠gb) (ap:∀ W_,bn W W_ gb none→Kd.C (Kd.int .i64) W_ al a2.length a2) (ar:a2.length≤am) (A0:Option Addr) (c0:Nat) (l0:List Int) (b b':Int×List Int) (w:World) (hK:ak.Kp gb W w) (hJ:ak.mM w gb base b) (cd:Kd.C (Kd.int .i64) w A0 l0.length l0) (ce:l0.length≤c0) (h:bI.f k a5 a2 l0 b = some b') :
  Calls Tryz.prog 112 #[.slice A0 l0.length c0,.pointer (some ⟨gm,0,none⟩),.pointer (some ⟨gb,0,none⟩)] w fun e w'=>e = .returned (.bool true)∧ak.mM w' gb base b'∧ak.Kp gb w w':=by
 have cY:=Tryz.underlying37;have cf:=ae.mk cd;have ch:=ae.mk ce;clear cd ce;have aw:=ae.mk (ap w hK.k);have aB:=ae.mk ar;have y:=ae.mk (hK.k.blk hbm hne (by simp));clear ap ar hbm hK;have LT:=ae.mk hJ.lt;obtain ⟨d0,ao⟩:=b;obtain ⟨aE,aF,bk,hbase,a8⟩:=hJ.out;have BS:=ae.mk hbase;have j:=ae.mk bk;have aL:=ae.mk a8;have aa:=ae.mk (Kd.az (a8 w (bn.refl _ _ _))).2.2;have ab:=ae.mk (Kd.az (a8 w (bn.refl _ _ _))).2.1;clear a8 bk hJ hbase;dsimp only at j aa ab aL;have HB:=ae.mk (Below.refl w.heap.size w);unfold bI.f at h;have H:=h;clear h;obtain ⟨⟨a4,U⟩,A4,H⟩:=oY H;(try dsimp only at H);obtain ⟨a9,A5,H⟩:=oY H;(try dsimp only at H);have NB:=ae.mk hne;have NC:=ae.mk hne.symm;clear hne;by_cases c6:a9 < 0
 ·rw [if_pos c6] at H
  have ci:=decide_eq_true c6;clear c6;obtain rfl:=Option.some.inj H;go_enter Tryz.func112,Tryz.ntmps112;have cl:=NB.out;have co:=NC.out;obtain ⟨aO,aP,aR,aS⟩:=ob y.out;go_wp2_with (first | (refine ne (some 8) Tryz.func113 #[.agg #[.int .i64 a5,.slice al a2.length am],.slice A0 l0.length c0] ?_;(with_reducible refine (b5.calls k a5 _ _ a2 _ _ l0 a4 U _ ?side1 ?side2 ?side3 ?side4 A4.out).mono ?_);(case side1=>exact pa (Kd.aW aw.out HB.out));(case side2=>exact aB.out);(case side3=>exact pa (Kd.aW cf.out HB.out));(case side4=>exact ch.out);rintro e cr ⟨bv,rfl,b0,hb⟩;refine ⟨_,rfl,?_⟩;have z:=ae.mk (Kd.en (M:=fun k_=>(w.heap.size≤k_)) b0 (an (n8 HB.out)) (fun k_ h_=>h_));replace y:=nz y hb;replace j:=nz j hb;replace HB:=no HB hb;(try clear hb);(try clear cx);(try clear hk);(try clear hi);(try clear b0)) | (refine pd 5 #[.int .i64 0,.slice none 0 0] 37 ?_;intro J hg cy hbox hb;replace z:=pm z hb;have a3:=ae.mk hbox;have I:=o0 hg HB;have bo:=o0 hg HB;replace HB:=no HB hb;have X:=pk hg y;have Y:=pl hg y;replace y:=nz y hb;have a0:=pk hg j;have a1:=pl hg j;replace j:=nz j hb;clear hb hbox hg;have c1:=Y.out;have ca:=X.out;have cb:=a1.out;have cc:=a0.out;obtain ⟨b1,b2,b3,b4⟩:=ob a3.out;obtain ⟨a6,a7,ba⟩:=Kd.bE z.out;subst ba;obtain ⟨bc,bd,bi,bm⟩:=ob j.out;have bs:=ae.mk (Kd.bU (p:=⟨J,1,none⟩) (Kd.bU (p:=⟨J,0,none⟩) (Kd.bp z.out a3.out (by decide)) (fun _ hk=>hk.2) (.int .i64 a4)) (fun _ hk=>hk.2) (.slice a6 U.length a7))) | (refine ne (some 13) Tryz.func114 #[.slice a6 U.length a7,.slice aE ao.length aF] ?_;(with_reducible refine (ax.calls k _ _ U _ _ ao a9 _ ?side1 ?side2 ?side3 ?side4 A5.out).mono ?_);(case side1=>exact (Kd.az bs.out).2.2);(case side2=>exact (Kd.az z.out).2.1);(case side3=>exact Kd.aW aa.out nb);(case side4=>exact ab.out);rintro e w' ⟨rfl,⟨nd,rfl⟩⟩;refine ⟨_,rfl,?_⟩));go_ret;have hlt:=LT.out;refine ⟨rfl,ak.sB pj BS.out (Nat.le_trans BS.out (Nat.le_of_lt hlt)) (Kd.bU (p:=⟨gb,1,none⟩) (Kd.bU (p:=⟨gb,0,none⟩) (Kd.e5 bs.out nd) (fun k_ h_=>by have cp:=h_.1.1;show k_≠gb;omega) (.int .i64 a4)) (fun k_ h_=>by have cp:=h_.1.1;show k_≠gb;omega) (.slice a6 U.length a7)) (fun k_ h_=>by have cp:=h_.1.1;omega),⟨?_,?_⟩⟩
  ·exact ((cM (((ak.Kp.of HB.out hlt).b.setCell (p:=⟨J,0,none⟩) (Nat.le_trans (Nat.le_of_lt hlt) I.out) _).setCell (p:=⟨J,1,none⟩) (Nat.le_trans (Nat.le_of_lt hlt) I.out) _) nd).setCell (p:=⟨gb,0,none⟩) (Nat.le_refl _) _).setCell (p:=⟨gb,1,none⟩) (Nat.le_refl _) _
  ·exact bn.nO (bn.nO (gy (fL (fL (bn.fh HB.out gb none) I.out _) I.out _) nd) 0 _) 1 _
 ·rw [if_neg c6] at H
  have ci:decide (a9 < 0) = false:=decide_eq_false c6;clear c6;obtain rfl:=Option.some.inj H;go_enter Tryz.func112,Tryz.ntmps112;have cl:=NB.out;have co:=NC.out;obtain ⟨aO,aP,aR,aS⟩:=ob y.out;go_wp2_with (first | (refine ne (some 8) Tryz.func113 #[.agg #[.int .i64 a5,.slice al a2.length am],.slice A0 l0.length c0] ?_;(with_reducible refine (b5.calls k a5 _ _ a2 _ _ l0 a4 U _ ?side1 ?side2 ?side3 ?side4 A4.out).mono ?_);(case side1=>exact pa (Kd.aW aw.out HB.out));(case side2=>exact aB.out);(case side3=>exact pa (Kd.aW cf.out HB.out));(case side4=>exact ch.out);rintro e cr ⟨bv,rfl,b0,hb⟩;refine ⟨_,rfl,?_⟩;have z:=ae.mk (Kd.en (M:=fun k_=>(w.heap.size≤k_)) b0 (an (n8 HB.out)) (fun k_ h_=>h_));replace y:=nz y hb;replace j:=nz j hb;replace HB:=no HB hb;(try clear hb);(try clear cx);(try clear hk);(try clear hi);(try clear b0)) | (refine pd 5 #[.int .i64 0,.slice none 0 0] 37 ?_;intro J hg cy hbox hb;replace z:=pm z hb;have a3:=ae.mk hbox;have I:=o0 hg HB;have bo:=o0 hg HB;replace HB:=no HB hb;have X:=pk hg y;have Y:=pl hg y;replace y:=nz y hb;have a0:=pk hg j;have a1:=pl hg j;replace j:=nz j hb;clear hb hbox hg;have c1:=Y.out;have ca:=X.out;have cb:=a1.out;have cc:=a0.out;obtain ⟨b1,b2,b3,b4⟩:=ob a3.out;obtain ⟨a6,a7,ba⟩:=Kd.bE z.out;subst ba;obtain ⟨bc,bd,bi,bm⟩:=ob j.out;have bs:=ae.mk (Kd.bU (p:=⟨J,1,none⟩) (Kd.bU (p:=⟨J,0,none⟩) (Kd.bp z.out a3.out (by decide)) (fun _ hk=>hk.2) (.int .i64 a4)) (fun _ hk=>hk.2) (.slice a6 U.length a7))) | (refine ne (some 13) Tryz.func114 #[.slice a6 U.length a7,.slice aE ao.length aF] ?_;(with_reducible refine (ax.calls k _ _ U _ _ ao a9 _ ?side1 ?side2 ?side3 ?side4 A5.out).mono ?_);(case side1=>exact (Kd.az bs.out).2.2);(case side2=>exact (Kd.az z.out).2.1);(case side3=>exact Kd.aW aa.out nb);(case side4=>exact ab.out);rintro e w' ⟨rfl,⟨nd,rfl⟩⟩;refine ⟨_,rfl,?_⟩));go_ret;have hlt:=LT.out;refine ⟨rfl,⟨aE,aF,pj,BS.out,fun W_ cX=>aL.out W_ (bn.trans (gy (fL (fL (bn.fh HB.out gb none) I.out _) I.out _) nd) cX (.inl rfl))⟩,⟨?_,?_⟩⟩
  ·exact cM (((ak.Kp.of HB.out hlt).b.setCell (p:=⟨J,0,none⟩) (Nat.le_trans (Nat.le_of_lt hlt) I.out) _).setCell (p:=⟨J,1,none⟩) (Nat.le_trans (Nat.le_of_lt hlt) I.out) _) nd
  ·exact gy (fL (fL (bn.fh HB.out gb none) I.out _) I.out _) nd
theorem bI.use (k:Nat) (U gb base:Nat) (y:Int) (z:Option Addr) (I:Nat) (j:List Int) (W:World) (hbm:W.heap[U]? = some (.cells #[.int .i64 y,.slice z j.length I] 37 (0,0))) (hne:U≠gb) (J:∀ W_,bn W W_ gb none→Kd.C (Kd.int .i64) W_ z j.length j) (M:j.length≤I) :
  ak.sL Tryz.prog W (.func (.func 112) #[] #[.pointer (some ⟨U,0,none⟩),.pointer (some ⟨gb,0,none⟩)]) gb base (fun xs b=>bI.f k y j xs b) :=
 ⟨112,#[.pointer (some ⟨U,0,none⟩),.pointer (some ⟨gb,0,none⟩)],Tryz.f112,rfl,Tryz.func112,by kernel_rfl,rfl,fun A c xs b b' w hK hJ hC hc h=>bI.calls k U gb base y z I j W hbm hne J M A c xs b b' w hK hJ hC hc h⟩
def ct.j0:Nat→Bool→Int→List Int→Option (Int×List Int×Bool)
 | 0,_,_,_=>none
 | k+1,J,j,y=>if J = true then (some (0,([]:List Int),false)) else ((bT.f j y).bind fun I=>((ak.f (fun xs b=>bI.f k j y xs b) k j ([]:List Int) I).bind fun z=>(some (z.1,z.2,true))))
def ct.f (k:Nat) (j:Int) (y:List Int):Option (Int×List Int×Bool):=(cP.f k j y).bind fun z=>(if z = true then (ct.j0 k (decide (j > 6)) j y) else (ct.j0 k true j y))
set_option maxHeartbeats 8000000 in
set_option maxRecDepth 100000 in
theorem ct.calls (k:Nat) (z:Int) (a1:Option Addr) (a2:Nat) (I:List Int) (r1:Int) (r2:List Int) (r3:Bool) (w:World) (ap:Kd.C (Kd.int .i64) w a1 I.length I) (ar:I.length≤a2) (h:ct.f k z I = some (r1,r2,r3)) :
  Calls Tryz.prog 54 #[.agg #[.int .i64 z,.slice a1 I.length a2]] w fun e w'=>∃ aR:Value,e = .returned (.tuple #[.agg #[.int .i64 r1,aR],.bool r3])∧Kd.R (Kd.int .i64) 3 w' w.heap.size (fun _=>True) aR r2∧Below w.heap.size w w':=by
 have eb:=Tryz.underlying37;have a7:=ae.mk ap;have a8:=ae.mk ar;clear ap ar;have HB:=ae.mk (Below.refl w.heap.size w);unfold ct.f at h;have H:=h;clear h;have aO:=ae.mk H;clear H;go_enter Tryz.func54,Tryz.ntmps54;go_upto_region 1 with (first | (refine pd 1 #[.int .i64 z,.slice a1 I.length a2] 37 ?_;intro a5 hg w3 hbox hb;have j:=ae.mk hbox;have d6:=o0 hg HB;have d7:=o0 hg HB;replace HB:=no HB hb;clear hb hbox hg) | (refine pd 2 #[.int .i64 0,.slice none 0 0] 37 ?_;intro Y hg w4 hbox hb;have y:=ae.mk hbox;have d8:=o0 hg HB;have d9:=o0 hg HB;replace HB:=no HB hb;have J:=pk hg j;have M:=pl hg j;replace j:=nz j hb;clear hb hbox hg))
 (try simp only [Act.put,List.setIfInBounds_toArray,List.set_cons_zero,List.set_cons_succ]);go_cut [12] (fun v12 wc=>∃ (kq:Nat) (a9:Bool),v12 = .bool a9∧ae (ct.j0 kq a9 z I = some (r1,r2,r3))∧ae (kq≤k)∧ae (wc.heap[a5]? = some (.cells #[.int .i64 z,(.slice a1 I.length a2)] 37 (0,0)))∧ae (wc.heap[Y]? = some (.cells #[.int .i64 0,(.slice none 0 0)] 37 (0,0)))∧ae (Below w.heap.size w wc))
 case first =>
  have H:=aO.out;clear aO;obtain ⟨aP,A5,H⟩:=oY H;(try dsimp only at H);by_cases c6:aP = true
  ·subst c6
   replace H:(ct.j0 k (decide (z > 6)) z I) = some (r1,r2,r3):=by rw [if_pos rfl] at H;exact H
   have H':=ae.mk H;clear H;have ed:=J.out;have ee:=M.out;obtain ⟨db,dd,df,dk⟩:=ob j.out;go_wp2_with (first | (refine ne (some 6) Tryz.func61 #[.agg #[.int .i64 z,.slice a1 I.length a2]] ?_;(with_reducible refine (cP.calls k z _ _ I true _ ?side1 ?side2 A5.out).mono ?_);(case side1=>exact pa (Kd.aW a7.out HB.out));(case side2=>exact a8.out);rintro e w9 ⟨rfl,hb⟩;refine ⟨_,rfl,?_⟩;replace j:=nz j hb;replace y:=nz y hb;replace HB:=no HB hb;(try clear hb);(try clear aS);(try clear hk);(try clear hi);obtain ⟨b0,b1,b2,b3⟩:=ob j.out));go_meet
   case rel=>exact ⟨_,(decide (z > 6)),na,H',⟨by first | omega | exact Nat.le_refl _⟩,⟨nm j.out⟩,⟨nm y.out⟩,⟨n8 HB.out⟩⟩
  ·replace c6:=Bool.eq_false_iff.mpr c6
   subst c6;replace H:(ct.j0 k true z I) = some (r1,r2,r3):=by rw [if_neg (show ¬ (false = true) by decide)] at H;exact H
   have H':=ae.mk H;clear H;have dp:=J.out;have dq:=M.out;obtain ⟨b4,ba,bc,bd⟩:=ob j.out;go_wp2_with (first | (refine ne (some 6) Tryz.func61 #[.agg #[.int .i64 z,.slice a1 I.length a2]] ?_;(with_reducible refine (cP.calls k z _ _ I false _ ?side1 ?side2 A5.out).mono ?_);(case side1=>exact pa (Kd.aW a7.out HB.out));(case side2=>exact a8.out);rintro e ef ⟨rfl,hb⟩;refine ⟨_,rfl,?_⟩;replace j:=nz j hb;replace y:=nz y hb;replace HB:=no HB hb;(try clear hb);(try clear aS);(try clear hk);(try clear hi)));go_meet
   case rel=>exact ⟨_,(true),na,H',⟨by first | omega | exact Nat.le_refl _⟩,⟨nm j.out⟩,⟨nm y.out⟩,⟨n8 HB.out⟩⟩
 case rest =>
  clear aO;obtain ⟨kq,a9,rfl,HA,eg,j,y,HB⟩:=hcut;cases kq with
  | zero=>exact absurd HA.out (by simp [ct.j0])
  | succ aw =>
   have H:=HA.out;clear HA;simp only [ct.j0] at H;by_cases aB:a9 = true
   ·subst aB
    replace H:(some (0,([]:List Int),false)) = some (r1,r2,r3):=by rw [if_pos rfl] at H;exact H
    simp only [Option.some.injEq,Prod.mk.injEq] at H;obtain ⟨rfl,rfl,rfl⟩:=H;have dt:=M.out;have du:=J.out;obtain ⟨bi,bk,bm,bo⟩:=ob y.out;go_wp2;refine bodyPost_ret (dR rfl _ _ Y 37 #[.int .i64 0,.slice none 0 0] (0,0) _ rfl pj Tryz.underlying37 rfl (by kernel_rfl)) rfl ?_;exact ⟨_,pi,af.N,nb⟩
   ·replace aB:=Bool.eq_false_iff.mpr aB
    subst aB;replace H:((bT.f z I).bind fun aE=>((ak.f (fun xs b=>bI.f aw z I xs b) aw z ([]:List Int) aE).bind fun X=>(some (X.1,X.2,true)))) = some (r1,r2,r3):=by rw [if_neg (show ¬ (false = true) by decide)] at H;exact H
    obtain ⟨⟨am,ao⟩,dv,H⟩:=oY H;(try dsimp only at H);obtain ⟨X,dC,H⟩:=oY H;(try dsimp only at H);simp only [Option.some.injEq,Prod.mk.injEq] at H;obtain ⟨rfl,rfl,rfl⟩:=H;have dE:=J.out;have dT:=M.out;obtain ⟨bs,bv,c0,c1⟩:=ob j.out;go_wp2_with (first | (refine ne (some 15) Tryz.func110 #[.agg #[.int .i64 z,.slice a1 I.length a2]] ?_;(with_reducible refine (bT.calls z _ _ I am ao _ ?side1 ?side2 dv.out).mono ?_);(case side1=>exact pa (Kd.aW a7.out HB.out));(case side2=>exact a8.out);rintro e eh ⟨e0,rfl,ca,hb⟩;refine ⟨_,rfl,?_⟩;have a0:=ae.mk (Kd.bD ca (an (n8 HB.out)));replace j:=nz j hb;replace y:=nz y hb;replace HB:=no HB hb;(try clear hb);(try clear aS);(try clear hk);(try clear hi);(try clear ca)) | (refine pd 4 #[.int .i64 0,.slice none 0 0] 37 ?_;intro a3 hg el hbox hb;replace a0:=pm a0 hb;have a6:=ae.mk hbox;have aa:=o0 hg HB;have dl:=o0 hg HB;replace HB:=no HB hb;have U:=pk hg j;have ab:=pl hg j;replace j:=nz j hb;have a4:=pk hg y;have al:=pl hg y;replace y:=nz y hb;clear hb hbox hg;have e1:=ab.out;have e2:=U.out;have e3:=al.out;have e4:=a4.out;obtain ⟨cb,cc,cd,ce⟩:=ob a6.out;obtain ⟨cf,ch,ci⟩:=Kd.bE a0.out;subst ci;obtain ⟨cl,co,cp,cx⟩:=ob j.out) | (refine ne (some 19) Tryz.func111 #[.int .i64 z,.slice none 0 0,.func (.func 112) #[] #[.pointer (some ⟨a5,0,none⟩),.pointer (some ⟨a3,0,none⟩)]] ?_;refine (ak.calls (base:=w.heap.size) (bI.use aw a5 a3 w.heap.size z a1 a2 I _ ?u1 U.out ?u3 a8.out) aw z none 0 [] (am,ao) X _ (ak.Kp.refl _ _) ?side1 (fun _ _=>Kd.qO _ _) (Nat.le_refl _) dC.out).mono ?_;(case u1=>exact pj);(case u3=>exact fun W_ e8=>Kd.rj (0:Int) a7.out (bn.trans (bn.nO (bn.nO (bn.fh HB.out a3 none) 0 _) 1 _) e8 (.inl rfl)) (Kd.s9 (0:Int) a7.out aa.out));(case side1=>exact ak.sB pj aa.out (Nat.le_refl _) (Kd.bU (p:=⟨a3,1,none⟩) (Kd.bU (p:=⟨a3,0,none⟩) (Kd.bp a0.out a6.out (by decide)) (fun _ hk=>hk.2) (.int .i64 am)) (fun _ hk=>hk.2) (.slice cf ao.length ch)) (fun _ hk=>hk.2));rintro e cy ⟨rfl,hj,hkp⟩;refine ⟨_,rfl,?_⟩;obtain ⟨Ar,cr,aF,_,aL⟩:=hj.out;have a0:=ae.mk (aL cy (bn.refl _ _ _));replace j:=ae.mk (bn.blk hkp.k (g':=a5) (o:=.cells #[.int .i64 z,.slice a1 I.length a2] 37 (0,0)) pj U.out (by simp));replace y:=ae.mk (bn.blk hkp.k (g':=Y) (o:=.cells #[.int .i64 0,.slice none 0 0] 37 (0,0)) pj a4.out (by simp));replace a6:=ae.mk aF;replace HB:=ae.mk (Below.trans (show Below w.heap.size w _ from nb) (⟨hkp.b.os,hkp.b.tape,hkp.b.output,hkp.b.size,fun i_ ea=>hkp.b.block i_ (Nat.lt_of_lt_of_le ea aa.out)⟩:Below w.heap.size _ cy));clear hj hkp aF aL;obtain ⟨cX,cY,d0,d1⟩:=ob a6.out;obtain ⟨d2,d3,d4,d5⟩:=ob y.out));refine bodyPost_ret (dR rfl _ _ Y 37 #[.int .i64 X.1,.slice Ar X.2.length cr] (0,0) _ rfl pj Tryz.underlying37 rfl (by kernel_rfl)) rfl ?_;exact ⟨_,pi,by (with_reducible repeat (first | apply Kd.ew | apply Kd.e5 | apply Kd.dz));exact Kd.aX (Kd.bU (p:=⟨Y,1,none⟩) (Kd.bU (p:=⟨Y,0,none⟩) (Kd.bp a0.out y.out (by decide)) (fun _ hk=>hk.2) (.int .i64 X.1)) (fun _ hk=>hk.2) (.slice Ar X.2.length cr)) (fun _ hk=>trivial),nb⟩
def bF.l0:Nat→List Int→List Int→Int→Int→Option (Bool)
 | 0,_,_,_,_=>none
 | k+1,z,I,y,j=>if j < y then (if 0≤j then (if j < (z.length:Int) then (if j < (I.length:Int) then (if (rd z j) = (rd I j) then (bF.l0 k z I y (wrap64 (j+1))) else (some false)) else (none)) else (none)) else (none)) else (some true)
def bF.f (k:Nat) (l0:List Int) (l1:List Int):Option (Bool):=if (l0.length:Int) = (l1.length:Int) then (bF.l0 k l0 l1 (l0.length:Int) 0) else (some false)
set_option maxHeartbeats 8000000 in
set_option maxRecDepth 100000 in
theorem bF.calls (k:Nat) (A0:Option Addr) (c0:Nat) (l0:List Int) (A1:Option Addr) (c1:Nat) (l1:List Int) (r:Bool) (w:World) (a2:Kd.C (Kd.int .i64) w A0 l0.length l0) (a3:l0.length≤c0) (a4:Kd.C (Kd.int .i64) w A1 l1.length l1) (a5:l1.length≤c1) (h:bF.f k l0 l1 = some r) :
  Calls Tryz.prog 115 #[.slice A0 l0.length c0,.slice A1 l1.length c1] w fun e w'=>e = .returned (.bool r)∧cj w w':=by
 have a6:=ae.mk a2;have aE:=ae.mk a3;clear a2 a3;have a7:=ae.mk a4;have aF:=ae.mk a5;clear a4 a5;unfold bF.f at h;have H:=h;clear h;by_cases c3:(l0.length:Int) = (l1.length:Int)
 ·rw [if_pos c3] at H
  have a8:((l0.length:Int) == (l1.length:Int)) = true:=beq_iff_eq.mpr c3;have a9:((l0.length:Int) != (l1.length:Int)) = false:=bne_eq_false_iff_eq.mpr c3;have aa:(l0.length == l1.length) = true:=by first | simpa using c3 | (simp at c3 ⊢;omega)
  clear c3;have H':=ae.mk H;clear H;go_enter Tryz.func115,Tryz.ntmps115;go_wp2;repeat (go_quiet (fail);try go_wp2)
  go_loopg [13] k (fun kq ap w'=>∃ (j:Int),ap = .int .i64 j∧ae (bF.l0 kq l0 l1 (l0.length:Int) j = some r)∧ae (kq≤k)∧cj w w')
  case atStart=>exact ⟨(0),na,H',⟨Nat.le_refl _⟩,oX⟩
  case round =>
   clear H';obtain ⟨j,rfl,HA,ab,⟨m1,rfl⟩⟩:=hrel;cases gk with
   | zero=>exact absurd HA.out (by simp [bF.l0])
   | succ k1 =>
    have H:=HA.out;clear HA;simp only [bF.l0] at H;by_cases c4:j < (l0.length:Int)
    ·rw [if_pos c4] at H
     have al:=decide_eq_true c4;clear c4;obtain ⟨c5,H⟩:=ol H;have ar:=decide_eq_true c5;clear c5;obtain ⟨c6,H⟩:=ol H;have aw:=decide_eq_true c6;clear c6;obtain ⟨c7,H⟩:=ol H;have aB:=decide_eq_true c7;clear c7;by_cases c8:(rd l0 j) = (rd l1 j)
     ·rw [if_pos c8] at H
      have am:((rd l0 j) == (rd l1 j)) = true:=beq_iff_eq.mpr c8;have ao:((rd l0 j) != (rd l1 j)) = false:=bne_eq_false_iff_eq.mpr c8;clear c8;have H':=ae.mk H;clear H;obtain ⟨M,y,I,X,Y⟩:=pf a6.out j;cases y
      obtain ⟨U,z,J,a0,a1⟩:=pf a7.out j;cases z
      go_wp2;repeat (go_quiet (fail);try go_wp2)
      go_roundg k1;case measure=>have:=ab.out;omega
      case rel=>exact ⟨(wrap64 (j+1)),na,H',⟨by have:=ab.out;omega⟩,oX⟩
     ·rw [if_neg c8] at H
      have am:((rd l0 j) == (rd l1 j)) = false:=beq_eq_false_iff_ne.mpr c8;have ao:((rd l0 j) != (rd l1 j)) = true:=bne_iff_ne.mpr c8;obtain rfl:=Option.some.inj H;obtain ⟨M,y,I,X,Y⟩:=pf a6.out j;cases y
      obtain ⟨U,z,J,a0,a1⟩:=pf a7.out j;cases z
      go_wp2;repeat (go_quiet (fail);try go_wp2)
      go_ret;exact ⟨na,oX⟩
    ·rw [if_neg c4] at H
     have al:decide (j < (l0.length:Int)) = false:=decide_eq_false c4;clear c4;obtain rfl:=Option.some.inj H;go_wp2;repeat (go_quiet (fail);try go_wp2)
     go_ret;exact ⟨na,oX⟩
 ·rw [if_neg c3] at H
  have a8:((l0.length:Int) == (l1.length:Int)) = false:=beq_eq_false_iff_ne.mpr c3;have a9:((l0.length:Int) != (l1.length:Int)) = true:=bne_iff_ne.mpr c3;have aa:(l0.length == l1.length) = false:=by first | simpa using c3 | (simp at c3 ⊢;omega)
  obtain rfl:=Option.some.inj H;go_enter Tryz.func115,Tryz.ntmps115;go_wp2;repeat (go_quiet (fail);try go_wp2)
  go_ret;exact ⟨na,oX⟩
def cW.f (k:Nat) (y:Int) (z:List Int) (I:Int) (J:List Int):Option (Bool):=if y = I then ((bF.f k z J).bind fun j=>(some j)) else (some false)
set_option maxHeartbeats 8000000 in
set_option maxRecDepth 100000 in
theorem cW.calls (k:Nat) (I:Int) (Y:Option Addr) (a0:Nat) (M:List Int) (J:Int) (a1:Option Addr) (a2:Nat) (U:List Int) (r:Bool) (w:World) (a3:Kd.C (Kd.int .i64) w Y M.length M) (a4:M.length≤a0) (a5:Kd.C (Kd.int .i64) w a1 U.length U) (a6:U.length≤a2) (h:cW.f k I M J U = some r) :
  Calls Tryz.prog 55 #[.agg #[.int .i64 I,.slice Y M.length a0],.agg #[.int .i64 J,.slice a1 U.length a2]] w fun e w'=>e = .returned (.bool r)∧Below w.heap.size w w':=by
 have bs:=Tryz.underlying37;have am:=ae.mk a3;have ao:=ae.mk a4;clear a3 a4;have ap:=ae.mk a5;have ar:=ae.mk a6;clear a5 a6;have HB:=ae.mk (Below.refl w.heap.size w);unfold cW.f at h;have H:=h;clear h;by_cases c3:I = J
 ·rw [if_pos c3] at H
  have aB:(I == J) = true:=beq_iff_eq.mpr c3;have aE:(I != J) = false:=bne_eq_false_iff_eq.mpr c3;clear c3;obtain ⟨aw,A4,H⟩:=oY H;(try dsimp only at H);obtain rfl:=Option.some.inj H;go_enter Tryz.func55,Tryz.ntmps55;go_wp2_with (first | ((with_reducible refine aY (N:=2) rfl ?_);refine pd 2 #[.int .i64 I,.slice Y M.length a0] 37 ?_;intro a7 hg w5 hbox hb;have j:=ae.mk hbox;have a8:=o0 hg HB;have a9:=o0 hg HB;replace HB:=no HB hb;clear hb hbox hg) | ((with_reducible refine aY (N:=3) rfl ?_);refine pd 3 #[.int .i64 J,.slice a1 U.length a2] 37 ?_;intro aa hg w6 hbox hb;have X:=ae.mk hbox;have ab:=o0 hg HB;have al:=o0 hg HB;replace HB:=no HB hb;have y:=pk hg j;have z:=pl hg j;replace j:=nz j hb;clear hb hbox hg;have bv:=y.out;have c0:=z.out;obtain ⟨b2,b3,b4,ba⟩:=ob j.out;obtain ⟨bc,bd,bi,bk⟩:=ob X.out) | (go_at_call 115;(with_reducible refine (bF.calls k _ _ M _ _ U aw _ ?side1 ?side2 ?side3 ?side4 A4.out).mono ?_);(case side1=>exact pa (Kd.aW am.out HB.out));(case side2=>exact ao.out);(case side3=>exact pa (Kd.aW ap.out HB.out));(case side4=>exact ar.out);rintro e w' ⟨rfl,⟨nd,rfl⟩⟩));go_ret;exact ⟨pi,nb⟩
 ·rw [if_neg c3] at H
  have aB:(I == J) = false:=beq_eq_false_iff_ne.mpr c3;have aE:(I != J) = true:=bne_iff_ne.mpr c3;obtain rfl:=Option.some.inj H;go_enter Tryz.func55,Tryz.ntmps55;go_wp2_with (first | ((with_reducible refine aY (N:=2) rfl ?_);refine pd 2 #[.int .i64 I,.slice Y M.length a0] 37 ?_;intro a7 hg c1 hbox hb;have j:=ae.mk hbox;have a8:=o0 hg HB;have a9:=o0 hg HB;replace HB:=no HB hb;clear hb hbox hg) | ((with_reducible refine aY (N:=3) rfl ?_);refine pd 3 #[.int .i64 J,.slice a1 U.length a2] 37 ?_;intro aa hg ca hbox hb;have X:=ae.mk hbox;have ab:=o0 hg HB;have al:=o0 hg HB;replace HB:=no HB hb;have y:=pk hg j;have z:=pl hg j;replace j:=nz j hb;clear hb hbox hg;have bm:=y.out;have bo:=z.out;obtain ⟨aF,aL,aO,aP⟩:=ob j.out;obtain ⟨aR,aS,b0,b1⟩:=ob X.out));go_ret;exact ⟨pi,nb⟩
def bZ.f (k:Nat) (l0:List Int) (l1:List Int):Option (Int):=if (l0.length:Int) = (l1.length:Int) then ((ax.f k l0 l1).bind fun j=>(some j)) else (some (wrap64 ((l0.length:Int) - (l1.length:Int))))
theorem bZ.mono:∀ a0 j k,eX (bZ.f k a0 j) (bZ.f (k+1) a0 j):=by
 intro a0 j k;unfold bZ.f;exact pv
instance bZ.m:af.V2 bZ.f:=fun _ _ _=>⟨bZ.mono _ _ _⟩
set_option maxHeartbeats 8000000 in
set_option maxRecDepth 100000 in
theorem bZ.calls (k:Nat) (Y:Option Addr) (c0:Nat) (l0:List Int) (A1:Option Addr) (c1:Nat) (l1:List Int) (r:Int) (w:World) (y:Kd.C (Kd.int .i64) w Y l0.length l0) (z:l0.length≤c0) (I:Kd.C (Kd.int .i64) w A1 l1.length l1) (J:l1.length≤c1) (h:bZ.f k l0 l1 = some r) :
  Calls Tryz.prog 118 #[.slice Y l0.length c0,.slice A1 l1.length c1] w fun e w'=>e = .returned (.int .i64 r)∧cj w w':=by
 have a0:=ae.mk y;have a1:=ae.mk z;clear y z;have a2:=ae.mk I;have a3:=ae.mk J;clear I J;unfold bZ.f at h;have H:=h;clear h;by_cases c3:(l0.length:Int) = (l1.length:Int)
 ·rw [if_pos c3] at H
  have M:((l0.length:Int) == (l1.length:Int)) = true:=beq_iff_eq.mpr c3;have U:((l0.length:Int) != (l1.length:Int)) = false:=bne_eq_false_iff_eq.mpr c3;have X:(l0.length == l1.length) = true:=by first | simpa using c3 | (simp at c3 ⊢;omega)
  clear c3;obtain ⟨j,A4,H⟩:=oY H;(try dsimp only at H);obtain rfl:=Option.some.inj H;go_enter Tryz.func118,Tryz.ntmps118;go_wp2_with (first | (refine ne (some 17) Tryz.func114 #[.slice Y l0.length c0,.slice A1 l1.length c1] ?_;(with_reducible refine (ax.calls k _ _ l0 _ _ l1 j _ ?side1 ?side2 ?side3 ?side4 A4.out).mono ?_);(case side1=>exact pa a0.out);(case side2=>exact a1.out);(case side3=>exact pa a2.out);(case side4=>exact a3.out);rintro e w' ⟨rfl,⟨nd,rfl⟩⟩;refine ⟨_,rfl,?_⟩));go_ret;exact ⟨na,oX⟩
 ·rw [if_neg c3] at H
  have M:((l0.length:Int) == (l1.length:Int)) = false:=beq_eq_false_iff_ne.mpr c3;have U:((l0.length:Int) != (l1.length:Int)) = true:=bne_iff_ne.mpr c3;have X:(l0.length == l1.length) = false:=by first | simpa using c3 | (simp at c3 ⊢;omega)
  obtain rfl:=Option.some.inj H;go_enter Tryz.func118,Tryz.ntmps118;go_wp2;go_ret;exact ⟨na,oX⟩
def cB.f (k:Nat) (I:Int) (y:List Int) (J:Int) (z:List Int):Option (Int):=(bZ.f k y z).bind fun j=>(some j)
theorem cB.mono:∀ a0 j a2 a3 k,eX (cB.f k a0 j a2 a3) (cB.f (k+1) a0 j a2 a3):=by
 intro a0 j a2 a3 k;unfold cB.f;exact pv
end Pr
end
section
namespace iD
open Go.RowKit Go.Shelf Go.Sort Go.Proofs.YtlfkfdmggpipbaaGreat.Pr ag.b6 ag.cz ag.cA
set_option linter.unusedVariables false
def Gr (w W:World):Prop:=∃ q os,W = grow (w.drewN q) os
theorem Gr.refl (w:World):Gr w w:=⟨0,#[],by unfold grow World.drewN;simp⟩
theorem Gr.drewN {w W:World} (h:Gr w W) (n:Nat):Gr w (W.drewN n):=by
 obtain ⟨q,os,rfl⟩:=h;exact ⟨q+n,os,by unfold grow World.drewN;simp [Nat.add_assoc]⟩
theorem Gr.drew {w W:World} (h:Gr w W):Gr w W.drew:=by
 obtain ⟨q,os,rfl⟩:=h;exact ⟨q+1,os,by unfold grow World.drewN World.drew;simp [Nat.add_assoc]⟩
theorem Gr.alloc {w W:World} (h:Gr w W) (o:Obj):Gr w (W.alloc o):=by
 obtain ⟨q,os,rfl⟩:=h;exact ⟨q,os.push o,by unfold grow World.drewN World.alloc;simp⟩
theorem sR {P:Program} {ops:Array Oper} {rest:List Oper} {a:Act} {Q:Exit→Act→World→Prop} {o:Oper} {W:World} (N:Tmp) (cs:Array Value) (t:TypeId)
  (h:∀ g,g = W.heap.size→∀ w1,(∀ w0,Gr w0 W→Gr w0 w1)→w1.heap[g]? = some (.cells cs t (0,0))→Below W.heap.size W w1→wpList P ops Q rest (a.put o.dst (.pointer (some ⟨g,0,none⟩))) w1) (hd:o.dst = some N:=by with_reducible rfl) (hgd:o.guard = none:=by rfl)
  (hrun:(execOp a.eval o).run P W = .ok (.value (.pointer (some ⟨W.heap.size,0,none⟩))) (W.alloc (.cells cs t (0,0))):=by first | (go_simp;done) | (go_simp;rfl)):wpList P ops Q (o :: rest) a W :=
 Kd.ja hgd hrun (h _ rfl _ (fun _ hg=>hg.alloc _) (n5 W _) (dm (Below.refl _ _) _))
set_option maxHeartbeats 8000000 in
set_option maxRecDepth 100000 in
theorem kinds (k:Nat) (a0:Int) (M:Option Addr) (U:Nat) (y:List Int) (a1:Int) (X:Option Addr) (Y:Nat) (z:List Int) (r:Int) (w:World) (a2:Kd.C (Kd.int .i64) w M y.length y) (a3:y.length≤U) (a4:Kd.C (Kd.int .i64) w X z.length z) (a5:z.length≤Y) (h:cB.f k a0 y a1 z = some r) :
  Calls Tryz.prog 57 #[.agg #[.int .i64 a0,.slice M y.length U],.agg #[.int .i64 a1,.slice X z.length Y]] w fun e w'=>e = .returned (.int .i64 r)∧Gr w w':=by
 have aR:=Tryz.underlying37;have a7:=ae.mk a2;have a8:=ae.mk a3;clear a2 a3;have a9:=ae.mk a4;have aa:=ae.mk a5;clear a4 a5;have HB:=ae.mk (Below.refl w.heap.size w);have HG:=ae.mk (Gr.refl w);unfold cB.f at h;have H:=h;clear h;obtain ⟨ab,A3,H⟩:=oY H;(try dsimp only at H);obtain rfl:=Option.some.inj H;go_enter Tryz.func57,Tryz.ntmps57;go_wp2_with (first | (refine sR 2 #[.int .i64 a0,.slice M y.length U] 37 ?_;intro al hg w4 hgr hbox hb;replace HG:=ae.mk (hgr w (by repeat (first | exact HG.out | apply Gr.drewN | apply Gr.drew)));have j:=ae.mk hbox;have am:=o0 hg HB;replace HB:=no HB hb;clear hb hbox hg hgr) | (refine sR 3 #[.int .i64 a1,.slice X z.length Y] 37 ?_;intro ao hg w5 hgr hbox hb;replace HG:=ae.mk (hgr w (by repeat (first | exact HG.out | apply Gr.drewN | apply Gr.drew)));have a6:=ae.mk hbox;have ap:=o0 hg HB;replace HB:=no HB hb;have I:=pk hg j;have J:=pl hg j;replace j:=nz j hb;clear hb hbox hg hgr;have aS:=I.out;have b0:=J.out;obtain ⟨ar,aw,aB,aE⟩:=ob j.out;obtain ⟨aF,aL,aO,aP⟩:=ob a6.out) | (refine ne (some 9) Tryz.func118 #[.slice M y.length U,.slice X z.length Y] ?_;(with_reducible refine (bZ.calls k _ _ y _ _ z ab _ ?side1 ?side2 ?side3 ?side4 A3.out).mono ?_);(case side1=>exact pa (Kd.aW a7.out HB.out));(case side2=>exact a8.out);(case side3=>exact pa (Kd.aW a9.out HB.out));(case side4=>exact aa.out);rintro e w' ⟨rfl,⟨nd,rfl⟩⟩;refine ⟨_,rfl,?_⟩));go_ret;exact ⟨pi,by repeat (first | exact HG.out | apply Gr.drewN | apply Gr.drew)⟩
end iD
end
section
namespace Lay
open Go.Shelf Go.Proofs
def kx:Go.Shelf.Ren:=⟨fun | 6=>56 | 15=>117 | 14=>116 | 28=>172 | 29=>173 | 20=>164 | 21=>165 | 22=>166 | 23=>167 | 24=>168 | 25=>169 | 26=>170 | 27=>171 | 46=>196 | 47=>197 | 48=>198 | 49=>199 | 50=>200 | 57=>221 | n=>n,fun | 22=>27 | 24=>37 | 25=>64 | 3=>3 | 39=>58 | 0=>0 | 53=>118 | 55=>120 | 4=>4 | 46=>112 | 45=>111 | 50=>35 | 5=>5 | 9=>9 | 66=>126 | 70=>130 | 76=>146 | 77=>147 | n=>n,fun | n=>n⟩
theorem kH:Go.Proofs.SlLaysF0.n6 Tryz.prog kx:={
 mixed:=by kernel_rfl
 f6:=⟨"slices.SortFunc[[]loop.example/g00593/impl.Matroid,loop.example/g00593/impl.Matroid]", by decide,Tryz.func56.trans (congrArg some (by kernel_rfl))⟩
 f14:=⟨"slices.pdqsortCmpFunc[loop.example/g00593/impl.Matroid]", by decide,Tryz.func116.trans (congrArg some (by kernel_rfl))⟩
 f15:=Tryz.func117.trans (congrArg some (by kernel_rfl))
 f20:=⟨"slices.insertionSortCmpFunc[loop.example/g00593/impl.Matroid]", by decide,Tryz.func164.trans (congrArg some (by kernel_rfl))⟩
 f21:=⟨"slices.heapSortCmpFunc[loop.example/g00593/impl.Matroid]", by decide,Tryz.func165.trans (congrArg some (by kernel_rfl))⟩
 f22:=⟨"slices.breakPatternsCmpFunc[loop.example/g00593/impl.Matroid]", by decide,Tryz.func166.trans (congrArg some (by kernel_rfl))⟩
 f23:=⟨"slices.choosePivotCmpFunc[loop.example/g00593/impl.Matroid]", by decide,Tryz.func167.trans (congrArg some (by kernel_rfl))⟩
 f24:=⟨"slices.reverseRangeCmpFunc[loop.example/g00593/impl.Matroid]", by decide,Tryz.func168.trans (congrArg some (by kernel_rfl))⟩
 f25:=⟨"slices.partialInsertionSortCmpFunc[loop.example/g00593/impl.Matroid]", by decide,Tryz.func169.trans (congrArg some (by kernel_rfl))⟩
 f26:=⟨"slices.partitionEqualCmpFunc[loop.example/g00593/impl.Matroid]", by decide,Tryz.func170.trans (congrArg some (by kernel_rfl))⟩
 f27:=⟨"slices.partitionCmpFunc[loop.example/g00593/impl.Matroid]", by decide,Tryz.func171.trans (congrArg some (by kernel_rfl))⟩
 f28:=Tryz.func172.trans (congrArg some (by kernel_rfl))
 f29:=Tryz.func173.trans (congrArg some (by kernel_rfl))
 f46:=⟨"slices.siftDownCmpFunc[loop.example/g00593/impl.Matroid]", by decide,Tryz.func196.trans (congrArg some (by kernel_rfl))⟩
 f47:=Tryz.func197.trans (congrArg some (by kernel_rfl))
 f48:=Tryz.func198.trans (congrArg some (by kernel_rfl))
 f49:=⟨"slices.medianAdjacentCmpFunc[loop.example/g00593/impl.Matroid]", by decide,Tryz.func199.trans (congrArg some (by kernel_rfl))⟩
 f50:=⟨"slices.medianCmpFunc[loop.example/g00593/impl.Matroid]", by decide,Tryz.func200.trans (congrArg some (by kernel_rfl))⟩
 f57:=⟨"slices.order2CmpFunc[loop.example/g00593/impl.Matroid]", by decide,Tryz.func221.trans (congrArg some (by kernel_rfl))⟩
 t0:=Tryz.underlying0
 a0:=Tryz.isAgg0
 z0:=Tryz.sizeOf0
 v0:=Tryz.zeroValue0
 t3:=Tryz.underlying3
 a3:=Tryz.isAgg3
 z3:=Tryz.sizeOf3
 v3:=Tryz.zeroValue3
 t4:=Tryz.underlying4
 a4:=Tryz.isAgg4
 z4:=Tryz.sizeOf4
 v4:=Tryz.zeroValue4
 t5:=Tryz.underlying5
 a5:=Tryz.isAgg5
 z5:=Tryz.sizeOf5
 v5:=Tryz.zeroValue5
 t9:=Tryz.underlying9
 a9:=Tryz.isAgg9
 z9:=Tryz.sizeOf9
 v9:=Tryz.zeroValue9
 t22:=Tryz.underlying27
 a22:=Tryz.isAgg27
 z22:=Tryz.sizeOf27
 v22:=Tryz.zeroValue27
 t25:=Tryz.underlying64
 a25:=Tryz.isAgg64
 z25:=Tryz.sizeOf64
 v25:=Tryz.zeroValue64
 t39:=Tryz.underlying58
 a39:=Tryz.isAgg58
 z39:=Tryz.sizeOf58
 v39:=Tryz.zeroValue58
 t45:=Tryz.underlying111
 a45:=Tryz.isAgg111
 z45:=Tryz.sizeOf111
 v45:=Tryz.zeroValue111
 t46:=Tryz.underlying112
 a46:=Tryz.isAgg112
 z46:=Tryz.sizeOf112
 v46:=Tryz.zeroValue112
 t50:=Tryz.underlying35
 a50:=Tryz.isAgg35
 z50:=Tryz.sizeOf35
 v50:=Tryz.zeroValue35
 t53:=Tryz.underlying118
 a53:=Tryz.isAgg118
 z53:=Tryz.sizeOf118
 v53:=Tryz.zeroValue118
 t55:=Tryz.underlying120
 a55:=Tryz.isAgg120
 z55:=Tryz.sizeOf120
 v55:=Tryz.zeroValue120
 t66:=Tryz.underlying126
 a66:=Tryz.isAgg126
 z66:=Tryz.sizeOf126
 v66:=Tryz.zeroValue126
 t70:=Tryz.underlying130
 a70:=Tryz.isAgg130
 z70:=Tryz.sizeOf130
 v70:=Tryz.zeroValue130
 t76:=Tryz.underlying146
 a76:=Tryz.isAgg146
 z76:=Tryz.sizeOf146
 v76:=Tryz.zeroValue146
 t77:=Tryz.underlying147
 a77:=Tryz.isAgg147
 z77:=Tryz.sizeOf147
 v77:=Tryz.zeroValue147 }
end Lay
end
section
namespace iD
set_option linter.unusedVariables false
def fg:List Int→List Int→Int
 | [],[]=>0
 | [],_ :: _=>-1
 | _ :: _,[]=>1
 | x :: a,y :: b=>if x = y then fg a b else if x < y then -1 else 1
theorem je:∀ a,fg a a = 0
 | []=>rfl
 | x :: a=>by rw [fg,if_pos rfl,je a]
theorem kI:∀ a b,fg b a = -fg a b
 | [],[]=>rfl
 | [],_ :: _=>rfl
 | _ :: _,[]=>rfl
 | x :: a,y :: b=>by
  rw [fg,fg];by_cases h:x = y
  ·rw [if_pos h,if_pos h.symm,kI a b]
  ·rw [if_neg h,if_neg fun k=>h k.symm]
   by_cases h2:x < y
   ·rw [if_pos h2,if_neg (by omega)];rfl
   ·rw [if_neg h2,if_pos (by omega)]
theorem nx:∀ a b,fg a b = 0→a = b
 | [],[],_=>rfl
 | [],_ :: _,h=>by simp [fg] at h
 | _ :: _,[],h=>by simp [fg] at h
 | x :: a,y :: b,h=>by
  rw [fg] at h;by_cases hx:x = y
  ·rw [if_pos hx] at h
   rw [hx,nx a b h]
  ·rw [if_neg hx] at h
   by_cases h2:x < y
   ·rw [if_pos h2] at h
    exact absurd h (by decide)
   ·rw [if_neg h2] at h
    exact absurd h (by decide)
theorem jW:∀ a b c,fg a b < 0→fg b c < 0→fg a c < 0
 | [],[],[],h1,_=>h1
 | [],_ :: _,[],_,h2=>by simp [fg] at h2
 | [],_,_ :: _,_,_=>by simp [fg]
 | _ :: _,[],_,h1,_=>by simp [fg] at h1
 | _ :: _,_ :: _,[],_,h2=>by simp [fg] at h2
 | x :: a,y :: b,z :: c,h1,h2=>by
  rw [fg] at h1 h2 ⊢;by_cases hx:x = y
  ·rw [if_pos hx] at h1
   subst hx;by_cases hz:x = z
   ·rw [if_pos hz] at h2 ⊢
    exact jW a b c h1 h2
   ·rw [if_neg hz] at h2 ⊢
    exact h2
  ·rw [if_neg hx] at h1
   have hxy:x < y:=Classical.byContradiction fun h=>by rw [if_neg h] at h1;exact absurd h1 (by decide)
   by_cases hz:y = z
   ·subst hz
    rw [if_neg hx,if_pos hxy];decide
   ·rw [if_neg hz] at h2
    have hyz:y < z:=Classical.byContradiction fun h=>by rw [if_neg h] at h2;exact absurd h2 (by decide)
    rw [if_neg (by omega),if_pos (by omega)];decide
def dN (a b:List Int):Int:=if a.length = b.length then fg a b else (a.length:Int) - (b.length:Int)
theorem nZ (a:List Int):dN a a = 0:=by rw [dN,if_pos rfl,je]
theorem fe (a b:List Int):dN b a = -dN a b:=by
 unfold dN;by_cases h:a.length = b.length
 ·rw [if_pos h,if_pos h.symm,kI]
 ·rw [if_neg h,if_neg fun k=>h k.symm];omega
theorem iU (a b:List Int) (h:dN a b = 0):a = b:=by
 unfold dN at h;by_cases hl:a.length = b.length
 ·rw [if_pos hl] at h
  exact nx a b h
 ·rw [if_neg hl] at h
  omega
theorem gC (a b c:List Int) (h1:dN a b < 0) (h2:dN b c < 0):dN a c < 0:=by
 unfold dN at *;by_cases hab:a.length = b.length
 ·rw [if_pos hab] at h1
  by_cases hbc:b.length = c.length
  ·rw [if_pos hbc] at h2
   rw [if_pos (hab.trans hbc)];exact jW a b c h1 h2
  ·rw [if_neg hbc] at h2
   rw [if_neg (by omega)];omega
 ·rw [if_neg hab] at h1
  by_cases hbc:b.length = c.length
  ·rw [if_neg (by omega)]
   omega
  ·rw [if_neg hbc] at h2
   rw [if_neg (by omega)];omega
end iD
end
section
namespace iD
open Go.RowKit Go.Shelf Go.Sort Go.Proofs.YtlfkfdmggpipbaaGreat.Pr ag.b6 ag.cz ag.cA
set_option linter.unusedVariables false
theorem sN {α:Type} (f:α→List Int):SWO (ltOf fun x y=>dN (f x) (f y)):=by
 refine ⟨fun x=>?_,fun x y z h1 h2=>?_,fun x y z h1 h2=>?_⟩
 ·unfold ltOf
  show decide (dN (f x) (f x) < 0) = false;rw [nZ];rfl
 ·unfold ltOf at *
  rw [decide_eq_true_iff] at *;exact gC _ _ _ h1 h2
 ·unfold ltOf at *
  rw [decide_eq_false_iff_not] at *;dsimp only at h1 h2 ⊢;intro h3;have j:=fe (f x) (f y);have I:=fe (f y) (f z);by_cases hxy:dN (f x) (f y) = 0
  ·rw [iU _ _ hxy] at h3
   exact h2 h3
  ·exact h2 (gC _ _ _ (by omega:dN (f y) (f x) < 0) h3)
abbrev SM:=dA
def q7 (k:Nat) (xs:List SM):Bool:=(xs.all fun x=>xs.all fun y=>decide (cB.f k x.f0 x.f1 y.f0 y.f1 = some (dN x.f1 y.f1))) && decide ((xs.map fun x=>x.f1).Nodup)
def gq (xs:List SM):List SM:=xs.mergeSort fun x y=>!decide (dN y.f1 x.f1 < 0)
theorem p8 {k:Nat} {xs:List SM} (h:q7 k xs = true):q7 (k+1) xs = true:=by
 unfold q7 at *;rw [Bool.and_eq_true] at *;refine ⟨List.all_eq_true.2 fun x hx=>List.all_eq_true.2 fun y hy=>?_,h.2⟩;have h1:=List.all_eq_true.1 (List.all_eq_true.1 h.1 x hx) y hy;rw [decide_eq_true_iff] at h1 ⊢;exact cB.mono _ _ _ _ k _ h1
theorem p9 {n:Nat} {rows:List (List Value)} {inner:List Value} (hr:ck (fun x cs=>cs = x∧cs.length = 2∧∀ u∈cs,u.oneCell' = true) 2 rows inner) {t:Nat} (ht:t < rows.length * 2):inner[t]? = ((rows[t / 2]?).getD [])[t % 2]?:=by
 have h1:t / 2 < rows.length:=by omega
 obtain ⟨h2,_⟩:=hr.2 (t / 2) (rows[t / 2]) (List.getElem?_eq_getElem h1);rw [List.getElem?_eq_getElem h1,Option.getD_some,← h2,List.getElem?_take,if_pos (Nat.mod_lt _ (by decide)),List.getElem?_drop];congr 1
 omega
theorem gD {α:Type} [Inhabited α] {enc:α→List Value} {w:World} {g n:Nat} {os:Array Obj} (d:Array α):w.grownBy (sortWorldK enc 2 w g 0 n d os) (some g):=by
 unfold sortWorldK putRowK;refine ⟨rfl,rfl,rfl,by simp,fun k hk hne=>?_⟩;rw [heap_grow_old _ _ (by simpa using hk)];have:g≠k:=fun e=>hne (by rw [e])
 simp [putRow,mapBlock,Sort.ahead,Array.getElem?_modify,this]
theorem mN {w:World} {base:Nat} {ok:Nat→Prop} {xs:List SM} {rows:List (List Value)} {g cap n:Nat} {cur:Array Value} {os:Array Obj} {m:Nat} (hbase:base≤g) (hb:w.heap[g]? = some (.cells cur 37 (0,0))) (hn:m+1≤cap) (hm:cap≤maxLen) (hcs:cur.size = cap * 2) (X:ok g) (hrl:rows.length = m+1) (hxl:xs.length = m+1)
  (J:∀ r∈rows,r.length = 2∧∀ u∈r,u.oneCell' = true) (hf:∀ (j:Nat) (x:SM) (c:List Value),xs[j]? = some x→rows[j]? = some c→Kd.FK gp w (fun k=>ok k∧some k≠some g) x c) (p:List (Fin (m+1))) (hp:p.length = m+1) :
  Kd.N gp 37 (sortWorldK (fun i:Fin (m+1)=>(rows[i.val]?).getD []) 2 w g 0 n p.toArray os) base ok (.slice (some ⟨g,0,none⟩) (m+1) cap) (p.map fun i:Fin (m+1)=>xs[i.val]'(by omega)):=by
 have y:=gD (enc:=fun i:Fin (m+1)=>(rows[i.val]?).getD []) (w:=w) (g:=g) (n:=n) (os:=os) p.toArray;have z:∀ i:Fin (m+1),((rows[i.val]?).getD []).length = 2∧∀ u∈(rows[i.val]?).getD [],u.oneCell' = true:=fun i=>by
  have hi:i.val < rows.length:=by omega
  rw [List.getElem?_eq_getElem hi,Option.getD_some];exact J _ (List.getElem_mem hi)
 have hsize:(flatK (fun i:Fin (m+1)=>(rows[i.val]?).getD []) 2 p.toArray).size = (m+1) * 2:=by rw [size_flatK];simp [hp]
 have hheap:(sortWorldK (fun i:Fin (m+1)=>(rows[i.val]?).getD []) 2 w g 0 n p.toArray os).heap[g]? = some (.cells (putCells id 0 (flatK (fun i:Fin (m+1)=>(rows[i.val]?).getD []) 2 p.toArray) cur) 37 (0,0)):=by
  have hlt:g < w.heap.size:=(Array.getElem?_eq_some_iff.1 hb).1;unfold sortWorldK putRowK;rw [heap_grow_old _ _ (by simpa [putRow,mapBlock,Sort.ahead] using hlt)];simp [putRow,mapBlock,Sort.ahead,Array.getElem?_modify,hb,onCells]
 have hown:(sortWorldK (fun i:Fin (m+1)=>(rows[i.val]?).getD []) 2 w g 0 n p.toArray os).ownsRow base 37 2 (.slice (some ⟨g,0,none⟩) (m+1) cap) (m+1) (flatK (fun i:Fin (m+1)=>(rows[i.val]?).getD []) 2 p.toArray).toList:=by
  refine ⟨by rw [Array.length_toList,hsize],.inr ⟨g,cap,_,rfl,hbase,hheap,hn,hm,by simpa [putCells] using hcs,?_⟩⟩;apply List.ext_getElem?
  intro j;rw [List.getElem?_take,Array.getElem?_toList,Array.getElem?_toList];by_cases hj:j < (m+1) * 2
  ·have hjc:j < cur.size:=by omega
   rw [if_pos hj];simp only [putCells,Array.getElem?_mapIdx,Array.getElem?_eq_getElem hjc,Option.map_some];rw [if_pos (by rw [hsize];omega),Array.getElem?_eq_getElem (by rw [hsize];exact hj),Nat.sub_zero,getElem!_pos _ _ (by rw [hsize];exact hj)];rfl
  ·rw [if_neg hj,Array.getElem?_eq_none (by rw [hsize];omega)]
 refine ⟨fun k hk=>?_,p.map fun i:Fin (m+1)=>(rows[i.val]?).getD [],by rw [List.length_map,List.length_map],⟨fun k hk=>hk.symm,_,by rw [List.length_map,hp];exact hown,?_⟩,fun j x c hx hc=>?_⟩
 ·simp only [Value.ownBlock,Option.some.injEq] at hk
  rw [← hk];exact X
 ·refine ⟨by rw [Array.length_toList,hsize,List.length_map,hp];rfl,fun j q hq=>?_⟩
  have hj:j < m+1:=by
   have:=(List.getElem?_eq_some_iff.1 hq).1;rw [List.length_map] at this;omega
  have I:q = (rows[(p[j]'(by omega)).val]?).getD []:=by
   rw [List.getElem?_map,List.getElem?_eq_getElem (by omega)] at hq;exact (Option.some.inj hq).symm
  obtain ⟨M,U⟩:=z (p[j]'(by omega));rw [← I] at M U;have Y:((flatK (fun i:Fin (m+1)=>(rows[i.val]?).getD []) 2 p.toArray).toList.drop (j * 2)).take 2 = q:=by
   apply List.ext_getElem?
   intro t;rw [List.getElem?_take,List.getElem?_drop,Array.getElem?_toList];by_cases ht:t < 2
   ·rw [if_pos ht,Array.getElem?_eq_getElem (by rw [hsize];omega),← getElem!_pos _ _ (by rw [hsize];omega),get_flatK _ _ _ _ (by simp [hp];omega)]
    have d1:(j * 2+t) / 2 = j:=by omega
    have d2:(j * 2+t) % 2 = t:=by omega
    rw [d1,d2,getElem!_pos p.toArray j (by simp [hp];omega)];have d3:p.toArray[j]'(by simp [hp];omega) = p[j]'(by omega):=by simp
    rw [d3,← I,List.getElem?_eq_getElem (by omega),getElem!_pos q t (by omega)]
   ·rw [if_neg ht,List.getElem?_eq_none (by omega)]
  show ((flatK (fun i:Fin (m+1)=>(rows[i.val]?).getD []) 2 p.toArray).toList.drop (j * 2)).take 2 = q∧(((flatK (fun i:Fin (m+1)=>(rows[i.val]?).getD []) 2 p.toArray).toList.drop (j * 2)).take 2).length = 2∧∀ u∈((flatK (fun i:Fin (m+1)=>(rows[i.val]?).getD []) 2 p.toArray).toList.drop (j * 2)).take 2,u.oneCell' = true;rw [Y];exact ⟨rfl,M,U⟩
 ·have hj:j < p.length:=by
   have:=(List.getElem?_eq_some_iff.1 hx).1;rwa [List.length_map] at this
  rw [List.getElem?_map,List.getElem?_eq_getElem hj] at hx hc;obtain rfl:=Option.some.inj hx;obtain rfl:=Option.some.inj hc;have hi:(p[j]).val < rows.length:=by omega
  have:=hf (p[j]).val _ ((rows[(p[j]).val]?).getD []) (List.getElem?_eq_getElem (by omega)) (by rw [List.getElem?_eq_getElem hi];rfl);exact Kd.lV this y (fun k hk=>hk.2)
set_option maxHeartbeats 2000000 in
theorem iK {w:World} {base:Nat} {ok:Nat→Prop} {v:Value} {xs:List SM} (k:Nat) (h:Kd.N gp 37 w base ok v xs) (hs:xs.length < 4611686018427387904) (hk:q7 k xs = true) :
  Calls Tryz.prog 56 #[v,.func (.func 57) #[] #[]] w fun e w'=>e = .returned (.tuple #[])∧Kd.N gp 37 w' base ok v (gq xs)∧(∀ w0:World,Below base w0 w→Below base w0 w')∧w.grownBy w' v.ownBlock:=by
 have hN:=h;obtain ⟨h0,rows,hl,⟨_,inner,ho,hr⟩,hf⟩:=h;replace hr:ck (fun x cs=>cs = x∧cs.length = 2∧∀ u∈cs,u.oneCell' = true) 2 rows inner:=hr;have none_:∀ (q:Option Addr) (c:Nat),v = .slice q 0 c→xs = []→Calls Tryz.prog 56 #[v,.func (.func 57) #[] #[]] w fun e w'=>e = .returned (.tuple #[])∧Kd.N gp 37 w' base ok v (gq xs)∧(∀ w0:World,Below base w0 w→Below base w0 w')∧w.grownBy w' v.ownBlock:=by
  intro q c hv hx;subst hx;refine (show Calls Tryz.prog 56 #[v,.func (.func 57) #[] #[]] w fun e w'=>e = .returned (.tuple #[])∧w' = w by rw [hv];exact AnyF.slices_SortFunc_none Lay.kH q c _ w).mono ?_;rintro e w' ⟨rfl,rfl⟩
  exact ⟨rfl,by simpa [gq] using hN,fun _ hb=>hb,⟨rfl,rfl,rfl,Nat.le_refl _,fun _ _ _=>rfl⟩⟩
 rcases ho.2 with ⟨rfl,a1⟩ | ⟨g,cap,cur,rfl,hbase,hb,hn,hm,hcs,htk⟩
 ·exact none_ none 0 rfl (List.length_eq_zero_iff.1 (by omega))
 ·replace hcs:cur.size = cap * 2:=hcs
  replace htk:cur.toList.take (rows.length * 2) = inner:=htk;by_cases I:xs = []
  ·refine none_ (some ⟨g,0,none⟩) cap ?_ I
   have:rows.length = 0:=by rw [hl,I];rfl
   rw [this]
  ·obtain ⟨m,J⟩:∃ m,xs.length = m+1:=⟨xs.length - 1,by have:=List.length_pos_iff.2 I;omega⟩
   have hrl:rows.length = m+1:=by omega
   have z:∀ r∈rows,r.length = 2∧∀ u∈r,u.oneCell' = true:=fun r U=>by
    obtain ⟨j,hj⟩:=List.mem_iff_getElem?.1 U;have:=hr.2 j r hj;rw [← this.1];exact this.2
   have hok:ok g:=h0 g rfl;unfold q7 at hk;rw [Bool.and_eq_true,decide_eq_true_iff] at hk;have hcf:∀ i j:Fin (m+1),cB.f k (xs[i.val]'(by omega)).f0 (xs[i.val]'(by omega)).f1 (xs[j.val]'(by omega)).f0 (xs[j.val]'(by omega)).f1 = some (dN (xs[i.val]'(by omega)).f1 (xs[j.val]'(by omega)).f1):=fun i j=>by
    have:=List.all_eq_true.1 (List.all_eq_true.1 hk.1 _ (List.getElem_mem (show i.val < xs.length by omega))) _ (List.getElem_mem (show j.val < xs.length by omega));exact of_decide_eq_true this
   have hpick:(List.finRange (m+1)).map (fun i:Fin (m+1)=>xs[i.val]'(by omega)) = xs:=by
    apply List.ext_getElem
    ·simp [J]
    ·intro j h1 h2
     simp
   have hT:∀ x y:Fin (m+1),(ltOf fun i j:Fin (m+1)=>dN (xs[i.val]'(by omega)).f1 (xs[j.val]'(by omega)).f1) x y = false→(ltOf fun i j:Fin (m+1)=>dN (xs[i.val]'(by omega)).f1 (xs[j.val]'(by omega)).f1) y x = false→x = y:=by
    intro x y h1 h2;unfold ltOf at h1 h2;rw [decide_eq_false_iff_not] at h1 h2;have M:=fe (xs[x.val]'(by omega)).f1 (xs[y.val]'(by omega)).f1;dsimp only at h1 h2;have X:=iU (xs[x.val]'(by omega)).f1 (xs[y.val]'(by omega)).f1 (by omega);have e3:(xs.map fun x=>x.f1)[x.val]'(by rw [List.length_map];omega) = (xs.map fun x=>x.f1)[y.val]'(by rw [List.length_map];omega):=by simpa using X
    exact Fin.ext ((List.getElem_inj hk.2).1 e3)
   have hH:HoldsK (fun i:Fin (m+1)=>(rows[i.val]?).getD []) 2 w g 0 (List.finRange (m+1)).toArray:=by
    intro j hj;have Y:j < (m+1) * 2:=by simpa using hj
    refine ⟨?_,by simp [World.frozen?,hb]⟩;have M:(cur.toList.take (rows.length * 2))[j]? = inner[j]?:=by rw [htk]
    rw [List.getElem?_take,if_pos (by omega),Array.getElem?_toList,p9 (n:=m+1) hr (by omega)] at M;simp only [World.cell?,hb,Nat.zero_add];simp only [Option.isSome_none,Bool.false_eq_true,if_false];rw [M,get_flatK _ _ _ _ (by simpa using Y)];have hjm:j / 2 < m+1:=by omega
    have d3:(List.finRange (m+1)).toArray[j / 2]! = (⟨j / 2,hjm⟩:Fin (m+1)):=by
     rw [getElem!_pos _ _ (by simpa using hjm)];simp
    rw [d3];have hrow:((rows[j / 2]?).getD []).length = 2:=by
     rw [List.getElem?_eq_getElem (by omega),Option.getD_some];exact (z _ (List.getElem_mem (by omega))).1
    show ((rows[j / 2]?).getD [])[j % 2]? = some (id (((rows[j / 2]?).getD [])[j % 2]!));rw [List.getElem?_eq_getElem (by omega),getElem!_pos _ _ (by omega)];rfl
   have hcmp:CmpLays Tryz.prog 57 #[] (fun i:Fin (m+1)=>(rows[i.val]?).getD []) 2 (fun i j:Fin (m+1)=>dN (xs[i.val]'(by omega)).f1 (xs[j.val]'(by omega)).f1) g 0 (List.finRange (m+1)).toArray.size w:=by
    intro q os dk _ x y;have hgr:=gD (enc:=fun i:Fin (m+1)=>(rows[i.val]?).getD []) (w:=w) (g:=g) (n:=q) (os:=os) dk;have key:∀ i:Fin (m+1),Kd.K gp (sortWorldK (fun i:Fin (m+1)=>(rows[i.val]?).getD []) 2 w g 0 q dk os) (xs[i.val]'(by omega)) ((rows[i.val]?).getD []):=fun i=>by
     have hi:i.val < rows.length:=by omega
     exact Kd.iF (Kd.lV (hf i.val _ ((rows[i.val]?).getD []) (List.getElem?_eq_getElem (by omega)) (by rw [List.getElem?_eq_getElem hi];rfl)) hgr (fun k hk=>hk.2))
    obtain ⟨A1,c1,M,l1,g1⟩:=gK (key x);obtain ⟨A2,c2,X,l2,g2⟩:=gK (key y);have:=kinds k _ A1 c1 _ _ A2 c2 _ _ (sortWorldK (fun i:Fin (m+1)=>(rows[i.val]?).getD []) 2 w g 0 q dk os) g1 l1 g2 l2 (hcf x y);dsimp only;rw [M,X];exact this
   have hmain:=AnyQ.slices_SortFunc_total Lay.kH 2 (by intro w';kernel_rfl) (by intro w';kernel_rfl) (fun i:Fin (m+1)=>(rows[i.val]?).getD []) (fun i=>by
     rw [List.getElem?_eq_getElem (by omega),Option.getD_some];exact (z _ (List.getElem_mem (by omega))).1) (fun i=>by
     rw [List.getElem?_eq_getElem (by omega),Option.getD_some];exact (z _ (List.getElem_mem (by omega))).2) (fun i j:Fin (m+1)=>dN (xs[i.val]'(by omega)).f1 (xs[j.val]'(by omega)).f1) (sN fun i:Fin (m+1)=>(xs[i.val]'(by omega)).f1) 57 #[] g 0 cap (List.finRange (m+1)).toArray w (iQ Tryz.func57 (by kernel_rfl) rfl) hcmp hH (Array.getElem?_eq_some_iff.1 hb).1 (by simp;omega) hT
   have hsz:(List.finRange (m+1)).toArray.size = rows.length:=by simp [hrl]
   rw [hsz] at hmain;refine hmain.mono ?_;rintro e w' ⟨rfl,q,os,rfl⟩
   have hlen:((List.finRange (m+1)).toArray.toList.mergeSort fun x y:Fin (m+1)=>!(ltOf fun i j:Fin (m+1)=>dN (xs[i.val]'(by omega)).f1 (xs[j.val]'(by omega)).f1) y x).length = m+1:=by simp
   have hrow:=mN (ok:=ok) (n:=q) (os:=os) hbase hb (by omega) hm hcs hok hrl J z hf _ hlen;have hys:((List.finRange (m+1)).toArray.toList.mergeSort fun x y:Fin (m+1)=>!(ltOf fun i j:Fin (m+1)=>dN (xs[i.val]'(by omega)).f1 (xs[j.val]'(by omega)).f1) y x).map (fun i:Fin (m+1)=>xs[i.val]'(by omega)) = gq xs:=by
    unfold gq;refine (List.map_mergeSort (s:=fun x y:SM=>!decide (dN y.f1 x.f1 < 0)) (f:=fun i:Fin (m+1)=>xs[i.val]'(by omega)) fun a _ b _=>rfl).trans ?_;rw [List.toList_toArray,hpick]
   rw [hys] at hrow;have hgr:=gD (enc:=fun i:Fin (m+1)=>(rows[i.val]?).getD []) (w:=w) (g:=g) (n:=q) (os:=os) ((List.finRange (m+1)).toArray.toList.mergeSort fun x y:Fin (m+1)=>!(ltOf fun i j:Fin (m+1)=>dN (xs[i.val]'(by omega)).f1 (xs[j.val]'(by omega)).f1) y x).toArray;rw [hrl];have hlt:g < w.heap.size:=(Array.getElem?_eq_some_iff.1 hb).1;exact ⟨rfl,hrow,fun w0 a0=>a0.grown hgr (by omega) (fun j hj=>by cases hj;exact hbase),hgr⟩
def pb (k:Nat) (xs:List SM):Option (List SM):=if xs.length < 4398046511104 then (if q7 k xs = true then some (gq xs) else none) else none
theorem pc (xs:List SM) (k:Nat):eX (pb k xs) (pb (k+1) xs):=by
 unfold pb;refine eX.ite ?_ (eX.refl _);by_cases h:q7 k xs = true
 ·rw [if_pos h,if_pos (p8 h)]
  exact eX.refl _
 ·rw [if_neg h]
  exact eX.none _
instance pb.m:af.V1 pb:=fun _ _=>⟨pc _ _⟩
theorem o3 {w:World} {base:Nat} {ok:Nat→Prop} {v:Value} {xs ys:List SM} (k:Nat) (h:Kd.N gp 37 w base ok v xs) (hk:pb k xs = some ys) :
  Calls Tryz.prog 56 #[v,.func (.func 57) #[] #[]] w fun e w'=>e = .returned (.tuple #[])∧Kd.N gp 37 w' base ok v ys∧(∀ w0:World,Below base w0 w→Below base w0 w')∧w.grownBy w' v.ownBlock:=by
 unfold pb at hk;by_cases h1:xs.length < 4398046511104
 ·rw [if_pos h1] at hk
  by_cases h2:q7 k xs = true
  ·rw [if_pos h2] at hk
   obtain rfl:=Option.some.inj hk;exact iK k h (by omega) h2
  ·rw [if_neg h2] at hk
   cases hk
 ·rw [if_neg h1] at hk
  cases hk
end iD
end
section
namespace Pr
open Go.RowKit ag.b6 ag.cz ag.cA
attribute [local go_sem] gh gi gV gW fF fG gj gn
set_option linter.unusedVariables false
set_option linter.unusedSimpArgs false
def bh.l0:Nat→List (dA)→List (dA)→Int→Int→Option ((List (dA)))
 | 0,_,_,_,_=>none
 | k+1,M,y,I,j=>if j < I then (if 0≤j then (if j < (y.length:Int) then ((ct.f k ((aG y j).f0) ((aG y j).f1)).bind fun z=>((cW.f k z.1 z.2.1 ((aG y j).f0) ((aG y j).f1)).bind fun J=>(if J = true then (if M.length < 4398046511104 then (bh.l0 k (M ++ [(⟨(aG y j).f0,(aG y j).f1⟩:dA)]) y I (wrap64 (j+1))) else (none)) else (bh.l0 k M y I (wrap64 (j+1)))))) else (none)) else (none)) else (iD.pb k M)
def bh.f (k:Nat) (a0:Int) (z:Int):Option ((List (dA))):=(dr.f a0 z).bind fun y=>(if y = true then ((aA.f k a0 z).bind fun j=>(bh.l0 k (([]:List (dA))) j (j.length:Int) 0)) else (some ([]:List (dA))))
set_option maxHeartbeats 8000000 in
set_option maxRecDepth 100000 in
theorem bh.calls (k:Nat) (a0:Int) (a1:Int) (r:List (dA)) (w:World) (h:bh.f k a0 a1 = some r) :
  Calls Tryz.prog 14 #[.int .i64 a0,.int .i64 a1] w fun e w'=>∃ e2:Value,e = .returned (e2)∧Kd.N gp 37 w' w.heap.size (fun k_=>(w.heap.size≤k_)) e2 r∧Below w.heap.size w w':=by
 have go:=Tryz.underlying37;have HB:=ae.mk (Below.refl w.heap.size w);unfold bh.f at h;have H:=h;clear h;obtain ⟨dt,A3,H⟩:=oY H;(try dsimp only at H);by_cases c4:dt = true
 ·subst c4
  replace H:((aA.f k a0 a1).bind fun j=>(bh.l0 k (([]:List (dA))) j (j.length:Int) 0)) = some r:=by rw [if_pos rfl] at H;exact H
  obtain ⟨cY,bo⟩:∃ y_:List (dA),y_ = (([]:List (dA))):=⟨_,rfl⟩
  replace H:((aA.f k a0 a1).bind fun j=>(bh.l0 k cY j (j.length:Int) 0)) = some r:=by (try rw [bo]);exact ph
  have cp:=ae.mk bo;clear bo;obtain ⟨j,A5,H⟩:=oY H;(try dsimp only at H);have H':=ae.mk H;clear H;go_enter Tryz.func14,Tryz.ntmps14;go_wp2_with (first | (refine ne (some 12) Tryz.func52 #[.int .i64 a0,.int .i64 a1] ?_;(with_reducible refine (dr.calls a0 a1 true _ A3.out).mono ?_);rintro e w' ⟨rfl,⟨nd,rfl⟩⟩;refine ⟨_,rfl,?_⟩) | ((with_reducible refine aY (N:=14) rfl ?_);refine Kd.oW gp _ 37 ?hg (N':=14) ?hd (xs:=([]:List (dA))) (inner:=[]) (ok:=(fun k_=>(w.heap.size≤k_))) (okp:=(fun k_=>(w.heap.size≤k_))) ?hr ?hp (fun _ hk=>hk) ((show ∀ k_,w.heap.size≤k_→(fun k_=>(w.heap.size≤k_)) k_ from fun k_ hk=>(Nat.le_trans (an (n8 HB.out)) hk)) _ (Nat.le_refl _)) (Below.refl _ _) (Nat.le_refl _) (by simp) ?_;(case hd=>rfl);(case hg=>rfl);(case hr=>first | (go_simp;done) | (go_simp;rfl));(case hp=>exact (ck.none _ _));intro du w6 d0 hb dv dC;clear dv dC;(first | rw [← cp.out] at d0 | (simp only [Int.reduceToNat] at d0;rw [← cp.out] at d0));have bi:=ae.mk (Kd.gB d0 (an (n8 HB.out)));replace HB:=no HB hb;clear hb d0) | (refine ne (some 17) Tryz.func53 #[.int .i64 a0,.int .i64 a1] ?_;(with_reducible refine (aA.calls k a0 a1 j _ A5.out).mono ?_);rintro e w8 ⟨g3,rfl,b4,hb⟩;refine ⟨_,rfl,?_⟩;have cr:=ae.mk (Kd.gB (Kd.cn (ok':=fun k_=>(w.heap.size≤k_)∧some k_≠(du:Value).ownBlock) (Kd.sV (Kd.l5 b4)) (fun k_ e3=>⟨(Nat.le_trans (an (n8 HB.out)) e3.2.1),(Kd.fresh' (Kd.rI (by (with_reducible repeat (first | apply Kd.b7 | apply Kd.b8 | apply Kd.br));exact bi.out)) k_ e3.2.1)⟩)) (an (n8 HB.out)));replace bi:=ae.mk (Kd.e6 (by (with_reducible repeat (first | apply Kd.b7 | apply Kd.b8 | apply Kd.br));exact bi.out) (Kd.rC b4) hb);replace HB:=no HB hb;(try clear hb);(try clear d7);(try clear hk);(try clear hi);(try clear b4);obtain ⟨e4,cl,g4⟩:=Kd.iS cr.out;subst g4));go_loopg [5,19] k (fun kq v5 g5 w'=>∃ (ba:List (dA)) (y:Int),g5 = .int .i64 y∧ae (bh.l0 kq ba j (j.length:Int) y = some r)∧ae (kq≤k)∧ae (Kd.N gp 37 w' w.heap.size (fun k_=>(w.heap.size≤k_)∧some k_≠((.slice e4 j.length cl):Value).ownBlock) v5 ba)∧ae (Kd.N gp 37 w' w.heap.size (fun k_=>(w.heap.size≤k_)∧some k_≠(v5:Value).ownBlock) (.slice e4 j.length cl) j)∧ae (Below w.heap.size w w'))
  case atStart=>exact ⟨(cY),(0),na,H',⟨Nat.le_refl _⟩,⟨by (with_reducible repeat (first | apply Kd.b7 | apply Kd.b8 | apply Kd.br));exact bi.out⟩,⟨by (with_reducible repeat (first | apply Kd.b7 | apply Kd.b8 | apply Kd.br));exact cr.out⟩,⟨n8 HB.out⟩⟩
  case round =>
   clear H';obtain ⟨ba,y,rfl,HA,d8,a7,a4,HB⟩:=hrel;cases gk with
   | zero=>exact absurd HA.out (by simp [bh.l0])
   | succ k1 =>
    have H:=HA.out;clear HA;simp only [bh.l0] at H;by_cases iw:y < (j.length:Int)
    ·rw [if_pos iw] at H
     have dE:=decide_eq_true iw;clear iw;obtain ⟨e8,H⟩:=ol H;have g6:=decide_eq_true e8;clear e8;obtain ⟨ea,H⟩:=ol H;have g7:=decide_eq_true ea;clear ea;obtain ⟨⟨a6,a2,d1⟩,eb,H⟩:=oY H;(try dsimp only at H);obtain ⟨dT,ed,H⟩:=oY H;(try dsimp only at H);by_cases d9:dT = true
     ·subst d9
      replace H:(if ba.length < 4398046511104 then (bh.l0 k1 (ba ++ [(⟨(aG j y).f0,(aG j y).f1⟩:dA)]) j (j.length:Int) (wrap64 (y+1))) else (none)) = some r:=by rw [if_pos rfl] at H;exact H
      obtain ⟨ee,H⟩:=ol H;have e0:=ae.mk ee;clear ee;obtain ⟨d2,bs⟩:∃ y_:List (dA),y_ = (ba ++ [(⟨(aG j y).f0,(aG j y).f1⟩:dA)]):=⟨_,rfl⟩
      replace H:(bh.l0 k1 d2 j (j.length:Int) (wrap64 (y+1))) = some r:=by (try rw [bs]);exact ph
      have db:=ae.mk bs;clear bs;have H':=ae.mk H;clear H;have aw:0≤(y:Int):=p0;have aE:y < (j.length:Int):=p0;obtain ⟨b2,X,Y,co,cx,bd,ao,ap⟩:=gM (Kd.gf a4.out).2.2 y aw aE;cases co
      obtain ⟨dd,bk,bm,b1⟩:=Kd.qT a4.out z37 y aw (by first | exact aE | exact p0 | (have e_:=(Kd.gf a4.out).1;omega));obtain ⟨cy,cX,rfl,ab,al⟩:=fc bm;have a8:=b1 1 _ rfl;rw [eR _ _ 1 (by omega)] at a8;replace a8:=Option.some.inj (a8.symm.trans bd);injection a8 with bv d3 c0
      rw [bv] at al;rw [c0] at ab;have J:=ae.mk (show Kd.V (Kd.int .i64) 3 _ w.heap.size _ _ ((aG j y).f1) from Kd.lX ab al);clear bv d3 c0 al ab;clear b1 bk;have U:=ae.mk ap;have ar:=ae.mk ao;clear ap ao;replace aw:=eq_true aw;replace aE:=eq_true aE;go_wp2_with (first | (refine pd 7 #[.int .i64 0,.slice none 0 0] 37 ?_;intro I hg gs hbox hb;replace a7:=ae.mk (Kd.cV (Kd.ey (by (with_reducible repeat (first | apply Kd.b7 | apply Kd.b8 | apply Kd.br));exact a7.out) I (Nat.le_of_eq hg.symm)) hb);replace a4:=ae.mk (Kd.cV (Kd.ey (by (with_reducible repeat (first | apply Kd.b7 | apply Kd.b8 | apply Kd.br));exact a4.out) I (Nat.le_of_eq hg.symm)) hb);replace J:=ae.mk (Kd.dW (Kd.fk (by (with_reducible repeat (first | apply Kd.bj | apply Kd.bl | apply Kd.bC));exact J.out) I (Nat.le_of_eq hg.symm)) hb);replace U:=ae.mk (Kd.aW (by repeat (first | (with_reducible exact U.out) | (with_reducible refine Kd.cS ?_ _) | (with_reducible refine Kd.cT ?_ _) | (with_reducible refine Kd.dc ?_) | exact U.out)) hb);have a3:=ae.mk hbox;have df:=o0 hg HB;have dk:=o0 hg HB;replace HB:=no HB hb;clear hb hbox hg;obtain ⟨ef,eg,eh,el⟩:=ob a3.out) | (refine ne (some 25) Tryz.func54 #[.agg #[.int .i64 ((aG j y).f0),.slice X ((aG j y).f1).length Y]] ?_;(with_reducible refine (ct.calls k1 ((aG j y).f0) _ _ ((aG j y).f1) a6 a2 d1 _ ?side1 ?side2 eb.out).mono ?_);(case side1=>exact pa ((Kd.cF ((Kd.bN (Kd.eM (p:=⟨I,1,none⟩) (Kd.eM (p:=⟨I,0,none⟩) (Kd.bN J.out (fun k_ hk=>(⟨hk,hk.2⟩:_∧k_≠I))) (fun _ hk=>hk.2) (.int .i64 ((aG j y).f0))) (fun _ hk=>hk.2) (.slice X ((aG j y).f1).length Y)) (fun _ h_=>h_.1)))).2.2));(case side2=>exact ar.out);rintro e gt ⟨e1,rfl,b4,hb⟩;refine ⟨_,rfl,?_⟩;replace a7:=ae.mk (Kd.e6 (by (with_reducible repeat (first | apply Kd.b7 | apply Kd.b8 | apply Kd.br));exact (Kd.cn (Kd.eF (p:=⟨I,1,none⟩) (Kd.eF (p:=⟨I,0,none⟩) (Kd.cn a7.out (fun k_ hk=>(⟨hk,hk.2⟩:_∧k_≠I))) (fun _ hk=>hk.2) (.int .i64 ((aG j y).f0))) (fun _ hk=>hk.2) (.slice X ((aG j y).f1).length Y)) (fun _ h_=>h_.1))) (Kd.bQ b4) hb);replace a4:=ae.mk (Kd.e6 (by (with_reducible repeat (first | apply Kd.b7 | apply Kd.b8 | apply Kd.br));exact (Kd.cn (Kd.eF (p:=⟨I,1,none⟩) (Kd.eF (p:=⟨I,0,none⟩) (Kd.cn a4.out (fun k_ hk=>(⟨hk,hk.2⟩:_∧k_≠I))) (fun _ hk=>hk.2) (.int .i64 ((aG j y).f0))) (fun _ hk=>hk.2) (.slice X ((aG j y).f1).length Y)) (fun _ h_=>h_.1))) (Kd.bQ b4) hb);have a5:=ae.mk (Kd.bD (Kd.en (M:=fun k_=>(w.heap.size≤k_)) b4 (an nb) (fun k_ h_=>h_)) (an nb));replace U:=ae.mk (Kd.aW ((Kd.cF ((Kd.bN (Kd.eM (p:=⟨I,1,none⟩) (Kd.eM (p:=⟨I,0,none⟩) (Kd.bN J.out (fun k_ hk=>(⟨hk,hk.2⟩:_∧k_≠I))) (fun _ hk=>hk.2) (.int .i64 ((aG j y).f0))) (fun _ hk=>hk.2) (.slice X ((aG j y).f1).length Y)) (fun _ h_=>h_.1)))).2.2) hb);replace J:=ae.mk (Kd.dS (by (with_reducible repeat (first | apply Kd.bj | apply Kd.bl | apply Kd.bC));exact (Kd.bN (Kd.eM (p:=⟨I,1,none⟩) (Kd.eM (p:=⟨I,0,none⟩) (Kd.bN J.out (fun k_ hk=>(⟨hk,hk.2⟩:_∧k_≠I))) (fun _ hk=>hk.2) (.int .i64 ((aG j y).f0))) (fun _ hk=>hk.2) (.slice X ((aG j y).f1).length Y)) (fun _ h_=>h_.1))) (Kd.bQ b4) hb);replace a3:=ae.mk (aU (g:=I) (o:=.cells #[.int .i64 ((aG j y).f0),.slice X ((aG j y).f1).length Y] 37 (0,0)) pj hb);replace HB:=ae.mk (aH nb hb);(try clear hb);(try clear d7);(try clear hk);(try clear hi);(try clear b4)) | (refine pd 8 #[.int .i64 0,.slice none 0 0] 37 ?_;intro z hg gS hbox hb;have c1:=ae.mk (Kd.cV (Kd.ey (by (with_reducible repeat (first | apply Kd.b7 | apply Kd.b8 | apply Kd.br));exact a7.out) z (Nat.le_of_eq hg.symm)) hb);have ca:=ae.mk (Kd.cV (Kd.ey (by (with_reducible repeat (first | apply Kd.b7 | apply Kd.b8 | apply Kd.br));exact a4.out) z (Nat.le_of_eq hg.symm)) hb);have cb:=ae.mk (Kd.dW (Kd.fk (by (with_reducible repeat (first | apply Kd.bj | apply Kd.bl | apply Kd.bC));exact J.out) z (Nat.le_of_eq hg.symm)) hb);have cc:=pm a5 hb;have cd:=ae.mk (Kd.aW (by repeat (first | (with_reducible exact U.out) | (with_reducible refine Kd.cS ?_ _) | (with_reducible refine Kd.cT ?_ _) | (with_reducible refine Kd.dc ?_) | exact U.out)) hb);have ce:=nz a3 hb;have cf:=ae.mk (aH nb hb);have d4:=ae.mk hbox;have d5:=pr (w:=w) hg nb;have d6:=pr (w:=w) hg nb;have ch:=pk hg a3;have ci:=pl hg a3;clear a7;clear a4;clear J;clear a5;clear U;clear a3;clear HB;have a7:=c1;have a4:=ca;have J:=cb;have a5:=cc;have U:=cd;have a3:=ce;have HB:=cf;have a9:=d4;have dl:=d5;have dp:=d6;have aR:=ch;have b0:=ci;clear c1 ca cb cc cd ce cf d4 d5 d6 ch ci;clear hb hbox hg;have g8:=b0.out;have g9:=aR.out;obtain ⟨em,eo,eq,es⟩:=ob a9.out;obtain ⟨am,aa,et⟩:=Kd.bE a5.out;subst et;obtain ⟨ev,ex,eQ,f2⟩:=ob a3.out) | (refine ne (some 30) Tryz.func55 #[.agg #[.int .i64 a6,.slice am a2.length aa],.agg #[.int .i64 ((aG j y).f0),.slice X ((aG j y).f1).length Y]] ?_;(with_reducible refine (cW.calls k1 a6 _ _ a2 ((aG j y).f0) _ _ ((aG j y).f1) true _ ?side1 ?side2 ?side3 ?side4 ed.out).mono ?_);(case side1=>refine (Kd.az (e:=3) (base:=w.heap.size) (ok:=fun k_=>((w.heap.size≤k_)∧True)) (n:=a2.length) (c:=aa) ?_).2.2;exact (ac ((Kd.aX (Kd.bU (p:=⟨z,1,none⟩) (Kd.bU (p:=⟨z,0,none⟩) (Kd.bp a5.out a9.out (by decide)) (fun _ hk=>hk.2) (.int .i64 a6)) (fun _ hk=>hk.2) (.slice am a2.length aa)) (fun _ h_=>h_.1)))));(case side2=>exact (Kd.az a5.out).2.1);(case side3=>exact pa ((Kd.cF ((Kd.bN (Kd.eM (p:=⟨z,1,none⟩) (Kd.eM (p:=⟨z,0,none⟩) (Kd.bN J.out (fun k_ hk=>(⟨hk,hk.2⟩:_∧k_≠z))) (fun _ hk=>hk.2) (.int .i64 a6)) (fun _ hk=>hk.2) (.slice am a2.length aa)) (fun _ h_=>h_.1)))).2.2));(case side4=>exact ar.out);rintro e h0 ⟨rfl,hb⟩;refine ⟨_,rfl,?_⟩;replace a7:=ae.mk (Kd.cV (by (with_reducible repeat (first | apply Kd.b7 | apply Kd.b8 | apply Kd.br));exact (Kd.cn (Kd.eF (p:=⟨z,1,none⟩) (Kd.eF (p:=⟨z,0,none⟩) (Kd.cn a7.out (fun k_ hk=>(⟨hk,hk.2⟩:_∧k_≠z))) (fun _ hk=>hk.2) (.int .i64 a6)) (fun _ hk=>hk.2) (.slice am a2.length aa)) (fun _ h_=>h_.1))) hb);replace a4:=ae.mk (Kd.cV (by (with_reducible repeat (first | apply Kd.b7 | apply Kd.b8 | apply Kd.br));exact (Kd.cn (Kd.eF (p:=⟨z,1,none⟩) (Kd.eF (p:=⟨z,0,none⟩) (Kd.cn a4.out (fun k_ hk=>(⟨hk,hk.2⟩:_∧k_≠z))) (fun _ hk=>hk.2) (.int .i64 a6)) (fun _ hk=>hk.2) (.slice am a2.length aa)) (fun _ h_=>h_.1))) hb);replace a5:=ae.mk (Kd.cR (ac ((Kd.aX (Kd.bU (p:=⟨z,1,none⟩) (Kd.bU (p:=⟨z,0,none⟩) (Kd.bp a5.out a9.out (by decide)) (fun _ hk=>hk.2) (.int .i64 a6)) (fun _ hk=>hk.2) (.slice am a2.length aa)) (fun _ h_=>h_.1)))) hb);replace U:=ae.mk (Kd.aW ((Kd.cF ((Kd.bN (Kd.eM (p:=⟨z,1,none⟩) (Kd.eM (p:=⟨z,0,none⟩) (Kd.bN J.out (fun k_ hk=>(⟨hk,hk.2⟩:_∧k_≠z))) (fun _ hk=>hk.2) (.int .i64 a6)) (fun _ hk=>hk.2) (.slice am a2.length aa)) (fun _ h_=>h_.1)))).2.2) hb);replace J:=ae.mk (Kd.dW (by (with_reducible repeat (first | apply Kd.bj | apply Kd.bl | apply Kd.bC));exact (Kd.bN (Kd.eM (p:=⟨z,1,none⟩) (Kd.eM (p:=⟨z,0,none⟩) (Kd.bN J.out (fun k_ hk=>(⟨hk,hk.2⟩:_∧k_≠z))) (fun _ hk=>hk.2) (.int .i64 a6)) (fun _ hk=>hk.2) (.slice am a2.length aa)) (fun _ h_=>h_.1))) hb);replace a3:=ae.mk (aU (g:=I) (o:=.cells #[.int .i64 ((aG j y).f0),.slice X ((aG j y).f1).length Y] 37 (0,0)) pj hb);replace a9:=ae.mk (aU (g:=z) (o:=.cells #[.int .i64 a6,.slice am a2.length aa] 37 (0,0)) pj hb);replace HB:=ae.mk (aH nb hb);(try clear hb);(try clear d7);(try clear hk);(try clear hi);obtain ⟨f3,f4,f5,f6⟩:=ob a3.out) | ((with_reducible refine bY (b:=.append) (xs:=#[.tmp 31,.tmp 33]) rfl ?_);at_builtin;refine Kd.gg gp (w0:=w) w.heap.size rfl (.tmp 31) (.tmp 33) 27 37 (.agg #[(.int .i64 0),(.slice none 0 0)]) 32 rfl Tryz.underlying27 iJ rfl (by decide) (by omega) u5 ba (⟨(aG j y).f0,(aG j y).f1⟩:dA) [.int .i64 ((aG j y).f0),.slice X ((aG j y).f1).length Y] (fun k_=>(w.heap.size≤k_)∧some k_≠(.slice (some b2) j.length cl:Value).ownBlock∧some k_≠(.slice am a2.length aa:Value).ownBlock∧k_≠I∧k_≠z) (fun k_=>((fun k_=>(w.heap.size≤k_)∧some k_≠(.slice (some b2) j.length cl:Value).ownBlock∧some k_≠(.slice am a2.length aa:Value).ownBlock∧k_≠I∧k_≠z)) k_∧some k_≠(u5:Value).ownBlock) rfl rfl ?aP (fun _ hk=>hk) ?aF ?aO ?aB ?aS ?aL ?_;(case aP=>exact (ic _ _ (⟨(aG j y).f0,(aG j y).f1⟩:dA) (Kd.cF (Kd.bN (ok':=(fun k_=>((fun k_=>(w.heap.size≤k_)∧some k_≠(.slice (some b2) j.length cl:Value).ownBlock∧some k_≠(.slice am a2.length aa:Value).ownBlock∧k_≠I∧k_≠z)) k_∧some k_≠(u5:Value).ownBlock)) (J.out) (fun k_ hk=>⟨⟨hk.1.1.1.1.1,⟨hk.1.1.1.2,⟨hk.1.2,⟨hk.1.1.2,hk.2⟩⟩⟩⟩,hk.1.1.1.1.2⟩))).2.1 (Kd.sv (Kd.bN (ok':=(fun k_=>((fun k_=>(w.heap.size≤k_)∧some k_≠(.slice (some b2) j.length cl:Value).ownBlock∧some k_≠(.slice am a2.length aa:Value).ownBlock∧k_≠I∧k_≠z)) k_∧some k_≠(u5:Value).ownBlock)) (J.out) (fun k_ hk=>⟨⟨hk.1.1.1.1.1,⟨hk.1.1.1.2,⟨hk.1.2,⟨hk.1.1.2,hk.2⟩⟩⟩⟩,hk.1.1.1.1.2⟩)))));(case aB=>exact nb);(case aF=>exact (fun k_ hk=>⟨(Nat.le_trans (an nb) hk),Kd.fresh' (Kd.rI (by (with_reducible repeat (first | apply Kd.b7 | apply Kd.b8 | apply Kd.br));exact a4.out)) k_ hk,Kd.fresh' (Kd.dx (ac a5.out)) k_ hk,Kd.eV (g:=I) (o:=.cells #[.int .i64 ((aG j y).f0),.slice X ((aG j y).f1).length Y] 37 (0,0)) (nm a3.out) k_ hk,Kd.eV (g:=z) (o:=.cells #[.int .i64 a6,.slice am a2.length aa] 37 (0,0)) (nm a9.out) k_ hk⟩));(case aO=>exact (by (with_reducible repeat (first | apply Kd.b7 | apply Kd.b8 | apply Kd.br));exact Kd.cn a7.out (fun _ hk=>⟨hk.1.1.1.1,⟨hk.1.1.1.2,⟨hk.1.2,⟨hk.1.1.2,hk.2⟩⟩⟩⟩)));(case aS=>exact (an nb));(case aL=>have:=e0.out;omega);intro gb h6 ho hb hg hat;rw [← db.out] at ho;have c1:=ae.mk (Kd.jT (ok:=(fun k_=>(w.heap.size≤k_)∧some k_≠(.slice am a2.length aa:Value).ownBlock∧k_≠I∧k_≠z)) (by (with_reducible repeat (first | apply Kd.b7 | apply Kd.b8 | apply Kd.br));exact Kd.cn a4.out (fun _ hk=>⟨⟨hk.1.1.1.1,⟨hk.1.2,⟨hk.1.1.2,hk.2⟩⟩⟩,hk.1.1.1.2⟩)) hg hat);have ca:=ae.mk (Kd.dD (ok:=(fun k_=>(w.heap.size≤k_)∧some k_≠(.slice (some b2) j.length cl:Value).ownBlock∧some k_≠(.slice am a2.length aa:Value).ownBlock∧k_≠I∧k_≠z)) (by (with_reducible repeat (first | apply Kd.bj | apply Kd.bl | apply Kd.bC));exact Kd.bN J.out (fun _ hk=>⟨⟨hk.1.1.1.1.1,⟨hk.1.1.1.2,⟨hk.1.2,⟨hk.1.1.2,hk.2⟩⟩⟩⟩,hk.1.1.1.1.2⟩)) hg hat);have cb:=ae.mk (cI (g:=I) (o:=.cells #[.int .i64 ((aG j y).f0),.slice X ((aG j y).f1).length Y] 37 (0,0)) (nm a3.out) hg (Kd.iH a7.out (fun _ hk=>hk.1.1.2)));have cc:=ae.mk (Kd.kX (ac a5.out) (Kd.iR (by (with_reducible repeat (first | apply Kd.b7 | apply Kd.b8 | apply Kd.br));exact a7.out)) (by decide) hg);have cd:=ae.mk (cI (g:=z) (o:=.cells #[.int .i64 a6,.slice am a2.length aa] 37 (0,0)) (nm a9.out) hg (Kd.iH a7.out (fun _ hk=>hk.2)));have ce:=ae.mk hb;have cf:=ae.mk ho;clear a4;clear J;clear a3;clear a5;clear a9;clear HB;clear a7;have a4:=c1;have J:=ca;have a3:=cb;have a5:=cc;have a9:=cd;have HB:=ce;have dq:=cf;clear c1 ca cb cc cd ce cf;clear ho hb hg hat));go_roundg k1;case measure=>have:=d8.out;omega
      case rel=>exact ⟨(d2),(wrap64 (y+1)),na,H',⟨by have:=d8.out;omega⟩,⟨by (with_reducible repeat (first | apply Kd.b7 | apply Kd.b8 | apply Kd.br));exact Kd.cn dq.out (fun _ hk=>(by first | exact ⟨hk.1,hk.2.1⟩ | (simp_all;done)))⟩,⟨by (with_reducible repeat (first | apply Kd.b7 | apply Kd.b8 | apply Kd.br));exact Kd.cn a4.out (fun _ hk=>(by first | exact ⟨hk.1.1,hk.2⟩ | (simp_all;done)))⟩,⟨nb⟩⟩
     ·replace d9:=Bool.eq_false_iff.mpr d9
      subst d9;replace H:(bh.l0 k1 ba j (j.length:Int) (wrap64 (y+1))) = some r:=by rw [if_neg (show ¬ (false = true) by decide)] at H;exact H
      have H':=ae.mk H;clear H;have aw:0≤(y:Int):=p0;have aE:y < (j.length:Int):=p0;obtain ⟨b2,X,Y,co,cx,bd,ao,ap⟩:=gM (Kd.gf a4.out).2.2 y aw aE;cases co
      obtain ⟨dd,bk,bm,b1⟩:=Kd.qT a4.out z37 y aw (by first | exact aE | exact p0 | (have e_:=(Kd.gf a4.out).1;omega));obtain ⟨cy,cX,rfl,ab,al⟩:=fc bm;have a8:=b1 1 _ rfl;rw [eR _ _ 1 (by omega)] at a8;replace a8:=Option.some.inj (a8.symm.trans bd);injection a8 with bv d3 c0
      rw [bv] at al;rw [c0] at ab;have J:=ae.mk (show Kd.V (Kd.int .i64) 3 _ w.heap.size _ _ ((aG j y).f1) from Kd.lX ab al);clear bv d3 c0 al ab;clear b1 bk;have U:=ae.mk ap;have ar:=ae.mk ao;clear ap ao;replace aw:=eq_true aw;replace aE:=eq_true aE;go_wp2_with (first | (refine pd 7 #[.int .i64 0,.slice none 0 0] 37 ?_;intro I hg h7 hbox hb;replace a7:=ae.mk (Kd.cV (Kd.ey (by (with_reducible repeat (first | apply Kd.b7 | apply Kd.b8 | apply Kd.br));exact a7.out) I (Nat.le_of_eq hg.symm)) hb);replace a4:=ae.mk (Kd.cV (Kd.ey (by (with_reducible repeat (first | apply Kd.b7 | apply Kd.b8 | apply Kd.br));exact a4.out) I (Nat.le_of_eq hg.symm)) hb);replace J:=ae.mk (Kd.dW (Kd.fk (by (with_reducible repeat (first | apply Kd.bj | apply Kd.bl | apply Kd.bC));exact J.out) I (Nat.le_of_eq hg.symm)) hb);replace U:=ae.mk (Kd.aW (by repeat (first | (with_reducible exact U.out) | (with_reducible refine Kd.cS ?_ _) | (with_reducible refine Kd.cT ?_ _) | (with_reducible refine Kd.dc ?_) | exact U.out)) hb);have a3:=ae.mk hbox;have df:=o0 hg HB;have dk:=o0 hg HB;replace HB:=no HB hb;clear hb hbox hg;obtain ⟨f7,f8,f9,fd⟩:=ob a3.out) | (refine ne (some 25) Tryz.func54 #[.agg #[.int .i64 ((aG j y).f0),.slice X ((aG j y).f1).length Y]] ?_;(with_reducible refine (ct.calls k1 ((aG j y).f0) _ _ ((aG j y).f1) a6 a2 d1 _ ?side1 ?side2 eb.out).mono ?_);(case side1=>exact pa ((Kd.cF ((Kd.bN (Kd.eM (p:=⟨I,1,none⟩) (Kd.eM (p:=⟨I,0,none⟩) (Kd.bN J.out (fun k_ hk=>(⟨hk,hk.2⟩:_∧k_≠I))) (fun _ hk=>hk.2) (.int .i64 ((aG j y).f0))) (fun _ hk=>hk.2) (.slice X ((aG j y).f1).length Y)) (fun _ h_=>h_.1)))).2.2));(case side2=>exact ar.out);rintro e h8 ⟨e1,rfl,b4,hb⟩;refine ⟨_,rfl,?_⟩;replace a7:=ae.mk (Kd.e6 (by (with_reducible repeat (first | apply Kd.b7 | apply Kd.b8 | apply Kd.br));exact (Kd.cn (Kd.eF (p:=⟨I,1,none⟩) (Kd.eF (p:=⟨I,0,none⟩) (Kd.cn a7.out (fun k_ hk=>(⟨hk,hk.2⟩:_∧k_≠I))) (fun _ hk=>hk.2) (.int .i64 ((aG j y).f0))) (fun _ hk=>hk.2) (.slice X ((aG j y).f1).length Y)) (fun _ h_=>h_.1))) (Kd.bQ b4) hb);replace a4:=ae.mk (Kd.e6 (by (with_reducible repeat (first | apply Kd.b7 | apply Kd.b8 | apply Kd.br));exact (Kd.cn (Kd.eF (p:=⟨I,1,none⟩) (Kd.eF (p:=⟨I,0,none⟩) (Kd.cn a4.out (fun k_ hk=>(⟨hk,hk.2⟩:_∧k_≠I))) (fun _ hk=>hk.2) (.int .i64 ((aG j y).f0))) (fun _ hk=>hk.2) (.slice X ((aG j y).f1).length Y)) (fun _ h_=>h_.1))) (Kd.bQ b4) hb);have a5:=ae.mk (Kd.bD (Kd.en (M:=fun k_=>(w.heap.size≤k_)) b4 (an nb) (fun k_ h_=>h_)) (an nb));replace U:=ae.mk (Kd.aW ((Kd.cF ((Kd.bN (Kd.eM (p:=⟨I,1,none⟩) (Kd.eM (p:=⟨I,0,none⟩) (Kd.bN J.out (fun k_ hk=>(⟨hk,hk.2⟩:_∧k_≠I))) (fun _ hk=>hk.2) (.int .i64 ((aG j y).f0))) (fun _ hk=>hk.2) (.slice X ((aG j y).f1).length Y)) (fun _ h_=>h_.1)))).2.2) hb);replace J:=ae.mk (Kd.dS (by (with_reducible repeat (first | apply Kd.bj | apply Kd.bl | apply Kd.bC));exact (Kd.bN (Kd.eM (p:=⟨I,1,none⟩) (Kd.eM (p:=⟨I,0,none⟩) (Kd.bN J.out (fun k_ hk=>(⟨hk,hk.2⟩:_∧k_≠I))) (fun _ hk=>hk.2) (.int .i64 ((aG j y).f0))) (fun _ hk=>hk.2) (.slice X ((aG j y).f1).length Y)) (fun _ h_=>h_.1))) (Kd.bQ b4) hb);replace a3:=ae.mk (aU (g:=I) (o:=.cells #[.int .i64 ((aG j y).f0),.slice X ((aG j y).f1).length Y] 37 (0,0)) pj hb);replace HB:=ae.mk (aH nb hb);(try clear hb);(try clear d7);(try clear hk);(try clear hi);(try clear b4)) | (refine pd 8 #[.int .i64 0,.slice none 0 0] 37 ?_;intro z hg h9 hbox hb;have c1:=ae.mk (Kd.cV (Kd.ey (by (with_reducible repeat (first | apply Kd.b7 | apply Kd.b8 | apply Kd.br));exact a7.out) z (Nat.le_of_eq hg.symm)) hb);have ca:=ae.mk (Kd.cV (Kd.ey (by (with_reducible repeat (first | apply Kd.b7 | apply Kd.b8 | apply Kd.br));exact a4.out) z (Nat.le_of_eq hg.symm)) hb);have cb:=ae.mk (Kd.dW (Kd.fk (by (with_reducible repeat (first | apply Kd.bj | apply Kd.bl | apply Kd.bC));exact J.out) z (Nat.le_of_eq hg.symm)) hb);have cc:=pm a5 hb;have cd:=ae.mk (Kd.aW (by repeat (first | (with_reducible exact U.out) | (with_reducible refine Kd.cS ?_ _) | (with_reducible refine Kd.cT ?_ _) | (with_reducible refine Kd.dc ?_) | exact U.out)) hb);have ce:=nz a3 hb;have cf:=ae.mk (aH nb hb);have d4:=ae.mk hbox;have d5:=pr (w:=w) hg nb;have d6:=pr (w:=w) hg nb;have ch:=pk hg a3;have ci:=pl hg a3;clear a7;clear a4;clear J;clear a5;clear U;clear a3;clear HB;have a7:=c1;have a4:=ca;have J:=cb;have a5:=cc;have U:=cd;have a3:=ce;have HB:=cf;have a9:=d4;have dl:=d5;have dp:=d6;have aR:=ch;have b0:=ci;clear c1 ca cb cc cd ce cf d4 d5 d6 ch ci;clear hb hbox hg;have gc:=b0.out;have ge:=aR.out;obtain ⟨fi,fj,fp,fs⟩:=ob a9.out;obtain ⟨bc,b3,ft⟩:=Kd.bE a5.out;subst ft;obtain ⟨fw,fx,fy,fX⟩:=ob a3.out) | (refine ne (some 30) Tryz.func55 #[.agg #[.int .i64 a6,.slice bc a2.length b3],.agg #[.int .i64 ((aG j y).f0),.slice X ((aG j y).f1).length Y]] ?_;(with_reducible refine (cW.calls k1 a6 _ _ a2 ((aG j y).f0) _ _ ((aG j y).f1) false _ ?side1 ?side2 ?side3 ?side4 ed.out).mono ?_);(case side1=>refine (Kd.az (e:=3) (base:=w.heap.size) (ok:=fun k_=>((w.heap.size≤k_)∧True)) (n:=a2.length) (c:=b3) ?_).2.2;exact (ac ((Kd.aX (Kd.bU (p:=⟨z,1,none⟩) (Kd.bU (p:=⟨z,0,none⟩) (Kd.bp a5.out a9.out (by decide)) (fun _ hk=>hk.2) (.int .i64 a6)) (fun _ hk=>hk.2) (.slice bc a2.length b3)) (fun _ h_=>h_.1)))));(case side2=>exact (Kd.az a5.out).2.1);(case side3=>exact pa ((Kd.cF ((Kd.bN (Kd.eM (p:=⟨z,1,none⟩) (Kd.eM (p:=⟨z,0,none⟩) (Kd.bN J.out (fun k_ hk=>(⟨hk,hk.2⟩:_∧k_≠z))) (fun _ hk=>hk.2) (.int .i64 a6)) (fun _ hk=>hk.2) (.slice bc a2.length b3)) (fun _ h_=>h_.1)))).2.2));(case side4=>exact ar.out);rintro e hj ⟨rfl,hb⟩;refine ⟨_,rfl,?_⟩;replace a7:=ae.mk (Kd.cV (by (with_reducible repeat (first | apply Kd.b7 | apply Kd.b8 | apply Kd.br));exact (Kd.cn (Kd.eF (p:=⟨z,1,none⟩) (Kd.eF (p:=⟨z,0,none⟩) (Kd.cn a7.out (fun k_ hk=>(⟨hk,hk.2⟩:_∧k_≠z))) (fun _ hk=>hk.2) (.int .i64 a6)) (fun _ hk=>hk.2) (.slice bc a2.length b3)) (fun _ h_=>h_.1))) hb);replace a4:=ae.mk (Kd.cV (by (with_reducible repeat (first | apply Kd.b7 | apply Kd.b8 | apply Kd.br));exact (Kd.cn (Kd.eF (p:=⟨z,1,none⟩) (Kd.eF (p:=⟨z,0,none⟩) (Kd.cn a4.out (fun k_ hk=>(⟨hk,hk.2⟩:_∧k_≠z))) (fun _ hk=>hk.2) (.int .i64 a6)) (fun _ hk=>hk.2) (.slice bc a2.length b3)) (fun _ h_=>h_.1))) hb);replace a5:=ae.mk (Kd.cR (ac ((Kd.aX (Kd.bU (p:=⟨z,1,none⟩) (Kd.bU (p:=⟨z,0,none⟩) (Kd.bp a5.out a9.out (by decide)) (fun _ hk=>hk.2) (.int .i64 a6)) (fun _ hk=>hk.2) (.slice bc a2.length b3)) (fun _ h_=>h_.1)))) hb);replace U:=ae.mk (Kd.aW ((Kd.cF ((Kd.bN (Kd.eM (p:=⟨z,1,none⟩) (Kd.eM (p:=⟨z,0,none⟩) (Kd.bN J.out (fun k_ hk=>(⟨hk,hk.2⟩:_∧k_≠z))) (fun _ hk=>hk.2) (.int .i64 a6)) (fun _ hk=>hk.2) (.slice bc a2.length b3)) (fun _ h_=>h_.1)))).2.2) hb);replace J:=ae.mk (Kd.dW (by (with_reducible repeat (first | apply Kd.bj | apply Kd.bl | apply Kd.bC));exact (Kd.bN (Kd.eM (p:=⟨z,1,none⟩) (Kd.eM (p:=⟨z,0,none⟩) (Kd.bN J.out (fun k_ hk=>(⟨hk,hk.2⟩:_∧k_≠z))) (fun _ hk=>hk.2) (.int .i64 a6)) (fun _ hk=>hk.2) (.slice bc a2.length b3)) (fun _ h_=>h_.1))) hb);replace a3:=ae.mk (aU (g:=I) (o:=.cells #[.int .i64 ((aG j y).f0),.slice X ((aG j y).f1).length Y] 37 (0,0)) pj hb);replace a9:=ae.mk (aU (g:=z) (o:=.cells #[.int .i64 a6,.slice bc a2.length b3] 37 (0,0)) pj hb);replace HB:=ae.mk (aH nb hb);(try clear hb);(try clear d7);(try clear hk);(try clear hi)));go_roundg k1;case measure=>have:=d8.out;omega
      case rel=>exact ⟨(ba),(wrap64 (y+1)),na,H',⟨by have:=d8.out;omega⟩,⟨by (with_reducible repeat (first | apply Kd.b7 | apply Kd.b8 | apply Kd.br));exact Kd.cn a7.out (fun _ hk=>(by first | exact ⟨hk.1.1.1.1,hk.1.1.1.2⟩ | (simp_all;done)))⟩,⟨by (with_reducible repeat (first | apply Kd.b7 | apply Kd.b8 | apply Kd.br));exact Kd.cn a4.out (fun _ hk=>(by first | exact ⟨hk.1.1.1.1,hk.1.1.1.2⟩ | (simp_all;done)))⟩,⟨nb⟩⟩
    ·rw [if_neg iw] at H
     have dE:decide (y < (j.length:Int)) = false:=decide_eq_false iw;clear iw;have gm:=ae.mk H;clear H;go_wp2_with (first | (refine ne (some 37) Tryz.func56 #[u5,.func (.func 57) #[] #[]] ?_;(refine (iD.o3 k1 (by (with_reducible repeat (first | apply Kd.b7 | apply Kd.b8 | apply Kd.br));exact a7.out) gm.out).mono ?_);rintro e hl ⟨rfl,fY,g0,dv⟩;refine ⟨_,rfl,?_⟩;have g1:=ae.mk fY;have g2:=ae.mk (g0 w (n8 HB.out));clear fY g0 dv));go_ret;exact ⟨_,pi,by (with_reducible repeat (first | apply Kd.b7 | apply Kd.b8 | apply Kd.br));exact Kd.cn g1.out (fun _ hk=>hk.1),n8 g2.out⟩
 ·replace c4:=Bool.eq_false_iff.mpr c4
  subst c4;replace H:(some ([]:List (dA))) = some r:=by rw [if_neg (show ¬ (false = true) by decide)] at H;exact H
  obtain rfl:=Option.some.inj H;go_enter Tryz.func14,Tryz.ntmps14;go_wp2_with (first | (refine ne (some 12) Tryz.func52 #[.int .i64 a0,.int .i64 a1] ?_;(with_reducible refine (dr.calls a0 a1 false _ A3.out).mono ?_);rintro e w' ⟨rfl,⟨nd,rfl⟩⟩;refine ⟨_,rfl,?_⟩));go_ret;exact ⟨_,pi,by first | exact Kd.qQ _ _ _ _ _ | exact Kd.qS _ _ _ _ _ | exact Kd.qU _ _ _ _ _ | exact Kd.qP _ _ _ _ _ | exact Kd.jq _ _ _ _ _,nb⟩
mutual
def aZ.j0:Nat→Int→Bool→Option (List Int)
 | 0,_,_=>none
 | k+1,y,z=>if z = true then (some ([]:List Int)) else (aZ.l0 k y (([]:List Int)) 0)
def aZ.l0:Nat→Int→List Int→Int→Option (List Int)
 | 0,_,_,_=>none
 | k+1,y,I,J=>if J≤y then ((bh.f k y J).bind fun j=>(if I.length < 17592186044416 then (aZ.l0 k y (I ++ [(j.length:Int)]) (wrap64 (J+1))) else (none))) else (some I)
end
def aZ.f (k:Nat) (a0:Int):Option (List Int):=if a0 < 0 then (aZ.j0 k a0 true) else (aZ.j0 k a0 (decide (a0 > 5)))
set_option maxHeartbeats 8000000 in
set_option maxRecDepth 100000 in
theorem aZ.calls (k:Nat) (a0:Int) (r:List Int) (w:World) (h:aZ.f k a0 = some r) :
  Calls Tryz.prog 9 #[.int .i64 a0] w fun e w'=>∃ ab:Value,e = .returned (ab)∧Kd.R (Kd.int .i64) 3 w' w.heap.size (fun _=>True) ab r∧Below w.heap.size w w':=by
 have HB:=ae.mk (Below.refl w.heap.size w);unfold aZ.f at h;have H:=h;clear h;have a9:=ae.mk H;clear H;go_enter Tryz.func9,Tryz.ntmps9;go_upto_region 1 with (fail)
 go_cut [10] (fun v10 wc=>∃ (kq:Nat) (I:Bool),v10 = .bool I∧ae (aZ.j0 kq a0 I = some r)∧ae (kq≤k)∧ae (Below w.heap.size w wc))
 case first =>
  have H:=a9.out;clear a9;by_cases c3:a0 < 0
  ·rw [if_pos c3] at H
   have X:=decide_eq_true c3;clear c3;(first | rw [X] | (simp only [bw,bR];rw [X]) | skip);have H':=ae.mk H;clear H;go_wp2;go_meet
   case rel=>exact ⟨_,(true),na,H',⟨by first | omega | exact Nat.le_refl _⟩,⟨n8 HB.out⟩⟩
  ·rw [if_neg c3] at H
   have X:decide (a0 < 0) = false:=decide_eq_false c3;clear c3;(first | rw [X] | (simp only [bw,bR];rw [X]) | skip);have H':=ae.mk H;clear H;go_wp2;go_meet
   case rel=>exact ⟨_,(decide (a0 > 5)),na,H',⟨by first | omega | exact Nat.le_refl _⟩,⟨n8 HB.out⟩⟩
 case rest =>
  clear a9;obtain ⟨kq,I,rfl,HA,al,HB⟩:=hcut;cases kq with
  | zero=>exact absurd HA.out (by simp [aZ.j0])
  | succ a5 =>
   have H:=HA.out;clear HA;simp only [aZ.j0] at H;by_cases c4:I = true
   ·subst c4
    replace H:(some ([]:List Int)) = some r:=by rw [if_pos rfl] at H;exact H
    obtain rfl:=Option.some.inj H;go_wp2;go_ret;exact ⟨_,pi,af.N,nb⟩
   ·replace c4:=Bool.eq_false_iff.mpr c4
    subst c4;replace H:(aZ.l0 a5 a0 (([]:List Int)) 0) = some r:=by rw [if_neg (show ¬ (false = true) by decide)] at H;exact H
    obtain ⟨a2,J⟩:∃ y_:List Int,y_ = (([]:List Int)):=⟨_,rfl⟩
    replace H:(aZ.l0 a5 a0 a2 0) = some r:=by (try rw [J]);exact ph
    have a1:=ae.mk J;clear J;have H':=ae.mk H;clear H;go_wp2_with (first | (refine af.lt (Kd.int .i64) 3 11 ?_;intro aL w5 a3 hb aO aa;clear aO aa;(first | rw [← a1.out] at a3 | (simp only [Int.reduceToNat] at a3;rw [← a1.out] at a3));have a6:=ae.mk (Kd.bD a3 (an (n8 HB.out)));replace HB:=no HB hb;clear hb a3));go_loopg [3,4] a5 (fun kq v3 v4 w'=>∃ (Y:List Int) (j:Int),v4 = .int .i64 j∧ae (aZ.l0 kq a0 Y j = some r)∧ae (kq≤a5)∧ae (Kd.R (Kd.int .i64) 3 w' w.heap.size (fun _=>True) v3 Y)∧ae (Below w.heap.size w w'))
    case atStart=>exact ⟨(a2),(0),na,H',⟨Nat.le_refl _⟩,⟨ac a6.out⟩,⟨n8 HB.out⟩⟩
    case round =>
     clear H';obtain ⟨Y,j,rfl,HA,am,z,HB⟩:=hrel;cases gk with
     | zero=>exact absurd HA.out (by simp [aZ.l0])
     | succ k2 =>
      have H:=HA.out;clear HA;simp only [aZ.l0] at H;by_cases c7:j≤a0
      ·rw [if_pos c7] at H
       have ao:=decide_eq_true c7;clear c7;obtain ⟨M,A8,H⟩:=oY H;(try dsimp only at H);obtain ⟨c9,H⟩:=ol H;have ap:=ae.mk c9;clear c9;obtain ⟨a4,U⟩:∃ y_:List Int,y_ = (Y ++ [(M.length:Int)]):=⟨_,rfl⟩
       replace H:(aZ.l0 k2 a0 a4 (wrap64 (j+1))) = some r:=by (try rw [U]);exact ph
       have a7:=ae.mk U;clear U;have H':=ae.mk H;clear H;go_wp2_with (first | (refine ne (some 20) Tryz.func14 #[.int .i64 a0,.int .i64 j] ?_;(with_reducible refine (bh.calls k2 a0 j M _ A8.out).mono ?_);rintro e b2 ⟨aP,rfl,ar,hb⟩;refine ⟨_,rfl,?_⟩;have y:=ae.mk (Kd.gB (Kd.cn (ok':=fun k_=>some k_≠(u3:Value).ownBlock) ar (fun k_ aR=>(Kd.fresh' (Kd.dx (ac z.out)) k_ aR))) (an (n8 HB.out)));replace z:=pm z hb;replace HB:=no HB hb;(try clear hb);(try clear b3);(try clear hk);(try clear hi);(try clear ar);obtain ⟨b0,b1,aw⟩:=Kd.iS y.out;subst aw) | ((with_reducible refine bY (b:=.append) (xs:=#[.tmp 17,.tmp 22]) rfl ?_);at_builtin;refine Kd.eO (Kd.int .i64) (w0:=w) w.heap.size rfl (.tmp 17) (.tmp 22) 22 3 (.int .i64 0) 8 rfl Tryz.underlying22 e9 rfl (by decide) (by omega) u3 Y (M.length:Int) [.int .i64 (M.length:Int)] (fun _=>True) (fun _=>False) rfl rfl (by exact rfl) (fun _ hk=>hk.elim) (by exact fun _ _=>trivial) (by exact ac z.out) (by exact n8 HB.out) (by exact an (n8 HB.out)) (by have:=ap.out;omega) ?_;intro aS b4 ho hb hg hat;rw [← a7.out] at ho;have aB:=ae.mk (Kd.jT (ok:=(fun _=>True)) (by (with_reducible repeat (first | apply Kd.b7 | apply Kd.b8 | apply Kd.br));exact Kd.cn y.out (fun _ hk=>⟨trivial,hk⟩)) hg hat);have aE:=ae.mk hb;have aF:=ae.mk ho;clear y;clear HB;clear z;have y:=aB;have HB:=aE;have a8:=aF;clear aB aE aF;clear ho hb hg hat));go_roundg k2;case measure=>have:=al.out;have:=am.out;omega
       case rel=>exact ⟨(a4),(wrap64 (j+1)),na,H',⟨by have:=al.out;have:=am.out;omega⟩,⟨ac a8.out⟩,⟨n8 HB.out⟩⟩
      ·rw [if_neg c7] at H
       have ao:decide (j≤a0) = false:=decide_eq_false c7;clear c7;obtain rfl:=Option.some.inj H;go_wp2;go_ret;exact ⟨_,pi,by (with_reducible repeat (first | apply Kd.ew | apply Kd.e5 | apply Kd.dz));exact z.out,nb⟩
def cD.l0:Nat→List Int→List Int→Int→Option (Bool)
 | 0,_,_,_=>none
 | k+1,y,z,j=>if j < (y.length:Int) then (if 0≤j then (if j < (z.length:Int) then (if (rd y j) = (rd z j) then (cD.l0 k y z (wrap64 (j+1))) else (some false)) else (none)) else (none)) else (some true)
def cD.f (k:Nat) (l0:List Int) (l1:List Int):Option (Bool):=if (l0.length:Int) = (l1.length:Int) then (cD.l0 k l0 l1 0) else (some false)
set_option maxHeartbeats 8000000 in
set_option maxRecDepth 100000 in
theorem cD.calls (k:Nat) (A0:Option Addr) (c0:Nat) (l0:List Int) (A1:Option Addr) (c1:Nat) (l1:List Int) (r:Bool) (w:World) (a2:Kd.C (Kd.int .i64) w A0 l0.length l0) (a3:l0.length≤c0) (a4:Kd.C (Kd.int .i64) w A1 l1.length l1) (a5:l1.length≤c1) (h:cD.f k l0 l1 = some r) :
  Calls Tryz.prog 10 #[.slice A0 l0.length c0,.slice A1 l1.length c1] w fun e w'=>e = .returned (.bool r)∧cj w w':=by
 have a6:=ae.mk a2;have aw:=ae.mk a3;clear a2 a3;have a7:=ae.mk a4;have aB:=ae.mk a5;clear a4 a5;unfold cD.f at h;have H:=h;clear h;by_cases c3:(l0.length:Int) = (l1.length:Int)
 ·rw [if_pos c3] at H
  have a8:((l0.length:Int) == (l1.length:Int)) = true:=beq_iff_eq.mpr c3;have a9:((l0.length:Int) != (l1.length:Int)) = false:=bne_eq_false_iff_eq.mpr c3;have aa:(l0.length == l1.length) = true:=by first | simpa using c3 | (simp at c3 ⊢;omega)
  clear c3;have H':=ae.mk H;clear H;go_enter Tryz.func10,Tryz.ntmps10;go_wp2;repeat (go_quiet (fail);try go_wp2)
  go_loopg [5] k (fun kq v5 w'=>∃ (j:Int),v5 = .int .i64 j∧ae (cD.l0 kq l0 l1 j = some r)∧ae (kq≤k)∧cj w w')
  case atStart=>exact ⟨(0),na,H',⟨Nat.le_refl _⟩,oX⟩
  case round =>
   clear H';obtain ⟨j,rfl,HA,ab,⟨m1,rfl⟩⟩:=hrel;cases gk with
   | zero=>exact absurd HA.out (by simp [cD.l0])
   | succ k1 =>
    have H:=HA.out;clear HA;simp only [cD.l0] at H;by_cases c4:j < (l0.length:Int)
    ·rw [if_pos c4] at H
     have al:=decide_eq_true c4;clear c4;obtain ⟨c5,H⟩:=ol H;have ap:=decide_eq_true c5;clear c5;obtain ⟨c6,H⟩:=ol H;have ar:=decide_eq_true c6;clear c6;by_cases c7:(rd l0 j) = (rd l1 j)
     ·rw [if_pos c7] at H
      have am:((rd l0 j) == (rd l1 j)) = true:=beq_iff_eq.mpr c7;have ao:((rd l0 j) != (rd l1 j)) = false:=bne_eq_false_iff_eq.mpr c7;clear c7;have H':=ae.mk H;clear H;obtain ⟨M,y,I,X,Y⟩:=pf a6.out j;cases y
      obtain ⟨U,z,J,a0,a1⟩:=pf a7.out j;cases z
      go_wp2;repeat (go_quiet (fail);try go_wp2)
      go_roundg k1;case measure=>have:=ab.out;omega
      case rel=>exact ⟨(wrap64 (j+1)),na,H',⟨by have:=ab.out;omega⟩,oX⟩
     ·rw [if_neg c7] at H
      have am:((rd l0 j) == (rd l1 j)) = false:=beq_eq_false_iff_ne.mpr c7;have ao:((rd l0 j) != (rd l1 j)) = true:=bne_iff_ne.mpr c7;obtain rfl:=Option.some.inj H;obtain ⟨M,y,I,X,Y⟩:=pf a6.out j;cases y
      obtain ⟨U,z,J,a0,a1⟩:=pf a7.out j;cases z
      go_wp2;repeat (go_quiet (fail);try go_wp2)
      go_ret;exact ⟨na,oX⟩
    ·rw [if_neg c4] at H
     have al:decide (j < (l0.length:Int)) = false:=decide_eq_false c4;clear c4;obtain rfl:=Option.some.inj H;go_wp2;repeat (go_quiet (fail);try go_wp2)
     go_ret;exact ⟨na,oX⟩
 ·rw [if_neg c3] at H
  have a8:((l0.length:Int) == (l1.length:Int)) = false:=beq_eq_false_iff_ne.mpr c3;have a9:((l0.length:Int) != (l1.length:Int)) = true:=bne_iff_ne.mpr c3;have aa:(l0.length == l1.length) = false:=by first | simpa using c3 | (simp at c3 ⊢;omega)
  obtain rfl:=Option.some.inj H;go_enter Tryz.func10,Tryz.ntmps10;go_wp2;repeat (go_quiet (fail);try go_wp2)
  go_ret;exact ⟨na,oX⟩
def cg.l0:Nat→List Int→Int→Int→Option (Int×List Int)
 | 0,_,_,_=>none
 | k+1,y,z,j=>if j < (y.length:Int) then (if 0≤j then (cg.l0 k (y.set (j:Int).toNat z) (wrap64 (z+1)) (wrap64 (j+1))) else (none)) else (some (z,y))
def cg.f (k:Nat) (l0:List Int) (j:Int):Option (Int×List Int):=cg.l0 k l0 j 0
set_option maxHeartbeats 8000000 in
set_option maxRecDepth 100000 in
theorem cg.calls (k:Nat) (M:Nat→Prop) (z:Value) (l0:List Int) (a1:Int) (r1:Int) (r2:List Int) (w0 w:World) (hB:Below w0.heap.size w0 w) (aa:Kd.R (Kd.int .i64) 3 w w0.heap.size M z l0) (h:cg.f k l0 a1 = some (r1,r2)) :
  Calls Tryz.prog 11 #[z,.int .i64 a1] w fun e w'=>e = .returned (.int .i64 r1)∧Kd.R (Kd.int .i64) 3 w' w0.heap.size (fun k_=>(M k_∨w.heap.size≤k_)) z r2∧Below w0.heap.size w0 w'∧Kept w w' (fun k_=>M k_):=by
 have ab:=ae.mk (show Kd.R (Kd.int .i64) 3 w w0.heap.size (fun k_=>(M k_∨w.heap.size≤k_)) z l0 from Kd.aX aa (fun k_ hk=>(.inl hk)));have HK:=ae.mk (Kept.refl w (fun k_=>M k_));have aP:=ae.mk hB.size;have HB:=ae.mk hB;clear hB;unfold cg.f at h;have H:=h;clear h;have H':=ae.mk H;clear H;go_enter Tryz.func11,Tryz.ntmps11;go_wp2;go_loopg [1,5] k (fun kq v1 v5 w'=>∃ (I:List Int) (J:Int) (j:Int),v1 = .int .i64 J∧v5 = .int .i64 j∧ae (cg.l0 kq I J j = some (r1,r2))∧ae (kq≤k)∧ae (Kd.R (Kd.int .i64) 3 w' w0.heap.size (fun k_=>(M k_∨w.heap.size≤k_)) z I)∧ae (Kept w w' (fun k_=>M k_))∧ae (Below w0.heap.size w0 w'))
 case atStart=>exact ⟨(l0),(a1),(0),na,na,H',⟨Nat.le_refl _⟩,⟨ac ab.out⟩,⟨by repeat (first | (with_reducible first | exact HK.out | apply Kept.alloc | apply Kept.drewN | apply Kept.drew) | exact HK.out)⟩,⟨n8 HB.out⟩⟩
 case round =>
  clear H';obtain ⟨I,J,j,rfl,rfl,HA,a4,y,HK,HB⟩:=hrel;cases gk with
  | zero=>exact absurd HA.out (by simp [cg.l0])
  | succ k1 =>
   have H:=HA.out;clear HA;simp only [cg.l0] at H;by_cases c3:j < (I.length:Int)
   ·rw [if_pos c3] at H
    have a5:=decide_eq_true c3;clear c3;obtain ⟨c4,H⟩:=ol H;have aO:=decide_eq_true c4;clear c4;obtain ⟨X,U⟩:∃ y_:List Int,y_ = (I.set (j:Int).toNat J):=⟨_,rfl⟩
    replace H:(cg.l0 k1 X (wrap64 (J+1)) (wrap64 (j+1))) = some (r1,r2):=by (try rw [U]);exact ph
    have a0:=ae.mk U;clear U;have H':=ae.mk H;clear H;obtain ⟨aR,al,am⟩:=Kd.bE y.out;subst am;have p5:0≤(j:Int):=p0;have q5:(j:Int) < ((I.length:Int):Int):=p0;obtain ⟨Y,aS,a6,a7,ao,b0,a8⟩:=Kd.r7 y.out (by omega);(first | cases a6 | (injection a6 with a2 ap ar;(first | subst a2 | (injection a2 with a2;subst a2));subst ar;clear ap));have aw:=ae.mk a7;have b1:=ae.mk a8;clear a7 ao a8;have aB:=ae.mk (show (M Y∨w.heap.size≤Y) from (y.out.1 _ rfl));obtain ⟨aE,aF⟩:=Kd.qc 0 y.out (j:Int) p5 q5;replace p5:=eq_true p5;replace q5:=eq_true q5;have a3:=Kd.rq y.out (j:Int) J;go_wp2_with (first | ((with_reducible refine gz (t:=3) (p:=15) rfl ?_);refine fN (t:=3) (p:=15) (v:=?vo_w8) (w1:=(wr.setCell ⟨Y,(j:Int).toNat,none⟩ (.int .i64 J))) ?hg ?ho ?hn ?hr ?_;(case ho=>rfl);(case hg=>rfl);(case hn=>rfl);(case hr=>first | (go_simp;done) | (go_simp;rfl));intro w8 hw;have hg:wr.grownBy w8 (some Y):=(by rw [hw];exact a3.2);have a9:Kd.R (Kd.int .i64) 3 w8 w0.heap.size (fun k_=>(M k_∨w.heap.size≤k_)) (.slice (some ⟨Y,0,none⟩) I.length al) X:=(by rw [hw,a0.out];exact a3.1);clear a3;replace HB:=ae.mk ((by rw [hw];exact dY (HB.out) aw.out:Below w0.heap.size w0 w8));replace HK:=ae.mk (Kept.jL (S:=(fun k_=>M k_)) hg (by repeat (first | (with_reducible first | exact HK.out | apply Kept.alloc | apply Kept.drewN | apply Kept.drew) | exact HK.out)) (fun k_ e_=>(y.out.1 k_ e_)));replace y:=ae.mk a9;clear hg hw a9));go_roundg k1;case measure=>have:=a4.out;omega
    case rel=>exact ⟨(X),(wrap64 (J+1)),(wrap64 (j+1)),na,na,H',⟨by have:=a4.out;omega⟩,⟨ac y.out⟩,⟨by repeat (first | (with_reducible first | exact HK.out | apply Kept.alloc | apply Kept.drewN | apply Kept.drew) | exact HK.out)⟩,⟨n8 HB.out⟩⟩
   ·rw [if_neg c3] at H
    have a5:decide (j < (I.length:Int)) = false:=decide_eq_false c3;clear c3;simp only [Option.some.injEq,Prod.mk.injEq] at H;obtain ⟨rfl,rfl⟩:=H;obtain ⟨b2,b3,aL⟩:=Kd.bE y.out;subst aL;go_wp2;go_ret;exact ⟨pi,by (with_reducible repeat (first | apply Kd.ew | apply Kd.e5 | apply Kd.dz));exact y.out,nb,by repeat (first | (with_reducible first | exact HK.out | apply Kept.alloc | apply Kept.drewN | apply Kept.drew) | exact HK.out)⟩
def bP.l0:Nat→List Int→Int→Int→Option (Int)
 | 0,_,_,_=>none
 | k+1,y,z,j=>if j < (y.length:Int) then (if 0≤j then (if (rd y j) = z then (bP.l0 k y (wrap64 (z+1)) (wrap64 (j+1))) else (some (-1))) else (none)) else (some z)
def bP.f (k:Nat) (l0:List Int) (j:Int):Option (Int):=bP.l0 k l0 j 0
set_option maxHeartbeats 8000000 in
set_option maxRecDepth 100000 in
theorem bP.calls (k:Nat) (A0:Option Addr) (c0:Nat) (l0:List Int) (a1:Int) (r:Int) (w:World) (X:Kd.C (Kd.int .i64) w A0 l0.length l0) (Y:l0.length≤c0) (h:bP.f k l0 a1 = some r) :
  Calls Tryz.prog 12 #[.slice A0 l0.length c0,.int .i64 a1] w fun e w'=>e = .returned (.int .i64 r)∧cj w w':=by
 have a0:=ae.mk X;have a7:=ae.mk Y;clear X Y;unfold bP.f at h;have H:=h;clear h;have H':=ae.mk H;clear H;go_enter Tryz.func12,Tryz.ntmps12;go_wp2;go_loopg [1,5] k (fun kq v1 v5 w'=>∃ (y:Int) (j:Int),v1 = .int .i64 y∧v5 = .int .i64 j∧ae (bP.l0 kq l0 y j = some r)∧ae (kq≤k)∧cj w w')
 case atStart=>exact ⟨(a1),(0),na,na,H',⟨Nat.le_refl _⟩,oX⟩
 case round =>
  clear H';obtain ⟨y,j,rfl,rfl,HA,a2,⟨m1,rfl⟩⟩:=hrel;cases gk with
  | zero=>exact absurd HA.out (by simp [bP.l0])
  | succ k1 =>
   have H:=HA.out;clear HA;simp only [bP.l0] at H;by_cases c3:j < (l0.length:Int)
   ·rw [if_pos c3] at H
    have a3:=decide_eq_true c3;clear c3;obtain ⟨c4,H⟩:=ol H;have a6:=decide_eq_true c4;clear c4;by_cases c5:(rd l0 j) = y
    ·rw [if_pos c5] at H
     have a4:((rd l0 j) == y) = true:=beq_iff_eq.mpr c5;have a5:((rd l0 j) != y) = false:=bne_eq_false_iff_eq.mpr c5;clear c5;have H':=ae.mk H;clear H;obtain ⟨J,z,I,M,U⟩:=pf a0.out j;cases z
     go_wp2;go_roundg k1;case measure=>have:=a2.out;omega
     case rel=>exact ⟨(wrap64 (y+1)),(wrap64 (j+1)),na,na,H',⟨by have:=a2.out;omega⟩,oX⟩
    ·rw [if_neg c5] at H
     have a4:((rd l0 j) == y) = false:=beq_eq_false_iff_ne.mpr c5;have a5:((rd l0 j) != y) = true:=bne_iff_ne.mpr c5;obtain rfl:=Option.some.inj H;obtain ⟨J,z,I,M,U⟩:=pf a0.out j;cases z
     go_wp2;go_ret;exact ⟨na,oX⟩
   ·rw [if_neg c3] at H
    have a3:decide (j < (l0.length:Int)) = false:=decide_eq_false c3;clear c3;obtain rfl:=Option.some.inj H;go_wp2;go_ret;exact ⟨na,oX⟩
def dh.f (k:Nat) (a0:Int):Option (Bool):=(bH.f k a0).bind fun y=>((aZ.f k a0).bind fun z=>((cD.f k z y).bind fun M=>(if M = true then ((cg.f k z 1).bind fun j=>((bP.f k j.2 1).bind fun I=>(if I < 0 then (some false) else (if I = j.1 then ((aZ.f k a0).bind fun U=>((cD.f k U y).bind fun X=>(if X = true then ((bP.f k j.2 1).bind fun J=>(if J < 0 then (some false) else (if J = j.1 then (some true) else (some false)))) else (some false)))) else (some false))))) else (some false))))
set_option maxHeartbeats 8000000 in
set_option maxRecDepth 100000 in
theorem dh.calls (k:Nat) (a0:Int) (r:Bool) (w:World) (hT:ae (r = true)) (h:dh.f k a0 = some r) :
  Calls Tryz.prog 3 #[.int .i64 a0] w fun e w'=>e = .returned (.bool r)∧Below w.heap.size w w':=by
 have HB:=ae.mk (Below.refl w.heap.size w);unfold dh.f at h;have H:=h;clear h;obtain ⟨X,A2,H⟩:=oY H;(try dsimp only at H);obtain ⟨I,A3,H⟩:=oY H;(try dsimp only at H);obtain ⟨al,A4,H⟩:=oY H;(try dsimp only at H);by_cases c5:al = true
 ·subst c5
  replace H:((cg.f k I 1).bind fun Y=>((bP.f k Y.2 1).bind fun M=>(if M < 0 then (some false) else (if M = Y.1 then ((aZ.f k a0).bind fun a1=>((cD.f k a1 X).bind fun a6=>(if a6 = true then ((bP.f k Y.2 1).bind fun z=>(if z < 0 then (some false) else (if z = Y.1 then (some true) else (some false)))) else (some false)))) else (some false))))) = some r:=by rw [if_pos rfl] at H;exact H
  obtain ⟨⟨J,U⟩,A6,H⟩:=oY H;(try dsimp only at H);obtain ⟨M,A7,H⟩:=oY H;(try dsimp only at H);by_cases c8:M < 0
  ·rw [if_pos c8] at H
   have aw:=decide_eq_true c8;clear c8;obtain rfl:=Option.some.inj H;exact absurd hT.out (by decide)
  ·rw [if_neg c8] at H
   have aw:decide (M < 0) = false:=decide_eq_false c8;clear c8;by_cases c9:M = J
   ·rw [if_pos c9] at H
    have aB:(M == J) = true:=beq_iff_eq.mpr c9;have aE:(M != J) = false:=bne_eq_false_iff_eq.mpr c9;clear c9;obtain ⟨a1,b1,H⟩:=oY H;(try dsimp only at H);obtain ⟨a6,b2,H⟩:=oY H;(try dsimp only at H);by_cases a9:a6 = true
    ·subst a9
     replace H:((bP.f k U 1).bind fun z=>(if z < 0 then (some false) else (if z = J then (some true) else (some false)))) = some r:=by rw [if_pos rfl] at H;exact H
     obtain ⟨z,b3,H⟩:=oY H;(try dsimp only at H);by_cases a8:z < 0
     ·rw [if_pos a8] at H
      have am:=decide_eq_true a8;clear a8;obtain rfl:=Option.some.inj H;exact absurd hT.out (by decide)
     ·rw [if_neg a8] at H
      have am:decide (z < 0) = false:=decide_eq_false a8;clear a8;by_cases a7:z = J
      ·rw [if_pos a7] at H
       have ao:(z == J) = true:=beq_iff_eq.mpr a7;have ap:(z != J) = false:=bne_eq_false_iff_eq.mpr a7;clear a7;obtain rfl:=Option.some.inj H;go_enter Tryz.func3,Tryz.ntmps3;go_wp2_with (first | (refine ne (some 9) Tryz.func8 #[.int .i64 a0] ?_;(with_reducible refine (bH.calls k a0 X _ A2.out).mono ?_);rintro e bd ⟨b4,rfl,a2,hb⟩;refine ⟨_,rfl,?_⟩;have y:=ae.mk (Kd.bD a2 (an (n8 HB.out)));replace HB:=no HB hb;(try clear hb);(try clear aF);(try clear hk);(try clear hi);(try clear a2)) | (refine ne (some 11) Tryz.func9 #[.int .i64 a0] ?_;(with_reducible refine (aZ.calls k a0 I _ A3.out).mono ?_);rintro e bi ⟨ba,rfl,a2,hb⟩;refine ⟨_,rfl,?_⟩;have j:=ae.mk (Kd.bD (Kd.dj a2 (Kd.dx (ac y.out))) (an (n8 HB.out)));replace y:=ae.mk (Kd.cC (ac y.out) (Kd.bQ a2) hb);replace HB:=no HB hb;(try clear hb);(try clear aF);(try clear hk);(try clear hi);(try clear a2);obtain ⟨a3,a4,aL⟩:=Kd.bE j.out;subst aL;obtain ⟨aa,ab,aO⟩:=Kd.bE y.out;subst aO) | (refine ne (some 14) Tryz.func10 #[.slice a3 I.length a4,.slice aa X.length ab] ?_;(with_reducible refine (cD.calls k _ _ I _ _ X true _ ?side1 ?side2 ?side3 ?side4 A4.out).mono ?_);(case side1=>exact pa ((Kd.az j.out).2.2));(case side2=>exact (Kd.az j.out).2.1);(case side3=>exact pa ((Kd.az y.out).2.2));(case side4=>exact (Kd.az y.out).2.1);rintro e w' ⟨rfl,⟨nd,rfl⟩⟩;refine ⟨_,rfl,?_⟩) | (refine ne (some 18) Tryz.func11 #[.slice a3 I.length a4,.int .i64 1] ?_;(with_reducible refine (cg.calls k (fun k_=>some k_ = (.slice a3 I.length a4:Value).ownBlock) (.slice a3 I.length a4) I 1 J U w _ ?side1 ?side2 A6.out).mono ?_);(case side1=>repeat (first | (with_reducible first | exact HB.out | apply dm | apply cM | apply cu) | exact HB.out));(case side2=>exact Kd.gT rfl j.out);rintro e bk ⟨rfl,aP,hb,hkp⟩;refine ⟨_,rfl,?_⟩;replace y:=ae.mk (Kd.aX (ok':=fun k_=>some k_≠(.slice a3 I.length a4:Value).ownBlock) (Kd.qq (y.out) hkp (fun k_ ar hs_=>(by first | exact (ar.2) hs_ | (simp_all;done)))) (fun k_ ar=>ar.1.2));replace j:=ae.mk (Kd.rM rfl aP (fun k_ e_=>j.out.1 k_ e_));replace HB:=ae.mk hb;(try clear hb);(try clear hkp);(try clear aP)) | ((with_reducible refine aQ (f:=12) rfl ?_);refine mH (some 21) rfl rfl Tryz.func12 (by kernel_rfl) rfl #[.slice a3 U.length a4,.int .i64 1] rfl (by (try simp only [List.map_toArray,List.map_cons,List.map_nil]);first | done | (rw [show U.length = I.length from (Kd.az j.out).1.symm] <;> rfl) | rfl | (simp only [List.length_drop,List.length_take];rfl)) ?_;(with_reducible refine (bP.calls k _ _ U 1 M _ ?side1 ?side2 A7.out).mono ?_);(case side1=>exact pa ((Kd.az j.out).2.2));(case side2=>rw [show U.length = I.length from (Kd.az j.out).1.symm];exact (Kd.az j.out).2.1);rintro e w' ⟨rfl,⟨nd,rfl⟩⟩;refine ⟨_,rfl,?_⟩) | (refine ne (some 28) Tryz.func9 #[.int .i64 a0] ?_;(with_reducible refine (aZ.calls k a0 a1 _ b1.out).mono ?_);rintro e bm ⟨bc,rfl,a2,hb⟩;refine ⟨_,rfl,?_⟩;have a5:=ae.mk (Kd.bD (Kd.dj (Kd.dj a2 (Kd.dx (ac y.out))) (Kd.dx (ac j.out))) (an (n8 HB.out)));replace y:=ae.mk (Kd.cC (ac y.out) (Kd.bQ a2) hb);replace j:=ae.mk (Kd.cC (ac j.out) (Kd.bQ a2) hb);replace HB:=no HB hb;(try clear hb);(try clear aF);(try clear hk);(try clear hi);(try clear a2);obtain ⟨aR,aS,b0⟩:=Kd.bE a5.out;subst b0) | (refine ne (some 31) Tryz.func10 #[.slice aR a1.length aS,.slice aa X.length ab] ?_;(with_reducible refine (cD.calls k _ _ a1 _ _ X true _ ?side1 ?side2 ?side3 ?side4 b2.out).mono ?_);(case side1=>exact pa ((Kd.az a5.out).2.2));(case side2=>exact (Kd.az a5.out).2.1);(case side3=>exact pa ((Kd.az y.out).2.2));(case side4=>exact (Kd.az y.out).2.1);rintro e w' ⟨rfl,⟨nd,rfl⟩⟩;refine ⟨_,rfl,?_⟩) | ((with_reducible refine aQ (f:=12) rfl ?_);refine mH (some 35) rfl rfl Tryz.func12 (by kernel_rfl) rfl #[.slice a3 U.length a4,.int .i64 1] rfl (by (try simp only [List.map_toArray,List.map_cons,List.map_nil]);first | done | (rw [show U.length = I.length from (Kd.az j.out).1.symm] <;> rfl) | rfl | (simp only [List.length_drop,List.length_take];rfl)) ?_;(with_reducible refine (bP.calls k _ _ U 1 z _ ?side1 ?side2 b3.out).mono ?_);(case side1=>exact pa ((Kd.az j.out).2.2));(case side2=>rw [show U.length = I.length from (Kd.az j.out).1.symm];exact (Kd.az j.out).2.1);rintro e w' ⟨rfl,⟨nd,rfl⟩⟩;refine ⟨_,rfl,?_⟩));go_ret;exact ⟨pi,nb⟩
      ·rw [if_neg a7] at H
       have ao:(z == J) = false:=beq_eq_false_iff_ne.mpr a7;have ap:(z != J) = true:=bne_iff_ne.mpr a7;obtain rfl:=Option.some.inj H;exact absurd hT.out (by decide)
    ·replace a9:=Bool.eq_false_iff.mpr a9
     subst a9;replace H:(some false) = some r:=by rw [if_neg (show ¬ (false = true) by decide)] at H;exact H
     obtain rfl:=Option.some.inj H;exact absurd hT.out (by decide)
   ·rw [if_neg c9] at H
    have aB:(M == J) = false:=beq_eq_false_iff_ne.mpr c9;have aE:(M != J) = true:=bne_iff_ne.mpr c9;obtain rfl:=Option.some.inj H;exact absurd hT.out (by decide)
 ·replace c5:=Bool.eq_false_iff.mpr c5
  subst c5;replace H:(some false) = some r:=by rw [if_neg (show ¬ (false = true) by decide)] at H;exact H
  obtain rfl:=Option.some.inj H;exact absurd hT.out (by decide)
end Pr
end
section
namespace cU
open Go.RowKit ag.b6 ag.cA
theorem qW {i:Int} (j:-9223372036854775808≤i) (h1:i≤9223372036854775807):wrap64 i = i:=by
 unfold wrap64;omega
theorem dP (i:Nat) (h1:i < 9223372036854775807):wrap64 ((i:Int)+1) = ((i+1:Nat):Int):=by
 unfold wrap64;omega
theorem dI (xs:List Int) (i:Nat):rd xs (i:Int) = xs.getD i 0:=rfl
theorem pe {α β:Type} (xs:List α) (d:α) (g:α→β):(List.range xs.length).map (fun i=>g (xs.getD i d)) = xs.map g:=by
 apply List.ext_getElem?
 intro j;by_cases hj:j < xs.length
 ·simp [hj,List.getD]
 ·simp [hj]
theorem kJ {α:Type} (xs:List α) (d:α):(List.range xs.length).map (fun i=>xs.getD i d) = xs:=by
 have:=pe xs d id;simpa using this
theorem jX (L:Nat→Int→Option Bool) (n:Nat) (p:Nat→Bool) (K:Nat) (last:Bool)
  (hstep:∀ k i,K≤k→i < n→L (k+1) (i:Int) = if p i = true then L k ((i+1:Nat):Int) else some false)
  (hend:∀ k,K≤k→L (k+1) (n:Int) = some last) :
  ∀ (d i k:Nat),i+d = n→K+d < k→L k (i:Int) = some ((List.range' i d).all p && last):=by
 intro d;induction d with
 | zero =>
  intro i k hi hk;obtain rfl:i = n:=by omega
  obtain ⟨k,rfl⟩:∃ m,k = m+1:=⟨k - 1,by omega⟩
  simp [hend k (by omega)]
 | succ d ih =>
  intro i k hi hk;obtain ⟨k,rfl⟩:∃ m,k = m+1:=⟨k - 1,by omega⟩
  rw [hstep k i (by omega) (by omega),List.range'_succ];by_cases h:p i = true
  ·rw [if_pos h,ih (i+1) k (by omega) (by omega)]
   simp [h]
  ·rw [if_neg h]
   simp [h]
theorem ei {σ γ:Type} (L:Nat→σ→Int→Option γ) (n:Nat) (step:Nat→σ→σ) (P:Nat→σ→Prop) (r:γ)
  (y:∀ i s,i < n→P i s→P (i+1) (step i s)∧(Ev (fun k=>L k (step i s) ((i+1:Nat):Int)) r→Ev (fun k=>L k s (i:Int)) r)) :
  ∀ (d i:Nat) (s:σ),i+d = n→P i s→(P n ((List.range' i d).foldl (fun s j=>step j s) s)→Ev (fun k=>L k ((List.range' i d).foldl (fun s j=>step j s) s) (n:Int)) r)→Ev (fun k=>L k s (i:Int)) r:=by
 intro d;induction d with
 | zero =>
  intro i s hi hP h;obtain rfl:i = n:=by omega
  exact h (by simpa using hP)
 | succ d ih =>
  intro i s hi hP h;obtain ⟨h1,h2⟩:=y i s (by omega) hP;refine h2 (ih (i+1) (step i s) (by omega) h1 ?_);rw [List.range'_succ] at h;exact h
theorem di {γ:Type} {g:Nat→Option γ} {r:γ} (K:Nat) (h:∀ k,K≤k→g k = some r):Ev g r:=⟨K,h⟩
theorem foldl_append (p:Nat→Bool) (l:List Nat) (acc:List Int):l.foldl (fun s j=>if p j = true then s ++ [(j:Int)] else s) acc = acc ++ (l.filter p).map (fun j:Nat=>(j:Int)):=by
 induction l generalizing acc with
 | nil=>simp
 | cons a l ih =>
  rw [List.foldl_cons,ih];by_cases h:p a = true
  ·simp [h]
  ·simp [h]
theorem pg {σ:Type} (f:σ→Nat→σ) (l:List Nat) (s:σ) (h:∀ j∈l,∀ s,f s j = s):l.foldl f s = s:=by
 induction l generalizing s with
 | nil=>rfl
 | cons a l ih =>
  rw [List.foldl_cons,h a (by simp),ih _ (fun j hj=>h j (by simp [hj]))]
theorem mO {σ:Type} (f:σ→Nat→σ) (m d:Nat) (s:σ) (h:∀ j,m≤j→∀ s,f s j = s):(List.range' 0 (m+d)).foldl f s = (List.range' 0 m).foldl f s:=by
 rw [← List.range'_append_1,List.foldl_append];refine pg _ _ _ fun j hj=>h j ?_
 have:=List.mem_range'_1.1 hj;omega
theorem qA (l:List Nat):(l.all fun _=>true) = true:=List.all_eq_true.2 (fun _ _=>rfl)
end cU
end
section
namespace sD
open Go.RowKit Go.Proofs.YtlfkfdmggpipbaaGreat.Pr ag.b6 ag.cz ag.cA
theorem rS (xs:List Int) (hn:xs.length≤1048576) (k:Nat) (hk:xs.length < k):cD.f k xs xs = some true:=by
 unfold cD.f;rw [if_pos rfl];have:=cU.jX (fun k i=>cD.l0 k xs xs i) xs.length (fun _=>true) 0 true (fun k i _ hi=>by
  simp only [cD.l0];rw [if_pos (by omega),if_pos (by omega),if_pos (by omega),if_pos (by trivial),cU.dP i (by omega),if_pos (by trivial)]) (fun k _=>by
  simp only [cD.l0];rw [if_neg (by omega)]) xs.length 0 k (by omega) (by omega)
 simpa [cU.qA] using this
theorem ny (xs:List Int) (hn:xs.length≤1048576):Ev (fun k=>cD.f k xs xs) true:=cU.di (xs.length+1) (fun k hk=>rS xs hn k (by omega))
def marks (a:Int) (n:Nat):List Int:=(List.range n).map fun i:Nat=>a+(i:Int)
theorem gE (a:Int) (n:Nat):(marks a n).length = n:=by simp [marks]
theorem pn (xs:List Int) (a:Int) (hn:xs.length≤1048576) (J:0≤a) (h1:a≤2 ^ 50):Ev (fun k=>cg.f k xs a) (a+(xs.length:Int),marks a xs.length):=by
 unfold cg.f;refine cU.ei (fun k (s:List Int×Int) i=>cg.l0 k s.1 s.2 i) xs.length (fun i s=>(s.1.set i s.2,s.2+1)) (fun i s=>s.2 = a+(i:Int)∧s.1.length = xs.length∧∀ j,j < i→s.1[j]? = some (a+(j:Int))) _ (fun i s hi hP=>⟨?_,fun h=>Ev.step (fun k=>?_) h⟩) xs.length 0 (xs,a) (by omega) ⟨by simp,rfl,fun j hj=>by omega⟩ (fun hP=>cU.di 1 (fun k hk=>?_))
 ·obtain ⟨y,I,z⟩:=hP
  refine ⟨by show s.2+1 = _;rw [y];push_cast;omega,by simpa using I,fun j hj=>?_⟩;show (s.1.set i s.2)[j]? = _;rw [List.getElem?_set];by_cases e:i = j
  ·subst e
   rw [if_pos rfl,if_pos (by omega),y]
  ·rw [if_neg e]
   exact z j (by omega)
 ·obtain ⟨y,I,z⟩:=hP
  simp only [cg.l0];rw [if_pos (by omega),if_pos (by omega),cU.dP i (by omega),cU.qW (i:=s.2+1) (by omega) (by omega)];rfl
 ·obtain ⟨q,rfl⟩:∃ q,k = q+1:=⟨k - 1,by omega⟩
  generalize (List.range' 0 xs.length).foldl (fun (s:List Int×Int) j=>(s.1.set j s.2,s.2+1)) (xs,a) = s at hP ⊢;obtain ⟨y,I,z⟩:=hP;simp only [cg.l0];rw [if_neg (by omega),y];congr 2
  apply List.ext_getElem?
  intro j;by_cases hj:j < xs.length
  ·rw [z j hj]
   simp [marks,hj]
  ·rw [List.getElem?_eq_none (by omega),List.getElem?_eq_none (by rw [gE];omega)]
theorem po (a:Int) (n:Nat) (hn:n≤1048576) (j:0≤a) (h1:a≤2 ^ 50):Ev (fun k=>bP.f k (marks a n) a) (a+(n:Int)):=by
 unfold bP.f;refine cU.ei (fun k (s:Int) i=>bP.l0 k (marks a n) s i) n (fun i s=>s+1) (fun i s=>s = a+(i:Int)) _ (fun i s hi hP=>⟨?_,fun h=>Ev.step (fun k=>?_) h⟩) n 0 a (by omega) (by simp) (fun hP=>cU.di 1 (fun k hk=>?_))
 ·show s+1 = _
  rw [hP];push_cast;omega
 ·have hr:rd (marks a n) (i:Int) = s:=by
   rw [cU.dI,hP];simp [marks,List.getD,hi]
  simp only [bP.l0];rw [if_pos (by rw [gE];omega),if_pos (by omega),if_pos hr,cU.dP i (by omega),cU.qW (i:=s+1) (by omega) (by omega)]
 ·obtain ⟨q,rfl⟩:∃ q,k = q+1:=⟨k - 1,by omega⟩
  simp only [bP.l0];rw [if_neg (by rw [gE];omega),hP]
end sD
end
section
namespace Sets
open Go.RowKit ag.b6 ag.cA
theorem fq {γ:Type} (L:Nat→Int→Option γ) (n:Nat) (p:Nat→Bool) (S:γ→Prop)
  (hyes:∀ i,i < n→p i = true→∃ r,S r∧Ev (fun k=>L k (i:Int)) r)
  (hno:∀ i,i < n→p i = false→∀ r,Ev (fun k=>L k ((i+1:Nat):Int)) r→Ev (fun k=>L k (i:Int)) r) :
  ∀ d i:Nat,i+d = n→((List.range' i d).any p = true→∃ r,S r∧Ev (fun k=>L k (i:Int)) r)∧((List.range' i d).any p = false→∀ r,Ev (fun k=>L k (n:Int)) r→Ev (fun k=>L k (i:Int)) r):=by
 intro d;induction d with
 | zero =>
  intro i hi;obtain rfl:i = n:=by omega
  exact ⟨fun h=>by simp at h,fun _ r h=>h⟩
 | succ d ih =>
  intro i hi;obtain ⟨h1,h2⟩:=ih (i+1) (by omega);rw [List.range'_succ,List.any_cons];cases hp:p i with
  | true=>exact ⟨fun _=>hyes i (by omega) hp,fun h=>by simp at h⟩
  | false =>
   refine ⟨fun h=>?_,fun h r hr=>hno i (by omega) hp r (h2 (by simpa using h) r hr)⟩;obtain ⟨r,hr,hE⟩:=h1 (by simpa using h);exact ⟨r,hr,hno i (by omega) hp r hE⟩
theorem ig (n:Int) (j:0≤n) (h1:n < 2 ^ 62):IntKind.i64.wrap n = n:=by
 rw [IntKind.wrap_i64];omega
theorem qB (a b:Nat) (ha:a < 2 ^ 62) (hb:b < 2 ^ 62):Go.bits .and .i64 (a:Int) (b:Int) = ((a &&& b:Nat):Int):=(bits_nat .i64 62 (by decide) ig a b ha hb).1
theorem mP (a b:Nat) (ha:a < 2 ^ 62) (hb:b < 2 ^ 62):Go.bits .or .i64 (a:Int) (b:Int) = ((a ||| b:Nat):Int):=(bits_nat .i64 62 (by decide) ig a b ha hb).2
def diff (a b:Nat):Nat:=a ^^^ (a &&& b)
theorem eE (a b i:Nat):(diff a b).testBit i = (a.testBit i && !b.testBit i):=by
 unfold diff;rw [Nat.testBit_xor,Nat.testBit_and];cases a.testBit i <;> cases b.testBit i <;> rfl
theorem fQ {a b:Nat} {n:Nat} (ha:a < 2 ^ n):diff a b < 2 ^ n:=by
 apply Nat.lt_pow_two_of_testBit
 intro i hi;rw [eE,Nat.testBit_lt_two_pow (Nat.lt_of_lt_of_le ha (Nat.pow_le_pow_right (by decide) hi))];rfl
theorem fM (a b:Nat) (ha:a < 2 ^ 62):Go.bits .andNot .i64 (a:Int) (b:Int) = ((diff a b:Nat):Int):=by
 have j:(2:Nat) ^ 62≤2 ^ 64:=by decide
 have key:(BitVec.ofNat 64 a &&& ~~~(BitVec.ofNat 64 b)).toNat = diff a b:=by
  apply Nat.eq_of_testBit_eq
  intro i;rw [eE,BitVec.testBit_toNat,BitVec.getLsbD_and,BitVec.getLsbD_not,BitVec.getLsbD_ofNat,BitVec.getLsbD_ofNat];by_cases hi:i < 64
  ·simp [hi]
  ·have:a.testBit i = false:=Nat.testBit_lt_two_pow (Nat.lt_of_lt_of_le ha (Nat.pow_le_pow_right (by decide) (by omega)))
   simp [hi,this]
 show IntKind.i64.wrap ((BitVec.ofInt 64 (a:Int) &&& ~~~(BitVec.ofInt 64 (b:Int))).toNat:Int) = _;have y:BitVec.ofInt 64 (a:Int) = BitVec.ofNat 64 a:=by simp
 have z:BitVec.ofInt 64 (b:Int) = BitVec.ofNat 64 b:=by simp
 rw [y,z,key];have:=fQ (b:=b) ha;exact ig _ (by omega) (by exact_mod_cast this)
theorem eT (e:Nat) (he:e < 62):shl .i64 1 (e:Int) = ((2 ^ e:Nat):Int):=by
 unfold shl;have h1:min ((e:Int)).toNat IntKind.i64.bits = e:=by
  show min e 64 = e;omega
 rw [h1,Int.one_mul];have h2:(2:Nat) ^ e < 2 ^ 62:=Nat.pow_lt_pow_right (by decide) he;rw [ig _ (by exact_mod_cast Nat.zero_le _) (by exact_mod_cast h2)];push_cast
 rfl
theorem lB (a e:Nat) (he:e < 62) (ha:a < 2 ^ 62):((Go.bits .and .i64 (shr .i64 (a:Int) (e:Int)) 1) == 1) = a.testBit e:=by
 unfold shr;have h1:min ((e:Int)).toNat IntKind.i64.bits = e:=by
  show min e 64 = e;omega
 rw [h1];have h2:((a:Int) / 2 ^ e) = ((a / 2 ^ e:Nat):Int):=by push_cast;rfl
 have h3:a / 2 ^ e < 2 ^ 62:=Nat.lt_of_le_of_lt (Nat.div_le_self _ _) ha;rw [h2,show (1:Int) = ((1:Nat):Int) from rfl,qB _ 1 h3 (by decide),Nat.testBit_eq_decide_div_mod_eq,Nat.and_one_is_mod];by_cases h:a / 2 ^ e % 2 = 1
 ·simp [h]
 ·have h4:a / 2 ^ e % 2 = 0:=by omega
  simp [h4]
theorem gF {a n e:Nat} (ha:a < 2 ^ n) (he:n≤e):a.testBit e = false:=Nat.testBit_lt_two_pow (Nat.lt_of_lt_of_le ha (Nat.pow_le_pow_right (by decide) he))
theorem swap_eq:∀ a,a < 256→∀ e,e < 8→∀ f,f < 8→a.testBit e = true→a.testBit f = false→diff a (2 ^ e) ||| 2 ^ f = a - 2 ^ e+2 ^ f:=by decide +kernel
theorem rT:∀ a,a < 256→∀ e,e < 8→a.testBit e = true→2 ^ e≤a:=by decide +kernel
def elems (s:Nat):List Nat:=(List.range' 0 8).filter fun j=>s.testBit j
def eK (l:List Nat) (a b e:Nat):Bool:=(List.range' 0 8).any fun f=>b.testBit f && !a.testBit f && l.contains (a - 2 ^ e+2 ^ f)
def gr (l:List Nat):Bool:=l.any fun a=>l.any fun b=>(List.range' 0 8).any fun e=>a.testBit e && !b.testBit e && !eK l a b e
def ints (l:List Nat):List Int:=l.map fun j:Nat=>(j:Int)
theorem ay (l:List Nat):(ints l).length = l.length:=by simp [ints]
theorem jf (l:List Nat) (i:Nat):(ints l).getD i 0 = ((l.getD i 0:Nat):Int):=by
 by_cases h:i < l.length
 ·simp [ints,List.getD,h]
 ·simp [ints,List.getD,h]
theorem dX (l:List Nat) (i:Nat):rd (ints l) (i:Int) = ((l.getD i 0:Nat):Int):=by rw [cU.dI,jf]
theorem gu {α:Type} (l:List α) (d:α) (p:α→Bool):((List.range' 0 l.length).any fun i=>p (l.getD i d)) = l.any p:=by
 rw [Bool.eq_iff_iff];simp only [List.any_eq_true];constructor
 ·rintro ⟨i,hi,hp⟩
  have hlt:i < l.length:=by have:=List.mem_range'_1.1 hi;omega
  refine ⟨l[i],List.getElem_mem hlt,?_⟩;simpa [List.getD,hlt] using hp
 ·rintro ⟨x,hx,hp⟩
  obtain ⟨i,hi,rfl⟩:=List.getElem_of_mem hx;exact ⟨i,List.mem_range'_1.2 (by omega),by simpa [List.getD,hi] using hp⟩
theorem pq (p:Nat→Bool) (m d:Nat) (h:∀ j,m≤j→p j = false):(List.range' 0 (m+d)).any p = (List.range' 0 m).any p:=by
 rw [← List.range'_append_1,List.any_append];have:(List.range' (0+m) d).any p = false:=by
  rw [List.any_eq_false];intro j hj;have:=List.mem_range'_1.1 hj;rw [h j (by omega)];decide
 rw [this,Bool.or_false]
theorem pz (m:Nat) (hm:m≤8) (p:Nat→Bool) (h:∀ j,m≤j→p j = false):(List.range' 0 m).any p = (List.range' 0 8).any p:=by
 have:=pq p m (8 - m) h;rw [show m+(8 - m) = 8 by omega] at this;exact this.symm
theorem kK (s:Nat) (q:Nat→Bool):(elems s).any q = (List.range' 0 8).any fun j=>s.testBit j && q j:=by
 unfold elems;rw [List.any_filter]
theorem gN {s j:Nat} (h:j∈elems s):j < 8∧s.testBit j = true:=by
 unfold elems at h;obtain ⟨h1,h2⟩:=List.mem_filter.1 h;have:=List.mem_range'_1.1 h1;exact ⟨by omega,h2⟩
theorem ej (s:Nat):(elems s).length≤8:=by
 unfold elems;exact Nat.le_trans (List.length_filter_le _ _) (by simp)
theorem dU {m:Nat} (hm:m≤8):(2:Nat) ^ m≤256:=Nat.pow_le_pow_right (n:=2) (by decide) hm
theorem qC:∀ a,a < 256→∀ e,e < 8→∀ f,f < 8→a.testBit e = true→a.testBit f = false→a - 2 ^ e+2 ^ f < 256:=by decide +kernel
theorem ek {α:Type} (l:List α) (d:α) (i:Nat) (h:i < l.length):l.getD i d∈l:=by
 have:l.getD i d = l[i]:=by simp [List.getD,h]
 rw [this];exact List.getElem_mem h
end Sets
end
section
namespace oz
open Go.RowKit Go.Proofs.YtlfkfdmggpipbaaGreat.Pr Go.Proofs.YtlfkfdmggpipbaaGreat.Sets ag.b6 ag.cz ag.cA
set_option linter.unusedVariables false
def isSet (n s:Int):Bool:=decide (0≤n∧n≤8∧0≤s∧s < 2 ^ n.toNat)
theorem o4 (n s:Int):ep.f n s = some (isSet n s):=by
 unfold ep.f cw.f isSet;by_cases j:n≥0
 ·rw [if_pos j]
  simp only [Option.bind_some];by_cases h1:n≤8
  ·rw [if_pos (decide_eq_true h1)]
   obtain ⟨m,rfl⟩:∃ m:Nat,n = m:=⟨n.toNat,by omega⟩
   by_cases h2:s≥0
   ·rw [if_pos h2,if_pos j,eT m (by omega)]
    congr 1
    rw [decide_eq_decide];simp only [Int.toNat_natCast];push_cast
    omega
   ·rw [if_neg h2,decide_eq_false (by omega)]
  ·rw [if_neg (by rw [decide_eq_true_eq];exact h1),decide_eq_false (by omega)]
 ·rw [if_neg j]
  simp only [Option.bind_some];rw [if_neg (by decide),decide_eq_false (by omega)]
theorem o5 (n s:Int):cH.f n s = some (isSet n s):=by
 unfold cH.f bG.f isSet;by_cases j:n≥0
 ·rw [if_pos j]
  simp only [Option.bind_some];by_cases h1:n≤8
  ·rw [if_pos (decide_eq_true h1)]
   obtain ⟨m,rfl⟩:∃ m:Nat,n = m:=⟨n.toNat,by omega⟩
   have hu:IntKind.u64.wrap (m:Int) = m:=by
    have:m = 0∨m = 1∨m = 2∨m = 3∨m = 4∨m = 5∨m = 6∨m = 7∨m = 8:=by omega
    rcases this with rfl | rfl | rfl | rfl | rfl | rfl | rfl | rfl | rfl <;> decide +kernel
   have hp:=dU (m:=m) (by omega);have y:1≤2 ^ m:=Nat.one_le_two_pow;rw [hu,if_pos j,eT m (by omega),cU.qW (by omega) (by omega)];by_cases h2:s≥0
   ·rw [if_pos h2]
    simp only [Option.bind_some];congr 1
    rw [decide_eq_decide];simp only [Int.toNat_natCast];have:((2:Int) ^ m) = ((2 ^ m:Nat):Int):=by push_cast;rfl
    rw [this];omega
   ·rw [if_neg h2]
    simp only [Option.bind_some];rw [decide_eq_false (by omega)]
  ·rw [if_neg (by rw [decide_eq_true_eq];exact h1),decide_eq_false (by omega)]
 ·rw [if_neg j]
  simp only [Option.bind_some];rw [if_neg (by decide),decide_eq_false (by omega)]
def nA (n:Int) (l:List Int):Bool:=((List.range' 0 l.length).all fun i=>isSet n (l.getD i 0) && (decide (i = 0) || decide (l.getD (i - 1) 0 < l.getD i 0))) && decide (0≤n∧n≤8)
theorem jY (n:Int) (l:List Int) (hn:l.length≤1048576) (k:Nat) (hk:l.length < k):bB.f k n l = some (nA n l):=by
 unfold bB.f nA;refine cU.jX (fun k i=>bB.l0 k n l l (l.length:Int) i) l.length (fun i=>isSet n (l.getD i 0) && (decide (i = 0) || decide (l.getD (i - 1) 0 < l.getD i 0))) 0 (decide (0≤n∧n≤8)) (fun k i _ hi=>?_) (fun k _=>?_) l.length 0 k (by omega) (by omega)
 ·simp only [bB.l0]
  rw [if_pos (by omega),if_pos (by omega),if_pos (by omega),o4,cU.dI];simp only [Option.bind_some];cases isSet n (l.getD i 0) with
  | false=>rfl
  | true =>
   rw [if_pos rfl,cU.dP i (by omega)];by_cases j:i = 0
   ·subst j
    rw [if_neg (by decide),if_pos (by rfl)]
   ·rw [if_pos (by omega),cU.qW (by omega) (by omega),show (i:Int) - 1 = ((i - 1:Nat):Int) by omega,if_pos (by omega),if_pos (by omega),cU.dI]
    by_cases h1:l.getD i 0≤l.getD (i - 1) 0
    ·rw [if_pos h1,decide_eq_false j,decide_eq_false (by omega)]
     rfl
    ·rw [if_neg h1,decide_eq_false j,decide_eq_true (by omega)]
     rfl
 ·simp only [bB.l0]
  rw [if_neg (by omega)];unfold cw.f;by_cases j:n≥0
  ·rw [if_pos j]
   simp only [Option.bind_some];congr 1
   rw [decide_eq_decide];omega
  ·rw [if_neg j,decide_eq_false (by omega)]
   rfl
theorem jZ (n:Int) (l:List Int) (hn:l.length≤1048576) (k:Nat) (hk:l.length < k):bA.f k n l = some (nA n l):=by
 unfold bA.f nA;refine cU.jX (fun k i=>bA.l0 k n l i) l.length (fun i=>isSet n (l.getD i 0) && (decide (i = 0) || decide (l.getD (i - 1) 0 < l.getD i 0))) 0 (decide (0≤n∧n≤8)) (fun k i _ hi=>?_) (fun k _=>?_) l.length 0 k (by omega) (by omega)
 ·simp only [bA.l0]
  rw [if_pos (by omega),if_pos (by omega),o5,cU.dI];simp only [Option.bind_some];cases isSet n (l.getD i 0) with
  | false=>rfl
  | true =>
   rw [if_pos rfl,cU.dP i (by omega)];by_cases j:i = 0
   ·subst j
    rw [if_neg (by decide),if_pos (by rfl)]
   ·rw [if_pos (by omega),cU.qW (by omega) (by omega),show (i:Int) - 1 = ((i - 1:Nat):Int) by omega,if_pos (by omega),if_pos (by omega),cU.dI]
    by_cases h1:l.getD (i - 1) 0≥l.getD i 0
    ·rw [if_pos h1,decide_eq_false j,decide_eq_false (by omega)]
     rfl
    ·rw [if_neg h1,decide_eq_false j,decide_eq_true (by omega)]
     rfl
 ·simp only [bA.l0]
  rw [if_neg (by omega)];unfold bG.f;by_cases j:n≥0
  ·rw [if_pos j]
   simp only [Option.bind_some];congr 1
   rw [decide_eq_decide];omega
  ·rw [if_neg j,decide_eq_false (by omega)]
   rfl
theorem lC {n:Int} {l:List Int} (h:nA n l = true):∃ (m:Nat) (j:List Nat),n = m∧m≤8∧l = ints j∧∀ s∈j,s < 2 ^ m:=by
 unfold nA at h;rw [Bool.and_eq_true,decide_eq_true_eq] at h;obtain ⟨hl,y,z⟩:=h;have key:∀ s∈l,0≤s∧s < 2 ^ n.toNat:=fun s hs=>by
  obtain ⟨i,hi,rfl⟩:=List.getElem_of_mem hs;have:=List.all_eq_true.1 hl i (List.mem_range'_1.2 (by omega));rw [Bool.and_eq_true] at this;have h1:=this.1;unfold isSet at h1;rw [decide_eq_true_eq] at h1;have e:l.getD i 0 = l[i]:=by simp [List.getD,hi]
  rw [e] at h1;exact ⟨h1.2.2.1,h1.2.2.2⟩
 refine ⟨n.toNat,l.map Int.toNat,by omega,by omega,?_,fun s hs=>?_⟩
 ·unfold ints
  rw [List.map_map];conv=>lhs;rw [← List.map_id l]
  refine List.map_congr_left fun s hs=>?_
  have:=(key s hs).1;show s = ((s.toNat:Nat):Int)
  omega
 ·obtain ⟨x,hx,rfl⟩:=List.mem_map.1 hs
  obtain ⟨h1,h2⟩:=key x hx;have e:((2:Int) ^ n.toNat) = ((2 ^ n.toNat:Nat):Int):=by push_cast;rfl
  rw [e] at h2;omega
theorem index (l:List Nat) (x:Nat) (hn:l.length≤1048576):∀ (d i k:Nat),i+d = l.length→d < k→∃ r,aM.l0 k (ints l) (x:Int) ((ints l).length:Int) (i:Int) = some r∧decide (r≥0) = (l.drop i).contains x:=by
 intro d;induction d with
 | zero =>
  intro i k hi hk;obtain ⟨k,rfl⟩:∃ m,k = m+1:=⟨k - 1,by omega⟩
  refine ⟨-1,?_,?_⟩
  ·simp only [aM.l0]
   rw [if_neg (by rw [ay];omega)]
  ·rw [List.drop_of_length_le (by omega)]
   rfl
 | succ d ih =>
  intro i k hi hk;obtain ⟨k,rfl⟩:∃ m,k = m+1:=⟨k - 1,by omega⟩
  have hlt:i < l.length:=by omega
  simp only [aM.l0];rw [if_pos (by rw [ay];omega),if_pos (by omega),if_pos (by rw [ay];omega),dX,cU.dP i (by omega)];have hd:l.drop i = l.getD i 0 :: l.drop (i+1):=by
   rw [List.drop_eq_getElem_cons hlt];simp [List.getD,hlt]
  rw [hd];by_cases h:x = l.getD i 0
  ·refine ⟨i,by rw [if_pos (by omega)],?_⟩
   rw [← h,List.contains_cons,beq_self_eq_true,Bool.true_or,decide_eq_true (by omega)]
  ·obtain ⟨r,h1,h2⟩:=ih (i+1) k (by omega) (by omega)
   refine ⟨r,by rw [if_neg (by omega)];exact h1,?_⟩;rw [h2,List.contains_cons,beq_eq_false_iff_ne.2 h,Bool.false_or]
theorem nB (l:List Nat) (x:Nat) (hn:l.length≤1048576) (k:Nat) (hk:l.length < k):eG.f k (ints l) (x:Int) = some (l.contains x):=by
 unfold eG.f aV.f aM.f;obtain ⟨r,h1,h2⟩:=index l x hn l.length 0 k (by omega) hk;rw [show (0:Int) = ((0:Nat):Int) from rfl,h1];simp only [Option.bind_some];rw [show ((0:Nat):Int) = (0:Int) from rfl,h2,List.drop_zero]
theorem lD (l:List Nat) (x:Nat) (hn:l.length≤1048576) (k:Nat) (hk:l.length < k):bL.f k (ints l) (x:Int) = some (l.contains x):=by
 unfold bL.f;have key:∀ (d i k:Nat),i+d = l.length→d < k→bL.l0 k (ints l) (x:Int) (i:Int) = some ((l.drop i).contains x):=by
  intro d;induction d with
  | zero =>
   intro i k hi hk;obtain ⟨k,rfl⟩:∃ m,k = m+1:=⟨k - 1,by omega⟩
   simp only [bL.l0];rw [if_neg (by rw [ay];omega),List.drop_of_length_le (by omega)];rfl
  | succ d ih =>
   intro i k hi hk;obtain ⟨k,rfl⟩:∃ m,k = m+1:=⟨k - 1,by omega⟩
   have hlt:i < l.length:=by omega
   simp only [bL.l0];rw [if_pos (by rw [ay];omega),if_pos (by omega),dX,cU.dP i (by omega)];have hd:l.drop i = l.getD i 0 :: l.drop (i+1):=by
    rw [List.drop_eq_getElem_cons hlt];simp [List.getD,hlt]
   rw [hd,List.contains_cons];by_cases h:l.getD i 0 = x
   ·rw [if_pos (by omega),← h,beq_self_eq_true,Bool.true_or]
   ·rw [if_neg (by omega),ih (i+1) k (by omega) (by omega),beq_eq_false_iff_ne.2 (Ne.symm h),Bool.false_or]
 have:=key l.length 0 k (by omega) hk;rw [List.drop_zero] at this;exact this
theorem pA (s:Nat) (j:Nat) (hs:s < 256) (hj:j < 8):dy.f (s:Int) (j:Int) = some (s.testBit j):=by
 unfold dy.f dH.f;rw [if_pos (by omega)];simp only [Option.bind_some];rw [if_pos (decide_eq_true (by omega)),if_pos (by omega),if_pos (by omega),if_pos (by omega),lB s j (by omega) (by omega)]
theorem mc (s:Nat):((List.range' 0 8).foldl (fun (acc:List Int) (j:Nat)=>if s.testBit j = true then acc ++ [(j:Int)] else acc) []) = ints (elems s):=by
 rw [cU.foldl_append (fun j=>s.testBit j)];rfl
theorem fl (s:Nat) (hs:s < 256):Ev (fun k=>aJ.f k (s:Int)) (ints (elems s)):=by
 unfold aJ.f;refine cU.ei (fun k y i=>aJ.l0 k (s:Int) y i) 8 (fun j y=>if s.testBit j = true then y ++ [(j:Int)] else y) (fun i y=>y.length≤i) _ (fun i y hi hP=>⟨?_,fun h=>Ev.step (fun k=>?_) h⟩) 8 0 [] rfl (by simp) (fun _=>cU.di 1 (fun k hk=>?_))
 ·by_cases hh:s.testBit i = true
  ·rw [if_pos hh];simp;omega
  ·rw [if_neg hh];omega
 ·simp only [aJ.l0]
  rw [if_pos (by omega),pA s i hs hi];simp only [Option.bind_some];rw [cU.dP i (by omega)];by_cases hh:s.testBit i = true
  ·rw [if_pos hh,if_pos (by omega),if_pos hh]
  ·rw [if_neg hh,if_neg hh]
 ·obtain ⟨m,rfl⟩:∃ m,k = m+1:=⟨k - 1,by omega⟩
  simp only [aJ.l0];rw [if_neg (by omega),mc]
theorem o6 (g:Int→Option Bool) (fs:List Nat) (v:Nat→Bool) (hn:fs.length≤1048576) (hg:∀ f∈fs,g (f:Int) = some (v f)) :
  ∀ (d i k:Nat),i+d = fs.length→d < k→∃ r,b9.l0 g k (ints fs) (i:Int) = some r∧decide (r≥0) = (fs.drop i).any v:=by
 intro d;induction d with
 | zero =>
  intro i k hi hk;obtain ⟨k,rfl⟩:∃ m,k = m+1:=⟨k - 1,by omega⟩
  refine ⟨-1,?_,?_⟩
  ·simp only [b9.l0]
   rw [if_neg (by rw [ay];omega)]
  ·rw [List.drop_of_length_le (by omega)]
   rfl
 | succ d ih =>
  intro i k hi hk;obtain ⟨k,rfl⟩:∃ m,k = m+1:=⟨k - 1,by omega⟩
  have hlt:i < fs.length:=by omega
  simp only [b9.l0];rw [if_pos (by rw [ay];omega),if_pos (by omega),dX,hg _ (ek fs 0 i hlt),cU.dP i (by omega)];simp only [Option.bind_some];have hd:fs.drop i = fs.getD i 0 :: fs.drop (i+1):=by
   rw [List.drop_eq_getElem_cons hlt];simp [List.getD,hlt]
  rw [hd,List.any_cons];cases hv:v (fs.getD i 0) with
  | true=>exact ⟨i,by rw [if_pos rfl],by rw [decide_eq_true (by omega),Bool.true_or]⟩
  | false =>
   obtain ⟨r,h1,h2⟩:=ih (i+1) k (by omega) (by omega);exact ⟨r,by rw [if_neg (by decide)];exact h1,by rw [h2,Bool.false_or]⟩
theorem iV (g:Int→Option Bool) (fs:List Nat) (v:Nat→Bool) (hn:fs.length≤1048576) (hg:∀ f∈fs,g (f:Int) = some (v f)) (k:Nat) (hk:fs.length < k) :
  bJ.f k (ints fs) g = some (fs.any v):=by
 unfold bJ.f b9.f;obtain ⟨r,h1,h2⟩:=o6 g fs v hn hg fs.length 0 k (by omega) hk;rw [show (0:Int) = ((0:Nat):Int) from rfl,h1];simp only [Option.bind_some];rw [show ((0:Nat):Int) = (0:Int) from rfl,h2,List.drop_zero]
theorem me (l:List Nat) (a e f:Nat) (hn:l.length≤1048576) (ha:a < 256) (he:e < 8) (hf:f < 8) (hae:a.testBit e = true) (j:a.testBit f = false) (k:Nat) (hk:l.length < k) :
  bK.f k (ints l) (a:Int) (e:Int) (f:Int) = some (l.contains (a - 2 ^ e+2 ^ f)):=by
 unfold bK.f;have h1:(2:Nat) ^ e < 2 ^ 62:=Nat.pow_lt_pow_right (by decide) (by omega);have h2:(2:Nat) ^ f < 2 ^ 62:=Nat.pow_lt_pow_right (by decide) (by omega);have h3:diff a (2 ^ e) < 2 ^ 8:=fQ (n:=8) (by omega);rw [if_pos (by omega),if_pos (by omega),eT e (by omega),eT f (by omega),fM a _ (by omega),mP _ _ (by omega) h2,swap_eq a ha e he f hf hae j];exact nB l _ hn k hk
theorem k4 (l:List Nat) (a b e:Nat):eK l a b e = (elems (diff b a)).any fun f=>l.contains (a - 2 ^ e+2 ^ f):=by
 rw [kK];unfold eK;congr 1
 funext f
 rw [eE]
theorem mg (l:List Nat):gr l = l.any fun a=>l.any fun b=>(elems (diff a b)).any fun e=>!eK l a b e:=by
 unfold gr;congr 1
 funext a
 congr 1
 funext b
 rw [kK];congr 1
 funext e
 rw [eE]
theorem o7 (m:Nat) (hm:m≤8) (l:List Nat) (hl:∀ s∈l,s < 2 ^ m) (hn:l.length≤1048576) (hf:nA (m:Int) (ints l) = true) :
  ∃ x y z,Ev (fun k=>av.f k (m:Int) (ints l)) (x,y,z,gr l):=by
 have U:=dU hm;have hlt:∀ i,i < l.length→l.getD i 0 < 256:=fun i hi=>Nat.lt_of_lt_of_le (hl _ (ek l 0 i hi)) U
 have inner:∀ x y:Nat,x < l.length→y < l.length→∀ d i:Nat,i+d = (elems (diff (l.getD x 0) (l.getD y 0))).length→_:=fun x y hx hy =>
  fq (fun k z=>av.l2 k (m:Int) (ints l) (x:Int) ((l.getD x 0:Nat):Int) (y:Int) ((l.getD y 0:Nat):Int) (ints (elems (diff (l.getD x 0) (l.getD y 0)))) z) (elems (diff (l.getD x 0) (l.getD y 0))).length
   (fun z=>!eK l (l.getD x 0) (l.getD y 0) ((elems (diff (l.getD x 0) (l.getD y 0))).getD z 0)) (fun r=>r.2.2.2 = true)
   (by
    intro z hz hp;have ha:=hlt x hx;have hb:=hlt y hy;obtain ⟨he,hbit⟩:=gN (ek _ 0 z hz);rw [eE,Bool.and_eq_true] at hbit;have X:=ej (diff (l.getD x 0) (l.getD y 0));have hd:diff (l.getD y 0) (l.getD x 0) < 2 ^ 8:=fQ (n:=8) (by omega);refine ⟨(((l.getD x 0:Nat):Int),((l.getD y 0:Nat):Int),(((elems (diff (l.getD x 0) (l.getD y 0))).getD z 0:Nat):Int),true),rfl,?_⟩;refine Ev.step (f:=fun k=>(aJ.f k (Go.bits .andNot .i64 ((l.getD y 0:Nat):Int) ((l.getD x 0:Nat):Int))).bind fun fs=>((bJ.f k fs (fun f=>bK.f k (ints l) ((l.getD x 0:Nat):Int) (((elems (diff (l.getD x 0) (l.getD y 0))).getD z 0:Nat):Int) f)).bind fun t=>(if t = true then (av.l2 k (m:Int) (ints l) (x:Int) ((l.getD x 0:Nat):Int) (y:Int) ((l.getD y 0:Nat):Int) (ints (elems (diff (l.getD x 0) (l.getD y 0)))) ((z+1:Nat):Int)) else (some (((l.getD x 0:Nat):Int),((l.getD y 0:Nat):Int),(((elems (diff (l.getD x 0) (l.getD y 0))).getD z 0:Nat):Int),true))))) (fun k=>?_) ?_
    ·simp only [av.l2]
     rw [if_pos (by rw [ay];omega),if_pos (by omega),dX,cU.dP z (by omega)]
    ·rw [fM _ _ (by omega)]
     refine Ev.bind (fl _ (by omega)) ?_;refine Ev.bind (a:=eK l (l.getD x 0) (l.getD y 0) ((elems (diff (l.getD x 0) (l.getD y 0))).getD z 0)) (cU.di (1048577+8) (fun k hk=>?_)) ?_
     ·rw [k4]
      refine iV _ _ _ (by have:=ej (diff (l.getD y 0) (l.getD x 0));omega) (fun f hf=>?_) k (by have:=ej (diff (l.getD y 0) (l.getD x 0));omega);obtain ⟨M,hfb⟩:=gN hf;rw [eE,Bool.and_eq_true] at hfb;exact me l _ _ _ hn ha he M hbit.1 (by simpa using hfb.2) k (by omega)
     ·have hp':eK l (l.getD x 0) (l.getD y 0) ((elems (diff (l.getD x 0) (l.getD y 0))).getD z 0) = false:=by simpa using hp
      rw [hp'];exact Ev.now _)
   (by
    intro z hz hp r hr;have ha:=hlt x hx;have hb:=hlt y hy;obtain ⟨he,hbit⟩:=gN (ek _ 0 z hz);rw [eE,Bool.and_eq_true] at hbit;have X:=ej (diff (l.getD x 0) (l.getD y 0));have hd:diff (l.getD y 0) (l.getD x 0) < 2 ^ 8:=fQ (n:=8) (by omega);refine Ev.step (f:=fun k=>(aJ.f k (Go.bits .andNot .i64 ((l.getD y 0:Nat):Int) ((l.getD x 0:Nat):Int))).bind fun fs=>((bJ.f k fs (fun f=>bK.f k (ints l) ((l.getD x 0:Nat):Int) (((elems (diff (l.getD x 0) (l.getD y 0))).getD z 0:Nat):Int) f)).bind fun t=>(if t = true then (av.l2 k (m:Int) (ints l) (x:Int) ((l.getD x 0:Nat):Int) (y:Int) ((l.getD y 0:Nat):Int) (ints (elems (diff (l.getD x 0) (l.getD y 0)))) ((z+1:Nat):Int)) else (some (((l.getD x 0:Nat):Int),((l.getD y 0:Nat):Int),(((elems (diff (l.getD x 0) (l.getD y 0))).getD z 0:Nat):Int),true))))) (fun k=>?_) ?_
    ·simp only [av.l2]
     rw [if_pos (by rw [ay];omega),if_pos (by omega),dX,cU.dP z (by omega)]
    ·rw [fM _ _ (by omega)]
     refine Ev.bind (fl _ (by omega)) ?_;refine Ev.bind (a:=eK l (l.getD x 0) (l.getD y 0) ((elems (diff (l.getD x 0) (l.getD y 0))).getD z 0)) (cU.di (1048577+8) (fun k hk=>?_)) ?_
     ·rw [k4]
      refine iV _ _ _ (by have:=ej (diff (l.getD y 0) (l.getD x 0));omega) (fun f hf=>?_) k (by have:=ej (diff (l.getD y 0) (l.getD x 0));omega);obtain ⟨M,hfb⟩:=gN hf;rw [eE,Bool.and_eq_true] at hfb;exact me l _ _ _ hn ha he M hbit.1 (by simpa using hfb.2) k (by omega)
     ·have hp':eK l (l.getD x 0) (l.getD y 0) ((elems (diff (l.getD x 0) (l.getD y 0))).getD z 0) = true:=by simpa using hp
      rw [hp'];simp only [if_true];exact hr)
 have I:∀ x y:Nat,((List.range' 0 (elems (diff (l.getD x 0) (l.getD y 0))).length).any fun z=>!eK l (l.getD x 0) (l.getD y 0) ((elems (diff (l.getD x 0) (l.getD y 0))).getD z 0)) = (elems (diff (l.getD x 0) (l.getD y 0))).any fun e=>!eK l (l.getD x 0) (l.getD y 0) e:=fun x y=>gu (elems (diff (l.getD x 0) (l.getD y 0))) 0 (fun e=>!eK l (l.getD x 0) (l.getD y 0) e)
 have middle:∀ x:Nat,x < l.length→∀ d i:Nat,i+d = l.length→_:=fun x hx =>
  fq (fun k y=>av.l1 k (m:Int) (ints l) (x:Int) ((l.getD x 0:Nat):Int) y) l.length
   (fun y=>(elems (diff (l.getD x 0) (l.getD y 0))).any fun e=>!eK l (l.getD x 0) (l.getD y 0) e) (fun r=>r.2.2.2 = true)
   (by
    intro y hy hp;have ha:=hlt x hx;obtain ⟨h1,_⟩:=inner x y hx hy (elems (diff (l.getD x 0) (l.getD y 0))).length 0 (by omega);rw [I] at h1;obtain ⟨r,hr,hE⟩:=h1 hp;refine ⟨r,hr,Ev.step (f:=fun k=>(aJ.f k (Go.bits .andNot .i64 ((l.getD x 0:Nat):Int) ((l.getD y 0:Nat):Int))).bind fun es=>(av.l2 k (m:Int) (ints l) (x:Int) ((l.getD x 0:Nat):Int) (y:Int) ((l.getD y 0:Nat):Int) es 0)) (fun k=>?_) ?_⟩
    ·simp only [av.l1]
     rw [if_pos (by rw [ay];omega),if_pos (by omega),dX]
    ·rw [fM _ _ (by omega)]
     have hd:diff (l.getD x 0) (l.getD y 0) < 2 ^ 8:=fQ (n:=8) (by omega);exact Ev.bind (fl _ (by omega)) hE)
   (by
    intro y hy hp r hr;have ha:=hlt x hx;obtain ⟨_,h2⟩:=inner x y hx hy (elems (diff (l.getD x 0) (l.getD y 0))).length 0 (by omega);rw [I] at h2;refine Ev.step (f:=fun k=>(aJ.f k (Go.bits .andNot .i64 ((l.getD x 0:Nat):Int) ((l.getD y 0:Nat):Int))).bind fun es=>(av.l2 k (m:Int) (ints l) (x:Int) ((l.getD x 0:Nat):Int) (y:Int) ((l.getD y 0:Nat):Int) es 0)) (fun k=>?_) ?_
    ·simp only [av.l1]
     rw [if_pos (by rw [ay];omega),if_pos (by omega),dX]
    ·rw [fM _ _ (by omega)]
     have hd:diff (l.getD x 0) (l.getD y 0) < 2 ^ 8:=fQ (n:=8) (by omega);refine Ev.bind (fl _ (by omega)) (h2 hp r (Ev.step (fun k=>?_) hr));simp only [av.l2];rw [if_neg (by rw [ay];omega),cU.dP y (by omega)])
 have j:∀ x:Nat,((List.range' 0 l.length).any fun y=>(elems (diff (l.getD x 0) (l.getD y 0))).any fun e=>!eK l (l.getD x 0) (l.getD y 0) e) = l.any fun b=>(elems (diff (l.getD x 0) b)).any fun e=>!eK l (l.getD x 0) b e:=fun x=>gu l 0 (fun b=>(elems (diff (l.getD x 0) b)).any fun e=>!eK l (l.getD x 0) b e)
 obtain ⟨Y,o2⟩:=fq (fun k x=>av.l0 k (m:Int) (ints l) x) l.length
   (fun x=>l.any fun b=>(elems (diff (l.getD x 0) b)).any fun e=>!eK l (l.getD x 0) b e) (fun r=>r.2.2.2 = true)
   (by
    intro x hx hp;obtain ⟨h1,_⟩:=middle x hx l.length 0 (by omega);rw [j] at h1;obtain ⟨r,hr,hE⟩:=h1 hp;refine ⟨r,hr,Ev.step (fun k=>?_) hE⟩;simp only [av.l0];rw [if_pos (by rw [ay];omega),if_pos (by omega),dX];rfl)
   (by
    intro x hx hp r hr;obtain ⟨_,h2⟩:=middle x hx l.length 0 (by omega);rw [j] at h2;have h3:=h2 hp r (Ev.step (fun k=>by
     simp only [av.l1];rw [if_neg (by rw [ay];omega),cU.dP x (by omega)]) hr)
    refine Ev.step (fun k=>?_) h3;simp only [av.l0];rw [if_pos (by rw [ay];omega),if_pos (by omega),dX];rfl) l.length 0 (by omega)
 have J:((List.range' 0 l.length).any fun x=>l.any fun b=>(elems (diff (l.getD x 0) b)).any fun e=>!eK l (l.getD x 0) b e) = gr l:=by
  rw [mg];exact gu l 0 (fun a=>l.any fun b=>(elems (diff a b)).any fun e=>!eK l a b e)
 rw [J] at Y o2;have start:∀ r,Ev (fun k=>av.l0 k (m:Int) (ints l) 0) r→Ev (fun k=>av.f k (m:Int) (ints l)) r:=fun r hr=>by
  unfold av.f;refine Ev.bind (cU.di (l.length+1) (fun k hk=>jY (m:Int) (ints l) (by rw [ay];exact hn) k (by rw [ay];omega))) ?_;rw [hf];simp only [if_true];exact hr
 cases hfl:gr l with
 | true =>
  obtain ⟨⟨x,y,z,b⟩,hb,hE⟩:=Y hfl;simp only at hb;subst hb;exact ⟨x,y,z,start _ hE⟩
 | false =>
  refine ⟨0,0,0,start _ (o2 hfl _ (cU.di 1 (fun k hk=>?_)))⟩;obtain ⟨q,rfl⟩:∃ q,k = q+1:=⟨k - 1,by omega⟩
  simp only [av.l0];rw [if_neg (by rw [ay];omega)]
theorem fu (e:Nat) (he:e < 62):IntKind.u64.wrap (e:Int) = e:=by
 unfold IntKind.wrap;simp only [IntKind.bits,IntKind.signed,Bool.false_and,Bool.false_eq_true,if_false];omega
theorem iC (s e:Nat) (hs:s < 256) (he:e < 8):bV.f (s:Int) (e:Int) = some (s.testBit e):=by
 unfold bV.f;rw [fu e (by omega),if_pos (by omega),lB s e (by omega) (by omega)]
theorem lE (m:Nat) (hm:m≤8) (l:List Nat) (hn:l.length≤1048576) (a b e:Nat) (ha:a < 256) (hb:b < 2 ^ m) (he:e < 8) (hae:a.testBit e = true):Ev (fun k=>aT.f k (m:Int) (ints l) (a:Int) (b:Int) (e:Int)) (eK l a b e):=by
 have z:=dU hm;unfold aT.f;have hle:=rT a ha e he hae;have key:∀ f:Nat,f < m→a.testBit f = false→wrap64 ((wrap64 ((a:Int) - ((2 ^ e:Nat):Int)))+((2 ^ f:Nat):Int)) = ((a - 2 ^ e+2 ^ f:Nat):Int):=fun f hf y=>by
  have h1:=qC a ha e he f (by omega) hae y;have h2:2 ^ f≤256:=dU (by omega);clear hae;generalize (2:Nat) ^ e = P at *;generalize (2:Nat) ^ f = Q at *;rw [cU.qW (i:=(a:Int) - (P:Int)) (by omega) (by omega),cU.qW (by omega) (by omega)];omega
 obtain ⟨I,J⟩:=fq (fun k f=>aT.l0 k (a:Int) (b:Int) (e:Int) f (m:Int) (ints l)) m (fun f=>b.testBit f && !a.testBit f && l.contains (a - 2 ^ e+2 ^ f)) (fun r=>r = true)
  (by
   intro f hf hp;rw [Bool.and_eq_true,Bool.and_eq_true] at hp;obtain ⟨⟨h1,h2⟩,h3⟩:=hp;have h2':a.testBit f = false:=by simpa using h2
   refine ⟨true,rfl,cU.di (l.length+2) (fun k hk=>?_)⟩;obtain ⟨q,rfl⟩:∃ q,k = q+1:=⟨k - 1,by omega⟩
   simp only [aT.l0];rw [if_pos (by omega),iC b f (by omega) (by omega),h1];simp only [Option.bind_some,if_true];rw [iC a f ha (by omega),h2'];simp only [Option.bind_some,Bool.false_eq_true,if_false];rw [fu e (by omega),fu f (by omega),if_pos (by omega),if_pos (by omega),eT e (by omega),eT f (by omega),key f hf h2',lD l _ hn q (by omega),h3];rfl)
  (by
   intro f hf hp r hr;by_cases h1:b.testBit f = true
   ·by_cases h2:a.testBit f = true
    ·refine Ev.step (fun k=>?_) hr
     simp only [aT.l0];rw [if_pos (by omega),iC b f (by omega) (by omega),h1];simp only [Option.bind_some,if_true];rw [iC a f ha (by omega),h2];simp only [Option.bind_some,if_true];rw [cU.dP f (by omega)]
    ·have h2':a.testBit f = false:=by simpa using h2
     have h3:l.contains (a - 2 ^ e+2 ^ f) = false:=by
      rw [h1,h2'] at hp;simpa using hp
     refine Ev.step (f:=fun k=>(bL.f k (ints l) ((a - 2 ^ e+2 ^ f:Nat):Int)).bind fun t=>(if t = true then (some true) else (aT.l0 k (a:Int) (b:Int) (e:Int) ((f+1:Nat):Int) (m:Int) (ints l)))) (fun k=>?_) ?_
     ·simp only [aT.l0]
      rw [if_pos (by omega),iC b f (by omega) (by omega),h1];simp only [Option.bind_some,if_true];rw [iC a f ha (by omega),h2'];simp only [Option.bind_some,Bool.false_eq_true,if_false];rw [fu e (by omega),fu f (by omega),if_pos (by omega),if_pos (by omega),eT e (by omega),eT f (by omega),key f hf h2',cU.dP f (by omega)]
     ·refine Ev.bind (cU.di (l.length+1) (fun k hk=>lD l _ hn k (by omega))) ?_
      rw [h3];exact hr
   ·have h1':b.testBit f = false:=by simpa using h1
    refine Ev.step (fun k=>?_) hr;simp only [aT.l0];rw [if_pos (by omega),iC b f (by omega) (by omega),h1'];simp only [Option.bind_some,Bool.false_eq_true,if_false];rw [cU.dP f (by omega)]) m 0 (by omega)
 have M:((List.range' 0 m).any fun f=>b.testBit f && !a.testBit f && l.contains (a - 2 ^ e+2 ^ f)) = eK l a b e:=pz m hm _ (fun j hj=>by rw [gF hb hj];rfl);rw [M] at I J;cases hx:eK l a b e with
 | true =>
  obtain ⟨r,rfl,hE⟩:=I hx;exact hE
 | false =>
  refine J hx _ (cU.di 1 (fun k hk=>?_));obtain ⟨q,rfl⟩:∃ q,k = q+1:=⟨k - 1,by omega⟩
  simp only [aT.l0];rw [if_neg (by omega)]
theorem o8 (m:Nat) (hm:m≤8) (l:List Nat) (hl:∀ s∈l,s < 2 ^ m) (hn:l.length≤1048576) (hf:nA (m:Int) (ints l) = true) :
  ∃ x y z,Ev (fun k=>au.f k (m:Int) (ints l)) (x,y,z,gr l):=by
 have Y:=dU hm;have hlt:∀ i,i < l.length→l.getD i 0 < 256:=fun i hi=>Nat.lt_of_lt_of_le (hl _ (ek l 0 i hi)) Y
 have X:∀ i,i < l.length→l.getD i 0 < 2 ^ m:=fun i hi=>hl _ (ek l 0 i hi)
 have round:∀ x y z:Nat,x < l.length→y < l.length→z < m→∀ r,(((l.getD x 0).testBit z && !(l.getD y 0).testBit z && !eK l (l.getD x 0) (l.getD y 0) z) = true→r.2.2.2 = true→r = (((l.getD x 0:Nat):Int),((l.getD y 0:Nat):Int),(z:Int),true)→Ev (fun k=>au.l2 k (x:Int) (y:Int) (z:Int) (m:Int) (ints l)) r) ∧
   (((l.getD x 0).testBit z && !(l.getD y 0).testBit z && !eK l (l.getD x 0) (l.getD y 0) z) = false→Ev (fun k=>au.l2 k (x:Int) (y:Int) ((z+1:Nat):Int) (m:Int) (ints l)) r→Ev (fun k=>au.l2 k (x:Int) (y:Int) (z:Int) (m:Int) (ints l)) r):=by
  intro x y z hx hy hz r;have ha:=hlt x hx;have hb:=hlt y hy;have U:∀ k,au.l2 (k+1) (x:Int) (y:Int) (z:Int) (m:Int) (ints l) = (if (l.getD x 0).testBit z = true then (if (l.getD y 0).testBit z = true then au.l2 k (x:Int) (y:Int) ((z+1:Nat):Int) (m:Int) (ints l) else ((aT.f k (m:Int) (ints l) ((l.getD x 0:Nat):Int) ((l.getD y 0:Nat):Int) (z:Int)).bind fun t=>(if t = true then au.l2 k (x:Int) (y:Int) ((z+1:Nat):Int) (m:Int) (ints l) else some (((l.getD x 0:Nat):Int),((l.getD y 0:Nat):Int),(z:Int),true)))) else au.l2 k (x:Int) (y:Int) ((z+1:Nat):Int) (m:Int) (ints l)):=fun k=>by
   simp only [au.l2];rw [if_pos (by omega),if_pos (by omega),if_pos (by rw [ay];omega),if_pos (by omega),if_pos (by rw [ay];omega),dX,dX,iC _ z ha (by omega)];simp only [Option.bind_some];rw [iC _ z hb (by omega)];simp only [Option.bind_some];rw [cU.dP z (by omega)]
  cases h1:(l.getD x 0).testBit z with
  | false =>
   refine ⟨fun h=>by simp at h,fun _ hr=>Ev.step (fun k=>?_) hr⟩;rw [U,h1,if_neg (by decide)]
  | true =>
   cases h2:(l.getD y 0).testBit z with
   | true =>
    refine ⟨fun h=>by simp at h,fun _ hr=>Ev.step (fun k=>?_) hr⟩;rw [U,h1,h2,if_pos rfl,if_pos rfl]
   | false =>
    have hE:=lE m hm l hn (l.getD x 0) (l.getD y 0) z ha (X y hy) (by omega) h1;cases h3:eK l (l.getD x 0) (l.getD y 0) z with
    | true =>
     rw [h3] at hE;refine ⟨fun h=>by simp at h,fun _ hr=>Ev.step (fun k=>?_) (Ev.bind hE (f:=fun k t=>(if t = true then au.l2 k (x:Int) (y:Int) ((z+1:Nat):Int) (m:Int) (ints l) else some (((l.getD x 0:Nat):Int),((l.getD y 0:Nat):Int),(z:Int),true))) (by simp only [if_true];exact hr))⟩;rw [U,h1,h2,if_pos rfl,if_neg (by decide)]
    | false =>
     rw [h3] at hE;refine ⟨fun _ _ e=>?_,fun h=>by simp at h⟩;subst e;refine Ev.step (fun k=>?_) (Ev.bind hE (f:=fun k t=>(if t = true then au.l2 k (x:Int) (y:Int) ((z+1:Nat):Int) (m:Int) (ints l) else some (((l.getD x 0:Nat):Int),((l.getD y 0:Nat):Int),(z:Int),true))) (by simp only [Bool.false_eq_true,if_false];exact Ev.now _));rw [U,h1,h2,if_pos rfl,if_neg (by decide)]
 have inner:∀ x y:Nat,x < l.length→y < l.length→∀ d i:Nat,i+d = m→_:=fun x y hx hy =>
  fq (fun k z=>au.l2 k (x:Int) (y:Int) z (m:Int) (ints l)) m
   (fun z=>(l.getD x 0).testBit z && !(l.getD y 0).testBit z && !eK l (l.getD x 0) (l.getD y 0) z) (fun r=>r.2.2.2 = true)
   (fun z hz hp=>⟨_,rfl,(round x y z hx hy hz (((l.getD x 0:Nat):Int),((l.getD y 0:Nat):Int),(z:Int),true)).1 hp rfl rfl⟩)
   (fun z hz hp r hr=>(round x y z hx hy hz r).2 hp hr)
 have J:∀ x y:Nat,x < l.length→((List.range' 0 m).any fun z=>(l.getD x 0).testBit z && !(l.getD y 0).testBit z && !eK l (l.getD x 0) (l.getD y 0) z) = (List.range' 0 8).any fun e=>(l.getD x 0).testBit e && !(l.getD y 0).testBit e && !eK l (l.getD x 0) (l.getD y 0) e:=fun x y hx=>pz m hm _ (fun j hj=>by rw [gF (X x hx) hj];rfl)
 have middle:∀ x:Nat,x < l.length→∀ d i:Nat,i+d = l.length→_:=fun x hx =>
  fq (fun k y=>au.l1 k (x:Int) y (m:Int) (ints l)) l.length
   (fun y=>(List.range' 0 8).any fun e=>(l.getD x 0).testBit e && !(l.getD y 0).testBit e && !eK l (l.getD x 0) (l.getD y 0) e) (fun r=>r.2.2.2 = true)
   (by
    intro y hy hp;obtain ⟨h1,_⟩:=inner x y hx hy m 0 (by omega);rw [J x y hx] at h1;obtain ⟨r,hr,hE⟩:=h1 hp;refine ⟨r,hr,Ev.step (fun k=>?_) hE⟩;simp only [au.l1];rw [if_pos (by rw [ay];omega)];rfl)
   (by
    intro y hy hp r hr;obtain ⟨_,h2⟩:=inner x y hx hy m 0 (by omega);rw [J x y hx] at h2;refine Ev.step (fun k=>?_) (h2 hp r (Ev.step (fun k=>by
     simp only [au.l2];rw [if_neg (by omega),cU.dP y (by omega)]) hr))
    simp only [au.l1];rw [if_pos (by rw [ay];omega)];rfl)
 have I:∀ x:Nat,((List.range' 0 l.length).any fun y=>(List.range' 0 8).any fun e=>(l.getD x 0).testBit e && !(l.getD y 0).testBit e && !eK l (l.getD x 0) (l.getD y 0) e) = l.any fun b=>(List.range' 0 8).any fun e=>(l.getD x 0).testBit e && !b.testBit e && !eK l (l.getD x 0) b e:=fun x=>gu l 0 (fun b=>(List.range' 0 8).any fun e=>(l.getD x 0).testBit e && !b.testBit e && !eK l (l.getD x 0) b e)
 obtain ⟨o1,o2⟩:=fq (fun k x=>au.l0 k x (m:Int) (ints l)) l.length
   (fun x=>l.any fun b=>(List.range' 0 8).any fun e=>(l.getD x 0).testBit e && !b.testBit e && !eK l (l.getD x 0) b e) (fun r=>r.2.2.2 = true)
   (by
    intro x hx hp;obtain ⟨h1,_⟩:=middle x hx l.length 0 (by omega);rw [I] at h1;obtain ⟨r,hr,hE⟩:=h1 hp;refine ⟨r,hr,Ev.step (fun k=>?_) hE⟩;simp only [au.l0];rw [if_pos (by rw [ay];omega)];rfl)
   (by
    intro x hx hp r hr;obtain ⟨_,h2⟩:=middle x hx l.length 0 (by omega);rw [I] at h2;refine Ev.step (fun k=>?_) (h2 hp r (Ev.step (fun k=>by
     simp only [au.l1];rw [if_neg (by rw [ay];omega),cU.dP x (by omega)]) hr))
    simp only [au.l0];rw [if_pos (by rw [ay];omega)];rfl) l.length 0 (by omega)
 have M:((List.range' 0 l.length).any fun x=>l.any fun b=>(List.range' 0 8).any fun e=>(l.getD x 0).testBit e && !b.testBit e && !eK l (l.getD x 0) b e) = gr l:=by
  unfold gr;exact gu l 0 (fun a=>l.any fun b=>(List.range' 0 8).any fun e=>a.testBit e && !b.testBit e && !eK l a b e)
 rw [M] at o1 o2;have start:∀ r,Ev (fun k=>au.l0 k 0 (m:Int) (ints l)) r→Ev (fun k=>au.f k (m:Int) (ints l)) r:=fun r hr=>by
  unfold au.f;refine Ev.bind (cU.di (l.length+1) (fun k hk=>jZ (m:Int) (ints l) (by rw [ay];exact hn) k (by rw [ay];omega))) ?_;rw [hf];simp only [if_true];exact hr
 cases hfl:gr l with
 | true =>
  obtain ⟨⟨x,y,z,b⟩,hb,hE⟩:=o1 hfl;simp only at hb;subst hb;exact ⟨x,y,z,start _ hE⟩
 | false =>
  refine ⟨0,0,0,start _ (o2 hfl _ (cU.di 1 (fun k hk=>?_)))⟩;obtain ⟨q,rfl⟩:∃ q,k = q+1:=⟨k - 1,by omega⟩
  simp only [au.l0];rw [if_neg (by rw [ay];omega)]
def eP (n:Int) (l:List Int):Bool:=nA n l && decide (0 < l.length) && !gr (l.map Int.toNat)
theorem fb (l:List Nat):(ints l).map Int.toNat = l:=by
 unfold ints;rw [List.map_map];conv=>rhs;rw [← List.map_id l]
 exact List.map_congr_left fun x _=>by simp
theorem nC (n:Int) (l:List Int) (hn:l.length≤1048576):Ev (fun k=>cP.f k n l) (eP n l):=by
 unfold cP.f eP;have hF:Ev (fun k=>bB.f k n l) (nA n l):=cU.di (l.length+1) (fun k hk=>jY n l hn k (by omega));cases hf:nA n l with
 | false =>
  rw [hf] at hF;refine Ev.bind (a:=(0,0,0,false)) ?_ (Ev.bind hF (by simp only [Bool.false_eq_true,if_false];exact Ev.now _));unfold av.f;exact Ev.bind hF (by simp only [Bool.false_eq_true,if_false];exact Ev.now _)
 | true =>
  rw [hf] at hF;obtain ⟨m,j,rfl,hm,rfl,hl⟩:=lC hf;rw [fb];rw [ay] at hn;obtain ⟨x,y,z,hE⟩:=o7 m hm j hl hn hf;refine Ev.bind hE (Ev.bind hF ?_);simp only [if_true,ay];by_cases I:0 < j.length
  ·simp only [if_pos (show (j.length:Int) > 0 by omega),decide_eq_true I,Bool.true_and]
   exact Ev.now _
  ·simp only [if_neg (show ¬ (j.length:Int) > 0 by omega),decide_eq_false I,Bool.true_and,Bool.false_and]
   exact Ev.now _
theorem nD (n:Int) (l:List Int) (hn:l.length≤1048576):Ev (fun k=>cq.f k n l) (eP n l):=by
 unfold cq.f eP;have hF:Ev (fun k=>bA.f k n l) (nA n l):=cU.di (l.length+1) (fun k hk=>jZ n l hn k (by omega));cases hf:nA n l with
 | false =>
  rw [hf] at hF;refine Ev.bind (a:=(0,0,0,false)) ?_ (Ev.bind hF (by simp only [Bool.false_eq_true,if_false];exact Ev.now _));unfold au.f;exact Ev.bind hF (by simp only [Bool.false_eq_true,if_false];exact Ev.now _)
 | true =>
  rw [hf] at hF;obtain ⟨m,j,rfl,hm,rfl,hl⟩:=lC hf;rw [fb];rw [ay] at hn;obtain ⟨x,y,z,hE⟩:=o8 m hm j hl hn hf;refine Ev.bind hE (Ev.bind hF ?_);simp only [if_true,ay];by_cases I:0 < j.length
  ·simp only [if_pos (show (j.length:Int) > 0 by omega),decide_eq_true I,Bool.true_and]
   exact Ev.now _
  ·simp only [if_neg (show ¬ (j.length:Int) > 0 by omega),decide_eq_false I,Bool.true_and,Bool.false_and]
   exact Ev.now _
end oz
end
section
namespace j5
open Go.RowKit Go.Proofs.YtlfkfdmggpipbaaGreat.Pr Go.Proofs.YtlfkfdmggpipbaaGreat.Sets oz ag.b6 ag.cz ag.cA
set_option linter.unusedVariables false
def cnt (s:Nat):Nat:=(elems s).length
theorem rU (s:Nat):cnt s≤8:=ej s
set_option maxRecDepth 100000 in
theorem mQ:∀ s:Nat,s < 256→eI.f (s:Int) = some (cnt s:Int):=by decide +kernel
theorem o9 (s:Nat) (h:s < 256):eI.f (s:Int) = some (cnt s:Int):=mQ s h
set_option maxRecDepth 100000 in
theorem mR:∀ s:Nat,s < 256→aN.f 10 (s:Int) = some (cnt s:Int):=by decide +kernel
theorem oa (s:Nat) (h:s < 256) (k:Nat) (hk:10≤k):aN.f k (s:Int) = some (cnt s:Int):=by
 induction k with
 | zero=>omega
 | succ k ih =>
  by_cases e:10≤k
  ·exact aN.mono _ _ _ (ih e)
  ·obtain rfl:k = 9:=by omega
   exact mR s h
theorem iL (s:Nat) (h:s < 256):Ev (fun k=>aN.f k (s:Int)) (cnt s:Int):=cU.di 10 (fun k hk=>oa s h k hk)
def kz (l:List Nat) (s:Nat):Nat:=l.foldl (fun m b=>max m (cnt (s &&& b))) 0
theorem mh {σ:Type} (l:List Nat) (f:σ→Nat→σ) (s:σ):(List.range' 0 l.length).foldl (fun s i=>f s (l.getD i 0)) s = l.foldl f s:=by
 have e:l = (List.range' 0 l.length).map fun i=>l.getD i 0:=by
  rw [← List.range_eq_range',cU.kJ]
 conv=>rhs;rw [e]
 rw [List.foldl_map]
theorem mj {a b n:Nat} (ha:a < 2 ^ n) (hb:b < 2 ^ n):a ||| b < 2 ^ n:=Nat.or_lt_two_pow ha hb
theorem k5 {e m:Nat} (h:e < m):2 ^ e < 2 ^ m:=Nat.pow_lt_pow_right (by decide) h
theorem jE (m:Nat) (h:m < 2 ^ 62):IntKind.u64.wrap (m:Int) = m:=by
 rw [IntKind.wrap_u64];omega
end j5
end
section
namespace Flat
open Go.RowKit Go.Proofs.YtlfkfdmggpipbaaGreat.Pr Go.Proofs.YtlfkfdmggpipbaaGreat.Sets oz j5 ag.b6 ag.cz ag.cA
set_option linter.unusedVariables false
theorem iW {n:Int} {l:List Int} (h:eP n l = true):∃ (m:Nat) (j:List Nat),n = m∧m≤8∧l = ints j∧(∀ s∈j,s < 2 ^ m)∧0 < j.length∧gr j = false:=by
 unfold eP at h;rw [Bool.and_eq_true,Bool.and_eq_true,decide_eq_true_eq] at h;obtain ⟨⟨h1,h2⟩,h3⟩:=h;obtain ⟨m,j,rfl,hm,rfl,hl⟩:=lC h1;rw [fb] at h3;rw [ay] at h2;exact ⟨m,j,rfl,hm,rfl,hl,h2,by simpa using h3⟩
theorem fH (m:Nat) (hm:m≤8):dM.f (m:Int) = some ((2 ^ m - 1:Nat):Int):=by
 have:∀ m:Nat,m < 9→dM.f (m:Int) = some ((2 ^ m - 1:Nat):Int):=by decide +kernel
 exact this m (by omega)
theorem kL (m:Nat) (hm:m≤8):dL.f (m:Int) = some ((2 ^ m - 1:Nat):Int):=by
 have:∀ m:Nat,m < 9→dL.f (m:Int) = some ((2 ^ m - 1:Nat):Int):=by decide +kernel
 exact this m (by omega)
theorem foldl_filter (p:Nat→Bool) (q:List Nat):(q.foldl (fun (s:List Int) j=>if p j = true then s ++ [(j:Int)] else s) []) = ints (q.filter p):=by
 rw [cU.foldl_append,List.nil_append];rfl
theorem oc (L:Nat→List Int→Int→Option (List Int)) (n:Nat) (p:Nat→Bool)
  (j:∀ i s,i < n→s.length≤i→∀ r,Ev (fun k=>L k (if p i = true then s ++ [(i:Int)] else s) ((i+1:Nat):Int)) r→Ev (fun k=>L k s (i:Int)) r)
  (hend:∀ k s,L (k+1) s (n:Int) = some s):Ev (fun k=>L k [] 0) (ints ((List.range' 0 n).filter p)):=by
 rw [← foldl_filter];refine cU.ei L n (fun i s=>if p i = true then s ++ [(i:Int)] else s) (fun i s=>s.length≤i) _ (fun i s hi hP=>⟨?_,j i s hi hP _⟩) n 0 [] (by omega) (by simp) (fun _=>cU.di 1 (fun k hk=>?_))
 ·show (if _ then _ else _:List Int).length≤_
  split
  ·simp;omega
  ·omega
 ·obtain ⟨q,rfl⟩:∃ q,k = q+1:=⟨k - 1,by omega⟩
  exact hend _ _
theorem mS (m:Nat) (hm:m≤8) (g:Nat→Int→Option Bool) (p:Nat→Bool) (hg:∀ s:Nat,s < 2 ^ m→Ev (fun k=>g k (s:Int)) (p s)) (hmono:∀ k s,eX (g k s) (g (k+1) s)):Ev (fun k=>bM.f k (m:Int) (g k)) (ints ((List.range' 0 (2 ^ m)).filter p)):=by
 have I:=dU hm;have hpos:0 < 2 ^ m:=Nat.pow_pos (by decide);have hup:∀ s:Int,∀ a d r,g a s = some r→g (a+d) s = some r:=by
  intro s a d r h;induction d with
  | zero=>exact h
  | succ d ih=>exact hmono _ _ _ ih
 have all:∀ n:Nat,n≤2 ^ m→∃ K,∀ k,K≤k→∀ s:Nat,s < n→g k (s:Int) = some (p s):=by
  intro n;induction n with
  | zero=>exact fun _=>⟨0,fun k _ s hs=>by omega⟩
  | succ n ih =>
   intro hn;obtain ⟨K,hK⟩:=ih (by omega);obtain ⟨K',hK'⟩:=hg n (by omega);refine ⟨max K K',fun k hk s hs=>?_⟩;by_cases e:s = n
   ·subst e
    exact hK' k (by omega)
   ·exact hK k (by omega) s (by omega)
 obtain ⟨K,hK⟩:=all (2 ^ m) (Nat.le_refl _);have fixed:∀ j,K≤j→Ev (fun k=>bM.l0 (g j) k (m:Int) [] 0) (ints ((List.range' 0 (2 ^ m)).filter p)):=fun j y=>by
  refine oc (fun k s i=>bM.l0 (g j) k (m:Int) s i) (2 ^ m) p (fun i s hi hs r h=>Ev.step (fun k=>?_) h) (fun k s=>?_)
  ·simp only [bM.l0]
   rw [fH m hm];simp only [Option.bind_some];rw [if_pos (by omega),hK j y i hi];simp only [Option.bind_some];rw [cU.dP i (by omega)];cases p i with
   | false=>rfl
   | true=>rw [if_pos rfl,if_pos (by omega),if_pos rfl]
  ·simp only [bM.l0]
   rw [fH m hm];simp only [Option.bind_some];rw [if_neg (by omega)]
 have count:∀ j,K≤j→∀ (d i:Nat) (s:List Int) (k:Nat),i+d = 2 ^ m→d < k→s.length≤i→bM.l0 (g j) k (m:Int) s (i:Int) = bM.l0 (g K) k (m:Int) s (i:Int)∧∀ e,bM.l0 (g j) (k+e) (m:Int) s (i:Int) = bM.l0 (g j) k (m:Int) s (i:Int):=by
  intro j y d;induction d with
  | zero =>
   intro i s k hi hk hs;obtain rfl:i = 2 ^ m:=by omega
   obtain ⟨k,rfl⟩:∃ q,k = q+1:=⟨k - 1,by omega⟩
   refine ⟨?_,fun e=>?_⟩
   ·simp only [bM.l0]
    rw [fH m hm];simp only [Option.bind_some];rw [if_neg (by omega),if_neg (by omega)]
   ·rw [show k+1+e = (k+e)+1 by omega]
    simp only [bM.l0];rw [fH m hm];simp only [Option.bind_some];rw [if_neg (by omega),if_neg (by omega)]
  | succ d ih =>
   intro i s k hi hk hs;obtain ⟨k,rfl⟩:∃ q,k = q+1:=⟨k - 1,by omega⟩
   obtain ⟨J,a2⟩:=ih (i+1) (s ++ [(i:Int)]) k (by omega) (by omega) (by simp;omega);obtain ⟨M,U⟩:=ih (i+1) s k (by omega) (by omega) (by omega);refine ⟨?_,fun e=>?_⟩
   ·simp only [bM.l0]
    rw [fH m hm];simp only [Option.bind_some];simp only [if_pos (show (i:Int)≤((2 ^ m - 1:Nat):Int) by omega),if_pos (show s.length < 17592186044416 by omega),hK j y i (by omega),hK K (Nat.le_refl _) i (by omega),cU.dP i (by omega),Option.bind_some,J,M]
   ·rw [show k+1+e = (k+e)+1 by omega]
    simp only [bM.l0];rw [fH m hm];simp only [Option.bind_some];simp only [if_pos (show (i:Int)≤((2 ^ m - 1:Nat):Int) by omega),if_pos (show s.length < 17592186044416 by omega),hK j y i (by omega),cU.dP i (by omega),Option.bind_some,a2,U]
 obtain ⟨X,z⟩:=fixed K (Nat.le_refl _);refine ⟨max (max K X) (2 ^ m+1),fun k hk=>?_⟩;show bM.l0 (g k) k (m:Int) [] ((0:Nat):Int) = _;rw [(count k (by omega) (2 ^ m) 0 [] k (by omega) (by omega) (by simp)).1];exact z k (by omega)
end Flat
end
end Go.Proofs.YtlfkfdmggpipbaaGreat
section
namespace Go.Proofs.YtlfkfdmggpipbaaGreat.Sort
open Go.RowKit Go.Proofs.YtlfkfdmggpipbaaGreat.Pr Go.Proofs.YtlfkfdmggpipbaaGreat.Sets Go.Proofs.ag.b6 Go.Proofs.ag.cz Go.Proofs.ag.cA
set_option linter.unusedVariables false
def ins (x:Int):List Int→List Int
 | []=>[x]
 | a :: l=>if a < x then a :: ins x l else if a = x then a :: l else x :: a :: l
def sset (l:List Int):List Int:=l.foldl (fun out x=>ins x out) []
theorem nE (x y:Int) (l:List Int):y∈ins x l↔y = x∨y∈l:=by
 induction l with
 | nil=>simp [ins]
 | cons a l ih =>
  unfold ins;split
  ·simp only [List.mem_cons,ih]
   constructor
   ·rintro (h | h | h) <;> simp [h]
   ·rintro (h | h | h) <;> simp [h]
  ·split
   ·rename_i h
    subst h;simp
   ·simp
theorem mT (x:Int) (l:List Int) (h:l.Pairwise (· < ·)):(ins x l).Pairwise (· < ·):=by
 induction l with
 | nil=>simp [ins]
 | cons a l ih =>
  obtain ⟨h1,h2⟩:=List.pairwise_cons.1 h;unfold ins;split
  ·rename_i hlt
   refine List.pairwise_cons.2 ⟨fun y hy=>?_,ih h2⟩;rcases (nE x y l).1 hy with rfl | hy
   ·exact hlt
   ·exact h1 y hy
  ·split
   ·exact h
   ·rename_i ha hb
    refine List.pairwise_cons.2 ⟨fun y hy=>?_,h⟩;rcases List.mem_cons.1 hy with rfl | hy
    ·omega
    ·have:=h1 y hy
     omega
theorem k6 (x:Int) (l:List Int):(ins x l).length≤l.length+1:=by
 induction l with
 | nil=>simp [ins]
 | cons a l ih =>
  unfold ins;split
  ·simp only [List.length_cons];omega
  ·split <;> simp
theorem jg (l out:List Int) (ho:out.Pairwise (· < ·)):(l.foldl (fun out x=>ins x out) out).Pairwise (· < ·)∧(∀ y,y∈l.foldl (fun out x=>ins x out) out↔y∈out∨y∈l)∧(l.foldl (fun out x=>ins x out) out).length≤out.length+l.length:=by
 induction l generalizing out with
 | nil=>exact ⟨ho,fun y=>by simp,by simp⟩
 | cons a l ih =>
  rw [List.foldl_cons];obtain ⟨h1,h2,h3⟩:=ih (ins a out) (mT a out ho);refine ⟨h1,fun y=>?_,?_⟩
  ·rw [h2 y,nE,List.mem_cons]
   constructor
   ·rintro ((h | h) | h) <;> simp [h]
   ·rintro (h | h | h) <;> simp [h]
  ·have:=k6 a out
   simp only [List.length_cons];omega
theorem gO (l:List Int):(sset l).Pairwise (· < ·):=(jg l [] List.Pairwise.nil).1
theorem iX (l:List Int) (y:Int):y∈sset l↔y∈l:=by
 have:=(jg l [] List.Pairwise.nil).2.1 y;simpa [sset] using this
theorem mm (l:List Int):(sset l).length≤l.length:=by
 have:=(jg l [] List.Pairwise.nil).2.2;simpa [sset] using this
theorem nF (a b:List Int) (ha:a.Pairwise (· < ·)) (hb:b.Pairwise (· < ·)) (h:∀ x,x∈a↔x∈b):a = b:=by
 induction a generalizing b with
 | nil =>
  cases b with
  | nil=>rfl
  | cons y b=>exact absurd ((h y).2 (by simp)) (by simp)
 | cons x a ih =>
  cases b with
  | nil=>exact absurd ((h x).1 (by simp)) (by simp)
  | cons y b =>
   obtain ⟨j,a2⟩:=List.pairwise_cons.1 ha;obtain ⟨I,J⟩:=List.pairwise_cons.1 hb;have hxy:x = y:=by
    rcases List.mem_cons.1 ((h x).1 (by simp)) with e | e
    ·exact e
    ·rcases List.mem_cons.1 ((h y).2 (by simp)) with e' | e'
     ·exact e'.symm
     ·have:=I x e
      have:=j y e';omega
   subst hxy;congr 1
   refine ih b a2 J fun z=>⟨fun hz=>?_,fun hz=>?_⟩
   ·rcases List.mem_cons.1 ((h z).1 (by simp [hz])) with rfl | e
    ·exact absurd (j z hz) (by omega)
    ·exact e
   ·rcases List.mem_cons.1 ((h z).2 (by simp [hz])) with rfl | e
    ·exact absurd (I z hz) (by omega)
    ·exact e
theorem lF (d:Array Int) (hd:∀ i j,i≤j→j < d.size→d[i]! ≤ d[j]!):∀ m,m≤d.size→(Lib.compactUpTo d m).Pairwise (· < ·)∧(∀ y,y∈Lib.compactUpTo d m↔∃ j,j < m∧d[j]! = y):=by
 intro m;induction m with
 | zero=>exact fun _=>⟨by simp [Lib.compactUpTo],fun y=>by simp [Lib.compactUpTo]⟩
 | succ m ih =>
  intro hm;obtain ⟨h1,h2⟩:=ih (by omega);rw [Lib.compactUpTo_succ];by_cases hk:Lib.keeps d m = true
  ·rw [if_pos hk]
   refine ⟨?_,fun y=>?_⟩
   ·rw [List.pairwise_append]
    refine ⟨h1,by simp,fun x hx y hy=>?_⟩;obtain rfl:y = d[m]!:=by simpa using hy
    obtain ⟨j,hj,rfl⟩:=(h2 x).1 hx;have hne:d[m]! ≠ d[m - 1]!:=by
     unfold Lib.keeps at hk;rw [decide_eq_true_eq] at hk;rcases hk with rfl | hk
     ·omega
     ·exact hk
    have I:=hd j (m - 1) (by omega) (by omega);have J:=hd (m - 1) m (by omega) (by omega);omega
   ·rw [List.mem_append,h2 y]
    constructor
    ·rintro (⟨j,hj,rfl⟩ | h)
     ·exact ⟨j,by omega,rfl⟩
     ·have e:y = d[m]!:=by simpa using h
      exact ⟨m,by omega,e.symm⟩
    ·rintro ⟨j,hj,rfl⟩
     by_cases e:j = m
     ·subst e
      exact .inr (by simp)
     ·exact .inl ⟨j,by omega,rfl⟩
  ·rw [if_neg hk,List.append_nil]
   refine ⟨h1,fun y=>?_⟩;rw [h2 y];constructor
   ·rintro ⟨j,hj,rfl⟩
    exact ⟨j,by omega,rfl⟩
   ·rintro ⟨j,hj,rfl⟩
    by_cases e:j = m
    ·subst e
     have hk':¬ (j = 0∨d[j]! ≠ d[j - 1]!):=by
      unfold Lib.keeps at hk;rw [decide_eq_true_eq] at hk;exact hk
     have z:j≠0:=fun h=>hk' (.inl h)
     have he:d[j]! = d[j - 1]!:=Decidable.byContradiction fun h=>hk' (.inr h)
     exact ⟨j - 1,by omega,he.symm⟩
    ·exact ⟨j,by omega,rfl⟩
theorem lG (l:List Int):Lib.compact (j4.sorted l) = sset l:=by
 have hs:(j4.sorted l).Pairwise (fun x y=>decide (x≤y) = true):=List.pairwise_mergeSort (le:=fun x y=>decide (x≤y)) (fun a b c h1 h2=>by simp only [decide_eq_true_eq] at *;omega) (fun a b=>by simp only [Bool.or_eq_true,decide_eq_true_eq];omega) l;have hmem:∀ y,y∈j4.sorted l↔y∈l:=fun y=>(List.mergeSort_perm l _).mem_iff
 generalize j4.sorted l = q at *;have hd:∀ i j,i≤j→j < q.toArray.size→q.toArray[i]! ≤ q.toArray[j]!:=fun i j hij hj=>by
  have hj':j < q.length:=by simpa using hj
  rcases Nat.lt_or_eq_of_le hij with h | rfl
  ·have:=(List.pairwise_iff_getElem.1 hs) i j (by omega) hj' h
   simp only [decide_eq_true_eq] at this;simpa [getElem!_pos,show i < q.length by omega,hj'] using this
  ·exact Int.le_refl _
 obtain ⟨h1,h2⟩:=lF q.toArray hd q.length (by simp);refine nF _ _ h1 (gO l) fun x=>?_
 rw [iX,← hmem];refine (h2 x).trans ⟨?_,fun h=>?_⟩
 ·rintro ⟨j,hj,rfl⟩
  have:q.toArray[j]! = q[j]:=by simp [getElem!_pos,hj]
  rw [this];exact List.getElem_mem hj
 ·obtain ⟨j,hj,rfl⟩:=List.getElem_of_mem h
  exact ⟨j,hj,by simp [getElem!_pos,hj]⟩
theorem pB (l:List Int) (hn:l.length≤1048576):er.f l = some (sset l):=by
 unfold er.f;rw [if_pos (by omega),lG]
theorem drop_cons (l:List Int) (i:Nat) (h:i < l.length):l.drop i = l.getD i 0 :: l.drop (i+1):=by
 rw [List.drop_eq_getElem_cons h];simp [List.getD,h]
theorem pC (x:Int) (out:List Int):∀ i,i≤out.length→(∀ j,j < i→out.getD j 0 < x)→ins x out = out.take i ++ ins x (out.drop i):=by
 intro i;induction i with
 | zero=>intro _ _;simp
 | succ i ih =>
  intro hi h;rw [ih (by omega) fun j hj=>h j (by omega),drop_cons out i (by omega)];have:=h i (by omega);rw [ins,if_pos this,List.take_succ_eq_append_getElem (by omega),List.append_assoc];simp [List.getD,show i < out.length by omega]
theorem pD (l:List Int) (hn:l.length≤1048576):Ev (fun k=>aq.f k l) (sset l):=by
 unfold aq.f sset;have e:l.foldl (fun out x=>ins x out) [] = (List.range' 0 l.length).foldl (fun out i=>ins (l.getD i 0) out) []:=by
  have y:l = (List.range' 0 l.length).map fun i=>l.getD i 0:=by rw [← List.range_eq_range',cU.kJ]
  conv=>lhs;rw [y]
  rw [List.foldl_map]
 rw [e];refine cU.ei (fun k (out:List Int) i=>aq.l0 k l out i) l.length (fun i out=>ins (l.getD i 0) out) (fun i out=>out.length≤i) _ (fun i out hi hP=>⟨?_,fun h=>?_⟩) l.length 0 [] (by omega) (by simp) (fun _=>cU.di 1 (fun k hk=>?_))
 ·have:=k6 (l.getD i 0) out
  show (ins _ _).length≤_;omega
 ·refine Ev.step (f:=fun k=>aq.l1 k l out (i:Int) 0) (fun k=>?_) ?_
  ·simp only [aq.l0]
   rw [if_pos (by omega)]
  ·have key:∀ d a:Nat,a+d = out.length→(∀ j,j < a→out.getD j 0 < l.getD i 0)→Ev (fun k=>aq.l1 k l out (i:Int) (a:Int)) ((List.range' 0 l.length).foldl (fun out i=>ins (l.getD i 0) out) []):=by
    intro d;induction d with
    | zero =>
     intro a ha hlt;obtain rfl:a = out.length:=by omega
     have hins:ins (l.getD i 0) out = out.take out.length ++ [l.getD i 0] ++ out.drop out.length:=by
      rw [pC _ _ out.length (Nat.le_refl _) hlt,List.drop_length,ins];simp
     rw [hins] at h;refine Ev.step (fun k=>?_) h;simp only [aq.l1];rw [if_neg (by omega)];simp only [Option.bind_some,Int.toNat_natCast,cU.dI,List.nil_append,List.length_nil,Nat.zero_add];rw [if_pos (by omega),if_pos (by omega),if_pos (by simp),if_pos (by omega),if_pos (by omega),if_pos (by rw [List.length_take];omega),if_pos (by simp;omega),cU.dP i (by omega)]
    | succ d ih =>
     intro a ha hlt;have hlen:a < out.length:=by omega
     by_cases h1:out.getD a 0 < l.getD i 0
     ·refine Ev.step (fun k=>?_) (ih (a+1) (by omega) fun j hj=>?_)
      ·simp only [aq.l1]
       rw [if_pos (by omega),if_pos (by omega),if_pos (by omega),if_pos (by omega),cU.dI,cU.dI,if_pos h1,cU.dP a (by omega)]
      ·by_cases e:j = a
       ·subst e;exact h1
       ·exact hlt j (by omega)
     ·have hat:=pC (l.getD i 0) out a (by omega) hlt
      rw [drop_cons out a hlen,ins,if_neg h1] at hat;by_cases h2:out.getD a 0 = l.getD i 0
      ·have hins:ins (l.getD i 0) out = out:=by
        rw [hat,if_pos h2,← drop_cons out a hlen,List.take_append_drop]
       rw [hins] at h;refine Ev.step (fun k=>?_) h;simp only [aq.l1];rw [if_pos (by omega),if_pos (by omega),if_pos (by omega),if_pos (by omega),cU.dI,cU.dI,if_neg h1,if_pos h2,cU.dP i (by omega)]
      ·have hins:ins (l.getD i 0) out = out.take a ++ [l.getD i 0] ++ out.drop a:=by
        rw [hat,if_neg h2,← drop_cons out a hlen,List.append_assoc];rfl
       rw [hins] at h;refine Ev.step (fun k=>?_) h;simp only [aq.l1];rw [if_pos (by omega),if_pos (by omega),if_pos (by omega),if_pos (by omega),cU.dI,cU.dI,if_neg h1,if_neg h2];simp only [Option.bind_some,Int.toNat_natCast,List.nil_append,List.length_nil,Nat.zero_add];rw [if_pos (by omega),if_pos (by simp;omega),if_pos (by rw [List.length_take];omega),if_pos (by simp;omega),cU.dP i (by omega)]
   exact key out.length 0 (by omega) (fun j hj=>by omega)
 ·obtain ⟨q,rfl⟩:∃ q,k = q+1:=⟨k - 1,by omega⟩
  simp only [aq.l0];rw [if_neg (by omega)]
end Go.Proofs.YtlfkfdmggpipbaaGreat.Sort
end
