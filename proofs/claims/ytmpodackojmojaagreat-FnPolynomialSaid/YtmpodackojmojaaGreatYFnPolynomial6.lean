/- The claim FnPolynomial: every text that its row comes to, laid together by slim.py (the words of the kit's print, the printed walks, the pure law, the row). -/
import Derived.Below
import Derived.ChangeArms
import Derived.ChangeOld
import Derived.DataReads
import Derived.Deep.Slices
import Derived.OpenShut
import Derived.ProofKit
import Derived.ShutString
import Derived.SizedLaws
import Derived.Test.YtmpodackojmojaaGreatRows
import Derived.WalkKit
import Derived.Test.YtmpodackojmojaaGreatYFnPolynomial5
section
namespace Go.Proofs.YtmpodackojmojaaGreat.nw
open Go.RowKit Go.Proofs.YtmpodackojmojaaGreat.Pr Go.Proofs.YtmpodackojmojaaGreat.Sets Go.Proofs.YtmpodackojmojaaGreat.iD Go.Proofs.YtmpodackojmojaaGreat.Flat Go.Proofs.ag.bl Go.Proofs.ag.cj Go.Proofs.ag.ck
set_option linter.unusedVariables false
theorem uj (b:List Int) (hb:b.length≤1048576) (i:Nat) (hi:i≤b.length) (h:Int) (most:Nat) (hm:most≤8):∃ (n:Int) (l:List Int) (i':Nat) (h':Int),Ev (fun k=>eC.f k b (i:Int) h (most:Int)) (n,l,(i':Int),h')∧l.length≤256∧i'≤b.length:=by
 obtain ⟨x,i1,h1,e1,_,a6⟩:=below b hb i hi h 6 (by omega)
 have em:wrap64 ((most:Int)+1) = ((most+1:Nat):Int):=de.dM most (by omega)
 have a5:∀ (j:Nat) (g:Int),j≤b.length→∃ (n:Int) (l:List Int) (i':Nat) (h':Int),Ev (fun k=>(aM.f b (j:Int) g ((most+1:Nat):Int)).bind fun M=>((bY.f k b M.2.1 M.2.2 M.1).bind fun z=>(some (z.1,z.2.1,z.2.2.1,z.2.2.2)))) (n,l,(i':Int),h')∧l.length≤256∧i'≤b.length:=by
  intro j g hj
  obtain ⟨n,i2,h2,e2,hn,a4⟩:=below b hb j hj g ((most+1:Nat):Int) (by omega)
  have hn:=hn (by omega)
  obtain ⟨n,rfl⟩:∃ q:Nat,n = (q:Int):=⟨n.toNat,by omega⟩
  obtain ⟨l,i3,h3,he,hl,a2⟩:=uh b hb i2 a4 h2 n (by omega)
  refine ⟨(n:Int),l,i3,h3,?_,hl,a2⟩
  simp only [e2,Option.bind_some]
  exact Ev.bind he (Ev.now _)
 have hun:∀ k,eC.f k b (i:Int) h (most:Int) = (if x = 0 then ((aM.f b (i1:Int) h1 ((most+1:Nat):Int)).bind fun X=>((aM.f b X.2.1 X.2.2 (wrap64 (X.1+1))).bind fun a0=>((bT.f k a0.1 X.1).bind fun a3=>(some (a3.1,a3.2,a0.2.1,a0.2.2))))) else (if x = 1 then ((eM.f k b (i1:Int) h1).bind fun y=>(if y.1≤(most:Int) then (some (y.1,y.2.1,y.2.2.1,y.2.2.2)) else ((aM.f b y.2.2.1 y.2.2.2 ((most+1:Nat):Int)).bind fun M=>((bY.f k b M.2.1 M.2.2 M.1).bind fun z=>(some (z.1,z.2.1,z.2.2.1,z.2.2.2)))))) else ((aM.f b (i1:Int) h1 ((most+1:Nat):Int)).bind fun a1=>((bY.f k b a1.2.1 a1.2.2 a1.1).bind fun Y=>(some (Y.1,Y.2.1,Y.2.2.1,Y.2.2.2)))))):=fun k=>by
  unfold eC.f
  rw [e1,Option.bind_some,em]
 clear em
 by_cases c0:x = 0
 ·obtain ⟨n,i2,h2,e2,hn,a4⟩:=below b hb i1 a6 h1 ((most+1:Nat):Int) (by omega)
  have hn:=hn (by omega)
  obtain ⟨n,rfl⟩:∃ q:Nat,n = (q:Int):=⟨n.toNat,by omega⟩
  obtain ⟨r,i3,h3,e3,hr,a2⟩:=below b hb i2 a4 h2 ((n+1:Nat):Int) (by omega)
  have hr:=hr (by omega)
  refine ⟨(n:Int),ints (Count.oc n r),i3,h3,?_,?_,a2⟩
  ·refine Ev.congr (f:=fun k=>(bT.f k r (n:Int)).bind fun bt=>some (bt.1,bt.2,(i3:Int),h3)) (fun k=>?_) (Ev.bind (Count.sS n (by omega) r hr.1 (by omega)) (Ev.now _))
   rw [hun,if_pos c0,e2,Option.bind_some,de.dM n (by omega),e3,Option.bind_some]
  ·rw [aH]
   exact Nat.le_trans (Count.nt n r) (Nat.pow_le_pow_right (by decide) (by omega):2 ^ n≤2 ^ 8)
 ·by_cases c1:x = 1
  ·obtain ⟨n,l,i2,h2,he,hl,a4⟩:=named b hb i1 a6 h1
   refine (?_:n≤(most:Int)∨¬ n≤(most:Int)).elim (fun c2=>?_) (fun c2=>?_)
   ·exact Decidable.em _
   ·refine ⟨n,l,i2,h2,Ev.congr (f:=fun k=>(eM.f k b (i1:Int) h1).bind fun y=>(if y.1≤(most:Int) then (some (y.1,y.2.1,y.2.2.1,y.2.2.2)) else ((aM.f b y.2.2.1 y.2.2.2 ((most+1:Nat):Int)).bind fun M=>((bY.f k b M.2.1 M.2.2 M.1).bind fun z=>(some (z.1,z.2.1,z.2.2.1,z.2.2.2)))))) (fun k=>by rw [hun,if_neg c0,if_pos c1]) (Ev.bind he (Ev.congr (fun k=>if_pos c2) (Ev.now _))),hl,a4⟩
   ·obtain ⟨n',l',i3,h3,he',hl',a2⟩:=a5 i2 h2 a4
    exact ⟨n',l',i3,h3,Ev.congr (f:=fun k=>(eM.f k b (i1:Int) h1).bind fun y=>(if y.1≤(most:Int) then (some (y.1,y.2.1,y.2.2.1,y.2.2.2)) else ((aM.f b y.2.2.1 y.2.2.2 ((most+1:Nat):Int)).bind fun M=>((bY.f k b M.2.1 M.2.2 M.1).bind fun z=>(some (z.1,z.2.1,z.2.2.1,z.2.2.2)))))) (fun k=>by rw [hun,if_neg c0,if_pos c1]) (Ev.bind he (Ev.congr (fun k=>if_neg c2) he')),hl',a2⟩
  ·obtain ⟨n',l',i3,h3,he',hl',a2⟩:=a5 i1 h1 a6
   exact ⟨n',l',i3,h3,Ev.congr (fun k=>by rw [hun,if_neg c0,if_neg c1]) he',hl',a2⟩
theorem wC (b:List Int) (hb:b.length≤1048576) (i:Nat) (hi:i≤b.length) (h:Int):∃ (x:Int) (i':Nat) (h':Int),gD.f b (i:Int) h = some (x,(i':Int),h')∧i'≤b.length:=by
 obtain ⟨x,i2,g2,Y,_,j⟩:=below b hb i hi h 8 (by omega)
 obtain ⟨y,i3,g3,e3,M⟩:=pick b hb i2 j g2 [(-1),256,1000,(-9223372036854775808)] (by decide) (by decide)
 obtain ⟨z,i4,g4,e4,_,X⟩:=below b hb i2 j g2 256 (by omega)
 unfold gD.f gB.f gC.f
 simp only [Y,Option.bind_some]
 by_cases c:x = 0
 ·simp only [show (x == 0) = true from beq_iff_eq.2 c,if_true,e3,Option.bind_some]
  exact ⟨_,i3,_,rfl,M⟩
 ·simp only [show (x == 0) = false from beq_eq_false_iff_ne.2 c,Bool.false_eq_true,if_false,e4,Option.bind_some]
  exact ⟨_,i4,_,rfl,X⟩
theorem wV:∀ e:Nat,e≤8→0 < shl .i64 1 (IntKind.u64.wrap (e:Int)):=by decide +kernel
theorem oL (b:List Int) (hb:b.length≤1048576) (i:Nat) (hi:i≤b.length) (h:Int) (e:Nat) (he:e≤8):∃ (l:List Int) (i':Nat) (h':Int),Ev (fun k=>dw.f k b (i:Int) h (e:Int)) (l,(i':Int),h')∧l.length≤5∧i'≤b.length:=by
 obtain ⟨n,i1,h1,y,hn,z⟩:=below b hb i hi h 6 (by omega)
 have hn:=hn (by omega)
 have key:∀ (d t:Nat) (l:List Int) (j:Nat) (g:Int),((t+d:Nat):Int) = n→l.length = t→j≤b.length→∃ (l':List Int) (i':Nat) (h':Int),Ev (fun k=>dw.l0 k (e:Int) l n (t:Int) b (j:Int) g) (l',(i':Int),h')∧l'.length≤5∧i'≤b.length:=by
  intro d
  induction d with
  | zero =>
   intro t l j g ht hl hj
   refine ⟨l,j,g,Ev.step (f:=fun _=>some (l,(j:Int),g)) (fun k=>?_) (Ev.now _),by omega,hj⟩
   rw [dw.l0,if_neg (by omega)]
  | succ d ih =>
   intro t l j g ht hl hj
   obtain ⟨x,j1,g1,y,_,M⟩:=below b hb j hj g (shl .i64 1 (IntKind.u64.wrap (e:Int))) (wV e he)
   obtain ⟨l',i',h',hv,hl',hi'⟩:=ih (t+1) (l ++ [x]) j1 g1 (by omega) (by rw [List.length_append,List.length_singleton,hl]) M
   refine ⟨l',i',h',Ev.step (fun k=>?_) hv,hl',hi'⟩
   rw [dw.l0,if_pos (by omega),if_pos (uJ _),y,Option.bind_some,if_pos (by omega),de.dM t (by omega)]
 obtain ⟨l',i',h',hv,hl',hi'⟩:=key n.toNat 0 [] i1 h1 (by omega) rfl z
 refine ⟨l',i',h',?_,hl',hi'⟩
 unfold dw.f
 simp only [y,Option.bind_some]
 exact hv
theorem wW (b:List Int) (hb:b.length≤1048576) (i:Nat) (hi:i≤b.length) (h:Int) (most:Nat) (hm:most≤8):∃ (n:Int) (l:List Int) (i':Nat) (h':Int),Ev (fun k=>cS.f k b (i:Int) h (most:Int)) (n,l,(i':Int),h')∧l.length≤257∧i'≤b.length:=by
 obtain ⟨n,l,i1,h1,hv,hl,Y⟩:=uj b hb i hi h most hm
 obtain ⟨x,i2,h2,M,_,z⟩:=below b hb i1 Y h1 10 (by omega)
 unfold cS.f
 by_cases c0:x = 0
 ·obtain ⟨y,i3,h3,X,j⟩:=pick b hb i2 z h2 [(-1),0,2,9] (by decide) (by decide)
  refine ⟨y,l,i3,h3,Ev.bind hv ?_,by omega,j⟩
  simp only [M,Option.bind_some,if_pos c0,X]
  exact Ev.now _
 ·by_cases c1:x = 1
  ·obtain ⟨y,i3,h3,X,j⟩:=wC b hb i2 z h2
   refine ⟨n,l ++ [y],i3,h3,Ev.bind hv ?_,by rw [List.length_append,List.length_singleton];omega,j⟩
   simp only [M,Option.bind_some,if_neg c0,if_pos c1,X]
   rw [if_pos (by omega)]
   exact Ev.now _
  ·by_cases c2:x = 2
   ·by_cases hlen:(l.length:Int) > 1
    ·obtain ⟨y,i3,h3,X,hy,j⟩:=below b hb i2 z h2 (l.length:Int) (by omega)
     have hy:=hy (by omega)
     obtain ⟨y,rfl⟩:∃ q:Nat,y = (q:Int):=⟨y.toNat,by omega⟩
     ·refine ⟨n,l.take y ++ l.drop (y+1),i3,h3,Ev.bind hv ?_,by rw [List.length_append,List.length_take,List.length_drop];omega,j⟩
      simp only [M,Option.bind_some,if_neg c0,if_neg c1,if_pos c2,if_pos hlen,X,List.nil_append]
      rw [if_pos (by omega),if_pos (by omega),if_pos (by simp;omega),de.dM y (by omega),if_pos (by omega),if_pos (by omega),if_pos (by simp;omega)]
      exact Ev.now _
    ·refine ⟨n,l,i2,h2,Ev.bind hv ?_,by omega,z⟩
     simp only [M,Option.bind_some,if_neg c0,if_neg c1,if_pos c2,if_neg hlen]
     exact Ev.now _
   ·by_cases c3:x = 3
    ·obtain ⟨e,he,h3⟩:∃ e:Nat,e≤8∧(gW.f n 8).bind (fun t=>dO.f 0 t) = some (e:Int):=by
      unfold gW.f dO.f
      by_cases a1:n < 8
      ·rw [if_pos a1,Option.bind_some]
       by_cases a2:0 > n
       ·rw [if_pos a2];exact ⟨0,by omega,rfl⟩
       ·rw [if_neg a2];exact ⟨n.toNat,by omega,by congr 1;omega⟩
      ·rw [if_neg a1,Option.bind_some,if_neg (by decide)];exact ⟨8,by omega,rfl⟩
     obtain ⟨t,a0,a3⟩:=Option.bind_eq_some_iff.1 h3
     obtain ⟨q,i3,g3,hq,a4,j⟩:=oL b hb i2 z h2 e he
     refine ⟨n,Sort.sset q,i3,g3,Ev.bind hv ?_,by have:=Sort.mc q;omega,j⟩
     simp only [M,Option.bind_some,if_neg c0,if_neg c1,if_neg c2,if_pos c3,a0,a3]
     exact Ev.bind hq (Ev.bind (Sort.kX q (by omega)) (Ev.now _))
    ·refine ⟨n,l,i2,h2,Ev.bind hv ?_,by omega,z⟩
     simp only [M,Option.bind_some,if_neg c0,if_neg c1,if_neg c2,if_neg c3]
     exact Ev.now _
theorem weights (b:List Int) (hb:b.length≤1048576) (i:Nat) (hi:i≤b.length) (h:Int) (n:Nat) (hn:n≤8):∃ (l:List Int) (i':Nat) (h':Int),Ev (fun k=>cH.f k b (i:Int) h (n:Int)) (l,(i':Int),h')∧l.length≤8∧i'≤b.length:=by
 have key:∀ (d t:Nat) (l:List Int) (j:Nat) (g:Int),t+d = n→l.length = t→j≤b.length→∃ (l':List Int) (i':Nat) (h':Int),Ev (fun k=>cH.l0 k (n:Int) l (t:Int) b (j:Int) g) (l',(i':Int),h')∧l'.length≤8∧i'≤b.length:=by
  intro d
  induction d with
  | zero =>
   intro t l j g ht hl hj
   refine ⟨l,j,g,Ev.step (f:=fun _=>some (l,(j:Int),g)) (fun k=>?_) (Ev.now _),by omega,hj⟩
   rw [cH.l0,if_neg (by omega)]
  | succ d ih =>
   intro t l j g ht hl hj
   obtain ⟨x,j1,g1,z,_,y⟩:=below b hb j hj g 9 (by omega)
   obtain ⟨l',i',h',hv,hl',hi'⟩:=ih (t+1) (l ++ [wrap64 (x - 3)]) j1 g1 (by omega) (by rw [List.length_append,List.length_singleton,hl]) y
   refine ⟨l',i',h',Ev.step (fun k=>?_) hv,hl',hi'⟩
   rw [cH.l0,if_pos (by omega),z,Option.bind_some,if_pos (by omega),de.dM t (by omega)]
 obtain ⟨l',i',h',hv,hl',hi'⟩:=key n 0 [] i h (by omega) rfl hi
 exact ⟨l',i',h',by unfold cH.f;exact hv,hl',hi'⟩
def vE (xs:List (List Int)):Prop:=xs.length≤8∧∀ x∈xs,x.length≤8
theorem table (b:List Int) (hb:b.length≤1048576) (i:Nat) (hi:i≤b.length) (h:Int):∃ (xs:List (List Int)) (i':Nat) (h':Int),Ev (fun k=>cu.f k b (i:Int) h) (xs,(i':Int),h')∧vE xs∧i'≤b.length:=by
 obtain ⟨n,i1,h1,M,hn,X⟩:=below b hb i hi h 4 (by omega)
 have hn:=hn (by omega)
 have key:∀ (d t:Nat) (l:List (List Int)) (j:Nat) (g:Int),((t+d:Nat):Int) = n→l.length = t→(∀ x∈l,x.length≤8)→j≤b.length→∃ (l':List (List Int)) (i':Nat) (h':Int),Ev (fun k=>cu.l0 k l n (t:Int) b (j:Int) g) (l',(i':Int),h')∧vE l'∧i'≤b.length:=by
  intro d
  induction d with
  | zero =>
   intro t l j g ht hl hx hj
   refine ⟨l,j,g,Ev.step (f:=fun _=>some (l,(j:Int),g)) (fun k=>?_) (Ev.now _),⟨by omega,hx⟩,hj⟩
   rw [cu.l0,if_neg (by omega)]
  | succ d ih =>
   intro t l j g ht hl hx hj
   obtain ⟨x,j1,g1,M,z,Y⟩:=below b hb j hj g 4 (by omega)
   have z:=z (by omega)
   obtain ⟨x,rfl⟩:∃ q:Nat,x = (q:Int):=⟨x.toNat,by omega⟩
   obtain ⟨w,j2,g2,hw,hwl,a0⟩:=weights b hb j1 Y g1 x (by omega)
   obtain ⟨l',i',h',hv,hl',hi'⟩:=ih (t+1) (l ++ [w]) j2 g2 (by omega) (by rw [List.length_append,List.length_singleton,hl]) (fun y hy=>by
    rcases List.mem_append.1 hy with h | h
    ·exact hx y h
    ·rw [List.mem_singleton] at h;rw [h];exact hwl) a0
   refine ⟨l',i',h',Ev.step (f:=fun k=>(cH.f k b (j1:Int) g1 (x:Int)).bind fun bt=>(if l.length < 5864062014805 then cu.l0 k (l ++ [bt.1]) n ((t+1:Nat):Int) b bt.2.1 bt.2.2 else none)) (fun k=>?_) (Ev.bind hw (Ev.congr (fun k=>if_pos (by omega)) hv)),hl',hi'⟩
   rw [cu.l0,if_pos (by omega),M,Option.bind_some,de.dM t (by omega)]
 obtain ⟨l',i',h',hv,hl',hi'⟩:=key n.toNat 0 [] i1 h1 (by omega) rfl (fun _ h=>by cases h) X
 refine ⟨l',i',h',?_,hl',hi'⟩
 unfold cu.f
 simp only [M,Option.bind_some]
 exact hv
theorem wD (b:List Int) (hb:b.length≤1048576):∃ (n:Int) (l:List Int),Ev (fun k=>eD.f k b) (n,l)∧l.length≤1048576:=by
 obtain ⟨h,h1⟩:=new b hb
 obtain ⟨n,l,i',h',h2,hl,_⟩:=wW b hb 0 (Nat.zero_le _) h 7 (by omega)
 exact ⟨n,l,by unfold eD.f;exact Ev.bind h1 (Ev.bind h2 (Ev.now _)),by omega⟩
theorem eval (b:List Int) (hb:b.length≤1048576):∃ (xs:List (List Int)) (x y:Int),Ev (fun k=>dB.f k b) (xs,x,y)∧vE xs:=by
 obtain ⟨h,h1⟩:=new b hb
 obtain ⟨xs,i1,g1,h2,hx,j⟩:=table b hb 0 (Nat.zero_le _) h
 obtain ⟨x,i2,g2,M,_,z⟩:=below b hb i1 j g1 9 (by omega)
 obtain ⟨y,i3,g3,X,_,Y⟩:=below b hb i2 z g2 9 (by omega)
 refine ⟨xs,wrap64 (x - 4),wrap64 (y - 4),?_,hx⟩
 unfold dB.f
 refine Ev.bind h1 (Ev.bind h2 (Ev.congr (fun k=>?_) (Ev.now _)))
 rw [M,Option.bind_some,X,Option.bind_some]
theorem add (b:List Int) (hb:b.length≤1048576):∃ (xs ys:List (List Int)),Ev (fun k=>e9.f k b) (xs,ys)∧vE xs∧vE ys:=by
 obtain ⟨h,h1⟩:=new b hb
 obtain ⟨xs,i1,g1,h2,hx,j⟩:=table b hb 0 (Nat.zero_le _) h
 obtain ⟨ys,i2,g2,h3,hy,y⟩:=table b hb i1 j g1
 exact ⟨xs,ys,by unfold e9.f;exact Ev.bind h1 (Ev.bind h2 (Ev.bind h3 (Ev.now _))),hx,hy⟩
theorem shift (b:List Int) (hb:b.length≤1048576):∃ (xs:List (List Int)) (x y:Int),Ev (fun k=>dR.f k b) (xs,x,y)∧vE xs:=by
 obtain ⟨h,h1⟩:=new b hb
 obtain ⟨xs,i1,g1,h2,hx,j⟩:=table b hb 0 (Nat.zero_le _) h
 obtain ⟨x,i2,g2,M,_,z⟩:=below b hb i1 j g1 4 (by omega)
 obtain ⟨y,i3,g3,X,_⟩:=pick b hb i2 z g2 [0,1,2,9] (by decide) (by decide)
 refine ⟨xs,wrap64 (x - 1),y,?_,hx⟩
 unfold dR.f
 refine Ev.bind h1 (Ev.bind h2 (Ev.congr (fun k=>?_) (Ev.now _)))
 rw [M,Option.bind_some,X,Option.bind_some]
end Go.Proofs.YtmpodackojmojaaGreat.nw
end
section
namespace Go.Proofs.YtmpodackojmojaaGreat.jR
open Go.RowKit Go.Proofs.YtmpodackojmojaaGreat.Pr Go.Proofs.ag.bl Go.Proofs.ag.cj Go.Proofs.ag.ck
theorem uM (xs:List (List Int)) (i:Nat):cw xs (i:Int) = xs.getD i []:=rfl
def Small (xs:List (List Int)):Prop:=xs.length≤1048576∧∀ x∈xs,x.length≤1048576
theorem Small.at_ {xs:List (List Int)} (h:Small xs) (i:Nat):(xs.getD i []).length≤1048576:=by
 by_cases hi:i < xs.length
 ·have:=h.2 (xs[i]) (List.getElem_mem hi)
  simpa [List.getD,hi] using this
 ·simp [List.getD,hi]
theorem kp {α:Type} (xs:List α) (d:α) (i:Nat) (h:i < xs.length):xs.drop i = xs.getD i d :: xs.drop (i+1):=by
 rw [List.drop_eq_getElem_cons h]
 simp [List.getD,h]
def vP (xs:List (List Int)):Prop:=xs.length≤2097152∧∀ x∈xs,x.length≤2097152
theorem Small.mid {xs:List (List Int)} (h:Small xs):vP xs:=⟨by have:=h.1;omega,fun x hx=>by have:=h.2 x hx;omega⟩
theorem vF (ds rs:List (List Int)) (x:List Int):(ds ++ x :: rs).getD ds.length [] = x:=by simp [List.getD]
end Go.Proofs.YtmpodackojmojaaGreat.jR
end
section
namespace Go.Proofs.YtmpodackojmojaaGreat.pB
open Go.RowKit Go.Proofs.YtmpodackojmojaaGreat.Pr Go.Proofs.YtmpodackojmojaaGreat.Sets Go.Proofs.YtmpodackojmojaaGreat.mA Go.Proofs.YtmpodackojmojaaGreat.iD Go.Proofs.YtmpodackojmojaaGreat.Flat Go.Proofs.YtmpodackojmojaaGreat.Sort Go.Proofs.ag.bl Go.Proofs.ag.cj Go.Proofs.ag.ck
set_option linter.unusedVariables false
set_option maxRecDepth 100000 in
theorem pU:∀ m,m < 9→∀ b,b < 256→b < 2 ^ m→2 ^ m - 1 - b = diff (2 ^ m - 1) b:=by decide +kernel
theorem lK {m b:Nat} (hm:m≤8) (hb:b < 2 ^ m):2 ^ m - 1 - b = diff (2 ^ m - 1) b:=pU m (by omega) b (Nat.lt_of_lt_of_le hb (bN hm)) hb
def comp (m:Nat) (l:List Nat):List Int:=sset (ints (l.map fun b=>diff (2 ^ m - 1) b))
theorem lM (l:List Nat) (g:Nat→Nat):ints (l.map g) = (List.range' 0 l.length).foldl (fun (s:List Int) i=>s ++ [((g (l.getD i 0):Nat):Int)]) []:=by
 have:∀ (q:List Nat) (f:Nat→Int) (o:List Int),q.foldl (fun (s:List Int) i=>s ++ [f i]) o = o ++ q.map f:=by
  intro q f
  induction q with
  | nil=>intro o;simp
  | cons a q ih=>intro o;rw [List.foldl_cons,ih];simp
 rw [this,List.nil_append]
 unfold ints
 rw [List.map_map,← List.range_eq_range']
 exact (de.mU l 0 (fun x=>((g x:Nat):Int))).symm
theorem qD (m:Nat) (hm:m≤8) (l:List Nat) (hl:∀ s∈l,s < 2 ^ m) (hn:l.length≤1048576) (k:Nat) (hk:l.length < k):bX.f k (m:Int) (ints l) = some true:=by
 unfold bX.f
 have:=de.kV (fun k i=>bX.l0 k (m:Int) (ints l) i) l.length (fun _=>true) 0 true (fun k i _ hi=>by
  simp only [bX.l0]
  rw [if_pos (by rw [aH];omega),if_pos (by omega),eO,ko,jw hm (hl _ (dG l 0 i hi)),de.dM i (by omega)]
  rfl) (fun k _=>by
  simp only [bX.l0]
  rw [if_neg (by rw [aH];omega)]) l.length 0 k (by omega) (by omega)
 simpa [de.uc] using this
theorem sU (m:Nat) (hm:m≤8) (l:List Nat) (hl:∀ s∈l,s < 2 ^ m) (hn:l.length≤1048576):Ev (fun k=>aN.f k (m:Int) (ints l)) (comp m l):=by
 have j:=bN hm
 have i1:bH.f (m:Int) 0 8 = some true:=by
  unfold bH.f
  rw [if_pos (by omega),decide_eq_true (by omega)]
 unfold aN.f
 simp only [Option.bind_some,i1,if_true]
 refine Ev.bind (de.eW (l.length+1) (fun k hk=>qD m hm l hl hn k (by omega))) ?_
 simp only [Bool.not_true]
 refine Ev.step (f:=fun k=>aN.l0 k (m:Int) (ints l) [] 0) (fun k=>?_) ?_
 ·simp only [aN.j0]
  rw [if_neg (by decide)]
 ·refine de.eI (fun k (s:List Int) i=>aN.l0 k (m:Int) (ints l) s i) l.length (fun i s=>s ++ [((diff (2 ^ m - 1) (l.getD i 0):Nat):Int)]) (fun i s=>s.length≤i) (comp m l) (fun i s hi hP=>⟨?_,fun h=>Ev.step (fun k=>?_) h⟩) l.length 0 [] (by omega) (by simp) (fun _=>?_)
  ·simp;omega
  ·have hb:=hl _ (dG l 0 i hi)
   simp only [aN.l0]
   rw [if_pos (by rw [aH];omega),eP m hm,eO,de.dM i (by omega)]
   simp only [Option.bind_some]
   rw [if_pos (by omega),if_pos (by omega),de.jQ (by omega) (by omega),← lK hm hb,show (((2 ^ m - 1:Nat):Int) - ((l.getD i 0:Nat):Int)) = ((2 ^ m - 1 - l.getD i 0:Nat):Int) by omega]
  ·refine Ev.step (f:=fun k=>(aC.f k (ints (l.map fun b=>diff (2 ^ m - 1) b))).bind fun t=>some t) (fun k=>?_) (Ev.bind (kX _ (by rw [aH,List.length_map];exact hn)) (Ev.now _))
   simp only [aN.l0]
   rw [if_neg (by rw [aH];omega),← lM l (fun b=>diff (2 ^ m - 1) b)]
def qE (n:Int) (l:List Int):Int×List Int:=if eX n l = true then (n,comp n.toNat (l.map Int.toNat)) else (0,[])
theorem sV (n:Int) (l:List Int) (hn:l.length≤1048576):Ev (fun k=>dx.f k n l) (qE n l):=by
 unfold dx.f qE
 refine Ev.bind (iQ n l hn) ?_
 cases h:eX n l with
 | false=>simp only [Bool.false_eq_true,if_false];exact Ev.now _
 | true =>
  obtain ⟨m,j,rfl,hm,rfl,hl,_,_⟩:=iH h
  rw [aH] at hn
  simp only [if_true,dU,Int.toNat_natCast]
  exact Ev.bind (sU m hm j hl hn) (Ev.now _)
end Go.Proofs.YtmpodackojmojaaGreat.pB
end
section
namespace Go.Proofs.YtmpodackojmojaaGreat.jo
open Go.RowKit Go.Proofs.YtmpodackojmojaaGreat.Sets Go.Proofs.YtmpodackojmojaaGreat.iD
set_option linter.unusedVariables false
theorem fK (s:Nat):cnt s = (List.range' 0 8).countP fun j=>s.testBit j:=by
 unfold cnt elems
 rw [List.countP_eq_length_filter]
theorem kZ {a b:Nat} (h:∀ j,j < 8→a.testBit j = true→b.testBit j = true):cnt a≤cnt b:=by
 rw [fK,fK]
 refine List.countP_mono_left fun j hj=>h j ?_
 have:=List.mem_range'_1.1 hj
 omega
theorem pV (s b:Nat):cnt (s &&& b)≤cnt b:=kZ fun j _ h=>by
 rw [Nat.testBit_and,Bool.and_eq_true] at h
 exact h.2
theorem oP:∀ a,a < 256→∀ e,e < 8→∀ f,f < 8→a.testBit e = true→a.testBit f = false→cnt (diff a (2 ^ e) ||| 2 ^ f) = cnt a:=by decide +kernel
theorem sW:∀ a,a < 256→∀ e,e < 8→a.testBit e = true→cnt (diff a (2 ^ e)) < cnt a:=by decide +kernel
theorem oQ:∀ a,a < 256→0 < cnt a→∃ e,e < 8∧a.testBit e = true:=by decide +kernel
theorem iR:∀ a,a < 256→cnt a = 0→a = 0:=by decide +kernel
theorem nL {l:List Nat} {a b e:Nat} (hf:eN l = false) (ha:a∈l) (hb:b∈l) (he:e < 8) (h1:a.testBit e = true) (h2:b.testBit e = false):∃ f,f < 8∧b.testBit f = true∧a.testBit f = false∧(a - 2 ^ e+2 ^ f)∈l:=by
 have hx:fO l a b e = true:=by
  cases h:fO l a b e with
  | true=>rfl
  | false =>
   have:eN l = true:=by
    unfold eN
    rw [List.any_eq_true]
    refine ⟨a,ha,List.any_eq_true.2 ⟨b,hb,List.any_eq_true.2 ⟨e,List.mem_range'_1.2 (by omega),?_⟩⟩⟩
    rw [h1,h2,h]
    rfl
   rw [hf] at this
   exact Bool.noConfusion this
 unfold fO at hx
 obtain ⟨f,y,j⟩:=List.any_eq_true.1 hx
 have:=List.mem_range'_1.1 y
 rw [Bool.and_eq_true,Bool.and_eq_true] at j
 exact ⟨f,by omega,j.1.1,by simpa using j.1.2,by simpa using j.2⟩
theorem oR (l:List Nat) (hl:∀ s∈l,s < 256) (hf:eN l = false):∀ n a b:Nat,a∈l→b∈l→cnt (diff a b)≤n→cnt a≤cnt b:=by
 intro n
 induction n with
 | zero =>
  intro a b ha hb h
  have y:=hl a ha
  have hz:diff a b = 0:=iR _ (dY (n:=8) y) (by omega)
  refine kZ fun j hj hbit=>?_
  have:=cC a b j
  rw [hz,Nat.zero_testBit,hbit] at this
  simpa using this.symm
 | succ n ih =>
  intro a b ha hb h
  have y:=hl a ha
  by_cases hle:cnt (diff a b)≤n
  ·exact ih a b ha hb hle
  ·obtain ⟨e,he,hbit⟩:=oQ _ (dY (n:=8) y) (show 0 < cnt (diff a b) by omega)
   have z:=hbit
   rw [cC,Bool.and_eq_true] at z
   obtain ⟨h1,h2⟩:=z
   have h2':b.testBit e = false:=by simpa using h2
   obtain ⟨f,X,hbf,M,hmem⟩:=nL hf ha hb he h1 h2'
   rw [← swap_eq a y e he f X h1 M] at hmem
   have hd:diff (diff a (2 ^ e) ||| 2 ^ f) b = diff (diff a b) (2 ^ e):=by
    apply Nat.eq_of_testBit_eq
    intro j
    rw [cC,Nat.testBit_or,cC,cC,cC,Nat.testBit_two_pow,Nat.testBit_two_pow]
    by_cases ej:f = j
    ·subst ej
     rw [hbf,M]
     simp
    ·rw [decide_eq_false ej,Bool.or_false]
     cases a.testBit j <;> cases b.testBit j <;> cases decide (e = j) <;> rfl
   have hlt:=sW _ (dY (n:=8) y) e he hbit
   rw [← hd] at hlt
   have:=ih _ b hmem hb (by omega)
   rw [oP a y e he f X h1 M] at this
   exact this
theorem gF {l:List Nat} (hl:∀ s∈l,s < 256) (hf:eN l = false) {a b:Nat} (ha:a∈l) (hb:b∈l):cnt a = cnt b :=
 Nat.le_antisymm (oR l hl hf _ a b ha hb (Nat.le_refl _)) (oR l hl hf _ b a hb ha (Nat.le_refl _))
theorem gy (l:List Nat) (s r:Nat) (h:∀ b∈l,cnt (s &&& b)≤r):bI l s≤r:=by
 have:∀ (l:List Nat) (o:Nat),o≤r→(∀ b∈l,cnt (s &&& b)≤r)→l.foldl (fun m b=>max m (cnt (s &&& b))) o≤r:=by
  intro l
  induction l with
  | nil=>exact fun o ho _=>ho
  | cons a l ih =>
   intro o ho h
   rw [List.foldl_cons]
   have:=h a (by simp)
   exact ih _ (by omega) fun b hb=>h b (by simp [hb])
 exact this l 0 (by omega) h
theorem fG (l:List Nat) (s b:Nat) (hb:b∈l):cnt (s &&& b)≤bI l s:=by
 have mono:∀ (l:List Nat) (o:Nat),o≤l.foldl (fun m b=>max m (cnt (s &&& b))) o:=by
  intro l
  induction l with
  | nil=>exact fun o=>Nat.le_refl _
  | cons a l ih =>
   intro o
   rw [List.foldl_cons]
   exact Nat.le_trans (by omega) (ih _)
 have:∀ (l:List Nat) (o:Nat),b∈l→cnt (s &&& b)≤l.foldl (fun m b=>max m (cnt (s &&& b))) o:=by
  intro l
  induction l with
  | nil=>exact fun o h=>by simp at h
  | cons a l ih =>
   intro o h
   rw [List.foldl_cons]
   rcases List.mem_cons.1 h with rfl | h
   ·exact Nat.le_trans (by omega) (mono l _)
   ·exact ih _ h
 exact this l 0 hb
def top (l:List Nat):Nat:=cnt (l.getD 0 0)
theorem jJ {l:List Nat} (hl:∀ s∈l,s < 256) (hf:eN l = false) (hn:0 < l.length) (s:Nat):bI l s≤top l :=
 gy l s _ fun b hb=>Nat.le_trans (pV s b) (Nat.le_of_eq (gF hl hf hb (dG l 0 0 hn)))
end Go.Proofs.YtmpodackojmojaaGreat.jo
end
section
namespace Go.Proofs.YtmpodackojmojaaGreat.uB
open Go.RowKit Go.Proofs.YtmpodackojmojaaGreat.Pr Go.Proofs.YtmpodackojmojaaGreat.Sets Go.Proofs.YtmpodackojmojaaGreat.mA Go.Proofs.YtmpodackojmojaaGreat.iD Go.Proofs.YtmpodackojmojaaGreat.Flat Go.Proofs.YtmpodackojmojaaGreat.jo Go.Proofs.ag.bl Go.Proofs.ag.cj Go.Proofs.ag.ck
set_option linter.unusedVariables false
theorem jK {m:Nat} {l:List Nat} (hm:m≤8) (hl:∀ s∈l,s < 2 ^ m):∀ b∈l,b < 256:=fun b hb=>Nat.lt_of_lt_of_le (hl b hb) (bN hm)
theorem pW (n:Int) (l:List Int) (hn:l.length≤1048576):Ev (fun k=>e7.f k n l) (if eX n l = true then (top (l.map Int.toNat):Int) else -1):=by
 unfold e7.f
 refine Ev.bind (qC n l hn) ?_
 cases h:eX n l with
 | false=>simp only [Bool.false_eq_true,if_false];exact Ev.now _
 | true =>
  obtain ⟨m,j,rfl,hm,rfl,hl,h0,_⟩:=iH h
  simp only [if_true,dU,aH,if_pos (show (0:Int) < (j.length:Int) by omega)]
  have hr:rd (ints j) 0 = ((j.getD 0 0:Nat):Int):=eO j 0
  rw [hr,lJ _ (jK hm hl _ (dG j 0 0 h0))]
  exact Ev.now _
theorem pX (n:Int) (l:List Int) (hn:l.length≤1048576):Ev (fun k=>dN.f k n l) (if eX n l = true then (top (l.map Int.toNat):Int) else -1):=by
 unfold dN.f
 refine Ev.bind (iQ n l hn) ?_
 cases h:eX n l with
 | false=>simp only [Bool.false_eq_true,if_false];exact Ev.now _
 | true =>
  obtain ⟨m,j,rfl,hm,rfl,hl,h0,_⟩:=iH h
  simp only [if_true,dU,aH,if_pos (show (0:Int) < (j.length:Int) by omega)]
  have hr:rd (ints j) 0 = ((j.getD 0 0:Nat):Int):=eO j 0
  rw [hr]
  exact Ev.bind (fD _ (jK hm hl _ (dG j 0 0 h0))) (Ev.now _)
theorem jL (l:List Nat):top l≤8:=iB _
end Go.Proofs.YtmpodackojmojaaGreat.uB
end
section
namespace Go.Proofs.YtmpodackojmojaaGreat.gO
open Go.RowKit Go.Proofs.YtmpodackojmojaaGreat.Pr Go.Proofs.YtmpodackojmojaaGreat.jR Go.Proofs.YtmpodackojmojaaGreat.Sets Go.Proofs.YtmpodackojmojaaGreat.mA Go.Proofs.YtmpodackojmojaaGreat.iD Go.Proofs.YtmpodackojmojaaGreat.Flat Go.Proofs.YtmpodackojmojaaGreat.jo Go.Proofs.YtmpodackojmojaaGreat.pB Go.Proofs.YtmpodackojmojaaGreat.uB Go.Proofs.ag.bl Go.Proofs.ag.cj Go.Proofs.ag.ck
set_option linter.unusedVariables false
def gI (r c:Nat) (t:List (List Int)):Prop:=t.length = r∧∀ x∈t,x.length = c
theorem gI.at_ {r c:Nat} {t:List (List Int)} (h:gI r c t) {i:Nat} (hi:i < r):(t.getD i []).length = c:=by
 have hi':i < t.length:=by rw [h.1];exact hi
 have:=h.2 (t[i]) (List.getElem_mem hi')
 simpa [List.getD,hi'] using this
theorem gI.set {r c:Nat} {t:List (List Int)} (h:gI r c t) (i:Nat) {x:List Int} (hx:x.length = c):gI r c (t.set i x):=by
 refine ⟨by simpa using h.1,fun y hy=>?_⟩
 rcases List.mem_or_eq_of_mem_set hy with hy | rfl
 ·exact h.2 y hy
 ·exact hx
theorem gI.mid {r c:Nat} {t:List (List Int)} (h:gI r c t) (hr:r≤2097152) (hc:c≤2097152):vP t:=⟨by rw [h.1];exact hr,fun x hx=>by rw [h.2 x hx];exact hc⟩
theorem l5 (r c:Nat):gI r c (List.replicate r (List.replicate c 0)):=⟨by simp,fun x hx=>by rw [(List.mem_replicate.1 hx).2];simp⟩
theorem n3 (n:Nat) {γ:Type} (L:Nat→List (List Int)→Int→Option γ) (r:γ) (v:List Int)
  (hstep:∀ k ys (i:Nat),i < n→ys.length = i→L (k+1) ys (i:Int) = L k (ys ++ [v]) ((i+1:Nat):Int)) (hend:Ev (fun k=>L k (List.replicate n v) (n:Int)) r):Ev (fun k=>L k [] 0) r:=by
 have key:∀ (d i:Nat),i+d = n→Ev (fun k=>L k (List.replicate i v) (i:Int)) r:=by
  intro d
  induction d with
  | zero =>
   intro i e
   obtain rfl:i = n:=by omega
   exact hend
  | succ d ih =>
   intro i e
   refine Ev.step (fun k=>hstep k _ i (by omega) (by simp)) ?_
   have:=ih (i+1) (by omega)
   rwa [List.replicate_succ'] at this
 exact key n 0 (by omega)
theorem sX (r c:Nat) (hr:r≤64) (hc:c≤64):Ev (fun k=>cg.f k (r:Int) (c:Int)) (List.replicate r (List.replicate c 0)):=by
 unfold cg.f
 refine n3 r (fun k ys n=>cg.l0 k (r:Int) (c:Int) ys n) _ (List.replicate c 0) (fun k ys n hn hy=>?_) (de.eW 1 (fun k hk=>?_))
 ·simp only [cg.l0]
  rw [if_pos (by omega),if_pos (by omega),if_pos (by omega),if_pos (by omega),de.dM n (by omega),Int.toNat_natCast]
 ·obtain ⟨q,rfl⟩:∃ q,k = q+1:=⟨k - 1,by omega⟩
  simp only [cg.l0]
  rw [if_neg (by omega)]
theorem rj:∀ m,m < 9→∀ b,b < 256→b < 2 ^ m→cnt (diff (2 ^ m - 1) b)+cnt b = m:=by decide +kernel
theorem jb {m b:Nat} (hm:m≤8) (hb:b < 2 ^ m):cnt (diff (2 ^ m - 1) b)+cnt b = m:=rj m (by omega) b (Nat.lt_of_lt_of_le hb (bN hm)) hb
theorem dY {m b:Nat} (hm:m≤8) (hb:b < 2 ^ m):diff (2 ^ m - 1) b < 2 ^ m:=by
 rw [← lK hm hb]
 have:=Nat.two_pow_pos m
 omega
theorem kr {l:List Nat} (hl:∀ s∈l,s < 256) (hf:eN l = false) (h0:0 < l.length) {b:Nat} (hb:b∈l):cnt b = top l:=gF hl hf hb (dG l 0 0 h0)
theorem jL {m:Nat} (hm:m≤8) {l:List Nat} (hl:∀ s∈l,s < 2 ^ m) (h0:0 < l.length):top l≤m:=by
 have:=jb hm (hl _ (dG l 0 0 h0))
 unfold top
 omega
end Go.Proofs.YtmpodackojmojaaGreat.gO
end
section
namespace Go.Proofs.YtmpodackojmojaaGreat.gN
open Go.RowKit Go.Proofs.YtmpodackojmojaaGreat.Pr Go.Proofs.YtmpodackojmojaaGreat.jR Go.Proofs.YtmpodackojmojaaGreat.Sets Go.Proofs.YtmpodackojmojaaGreat.mA Go.Proofs.YtmpodackojmojaaGreat.iD Go.Proofs.YtmpodackojmojaaGreat.Flat Go.Proofs.YtmpodackojmojaaGreat.jo Go.Proofs.YtmpodackojmojaaGreat.uB Go.Proofs.YtmpodackojmojaaGreat.gO Go.Proofs.ag.bl Go.Proofs.ag.cj Go.Proofs.ag.ck
set_option linter.unusedVariables false
def wX:List (List Int):=[[1],[-1,1],[1,-2,1],[-1,3,-3,1],[1,-4,6,-4,1],[-1,5,-10,10,-5,1],[1,-6,15,-20,15,-6,1],[-1,7,-21,35,-35,21,-7,1],[1,-8,28,-56,70,-56,28,-8,1]]
def xC:List (List Int):=[[1],[1,1],[1,2,1],[1,3,3,1],[1,4,6,4,1],[1,5,10,10,5,1],[1,6,15,20,15,6,1],[1,7,21,35,35,21,7,1],[1,8,28,56,70,56,28,8,1]]
def pw (a:Nat):List Int:=wX.getD a []
def ch (a:Nat):List Int:=xC.getD a []
def sg (n:Nat):Int:=if n % 2 = 0 then 1 else -1
theorem pY:∀ a,a < 9→(pw a).length = a+1:=by decide +kernel
theorem sY:∀ a,a < 9→(ch a).length = a+1:=by decide +kernel
theorem qF {γ:Type} {f:Nat→Option γ} (hm:∀ k,iN (f k) (f (k+1))) {r:γ} (K:Nat) (h:f K = some r):Ev f r:=by
 refine de.eW K (fun k hk=>?_)
 obtain ⟨d,rfl⟩:∃ d,k = K+d:=⟨k - K,by omega⟩
 clear hk
 induction d with
 | zero=>exact h
 | succ d ih=>exact hm _ _ ih
theorem wE:∀ a,a < 9→bE.f 90 ((a:Nat):Int) = some (pw a):=by decide +kernel
theorem uk:∀ a,a < 9→b5.f 90 ((a:Nat):Int) = some (ch a):=by decide +kernel
theorem uN:∀ a,a < 9→fL.f ((a:Nat):Int) = some (sg a):=by decide +kernel
theorem less (a:Nat) (h:a < 9):Ev (fun k=>bE.f k (a:Int)) (pw a):=qF (fun k=>bE.mono _ k) 90 (wE a h)
theorem choose (a:Nat) (h:a < 9):Ev (fun k=>b5.f k (a:Int)) (ch a):=qF (fun k=>b5.mono _ k) 90 (uk a h)
theorem wY:∀ a,a < 9→∀ b,b < 9→∀ i,i < a+1→∀ j,j < b+1→wrap64 ((wrap64 ((wrap64 ((wrap64 (1 * (rd (ch a) ((i:Nat):Int)))) * (rd (ch b) ((j:Nat):Int)))) * sg (a - i))) * sg (b - j)) = wrap64 (rd (pw a) ((i:Nat):Int) * rd (pw b) ((j:Nat):Int)):=by decide +kernel
def uO (t:List (List Int)) (i j:Nat) (v:Int):List (List Int):=t.set i ((t.getD i []).set j (wrap64 (rd (t.getD i []) (j:Int)+v)))
theorem l6 {r c:Nat} {t:List (List Int)} (h:gI r c t) {i:Nat} (hi:i < r) (j:Nat) (v:Int):gI r c (uO t i j v):=h.set i (by rw [List.length_set];exact h.at_ hi)
def rq (a b i:Nat) (t:List (List Int)):List (List Int):=(List.range' 0 (b+1)).foldl (fun t j=>uO t i j (wrap64 (rd (pw a) (i:Int) * rd (pw b) (j:Int)))) t
def nu (a b:Nat) (t:List (List Int)):List (List Int):=(List.range' 0 (a+1)).foldl (fun t i=>rq a b i t) t
theorem lO {r c:Nat} {t:List (List Int)} (h:gI r c t) (a b:Nat) {i:Nat} (hi:i < r):gI r c (rq a b i t):=by
 have key:∀ (q:List Nat) (t:List (List Int)),gI r c t→gI r c (q.foldl (fun t j=>uO t i j (wrap64 (rd (pw a) (i:Int) * rd (pw b) (j:Int)))) t):=by
  intro q
  induction q with
  | nil=>exact fun t h=>h
  | cons j q ih=>exact fun t h=>ih _ (l6 h hi j _)
 exact key _ t h
theorem ku {r c:Nat} {t:List (List Int)} (h:gI r c t) (a b:Nat) (ha:a < r):gI r c (nu a b t):=by
 have key:∀ (q:List Nat) (t:List (List Int)),(∀ i∈q,i < r)→gI r c t→gI r c (q.foldl (fun t i=>rq a b i t) t):=by
  intro q
  induction q with
  | nil=>exact fun t _ h=>h
  | cons j q ih=>exact fun t hq h=>ih _ (fun i hi=>hq i (by simp [hi])) (lO h a b (hq j (by simp)))
 exact key _ t (fun i hi=>by have:=List.mem_range'_1.1 hi;omega) h
theorem od (r c:Nat) (hr:r≤9) (hc:c≤9) (t:List (List Int)) (ht:gI r c t) (a b:Nat) (ha:a < r) (hb:b < c):Ev (fun k=>bO.f k t (a:Int) (b:Int) 1) (nu a b t):=by
 have la:=sY a (by omega)
 have lb:=sY b (by omega)
 unfold bO.f
 refine Ev.bind (choose a (by omega)) (Ev.bind (choose b (by omega)) ?_)
 refine de.eI (fun k t i=>bO.l0 k (a:Int) (b:Int) 1 t (ch a) (ch b) i) (a+1) (fun i t=>rq a b i t) (fun _ t=>gI r c t) _ (fun i t hi hR=>⟨lO hR a b (by omega),fun h=>?_⟩) (a+1) 0 t (Nat.zero_add _) ht (fun _=>de.eW 1 (fun k hk=>?_))
 ·refine Ev.step (f:=fun k=>bO.l1 k (a:Int) (b:Int) 1 t (ch a) (ch b) (i:Int) 0) (fun k=>?_) ?_
  ·simp only [bO.l0]
   rw [if_pos (by omega)]
  refine de.eI (fun k t j=>bO.l1 k (a:Int) (b:Int) 1 t (ch a) (ch b) (i:Int) j) (b+1) (fun j t=>uO t i j (wrap64 (rd (pw a) (i:Int) * rd (pw b) (j:Int)))) (fun _ t=>gI r c t) _ (fun j t hj hR=>⟨l6 hR (by omega) j _,fun h=>Ev.step (fun k=>?_) h⟩) (b+1) 0 t (Nat.zero_add _) hR (fun _=>Ev.step (fun k=>?_) h)
  ·have hrow:=hR.at_ (show i < r by omega)
   simp only [bO.l1]
   rw [if_pos (by omega),if_pos (by omega),if_pos (by rw [hR.1];omega),if_pos (by omega),uM,if_pos (by rw [hrow];omega),if_pos (by omega),if_pos (by omega),de.jQ (i:=(a:Int) - (i:Int)) (by omega) (by omega),de.jQ (i:=(b:Int) - (j:Int)) (by omega) (by omega),show (a:Int) - (i:Int) = ((a - i:Nat):Int) by omega,show (b:Int) - (j:Int) = ((b - j:Nat):Int) by omega,uN (a - i) (by omega),Option.bind_some,uN (b - j) (by omega),Option.bind_some,wY a (by omega) b (by omega) i hi j hj,de.dM j (by omega),Int.toNat_natCast,Int.toNat_natCast]
   rfl
  ·simp only [bO.l1]
   rw [if_neg (by omega),de.dM i (by omega)]
   rfl
 ·obtain ⟨q,rfl⟩:∃ q,k = q+1:=⟨k - 1,by omega⟩
  simp only [bO.l0]
  rw [if_neg (by omega)]
  rfl
theorem l7 (s b:Nat):cnt (s &&& b)+cnt (s ||| b) = cnt s+cnt b:=by
 rw [fK,fK,fK,fK]
 simp only [Nat.testBit_and,Nat.testBit_or]
 generalize List.range' 0 8 = q
 induction q with
 | nil=>rfl
 | cons j q ih =>
  rw [List.countP_cons,List.countP_cons,List.countP_cons,List.countP_cons]
  cases s.testBit j <;> cases b.testBit j <;> simp <;> omega
theorem l8 {m:Nat} (hm:m≤8) {l:List Nat} (hl:∀ s∈l,s < 2 ^ m) (h0:0 < l.length) {s:Nat} (hs:s < 2 ^ m):cnt s - bI l s≤m - top l:=by
 have hb:=dG l 0 0 h0
 have h1:=fG l s _ hb
 have h2:=l7 s (l.getD 0 0)
 have h3:=jb hm (mg hs (hl _ hb))
 unfold top
 omega
theorem eF (l:List Nat) (s:Nat):bI l s≤cnt s:=gy l s _ fun b _=>by
 have:=l7 s b
 have h:cnt b≤cnt (s ||| b):=kZ fun j _ h=>by rw [Nat.testBit_or,h,Bool.or_true]
 omega
def eG (m:Nat) (l:List Nat):List (List Int):=(List.range' 0 (2 ^ m)).foldl (fun t s=>nu (top l - bI l s) (cnt s - bI l s) t) (List.replicate (top l+1) (List.replicate (m - top l+1) 0))
def k7 (n:Int) (l:List Int):List (List Int):=if eX n l = true then eG n.toNat (l.map Int.toNat) else []
theorem jx (m:Nat) (l:List Nat):gI (top l+1) (m - top l+1) (eG m l):=by
 have key:∀ (q:List Nat) (t:List (List Int)),gI (top l+1) (m - top l+1) t→gI (top l+1) (m - top l+1) (q.foldl (fun t s=>nu (top l - bI l s) (cnt s - bI l s) t) t):=by
  intro q
  induction q with
  | nil=>exact fun t h=>h
  | cons s q ih=>exact fun t h=>ih _ (ku h _ _ (by omega))
 exact key _ _ (l5 _ _)
theorem sZ (n:Int) (l:List Int):vP (k7 n l):=by
 unfold k7
 split
 ·next c =>
  obtain ⟨m,j,rfl,hm,rfl,hl,h0,hf⟩:=iH c
  rw [Int.toNat_natCast,dU]
  have:=jL hm hl h0
  exact (jx m j).mid (by omega) (by omega)
 ·exact ⟨by simp,by simp⟩
theorem l9 (n:Int) (l:List Int) (hn:l.length≤1048576):Ev (fun k=>aZ.f k n l) (k7 n l):=by
 unfold aZ.f
 simp only [Option.bind_some]
 refine Ev.bind (pX n l hn) ?_
 unfold k7
 cases hM:eX n l with
 | false =>
  simp only [Bool.false_eq_true,if_false,if_pos (show (-1:Int) < 0 by decide)]
  exact Ev.now _
 | true =>
  obtain ⟨m,j,rfl,hm,rfl,hl,h0,hf⟩:=iH hM
  have ht:=jL hm hl h0
  have y:=bN hm
  rw [aH] at hn
  simp only [if_true,dU,Int.toNat_natCast,if_neg (show ¬ ((top j:Int) < 0) by omega)]
  have ec:wrap64 (wrap64 ((m:Int) - (top j:Int))+1) = ((m - top j+1:Nat):Int):=by
   rw [de.jQ (i:=(m:Int) - (top j:Int)) (by omega) (by omega),de.jQ (by omega) (by omega)]
   omega
  refine n3 (top j+1) (fun k ys n=>aZ.l0 k ys (top j:Int) n (m:Int) (ints j)) _ (List.replicate (m - top j+1) 0) (fun k ys n hn' hy=>?_) ?_
  ·simp only [aZ.l0]
   rw [ec,if_pos (by omega),if_pos (by omega),if_pos (by omega),if_pos (by omega),de.dM n (by omega),Int.toNat_natCast]
  refine Ev.step (f:=fun k=>aZ.l1 k (List.replicate (top j+1) (List.replicate (m - top j+1) 0)) (top j:Int) 0 (m:Int) (ints j)) (fun k=>by
   simp only [aZ.l0]
   rw [if_neg (by omega)]) ?_
  refine de.eI (fun k t s=>aZ.l1 k t (top j:Int) s (m:Int) (ints j)) (2 ^ m) (fun s t=>nu (top j - bI j s) (cnt s - bI j s) t) (fun _ t=>gI (top j+1) (m - top j+1) t) _ (fun s t hs hR=>⟨ku hR _ _ (by omega),fun h=>?_⟩) (2 ^ m) 0 _ (Nat.zero_add _) (l5 _ _) (fun _=>de.eW 1 (fun k hk=>?_))
  ·have h1:=l8 hm hl h0 hs
   have h2:=eF j s
   have h3:=jJ (jK hm hl) hf h0 s
   have h4:=iB s
   refine Ev.step (f:=fun k=>(cO.f k (m:Int) (ints j) (s:Int)).bind fun t1=>((b6.f k (s:Int)).bind fun t2=>((bO.f k t (wrap64 ((top j:Int) - t1)) (wrap64 (t2 - t1)) 1).bind fun t3=>(aZ.l1 k t3 (top j:Int) ((s+1:Nat):Int) (m:Int) (ints j))))) (fun k=>?_) ?_
   ·simp only [aZ.l1]
    rw [eP m hm,Option.bind_some,if_pos (by omega),de.dM s (by omega)]
   ·refine Ev.bind (n2 m j s (by omega) (jK hm hl) hn) (Ev.bind (fD s (by omega)) ?_)
    rw [de.jQ (by omega) (by omega),de.jQ (by omega) (by omega),show (top j:Int) - (bI j s:Int) = ((top j - bI j s:Nat):Int) by omega,show (cnt s:Int) - (bI j s:Int) = ((cnt s - bI j s:Nat):Int) by omega]
    exact Ev.bind (od (top j+1) (m - top j+1) (by omega) (by omega) t hR _ _ (by omega) (by omega)) h
  ·obtain ⟨q,rfl⟩:∃ q,k = q+1:=⟨k - 1,by omega⟩
   have hp:=Nat.two_pow_pos m
   simp only [aZ.l1]
   rw [eP m hm,Option.bind_some,if_neg (by omega)]
   rfl
theorem qG (n:Int) (l:List Int) (hn:l.length≤1048576):Ev (fun k=>bC.f k n l) (k7 n l):=by
 unfold bC.f
 refine Ev.bind (pW n l hn) ?_
 unfold k7
 cases hM:eX n l with
 | false =>
  simp only [Bool.false_eq_true,if_false,if_pos (show (-1:Int) < 0 by decide)]
  exact Ev.now _
 | true =>
  obtain ⟨m,y,rfl,hm,rfl,hl,h0,hf⟩:=iH hM
  have ht:=jL hm hl h0
  have z:=bN hm
  rw [aH] at hn
  simp only [if_true,dU,Int.toNat_natCast,if_neg (show ¬ ((top y:Int) < 0) by omega)]
  rw [de.jQ (by omega) (by omega),de.jQ (i:=(m:Int) - (top y:Int)) (by omega) (by omega),de.jQ (by omega) (by omega),show (top y:Int)+1 = ((top y+1:Nat):Int) by omega,show (m:Int) - (top y:Int)+1 = ((m - top y+1:Nat):Int) by omega]
  refine Ev.bind (sX (top y+1) (m - top y+1) (by omega) (by omega)) ?_
  refine de.eI (fun k t s=>bC.l0 k (top y:Int) t s (m:Int) (ints y)) (2 ^ m) (fun s t=>nu (top y - bI y s) (cnt s - bI y s) t) (fun _ t=>gI (top y+1) (m - top y+1) t) _ (fun s t hs hR=>⟨ku hR _ _ (by omega),fun h=>?_⟩) (2 ^ m) 0 _ (Nat.zero_add _) (l5 _ _) (fun _=>de.eW 1 (fun k hk=>?_))
  ·have h1:=l8 hm hl h0 hs
   have h2:=eF y s
   have h3:=jJ (jK hm hl) hf h0 s
   have h4:=iB s
   refine Ev.step (f:=fun k=>(dI.f k (m:Int) (ints y) (s:Int)).bind fun t1=>((eu.f (s:Int)).bind fun t2=>((bE.f k (wrap64 (t2 - t1))).bind fun t3=>((bE.f k (wrap64 ((top y:Int) - t1))).bind fun t4=>(bC.l1 k (top y:Int) t (s:Int) t3 t4 (t4.length:Int) 0 (m:Int) (ints y)))))) (fun k=>?_) ?_
   ·simp only [bC.l0]
    rw [nK m hm,Option.bind_some,if_pos (by omega)]
   ·refine Ev.bind (sR m y s (by omega) (jK hm hl) hn) ?_
    rw [lJ s (by omega)]
    simp only [Option.bind_some]
    rw [de.jQ (by omega) (by omega),de.jQ (by omega) (by omega),show (top y:Int) - (bI y s:Int) = ((top y - bI y s:Nat):Int) by omega,show (cnt s:Int) - (bI y s:Int) = ((cnt s - bI y s:Nat):Int) by omega]
    refine Ev.bind (less _ (by omega)) (Ev.bind (less _ (by omega)) ?_)
    have ha:top y - bI y s < top y+1:=by omega
    have hb:cnt s - bI y s < m - top y+1:=by omega
    generalize top y - bI y s = a at ha h ⊢
    generalize cnt s - bI y s = b at hb h ⊢
    have la:=pY a (by omega)
    have lb:=pY b (by omega)
    rw [la]
    refine de.eI (fun k t i=>bC.l1 k (top y:Int) t (s:Int) (pw b) (pw a) ((a+1:Nat):Int) i (m:Int) (ints y)) (a+1) (fun i t=>rq a b i t) (fun _ t=>gI (top y+1) (m - top y+1) t) _ (fun i t hi hR=>⟨lO hR a b (by omega),fun h=>?_⟩) (a+1) 0 t (Nat.zero_add _) hR (fun _=>Ev.step (fun k=>?_) h)
    ·refine Ev.step (f:=fun k=>bC.l2 k (top y:Int) t (s:Int) (pw b) (i:Int) (rd (pw a) (i:Int)) (pw a) ((a+1:Nat):Int) (i:Int) ((b+1:Nat):Int) 0 (m:Int) (ints y)) (fun k=>?_) ?_
     ·simp only [bC.l1]
      rw [if_pos (by omega),if_pos (by omega),if_pos (by omega),lb]
     refine de.eI (fun k t j=>bC.l2 k (top y:Int) t (s:Int) (pw b) (i:Int) (rd (pw a) (i:Int)) (pw a) ((a+1:Nat):Int) (i:Int) ((b+1:Nat):Int) j (m:Int) (ints y)) (b+1) (fun j t=>uO t i j (wrap64 (rd (pw a) (i:Int) * rd (pw b) (j:Int)))) (fun _ t=>gI (top y+1) (m - top y+1) t) _ (fun j t hj hR=>⟨l6 hR (by omega) j _,fun h=>Ev.step (fun k=>?_) h⟩) (b+1) 0 t (Nat.zero_add _) hR (fun _=>Ev.step (fun k=>?_) h)
     ·have hrow:=hR.at_ (show i < top y+1 by omega)
      simp only [bC.l2]
      rw [if_pos (by omega),if_pos (by omega),if_pos (by omega),if_pos (by omega),if_pos (by rw [hR.1];omega),uM,if_pos (by rw [hrow];omega),de.dM j (by omega),Int.toNat_natCast,Int.toNat_natCast]
      rfl
     ·simp only [bC.l2]
      rw [if_neg (by omega),de.dM i (by omega)]
      rfl
    ·simp only [bC.l1]
     rw [if_neg (by omega),de.dM s (by omega)]
     rfl
  ·obtain ⟨q,rfl⟩:∃ q,k = q+1:=⟨k - 1,by omega⟩
   have hp:=Nat.two_pow_pos m
   simp only [bC.l0]
   rw [nK m hm,Option.bind_some,if_neg (by omega)]
   rfl
end Go.Proofs.YtmpodackojmojaaGreat.gN
end
section
namespace Go.Proofs.YtmpodackojmojaaGreat.Poly
open Go.RowKit Go.Proofs.YtmpodackojmojaaGreat.jR Go.Proofs.YtmpodackojmojaaGreat.Sets Go.Proofs.YtmpodackojmojaaGreat.mA Go.Proofs.YtmpodackojmojaaGreat.iD Go.Proofs.YtmpodackojmojaaGreat.Flat Go.Proofs.YtmpodackojmojaaGreat.jo Go.Proofs.YtmpodackojmojaaGreat.gO Go.Proofs.YtmpodackojmojaaGreat.gN Go.Proofs.ag.bl Go.Proofs.ag.cj Go.Proofs.ag.ck
set_option linter.unusedVariables false
def gZ (t:List (List Int)) (i j:Nat):Int:=(t.getD i []).getD j 0
def P (a i:Nat):Int:=(pw a).getD i 0
theorem wF (a i:Nat):rd (pw a) (i:Int) = P a i:=de.gq _ _
theorem nM {a i:Nat} (h:a < 9) (hi:a < i):P a i = 0:=by
 unfold P
 rw [List.getD_eq_getElem?_getD,List.getElem?_eq_none (by rw [pY a h];omega)]
 rfl
theorem wZ:∀ a,a < 9→∀ i,i < 9→-70≤P a i∧P a i≤70:=by decide +kernel
theorem uP {a:Nat} (ha:a < 9) (i:Nat):-70≤P a i∧P a i≤70:=by
 by_cases h:i < 9
 ·exact wZ a ha i h
 ·rw [nM ha (by omega)];omega
theorem qH {a b:Nat} (ha:a < 9) (hb:b < 9) (i j:Nat):-4900≤P a i * P b j∧P a i * P b j≤4900:=by
 obtain ⟨h1,h2⟩:=uP ha i
 obtain ⟨h3,h4⟩:=uP hb j
 have e:(P a i * P b j).natAbs≤70 * 70:=by
  rw [Int.natAbs_mul]
  exact Nat.mul_le_mul (by omega) (by omega)
 omega
theorem um {r c:Nat} {t:List (List Int)} (h:gI r c t) {i j:Nat} (hi:i < r) (hj:j < c) (v:Int) (i' j':Nat):gZ (t.set i ((t.getD i []).set j v)) i' j' = if i' = i∧j' = j then v else gZ t i' j':=by
 unfold gZ
 have hrow:j < (t.getD i []).length:=by rw [h.at_ hi];exact hj
 rw [List.getD_eq_getElem?_getD (l:=t.set i _),List.getElem?_set]
 by_cases e:i = i'
 ·subst e
  rw [if_pos rfl,if_pos (by rw [h.1];exact hi),Option.getD_some,List.getD_eq_getElem?_getD,List.getElem?_set]
  by_cases y:j = j'
  ·subst y
   rw [if_pos rfl,if_pos hrow,if_pos ⟨rfl,rfl⟩,Option.getD_some]
  ·rw [if_neg y,if_neg (fun h=>y h.2.symm),List.getD_eq_getElem?_getD (l:=t.getD i [])]
 ·rw [if_neg e,if_neg (fun h=>e h.1.symm),← List.getD_eq_getElem?_getD]
theorem uo {r c:Nat} {t:List (List Int)} (h:gI r c t) {i j:Nat} (hi:i < r) (hj:j < c) (v:Int) (i' j':Nat):gZ (uO t i j v) i' j' = if i' = i∧j' = j then wrap64 (gZ t i j+v) else gZ t i' j':=by
 unfold uO
 rw [um h hi hj,de.gq]
 rfl
def step (t:List (List Int)) (u:Nat×Nat×Int):List (List Int):=uO t u.1 u.2.1 u.2.2
def at_ (i j:Nat) (u:Nat×Nat×Int):Int:=if i = u.1∧j = u.2.1 then u.2.2 else 0
theorem oS {r c:Nat}:∀ (U:List (Nat×Nat×Int)) (t:List (List Int)) (M:Nat),gI r c t→(∀ u∈U,u.1 < r∧u.2.1 < c∧-4900≤u.2.2∧u.2.2≤4900)→(∀ i j,-(M:Int)≤gZ t i j∧gZ t i j≤M)→M+4900 * U.length≤1000000000000000→∀ i j,gZ (U.foldl step t) i j = gZ t i j+(U.map (at_ i j)).sum
 | [],t,M,_,_,_,_,i,j=>by simp
 | u :: U,t,M,hR,hU,hB,hM,i,j=>by
  obtain ⟨h1,h2,h3,h4⟩:=hU u (by simp)
  rw [List.length_cons] at hM
  have hR':gI r c (step t u):=l6 hR h1 u.2.1 u.2.2
  have he:∀ i j,gZ (step t u) i j = gZ t i j+at_ i j u:=fun i j=>by
   unfold step at_
   rw [uo hR h1 h2]
   by_cases c1:i = u.1∧j = u.2.1
   ·rw [if_pos c1,if_pos c1,c1.1,c1.2]
    have:=hB u.1 u.2.1
    exact de.jQ (by omega) (by omega)
   ·rw [if_neg c1,if_neg c1,Int.add_zero]
  have hat:∀ i j,-4900≤at_ i j u∧at_ i j u≤4900:=fun i j=>by
   unfold at_
   split <;> omega
  rw [List.foldl_cons,oS U (step t u) (M+4900) hR' (fun v hv=>hU v (by simp [hv])) (fun i j=>by
   rw [he]
   have:=hB i j
   have:=hat i j
   omega) (by omega) i j,he,List.map_cons,List.sum_cons]
  omega
def U (a b:Nat):List (Nat×Nat×Int):=(List.range' 0 (a+1)).flatMap fun i=>(List.range' 0 (b+1)).map fun j=>(i,j,P a i * P b j)
theorem uQ {a b:Nat} {u:Nat×Nat×Int} (h:u∈U a b):u.1≤a∧u.2.1≤b∧u.2.2 = P a u.1 * P b u.2.1:=by
 obtain ⟨i,hi,hj⟩:=List.mem_flatMap.1 h
 obtain ⟨j,y,rfl⟩:=List.mem_map.1 hj
 have h1:=List.mem_range'_1.1 hi
 have h2:=List.mem_range'_1.1 y
 exact ⟨by show i≤a;omega,by show j≤b;omega,rfl⟩
theorem wG:∀ a,a < 9→∀ b,b < 9→(U a b).length≤81:=by decide +kernel
theorem vG:∀ a,a < 9→∀ b,b < 9→∀ i,i < 9→∀ j,j < 9→((U a b).map (at_ i j)).sum = P a i * P b j:=by decide +kernel
theorem wH {a b:Nat} (ha:a < 9) (hb:b < 9) (i j:Nat):((U a b).map (at_ i j)).sum = P a i * P b j:=by
 by_cases h:i < 9∧j < 9
 ·exact vG a ha b hb i h.1 j h.2
 ·have hz:∀ u∈U a b,at_ i j u = 0:=fun u hu=>by
   obtain ⟨h1,h2,_⟩:=uQ hu
   unfold at_
   rw [if_neg (by omega)]
  have h0:∀ l:List (Nat×Nat×Int),(∀ u∈l,at_ i j u = 0)→(l.map (at_ i j)).sum = 0:=by
   intro l
   induction l with
   | nil=>exact fun _=>rfl
   | cons u l ih=>exact fun hl=>by rw [List.map_cons,List.sum_cons,hl u (by simp),ih fun v hv=>hl v (by simp [hv])];rfl
  rw [h0 _ hz]
  by_cases hi:i < 9
  ·rw [nM hb (by omega),Int.mul_zero]
  ·rw [nM ha (by omega),Int.zero_mul]
theorem vH {a b:Nat} (ha:a < 9) (hb:b < 9) (t:List (List Int)):nu a b t = (U a b).foldl step t:=by
 unfold nu U
 rw [List.foldl_flatMap]
 congr 1
 funext t i
 unfold rq
 rw [List.foldl_map]
 congr 1
 funext t j
 unfold step
 rw [wF,wF]
 have:=qH ha hb i j
 rw [de.jQ (by omega) (by omega)]
def co (f g:Nat→Nat) (l:List Nat) (i j:Nat):Int:=(l.map fun s=>P (f s) i * P (g s) j).sum
theorem oT {r c:Nat} (f g:Nat→Nat) (hr:r≤9) (hc:c≤9):∀ (l:List Nat) (t:List (List Int)) (M:Nat),(∀ s∈l,f s < r∧g s < c)→gI r c t→(∀ i j,-(M:Int)≤gZ t i j∧gZ t i j≤M)→M+396900 * l.length≤1000000000000000→∀ i j,gZ (l.foldl (fun t s=>nu (f s) (g s) t) t) i j = gZ t i j+co f g l i j
 | [],t,M,_,_,_,_,i,j=>by simp [co]
 | s :: l,t,M,hs,hR,hB,hM,i,j=>by
  obtain ⟨h1,h2⟩:=hs s (by simp)
  rw [List.length_cons] at hM
  have hlen:=wG (f s) (by omega) (g s) (by omega)
  have he:∀ i j,gZ (nu (f s) (g s) t) i j = gZ t i j+P (f s) i * P (g s) j:=fun i j=>by
   rw [vH (by omega) (by omega),oS (U (f s) (g s)) t M hR (fun u hu=>by
    obtain ⟨y,a2,a3⟩:=uQ hu
    have:=qH (a:=f s) (b:=g s) (by omega) (by omega) u.1 u.2.1
    rw [a3]
    exact ⟨by omega,by omega,this.1,this.2⟩) hB (by omega) i j,wH (by omega) (by omega)]
  rw [List.foldl_cons,oT f g hr hc l _ (M+4900) (fun s' h'=>hs s' (by simp [h'])) (ku hR _ _ h1) (fun i j=>by
   rw [he]
   have:=hB i j
   have:=qH (a:=f s) (b:=g s) (by omega) (by omega) i j
   omega) (by omega) i j,he]
  unfold co
  rw [List.map_cons,List.sum_cons]
  omega
theorem qI (r c i j:Nat):gZ (List.replicate r (List.replicate c 0)) i j = 0:=by
 unfold gZ
 rw [List.getD_eq_getElem?_getD,List.getD_eq_getElem?_getD,List.getElem?_replicate]
 by_cases h:i < r
 ·rw [if_pos h,Option.getD_some,List.getElem?_replicate]
  split <;> rfl
 ·rw [if_neg h];rfl
theorem iS {m:Nat} (hm:m≤8) {l:List Nat} (hl:∀ s∈l,s < 2 ^ m) (h0:0 < l.length) (i j:Nat):gZ (eG m l) i j = co (fun s=>top l - bI l s) (fun s=>cnt s - bI l s) (List.range' 0 (2 ^ m)) i j:=by
 have ht:=jL hm hl h0
 have y:2 ^ m≤256:=bN hm
 unfold eG
 rw [oT (r:=top l+1) (c:=m - top l+1) (fun s=>top l - bI l s) (fun s=>cnt s - bI l s) (by omega) (by omega) (List.range' 0 (2 ^ m)) _ 0 (fun s hs=>by
  have hs:=List.mem_range'_1.1 hs
  have:=l8 hm hl h0 (s:=s) (by omega)
  exact ⟨by omega,by omega⟩) (l5 _ _) (fun i j=>by rw [qI];omega) (by rw [List.length_range'];omega) i j,qI,Int.zero_add]
end Go.Proofs.YtmpodackojmojaaGreat.Poly
end
section
namespace Go.Proofs.YtmpodackojmojaaGreat.je
open Go.RowKit Go.Proofs.YtmpodackojmojaaGreat.Sets Go.Proofs.YtmpodackojmojaaGreat.iD Go.Proofs.YtmpodackojmojaaGreat.jo
set_option linter.unusedVariables false
def indep (l:List Nat) (s:Nat):Bool:=l.any fun b=>decide (s &&& b = s)
theorem pZ {l:List Nat} (hn:0 < l.length):indep l 0 = true:=by
 unfold indep
 rw [List.any_eq_true]
 exact ⟨_,dG l 0 0 hn,by simp⟩
end Go.Proofs.YtmpodackojmojaaGreat.je
end
section
namespace Go.Proofs.YtmpodackojmojaaGreat.rQ
open Go.RowKit Go.Proofs.YtmpodackojmojaaGreat.Sets Go.Proofs.YtmpodackojmojaaGreat.iD Go.Proofs.YtmpodackojmojaaGreat.jo Go.Proofs.YtmpodackojmojaaGreat.je
set_option linter.unusedVariables false
def Sub (a b:Nat):Prop:=∀ j,a.testBit j = true→b.testBit j = true
theorem iI {a b:Nat}:a &&& b = a↔Sub a b:=by
 constructor
 ·intro h j hj
  rw [← h,Nat.testBit_and,Bool.and_eq_true] at hj
  exact hj.2
 ·intro h
  apply Nat.eq_of_testBit_eq
  intro j
  rw [Nat.testBit_and]
  cases ha:a.testBit j with
  | false=>rfl
  | true=>rw [h j ha];rfl
theorem Sub.refl (a:Nat):Sub a a:=fun _ h=>h
theorem Sub.trans {a b c:Nat} (h:Sub a b) (k:Sub b c):Sub a c:=fun j hj=>k j (h j hj)
theorem sub_zero (a:Nat):Sub 0 a:=fun j h=>by rw [Nat.zero_testBit] at h;exact Bool.noConfusion h
theorem iT {a b:Nat} (h:Sub a b) (k:Sub b a):a = b:=by
 apply Nat.eq_of_testBit_eq
 intro j
 cases ha:a.testBit j with
 | true=>exact (h j ha).symm
 | false =>
  cases hb:b.testBit j with
  | false=>rfl
  | true=>rw [k j hb] at ha;exact Bool.noConfusion ha
theorem sub_lt {a b n:Nat} (h:Sub a b) (hb:b < 2 ^ n):a < 2 ^ n:=by
 apply Nat.lt_pow_two_of_testBit
 intro j hj
 cases ha:a.testBit j with
 | false=>rfl
 | true =>
  have:=h j ha
  rw [iG hb hj] at this
  exact Bool.noConfusion this
theorem jj (a b:Nat):Sub a (a ||| b):=fun j h=>by rw [Nat.testBit_or,h];rfl
theorem ld (a b:Nat):Sub b (a ||| b):=fun j h=>by rw [Nat.testBit_or,h,Bool.or_true]
theorem fo (a b:Nat):Sub (a &&& b) a:=fun j h=>by rw [Nat.testBit_and,Bool.and_eq_true] at h;exact h.1
theorem eZ (a b:Nat):Sub (a &&& b) b:=fun j h=>by rw [Nat.testBit_and,Bool.and_eq_true] at h;exact h.2
theorem tc (a b:Nat):Sub (diff a b) a:=fun j h=>by rw [cC,Bool.and_eq_true] at h;exact h.1
theorem nW {a b c:Nat} (h:Sub a c) (k:Sub b c):Sub (a ||| b) c:=fun j hj=>by
 rw [Nat.testBit_or,Bool.or_eq_true] at hj
 exact hj.elim (h j) (k j)
theorem fV {a b c:Nat} (h:Sub c a) (k:Sub c b):Sub c (a &&& b):=fun j hj=>by
 rw [Nat.testBit_and,h j hj,k j hj];rfl
theorem and_mono {a b c d:Nat} (h:Sub a c) (k:Sub b d):Sub (a &&& b) (c &&& d):=fV ((fo _ _).trans h) ((eZ _ _).trans k)
theorem lg {a e:Nat} (ha:a < 256) (h:a.testBit e = true):e < 8:=by
 refine Nat.lt_of_not_le fun hle=>?_
 rw [iG (n:=8) ha hle] at h
 exact Bool.noConfusion h
theorem gT {a e n:Nat} (ha:a < 2 ^ n) (h:a.testBit e = true):e < n:=by
 refine Nat.lt_of_not_le fun hle=>?_
 rw [iG ha hle] at h
 exact Bool.noConfusion h
theorem kx (e j:Nat):(2 ^ e).testBit j = decide (e = j):=Nat.testBit_two_pow
theorem uq {a e:Nat} (h:a.testBit e = true):Sub (2 ^ e) a:=fun j hj=>by
 rw [kx,decide_eq_true_eq] at hj
 rw [← hj];exact h
theorem kM (a e j:Nat):(a ||| 2 ^ e).testBit j = (a.testBit j || decide (e = j)):=by rw [Nat.testBit_or,kx]
theorem oU (a e:Nat):(a ||| 2 ^ e).testBit e = true:=by rw [kM,decide_eq_true rfl,Bool.or_true]
theorem gQ (a e j:Nat):(diff a (2 ^ e)).testBit j = (a.testBit j && !decide (e = j)):=by rw [cC,kx]
theorem ur {b:Bool} (h:b≠true):b = false:=by cases b <;> simp_all
theorem oe {α:Type} (p q:α→Bool) (l:List α):l.countP p = l.countP (fun x=>p x && q x)+l.countP (fun x=>p x && !q x):=by
 induction l with
 | nil=>rfl
 | cons a l ih =>
  rw [List.countP_cons,List.countP_cons,List.countP_cons,ih]
  cases p a <;> cases q a <;> simp <;> omega
theorem fc (a b:Nat):cnt a = cnt (a &&& b)+cnt (diff a b):=by
 rw [fK,fK,fK,oe (fun j=>a.testBit j) (fun j=>b.testBit j)]
 congr 1
 ·refine List.countP_congr fun j _=>?_
  rw [Nat.testBit_and]
 ·refine List.countP_congr fun j _=>?_
  rw [cC]
theorem gU {a b:Nat} (h:Sub a b):cnt a≤cnt b:=kZ fun j _ hj=>h j hj
theorem td:∀ e,e < 8→cnt (2 ^ e) = 1:=by decide +kernel
theorem tf {a b:Nat} (h:∀ j,a.testBit j = true→b.testBit j = false):cnt (a ||| b) = cnt a+cnt b:=by
 rw [fc (a ||| b) a]
 congr 1
 ·congr 1
  exact iT (fun j hj=>(eZ _ _) j hj) (fV (jj _ _) (Sub.refl _))
 ·congr 1
  apply Nat.eq_of_testBit_eq
  intro j
  rw [cC,Nat.testBit_or]
  cases ha:a.testBit j with
  | false=>simp
  | true=>rw [h j ha];rfl
theorem fW {a e:Nat} (he:e < 8) (h:a.testBit e = false):cnt (a ||| 2 ^ e) = cnt a+1:=by
 rw [tf fun j hj=>?_,td e he]
 rw [kx,decide_eq_false_iff_not]
 rintro rfl
 rw [h] at hj
 exact Bool.noConfusion hj
theorem jM {a e:Nat} (ha:a < 256) (h:a.testBit e = true):cnt a = cnt (diff a (2 ^ e))+1:=by
 rw [← fW (lg ha h) (a:=diff a (2 ^ e)) (by rw [gQ,decide_eq_true rfl];simp)]
 congr 1
 apply Nat.eq_of_testBit_eq
 intro j
 rw [kM,gQ]
 by_cases e':e = j
 ·subst e'
  simp [h]
 ·simp [e']
theorem gJ {a b:Nat} (hb:b < 256) (h:Sub a b) (hc:cnt b≤cnt a):a = b:=by
 have hs:=fc b a
 have hba:b &&& a = a:=by
  rw [Nat.and_comm]
  exact iI.2 h
 rw [hba] at hs
 have hz:diff b a = 0:=iR _ (dY (n:=8) hb) (by omega)
 refine iT h fun j hj=>?_
 have:=cC b a j
 rw [hz,Nat.zero_testBit,hj] at this
 simpa using this.symm
theorem lp {a:Nat} (ha:a < 256) (h:0 < cnt a):∃ e,a.testBit e = true:=by
 obtain ⟨e,_,he⟩:=oQ a ha h
 exact ⟨e,he⟩
theorem tg {a b:Nat} (hb:b < 256) (h:cnt a < cnt b):∃ e,b.testBit e = true∧a.testBit e = false:=by
 have h1:=fc b a
 have h2:cnt (b &&& a)≤cnt a:=gU (eZ _ _)
 obtain ⟨e,he⟩:=lp (a:=diff b a) (dY (n:=8) hb) (by omega)
 rw [cC,Bool.and_eq_true] at he
 exact ⟨e,he.1,by simpa using he.2⟩
structure og (m:Nat) (P:Nat→Bool):Prop where
 zero:P 0 = true
 down:∀ a b,b < 2 ^ m→Sub a b→P b = true→P a = true
 aug:∀ a b,a < 2 ^ m→b < 2 ^ m→P a = true→P b = true→cnt a < cnt b→∃ e,b.testBit e = true∧a.testBit e = false∧P (a ||| 2 ^ e) = true
theorem eH {l:List Nat} {s:Nat}:indep l s = true↔∃ b∈l,Sub s b:=by
 unfold indep
 rw [List.any_eq_true]
 constructor
 ·rintro ⟨b,hb,h⟩
  exact ⟨b,hb,iI.1 (by simpa using h)⟩
 ·rintro ⟨b,hb,h⟩
  exact ⟨b,hb,by simpa using iI.2 h⟩
theorem th {l:List Nat} (hl:∀ s∈l,s < 256) (hf:eN l = false) (K c:Nat) (hc:c∈l):∀ n b,b∈l→cnt (diff b c)≤n→cnt (b &&& K) < cnt (c &&& K)→∃ b'∈l,∃ f,c.testBit f = true∧K.testBit f = true∧b.testBit f = false∧Sub ((b &&& K) ||| 2 ^ f) b':=by
 intro n
 induction n with
 | zero =>
  intro b hb hn hlt
  have hz:diff b c = 0:=iR _ (dY (n:=8) (hl b hb)) (by omega)
  have hbc:Sub b c:=fun j hj=>by
   have:=cC b c j
   rw [hz,Nat.zero_testBit,hj] at this
   simpa using this.symm
  have:=gJ (hl c hc) hbc (Nat.le_of_eq (gF hl hf hc hb))
  subst this
  omega
 | succ n ih =>
  intro b hb hn hlt
  have y:=hl b hb
  have a1:=hl c hc
  have h1:=fc b K
  have h2:=fc c K
  have h3:=gF hl hf hb hc
  obtain ⟨e,M,X⟩:=tg (a:=diff c K) (b:=diff b K) (dY (n:=8) y) (by omega)
  rw [cC,Bool.and_eq_true] at M
  obtain ⟨hbe,a2⟩:=M
  have z:K.testBit e = false:=by simpa using a2
  have hce:c.testBit e = false:=by
   rw [cC,z] at X
   simpa using X
  have Y:=lg y hbe
  obtain ⟨f,a3,hcf,hbf,hmem⟩:=nL hf hb hc Y hbe hce
  rw [← swap_eq b y e Y f a3 hbe hbf] at hmem
  have hsub:Sub (b &&& K) (diff b (2 ^ e) ||| 2 ^ f):=fun j hj=>by
   rw [Nat.testBit_and,Bool.and_eq_true] at hj
   rw [kM,gQ,hj.1]
   by_cases ej:e = j
   ·subst ej
    rw [z] at hj
    exact absurd hj.2 (by decide)
   ·simp [ej]
  by_cases hKf:K.testBit f = true
  ·exact ⟨_,hmem,f,hcf,hKf,hbf,nW hsub (ld _ _)⟩
  ·have a0:=ur hKf
   have hsame:(diff b (2 ^ e) ||| 2 ^ f) &&& K = b &&& K:=by
    refine iT (fun j hj=>?_) (fV hsub (eZ _ _))
    rw [Nat.testBit_and,kM,gQ,Bool.and_eq_true] at hj
    rw [Nat.testBit_and,hj.2,Bool.and_true]
    by_cases fj:f = j
    ·subst fj
     rw [a0] at hj
     exact absurd hj.2 (by decide)
    ·have:=hj.1
     simp [fj] at this
     exact this.1
   have hd:diff (diff b (2 ^ e) ||| 2 ^ f) c = diff (diff b c) (2 ^ e):=by
    apply Nat.eq_of_testBit_eq
    intro j
    rw [cC,kM,gQ,gQ,cC]
    by_cases fj:f = j
    ·subst fj
     rw [hcf,hbf]
     simp
    ·rw [decide_eq_false fj,Bool.or_false]
     cases b.testBit j <;> cases c.testBit j <;> cases decide (e = j) <;> rfl
   have hdc:=jM (a:=diff b c) (e:=e) (dY (n:=8) y) (by rw [cC,hbe,hce];rfl)
   rw [← hd] at hdc
   obtain ⟨b',hb',f',h4,h5,h6,h7⟩:=ih _ hmem (by omega) (by rw [hsame];exact hlt)
   rw [hsame] at h7
   refine ⟨b',hb',f',h4,h5,?_,h7⟩
   rw [kM,gQ] at h6
   simp only [Bool.or_eq_false_iff] at h6
   by_cases ej:e = f'
   ·subst ej
    rw [z] at h5
    exact Bool.noConfusion h5
   ·have:=h6.1
    simpa [ej] using this
theorem kN {m:Nat} (hm:m≤8) {l:List Nat} (hl:∀ s∈l,s < 2 ^ m) (hn:0 < l.length) (hf:eN l = false):og m (indep l):=by
 have z:=bN hm
 have hl':∀ s∈l,s < 256:=fun s hs=>Nat.lt_of_lt_of_le (hl s hs) z
 refine ⟨pZ hn,fun a b _ hab hb=>?_,fun a b ha hb hia hib hlt=>?_⟩
 ·obtain ⟨c,hc,hs⟩:=eH.1 hb
  exact eH.2 ⟨c,hc,hab.trans hs⟩
 ·obtain ⟨x,hx,hax⟩:=eH.1 hia
  obtain ⟨y,hy,hby⟩:=eH.1 hib
  by_cases hmore:∃ e,x.testBit e = true∧b.testBit e = true∧a.testBit e = false
  ·obtain ⟨e,h1,h2,h3⟩:=hmore
   exact ⟨e,h2,h3,eH.2 ⟨x,hx,nW hax (uq h1)⟩⟩
  ·have hxa:x &&& (a ||| b) = a:=by
    refine iT (fun j hj=>?_) (fV hax (jj _ _))
    rw [Nat.testBit_and,Nat.testBit_or,Bool.and_eq_true,Bool.or_eq_true] at hj
    rcases hj.2 with h | h
    ·exact h
    ·cases ha':a.testBit j with
     | true=>rfl
     | false=>exact absurd ⟨j,hj.1,h,ha'⟩ hmore
   have hyb:cnt b≤cnt (y &&& (a ||| b)):=gU (fV hby (ld _ _))
   obtain ⟨b',hb',f,h1,h2,h3,h4⟩:=th hl' hf (a ||| b) y hy _ x hx (Nat.le_refl _) (by rw [hxa];omega)
   rw [hxa] at h4
   have M:a.testBit f = false:=by
    cases h:a.testBit f with
    | false=>rfl
    | true=>rw [hax f h] at h3;exact Bool.noConfusion h3
   rw [Nat.testBit_or,M,Bool.false_or] at h2
   exact ⟨f,h2,M,eH.2 ⟨b',hb',h4⟩⟩
def eY (m:Nat) (P:Nat→Bool):List Nat:=(List.range' 0 (2 ^ m)).filter fun s=>P s && (List.range' 0 (2 ^ m)).all fun t=>!(P t && !decide (t = s) && decide (s &&& t = s))
theorem eU {m:Nat} {P:Nat→Bool} {s:Nat}:s∈eY m P↔s < 2 ^ m∧P s = true∧∀ t,t < 2 ^ m→P t = true→Sub s t→t = s:=by
 unfold eY
 rw [List.mem_filter,Bool.and_eq_true,List.all_eq_true]
 constructor
 ·rintro ⟨h1,h2,h3⟩
  refine ⟨by have:=List.mem_range'_1.1 h1;omega,h2,fun t ht hp hs=>?_⟩
  have:=h3 t (List.mem_range'_1.2 (by omega))
  rw [hp,iI.2 hs] at this
  simpa using this
 ·rintro ⟨h1,h2,h3⟩
  refine ⟨List.mem_range'_1.2 (by omega),h2,fun t ht=>?_⟩
  cases hp:P t with
  | false=>rfl
  | true =>
   by_cases hs:s &&& t = s
   ·have:=h3 t (by have:=List.mem_range'_1.1 ht;omega) hp (iI.1 hs)
    simp [this]
   ·simp [hs]
section
variable {m:Nat} {P:Nat→Bool}
theorem og.lP (h:og m P) (hm:m≤8) {s t:Nat} (hs:s∈eY m P) (ht:t < 2 ^ m) (hp:P t = true):cnt t≤cnt s:=by
 obtain ⟨h1,h2,h3⟩:=eU.1 hs
 refine Nat.le_of_not_lt fun hlt=>?_
 obtain ⟨e,h4,h5,y⟩:=h.aug s t h1 ht h2 hp hlt
 have hlt':s ||| 2 ^ e < 2 ^ m:=mg h1 (pT (gT ht h4))
 have:=h3 _ hlt' y (jj _ _)
 have j:=oU s e
 rw [this,h5] at j
 exact Bool.noConfusion j
theorem og.lQ (h:og m P) (hm:m≤8) {s:Nat} (hs:s < 2 ^ m) (hp:P s = true) (hmax:∀ t,t < 2 ^ m→P t = true→cnt t≤cnt s):s∈eY m P:=by
 have j:=bN hm
 refine eU.2 ⟨hs,hp,fun t ht hpt hst=>(gJ (by omega) hst (hmax t ht hpt)).symm⟩
theorem og.ext (h:og m P) (hm:m≤8):∀ n s,s < 2 ^ m→P s = true→8≤cnt s+n→∃ t∈eY m P,Sub s t:=by
 have j:=bN hm
 intro n
 induction n with
 | zero =>
  intro s hs hp hn
  exact ⟨s,h.lQ hm hs hp (fun t _ _=>Nat.le_trans (iB t) (by omega)),Sub.refl s⟩
 | succ n ih =>
  intro s hs hp hn
  by_cases hmx:∃ t,t < 2 ^ m∧P t = true∧cnt s < cnt t
  ·obtain ⟨t,ht,hpt,hlt⟩:=hmx
   obtain ⟨e,h4,h5,y⟩:=h.aug s t hs ht hp hpt hlt
   have hlt':s ||| 2 ^ e < 2 ^ m:=mg hs (pT (gT ht h4))
   have:=fW (lg (by omega) h4) h5
   obtain ⟨u,hu,hsub⟩:=ih _ hlt' y (by omega)
   exact ⟨u,hu,(jj _ _).trans hsub⟩
  ·exact ⟨s,h.lQ hm hs hp (fun t ht hpt=>Nat.le_of_not_lt fun hlt=>hmx ⟨t,ht,hpt,hlt⟩),Sub.refl s⟩
theorem og.some (h:og m P) (hm:m≤8):0 < (eY m P).length:=by
 obtain ⟨t,ht,_⟩:=h.ext hm 8 0 (Nat.pow_pos (by decide)) h.zero (by omega)
 exact List.length_pos_of_mem ht
theorem og.indep (h:og m P) (hm:m≤8) {s:Nat} (hs:s < 2 ^ m):indep (eY m P) s = P s:=by
 cases hp:P s with
 | true =>
  obtain ⟨t,ht,hst⟩:=h.ext hm 8 s hs hp (by omega)
  exact eH.2 ⟨t,ht,hst⟩
 | false =>
  cases hi:je.indep (eY m P) s with
  | false=>rfl
  | true =>
   obtain ⟨t,ht,hst⟩:=eH.1 hi
   obtain ⟨h1,h2,_⟩:=eU.1 ht
   rw [h.down s t h1 hst h2] at hp
   exact Bool.noConfusion hp
theorem og.fO (h:og m P) (hm:m≤8):eN (eY m P) = false:=by
 have a0:=bN hm
 unfold eN
 rw [List.any_eq_false]
 intro a ha
 rw [Bool.not_eq_true,List.any_eq_false]
 intro b hb
 rw [Bool.not_eq_true,List.any_eq_false]
 intro e he
 have y:e < 8:=by have:=List.mem_range'_1.1 he;omega
 obtain ⟨X,a2,a3⟩:=eU.1 ha
 obtain ⟨Y,b2,b3⟩:=eU.1 hb
 cases hae:a.testBit e with
 | false=>simp
 | true =>
  cases hbe:b.testBit e with
  | true=>simp
  | false =>
   have hx:Sets.fO (eY m P) a b e = true:=by
    have hsame:cnt a≤cnt b:=h.lP hm hb X a2
    have M:cnt b≤cnt a:=h.lP hm ha Y b2
    have hless:=jM (a:=a) (e:=e) (by omega) hae
    have hd:diff a (2 ^ e) < 2 ^ m:=dY X
    obtain ⟨f,h4,h5,h6⟩:=h.aug (diff a (2 ^ e)) b hd Y (h.down _ a X (tc _ _) a2) b2 (by omega)
    have hef:e≠f:=fun e'=>by
     subst e'
     rw [hbe] at h4
     exact Bool.noConfusion h4
    rw [gQ] at h5
    have j:a.testBit f = false:=by simpa [hef] using h5
    have z:f < 8:=lg (by omega) h4
    have hlt':diff a (2 ^ e) ||| 2 ^ f < 2 ^ m:=mg hd (pT (gT Y h4))
    have hc:cnt (diff a (2 ^ e) ||| 2 ^ f) = cnt a:=oP a (by omega) e y f z hae j
    unfold Sets.fO
    rw [List.any_eq_true]
    refine ⟨f,List.mem_range'_1.2 (by omega),?_⟩
    rw [h4,j,← swap_eq a (by omega) e y f z hae j,List.contains_iff_mem.2 (h.lQ hm hlt' h6 (fun t ht hpt=>by rw [hc];exact h.lP hm ha ht hpt))]
    rfl
   rw [hx]
   simp
end
end Go.Proofs.YtmpodackojmojaaGreat.rQ
end
section
namespace Go.Proofs.YtmpodackojmojaaGreat.jl
open Go.RowKit Go.Proofs.YtmpodackojmojaaGreat.Sets Go.Proofs.YtmpodackojmojaaGreat.iD Go.Proofs.YtmpodackojmojaaGreat.jo Go.Proofs.YtmpodackojmojaaGreat.je Go.Proofs.YtmpodackojmojaaGreat.rQ
set_option linter.unusedVariables false
def nth (K k:Nat):Nat:=(elems K).getD k 0
def idx (K j:Nat):Nat:=cnt (K &&& (2 ^ j - 1))
def ofBits (p:Nat→Bool):Nat:=(List.range' 0 8).foldl (fun o k=>if p k = true then o ||| 2 ^ k else o) 0
theorem n4 (p:Nat→Bool) (j:Nat):(ofBits p).testBit j = (decide (j < 8) && p j):=by
 unfold ofBits
 rw [oO,Nat.zero_testBit,Bool.false_or,Bool.eq_iff_iff]
 simp only [List.any_eq_true,List.mem_range'_1,Bool.and_eq_true,decide_eq_true_eq]
 constructor
 ·rintro ⟨x,h1,h2,rfl⟩
  exact ⟨by omega,h2⟩
 ·rintro ⟨h1,h2⟩
  exact ⟨j,by omega,h2,rfl⟩
def pk (K x:Nat):Nat:=ofBits fun k=>decide (k < cnt K) && x.testBit (nth K k)
def gR (K s:Nat):Nat:=ofBits fun j=>K.testBit j && s.testBit (idx K j)
set_option maxRecDepth 100000 in
theorem tj:∀ K,K < 256→∀ j,j < 8→K.testBit j = true→nth K (idx K j) = j∧idx K j < cnt K:=by decide +kernel
set_option maxRecDepth 100000 in
theorem tn:∀ K,K < 256→∀ k,k < 8→k < cnt K→idx K (nth K k) = k∧K.testBit (nth K k) = true∧nth K k < 8:=by decide +kernel
section
variable {K:Nat} (hK:K < 256)
include hK
theorem oh {j:Nat} (h:K.testBit j = true):nth K (idx K j) = j∧idx K j < cnt K:=tj K hK j (lg hK h) h
theorem kz {k:Nat} (h:k < cnt K):idx K (nth K k) = k∧K.testBit (nth K k) = true∧nth K k < 8:=tn K hK k (by have:=iB K;omega) h
theorem fP (s j:Nat):(gR K s).testBit j = (K.testBit j && s.testBit (idx K j)):=by
 unfold gR
 rw [n4]
 by_cases h:j < 8
 ·rw [decide_eq_true h,Bool.true_and]
 ·rw [decide_eq_false h,iG (n:=8) hK (by omega)]
  rfl
omit hK in
theorem n5 (x k:Nat):(pk K x).testBit k = (decide (k < cnt K) && x.testBit (nth K k)):=by
 unfold pk
 rw [n4]
 by_cases h:k < 8
 ·rw [decide_eq_true h,Bool.true_and]
 ·have:=iB K
  rw [decide_eq_false h,decide_eq_false (show ¬ k < cnt K by omega)]
  rfl
omit hK in
theorem oV (x:Nat):pk K x < 2 ^ cnt K:=by
 apply Nat.lt_pow_two_of_testBit
 intro j hj
 rw [n5,decide_eq_false (by omega)]
 rfl
theorem jy (s:Nat):Sub (gR K s) K:=fun j h=>by
 rw [fP hK,Bool.and_eq_true] at h
 exact h.1
theorem lq {x:Nat} (h:Sub x K):gR K (pk K x) = x:=by
 apply Nat.eq_of_testBit_eq
 intro j
 rw [fP hK]
 cases hj:K.testBit j with
 | true =>
  obtain ⟨h1,h2⟩:=oh hK hj
  rw [n5,h1,decide_eq_true h2]
  rfl
 | false =>
  cases hx:x.testBit j with
  | false=>rfl
  | true=>rw [h j hx] at hj;exact Bool.noConfusion hj
theorem qJ {s:Nat} (h:s < 2 ^ cnt K):pk K (gR K s) = s:=by
 apply Nat.eq_of_testBit_eq
 intro k
 rw [n5]
 by_cases hk:k < cnt K
 ·obtain ⟨h1,h2,_⟩:=kz hK hk
  rw [fP hK,h1,h2,decide_eq_true hk]
  rfl
 ·rw [decide_eq_false hk,iG h (by omega)]
  rfl
theorem nN:gR K 0 = 0:=by
 apply Nat.eq_of_testBit_eq
 intro j
 rw [fP hK,Nat.zero_testBit,Nat.zero_testBit,Bool.and_false]
theorem qK (a b:Nat):gR K (a ||| b) = gR K a ||| gR K b:=by
 apply Nat.eq_of_testBit_eq
 intro j
 rw [Nat.testBit_or,fP hK,fP hK,fP hK,Nat.testBit_or]
 cases K.testBit j <;> rfl
theorem oW {e:Nat} (he:e < cnt K):gR K (2 ^ e) = 2 ^ nth K e:=by
 obtain ⟨h1,h2,_⟩:=kz hK he
 apply Nat.eq_of_testBit_eq
 intro j
 rw [fP hK,kx,kx,Bool.eq_iff_iff,Bool.and_eq_true,decide_eq_true_eq,decide_eq_true_eq]
 constructor
 ·rintro ⟨h3,h4⟩
  rw [h4]
  exact (oh hK h3).1
 ·rintro rfl
  exact ⟨h2,h1.symm⟩
theorem nO {a b:Nat} (h:Sub a b):Sub (gR K a) (gR K b):=fun j hj=>by
 rw [fP hK,Bool.and_eq_true] at hj
 rw [fP hK,hj.1,h _ hj.2]
 rfl
theorem tq:∀ n s,s < 2 ^ cnt K→cnt s = n→cnt (gR K s) = n:=by
 intro n
 have z:=bN (iB K)
 induction n with
 | zero =>
  intro s hs hc
  rw [iR s (by omega) hc,nN hK]
  decide +kernel
 | succ n ih =>
  intro s hs hc
  obtain ⟨e,he⟩:=lp (a:=s) (by omega) (by omega)
  have y:=gT hs he
  have h1:=jM (a:=s) (e:=e) (by omega) he
  have h2:=ih (diff s (2 ^ e)) (dY hs) (by omega)
  have hse:s = diff s (2 ^ e) ||| 2 ^ e:=by
   apply Nat.eq_of_testBit_eq
   intro j
   rw [kM,gQ]
   by_cases ej:e = j
   ·subst ej
    simp [he]
   ·simp [ej]
  rw [hse,qK hK,oW hK y,fW (kz hK y).2.2 ?_,h2]
  rw [fP hK,(kz hK y).1,gQ]
  simp
theorem kO {s:Nat} (hs:s < 2 ^ cnt K):cnt (gR K s) = cnt s:=tq hK _ s hs rfl
theorem om {x:Nat} (h:Sub x K):cnt (pk K x) = cnt x:=by
 rw [← kO hK (oV x),lq hK h]
theorem mw {s m:Nat} (h:K < 2 ^ m):gR K s < 2 ^ m:=sub_lt (jy hK s) h
end
theorem ig {l:List Nat} (hn:0 < l.length) (s:Nat):∃ b∈l,cnt (s &&& b) = bI l s:=by
 refine Classical.byContradiction fun hc=>?_
 have hlt:∀ b∈l,cnt (s &&& b) < bI l s:=fun b hb=>Nat.lt_of_le_of_ne (fG l s b hb) fun e=>hc ⟨b,hb,e⟩
 have h0:=hlt _ (dG l 0 0 hn)
 have:=gy l s (bI l s - 1) fun b hb=>by have:=hlt b hb;omega
 omega
theorem jz {l:List Nat} (hn:0 < l.length) {s r:Nat}:bI l s = r↔(∃ t,Sub t s∧indep l t = true∧cnt t = r)∧∀ t,Sub t s→indep l t = true→cnt t≤r:=by
 have key:∀ t,Sub t s→indep l t = true→cnt t≤bI l s:=fun t h1 h2=>by
  obtain ⟨b,hb,h3⟩:=eH.1 h2
  exact Nat.le_trans (gU (fV h1 h3)) (fG l s b hb)
 obtain ⟨b,hb,hr⟩:=ig hn s
 have hi:indep l (s &&& b) = true:=eH.2 ⟨b,hb,eZ _ _⟩
 constructor
 ·rintro rfl
  exact ⟨⟨_,fo _ _,hi,hr⟩,key⟩
 ·rintro ⟨⟨t,h1,h2,h3⟩,h4⟩
  have:=key t h1 h2
  have:=h4 _ (fo _ _) hi
  omega
theorem jA {l:List Nat} {s t:Nat} (h:Sub s t):bI l s≤bI l t :=
 gy l s _ fun b hb=>Nat.le_trans (gU (and_mono h (Sub.refl b))) (fG l t b hb)
theorem eF (l:List Nat) (s:Nat):bI l s≤cnt s:=gy l s _ fun b _=>gU (fo _ _)
theorem tr {m:Nat} {P:Nat→Bool} (h:og m P) (hm:m≤8) {K:Nat} (hK:K < 2 ^ m):og (cnt K) (fun s=>P (gR K s)):=by
 have j:K < 256:=Nat.lt_of_lt_of_le hK (bN hm)
 refine ⟨?_,fun a b hb hab hp=>?_,fun a b ha hb hpa hpb hlt=>?_⟩
 ·show P (gR K 0) = true
  rw [nN j]
  exact h.zero
 ·exact h.down _ _ (mw j hK) (nO j hab) hp
 ·obtain ⟨e,h1,h2,h3⟩:=h.aug _ _ (mw j hK) (mw j hK) hpa hpb (by rw [kO j ha,kO j hb];exact hlt)
  rw [fP j,Bool.and_eq_true] at h1
  obtain ⟨h4,h5⟩:=h1
  rw [fP j,h4,Bool.true_and] at h2
  obtain ⟨y,z⟩:=oh j h4
  refine ⟨idx K e,h5,h2,?_⟩
  show P (gR K (a ||| 2 ^ idx K e)) = true
  rw [qK j,oW j z,y]
  exact h3
def ij (l:List Nat) (K:Nat):List Nat:=eY (cnt K) fun s=>indep l (gR K s)
section
variable {m:Nat} {l:List Nat} (hm:m≤8) (hl:∀ s∈l,s < 2 ^ m) (hn:0 < l.length) (hf:eN l = false) {K:Nat} (hK:K < 2 ^ m)
include hm hl hn hf hK
theorem jB:og (cnt K) (fun s=>indep l (gR K s)):=tr (kN hm hl hn hf) hm hK
theorem kP:0 < (ij l K).length:=(jB hm hl hn hf hK).some (iB K)
theorem q4:eN (ij l K) = false:=(jB hm hl hn hf hK).fO (iB K)
theorem mh {s:Nat} (hs:s < 2 ^ cnt K):indep (ij l K) s = indep l (gR K s):=(jB hm hl hn hf hK).indep (iB K) hs
theorem q5 {y:Nat} (hy:y < 2 ^ cnt K):bI (ij l K) y = bI l (gR K y):=by
 have j:K < 256:=Nat.lt_of_lt_of_le hK (bN hm)
 rw [jz (kP hm hl hn hf hK)]
 obtain ⟨⟨t,h1,h2,h3⟩,h4⟩:=(jz hn).1 (rfl:bI l (gR K y) = _)
 refine ⟨⟨pk K t,?_,?_,?_⟩,fun u hu hi=>?_⟩
 ·intro k hk
  rw [n5,Bool.and_eq_true,decide_eq_true_eq] at hk
  have:=h1 _ hk.2
  rw [fP j,(kz j hk.1).1,Bool.and_eq_true] at this
  exact this.2
 ·rw [mh hm hl hn hf hK (oV t),lq j (h1.trans (jy j y))]
  exact h2
 ·rw [om j (h1.trans (jy j y))]
  exact h3
 ·have hu':=sub_lt hu hy
  rw [mh hm hl hn hf hK hu'] at hi
  rw [← kO j hu']
  exact h4 _ (nO j hu) hi
theorem ru {s:Nat}:s∈ij l K↔∃ b∈l,cnt (b &&& K) = bI l K∧s = pk K (b &&& K):=by
 have j:K < 256:=Nat.lt_of_lt_of_le hK (bN hm)
 have hI:=jB hm hl hn hf hK
 constructor
 ·intro hs
  obtain ⟨h1,h2,_⟩:=eU.1 hs
  obtain ⟨b,hb,hsub⟩:=eH.1 h2
  obtain ⟨z,M,y⟩:=ig hn K
  rw [Nat.and_comm] at y
  have hge:=hI.lP (iB K) hs (t:=pk K (z &&& K)) (oV _) (by
   show indep l (gR K (pk K (z &&& K))) = true
   rw [lq j (eZ _ _)]
   exact eH.2 ⟨z,M,fo _ _⟩)
  rw [om j (eZ _ _),y,← kO j h1] at hge
  have hle:=fG l K b hb
  rw [Nat.and_comm] at hle
  have he:=gJ (a:=gR K s) (b:=b &&& K) (Nat.lt_of_le_of_lt Nat.and_le_right j) (fV hsub (jy j s)) (by omega)
  refine ⟨b,hb,?_,?_⟩
  ·have:=gU (a:=gR K s) (b:=b &&& K) (fV hsub (jy j s))
   omega
  ·rw [← he,qJ j h1]
 ·rintro ⟨b,hb,hr,rfl⟩
  refine hI.lQ (iB K) (oV _) ?_ fun t ht hp=>?_
  ·show indep l (gR K (pk K (b &&& K))) = true
   rw [lq j (eZ _ _)]
   exact eH.2 ⟨b,hb,fo _ _⟩
  ·rw [om j (eZ _ _),hr,← kO j ht]
   exact ((jz hn).1 rfl).2 _ (jy j t) hp
end
theorem ry {m:Nat} {l:List Nat} (hm:m≤8) (hl:∀ s∈l,s < 2 ^ m) (hn:0 < l.length) (hf:eN l = false) {S:Nat} (hS:S < 2 ^ m) (x:Nat) :
  (∃ b∈l,cnt (b &&& S) = bI l S∧x = pk (diff (2 ^ m - 1) S) (diff b S))↔(x < 2 ^ cnt (diff (2 ^ m - 1) S)∧cnt x+bI l S = bI l (2 ^ m - 1)∧bI l (gR (diff (2 ^ m - 1) S) x ||| S) = bI l (2 ^ m - 1)):=by
 have M:=bN hm
 have hfull:2 ^ m - 1 < 2 ^ m:=by have:=Nat.one_le_two_pow (n:=m);omega
 have hK:diff (2 ^ m - 1) S < 2 ^ m:=dY hfull
 have y:diff (2 ^ m - 1) S < 256:=by omega
 have X:∀ s∈l,s < 256:=fun s hs=>Nat.lt_of_lt_of_le (hl s hs) M
 have hin:∀ b,b < 2 ^ m→Sub b (2 ^ m - 1):=fun b hb j hj=>by
  rw [Nat.testBit_two_pow_sub_one,decide_eq_true (gT hb hj)]
 have htop:∀ b∈l,cnt b = bI l (2 ^ m - 1):=fun b hb=>by
  obtain ⟨c,hc,hr⟩:=ig hn (2 ^ m - 1)
  rw [Nat.and_comm,iI.2 (hin c (hl c hc))] at hr
  rw [← hr]
  exact gF X hf hb hc
 have z:∀ b∈l,Sub (diff b S) (diff (2 ^ m - 1) S):=fun b hb j hj=>by
  rw [cC,Bool.and_eq_true] at hj
  rw [cC,hin b (hl b hb) j hj.1,hj.2]
  rfl
 constructor
 ·rintro ⟨b,hb,hr,rfl⟩
  have h1:=fc b S
  have h2:=htop b hb
  refine ⟨oV _,?_,?_⟩
  ·rw [om y (z b hb)]
   omega
  ·rw [lq y (z b hb)]
   refine Nat.le_antisymm (jA (nW (hin _ (dY (hl b hb))) (hin S hS))) ?_
   rw [← h2]
   refine Nat.le_trans (gU ?_) (fG l _ b hb)
   refine fV (fun j hj=>?_) (Sub.refl b)
   rw [Nat.testBit_or,cC,hj]
   cases S.testBit j <;> rfl
 ·rintro ⟨h1,h2,h3⟩
  obtain ⟨b,hb,hr⟩:=ig hn (gR (diff (2 ^ m - 1) S) x ||| S)
  rw [h3,← htop b hb,Nat.and_comm] at hr
  have hbs:=gJ (X b hb) (fo b _) (Nat.le_of_eq hr.symm)
  have hsplit:=fc b S
  have hle:=fG l S b hb
  rw [Nat.and_comm] at hle
  have hsub:Sub (diff b S) (gR (diff (2 ^ m - 1) S) x):=fun j hj=>by
   rw [cC,Bool.and_eq_true] at hj
   have:=hj.1
   rw [← hbs,Nat.testBit_and,Nat.testBit_or,Bool.and_eq_true,Bool.or_eq_true] at this
   rcases this.2 with h | h
   ·exact h
   ·rw [h] at hj
    exact absurd hj.2 (by decide)
  have hcx:=kO y h1
  have ht:=htop b hb
  have he:=gJ (Nat.lt_of_lt_of_le (mw y hK) M) hsub (by omega)
  refine ⟨b,hb,?_,?_⟩
  ·rw [he] at hsplit
   omega
  ·rw [he,qJ y h1]
end Go.Proofs.YtmpodackojmojaaGreat.jl
end
section
namespace Go.Proofs.YtmpodackojmojaaGreat.ov
open Go.RowKit Go.Proofs.YtmpodackojmojaaGreat.Pr Go.Proofs.YtmpodackojmojaaGreat.Sets Go.Proofs.YtmpodackojmojaaGreat.mA Go.Proofs.YtmpodackojmojaaGreat.iD Go.Proofs.YtmpodackojmojaaGreat.Flat Go.Proofs.YtmpodackojmojaaGreat.Sort Go.Proofs.YtmpodackojmojaaGreat.je Go.Proofs.ag.bl Go.Proofs.ag.cj Go.Proofs.ag.ck
set_option linter.unusedVariables false
def kept (p:Nat→Nat→Bool) (l:List Nat):List Int:=sset (ints (l.filter fun s=>!l.any fun t=>!decide (t = s) && p t s))
theorem lu {l:List Nat} {x:Int}:x∈ints l↔∃ y∈l,x = (y:Int):=by
 unfold ints
 rw [List.mem_map]
 constructor
 ·rintro ⟨y,h,rfl⟩;exact ⟨y,h,rfl⟩
 ·rintro ⟨y,h,rfl⟩;exact ⟨y,h,rfl⟩
theorem tu (l:List Nat):∃ q:List Nat,sset (ints l) = ints q∧(∀ s,s∈q↔s∈l)∧q.length≤l.length:=by
 have h:∀ x∈sset (ints l),∃ y∈l,x = (y:Int):=fun x hx=>lu.1 ((mW _ _).1 hx)
 refine ⟨(sset (ints l)).map Int.toNat,?_,fun s=>?_,?_⟩
 ·unfold ints
  rw [List.map_map]
  conv=>lhs;rw [← List.map_id (sset _)]
  refine List.map_congr_left fun x hx=>?_
  obtain ⟨y,_,rfl⟩:=h x hx
  rfl
 ·rw [List.mem_map]
  constructor
  ·rintro ⟨x,hx,rfl⟩
   obtain ⟨y,hy,rfl⟩:=h x hx
   simpa using hy
  ·intro hs
   exact ⟨(s:Int),(mW _ _).2 (lu.2 ⟨s,hs,rfl⟩),by simp⟩
 ·rw [List.length_map]
  have:=mc (ints l)
  rw [aH] at this
  exact this
end Go.Proofs.YtmpodackojmojaaGreat.ov
end
section
namespace Go.Proofs.YtmpodackojmojaaGreat.kf
open Go.RowKit Go.Proofs.YtmpodackojmojaaGreat.Pr Go.Proofs.YtmpodackojmojaaGreat.Sets Go.Proofs.YtmpodackojmojaaGreat.mA Go.Proofs.YtmpodackojmojaaGreat.iD Go.Proofs.YtmpodackojmojaaGreat.Flat Go.Proofs.YtmpodackojmojaaGreat.jo Go.Proofs.YtmpodackojmojaaGreat.je Go.Proofs.YtmpodackojmojaaGreat.Sort Go.Proofs.YtmpodackojmojaaGreat.rQ Go.Proofs.YtmpodackojmojaaGreat.jl Go.Proofs.YtmpodackojmojaaGreat.ov Go.Proofs.ag.bl Go.Proofs.ag.cj Go.Proofs.ag.ck
set_option linter.unusedVariables false
theorem lR {l q:List Nat} (hq:q.Pairwise (· < ·)) (h:∀ s,s∈l↔s∈q):sset (ints l) = ints q:=by
 refine uf _ _ (oK _) ?_ fun x=>?_
 ·unfold ints
  rw [List.pairwise_map]
  exact hq.imp fun h=>by omega
 ·rw [mW,lu,lu]
  constructor
  ·rintro ⟨y,hy,rfl⟩;exact ⟨y,(h y).1 hy,rfl⟩
  ·rintro ⟨y,hy,rfl⟩;exact ⟨y,(h y).2 hy,rfl⟩
set_option maxRecDepth 100000 in
theorem rz:∀ a,a < 256→∀ b,b < 256→diff a b+(a &&& b) = a:=by decide +kernel
theorem rA (n m:Nat):(List.range' n m).Pairwise (· < ·):=List.pairwise_lt_range'
theorem tv {m:Nat} (hm:m≤8) {l:List Nat} (hl:∀ s∈l,s < 2 ^ m) (hs:l.Pairwise (· < ·)) (hn:0 < l.length) (hf:eN l = false):eX (m:Int) (ints l) = true:=by
 unfold eX
 rw [dU,hf,aH,decide_eq_true hn,Bool.and_true,Bool.not_false,Bool.and_true]
 unfold oL
 rw [decide_eq_true (show (0:Int)≤(m:Int)∧(m:Int)≤8 by omega),Bool.and_true,List.all_eq_true]
 intro i hi
 have hi':=List.mem_range'_1.1 hi
 rw [aH] at hi'
 rw [ju,ju,jw hm (hl _ (dG l 0 i (by omega))),Bool.true_and]
 by_cases h0:i = 0
 ·rw [decide_eq_true h0];rfl
 ·have:=List.pairwise_iff_getElem.1 hs (i - 1) i (by omega) (by omega) (by omega)
  have j:l.getD (i - 1) 0 = l[i - 1]:=by simp [List.getD,show i - 1 < l.length by omega]
  have y:l.getD i 0 = l[i]:=by simp [List.getD,show i < l.length by omega]
  have h3:decide (((l[i - 1]:Nat):Int) < ((l[i]:Nat):Int)) = true:=decide_eq_true (by omega)
  rw [j,y,h3,Bool.or_true]
theorem kA (m:Nat) (P:Nat→Bool):(eY m P).Pairwise (· < ·):=(rA _ _).filter _
theorem jN (m:Nat) (hm:m≤8) (P:Nat→Bool):(eY m P).length≤256:=by
 unfold eY
 refine Nat.le_trans (List.length_filter_le _ _) ?_
 rw [List.length_range']
 exact bN hm
theorem k8 {m:Nat} (hm:m≤8) {P:Nat→Bool} (h:og m P):eX (m:Int) (ints (eY m P)) = true :=
 tv hm (fun s hs=>(eU.1 hs).1) (kA m P) (h.some hm) (h.fO hm)
theorem oZ (s j:Nat) (hs:s < 256) (hj:j < 8):dJ.f (s:Int) (j:Int) = some (s.testBit j):=by
 unfold dJ.f bH.f
 rw [ko,show (8:Int) = ((8:Nat):Int) from rfl,jw (m:=8) (by omega) (x:=s) (by omega)]
 simp only [Option.bind_some,if_true]
 rw [if_pos (by omega)]
 simp only [Option.bind_some]
 rw [if_pos (decide_eq_true (by omega)),kF s j hs hj]
 rfl
theorem oo (s:Nat) (hs:s < 256):Ev (fun k=>bk.f k (s:Int)) (ints (elems s)):=by
 unfold bk.f
 refine de.eI (fun k y i=>bk.l0 k (s:Int) y i) 8 (fun j y=>if s.testBit j = true then y ++ [(j:Int)] else y) (fun i y=>y.length≤i) _ (fun i y hi hP=>⟨?_,fun h=>Ev.step (fun k=>?_) h⟩) 8 0 [] rfl (by simp) (fun _=>de.eW 1 (fun k hk=>?_))
 ·by_cases hh:s.testBit i = true
  ·rw [if_pos hh];simp;omega
  ·rw [if_neg hh];omega
 ·simp only [bk.l0]
  rw [if_pos (by omega),oZ s i hs hi]
  simp only [Option.bind_some]
  rw [de.dM i (by omega)]
  by_cases hh:s.testBit i = true
  ·rw [if_pos hh,if_pos (by omega),if_pos hh]
  ·rw [if_neg hh,if_neg hh]
 ·obtain ⟨m,rfl⟩:∃ m,k = m+1:=⟨k - 1,by omega⟩
  simp only [bk.l0]
  rw [if_neg (by omega),me]
def rB (K x i:Nat):Nat:=(List.range' 0 i).foldl (fun o k=>if x.testBit (nth K k) = true then o ||| 2 ^ k else o) 0
theorem qL (K x i j:Nat):(rB K x i).testBit j = (decide (j < i) && x.testBit (nth K j)):=by
 unfold rB
 rw [oO,Nat.zero_testBit,Bool.false_or,Bool.eq_iff_iff]
 simp only [List.any_eq_true,List.mem_range'_1,Bool.and_eq_true,decide_eq_true_eq]
 constructor
 ·rintro ⟨k,h1,h2,rfl⟩
  exact ⟨by omega,h2⟩
 ·rintro ⟨h1,h2⟩
  exact ⟨j,by omega,h2,rfl⟩
theorem vI (K x i:Nat):rB K x i < 2 ^ i:=by
 apply Nat.lt_pow_two_of_testBit
 intro j hj
 rw [qL,decide_eq_false (by omega)]
 rfl
theorem vJ (K x:Nat):rB K x (cnt K) = pk K x:=by
 apply Nat.eq_of_testBit_eq
 intro j
 rw [qL,n5]
theorem tw (K x i:Nat):rB K x (i+1) = if x.testBit (nth K i) = true then rB K x i ||| 2 ^ i else rB K x i:=by
 unfold rB
 rw [List.range'_concat,List.foldl_append,List.foldl_cons,List.foldl_nil]
 simp
theorem tx (K x:Nat) (hK:K < 256) (hx:x < 256):Ev (fun k=>cU.f k (x:Int) (K:Int)) (pk K x:Int):=by
 unfold cU.f
 refine Ev.bind (oo K hK) ?_
 have hlen:(elems K).length = cnt K:=rfl
 have y:=iB K
 rw [← vJ]
 have key:∀ d i:Nat,i+d = cnt K→Ev (fun k=>cU.l0 k (x:Int) (rB K x i:Int) (ints (elems K)) (i:Int)) (rB K x (cnt K):Int):=by
  intro d
  induction d with
  | zero =>
   intro i hi
   obtain rfl:i = cnt K:=by omega
   refine de.eW 1 (fun k hk=>?_)
   obtain ⟨q,rfl⟩:∃ q,k = q+1:=⟨k - 1,by omega⟩
   simp only [cU.l0]
   rw [if_neg (by rw [aH,hlen];omega)]
  | succ d ih =>
   intro i hi
   have j:=(kz hK (k:=i) (by omega)).2.2
   refine Ev.step (fun k=>?_) (ih (i+1) (by omega))
   simp only [cU.l0]
   rw [if_pos (by rw [aH,hlen];omega),if_pos (by omega),eO]
   show (dJ.f (x:Int) ((nth K i:Nat):Int)).bind _ = _
   rw [oZ x _ hx j]
   simp only [Option.bind_some]
   rw [de.dM i (by omega),tw]
   cases hb:x.testBit (nth K i) with
   | false=>simp
   | true =>
    simp only [if_true]
    have hlt:=vI K x i
    have hp:2 ^ i≤256:=bN (by omega)
    have he:2 ^ i+rB K x i = 2 ^ i ||| rB K x i:=by
     have:=Nat.two_pow_add_eq_or_of_lt hlt 1
     simpa using this
    rw [iV i (by omega),if_pos (by omega),iO i (by omega),de.jQ (by omega) (by omega),Nat.or_comm,← he]
    congr 1
    push_cast
    omega
 have:=key (cnt K) 0 (by omega)
 have h0:rB K x 0 = 0:=rfl
 rw [h0] at this
 exact this
theorem lS (n:Int) (l:List Int) (s:Int) (hn:l.length≤1048576):Ev (fun k=>ek.f k n l s) (if (eX n l && isSet n s) = true then (bI (l.map Int.toNat) s.toNat:Int) else -1):=by
 unfold ek.f
 refine Ev.bind (iQ n l hn) ?_
 cases hM:eX n l with
 | false=>simp only [Bool.false_eq_true,if_false,Bool.false_and];exact Ev.now _
 | true =>
  simp only [if_true,ko,Option.bind_some,Bool.true_and]
  obtain ⟨m,y,rfl,hm,rfl,hl,h0,hf⟩:=iH hM
  cases hs:isSet (m:Int) s with
  | false=>simp only [Bool.false_eq_true,if_false];exact Ev.now _
  | true =>
   obtain ⟨x,rfl,hx⟩:=nJ hs
   have j:=bN hm
   rw [aH] at hn
   simp only [if_true,dU,Int.toNat_natCast]
   exact Ev.bind (n2 m y x (by omega) (fun b hb=>Nat.lt_of_lt_of_le (hl b hb) j) hn) (Ev.now _)
theorem nP (K:Nat) (hK:K < 256) (q:List Nat) (hq:∀ s∈q,s < 256) (hn:q.length≤1048576):Ev (fun k=>cV.f k (K:Int) (ints q)) ((cnt K:Int),sset (ints (q.map (pk K)))):=by
 have fa:ints (q.map (pk K)) = (List.range' 0 q.length).foldl (fun (s:List Int) i=>s ++ [((pk K (q.getD i 0):Nat):Int)]) []:=by
  have:∀ (q:List Nat) (f:Nat→Int) (o:List Int),q.foldl (fun (s:List Int) i=>s ++ [f i]) o = o ++ q.map f:=by
   intro q f
   induction q with
   | nil=>intro o;simp
   | cons a q ih=>intro o;rw [List.foldl_cons,ih];simp
  rw [this,List.nil_append]
  unfold ints
  rw [List.map_map,← List.range_eq_range']
  exact (de.mU q 0 (fun x=>((pk K x:Nat):Int))).symm
 unfold cV.f
 refine de.eI (fun k (s:List Int) i=>cV.l0 k (K:Int) (ints q) s i) q.length (fun i s=>s ++ [((pk K (q.getD i 0):Nat):Int)]) (fun i s=>s.length≤i) _ (fun i s hi hP=>⟨by simp;omega,fun h=>?_⟩) q.length 0 [] (by omega) (by simp) (fun _=>?_)
 ·refine Ev.step (f:=fun k=>(cU.f k ((q.getD i 0:Nat):Int) (K:Int)).bind fun t=>cV.l0 k (K:Int) (ints q) (s ++ [t]) ((i+1:Nat):Int)) (fun k=>?_) (Ev.bind (tx K _ hK (hq _ (dG q 0 i hi))) h)
  simp only [cV.l0]
  rw [if_pos (by rw [aH];omega),if_pos (by omega),eO,de.dM i (by omega)]
  simp only [if_pos (show s.length < 17592186044416 by omega)]
 ·rw [← fa]
  refine Ev.step (f:=fun k=>(b6.f k (K:Int)).bind fun t=>((aC.f k (ints (q.map (pk K)))).bind fun u=>(some (t,u)))) (fun k=>?_) (Ev.bind (fD K hK) (Ev.bind (kX _ (by rw [aH,List.length_map];exact hn)) (Ev.now _)))
  simp only [cV.l0]
  rw [if_neg (by rw [aH];omega)]
theorem p4 (m:Nat) (hm:m≤8) (s:Nat) (hs:s < 2 ^ m):wrap64 (((2 ^ m - 1:Nat):Int) - (s:Int)) = ((diff (2 ^ m - 1) s:Nat):Int):=by
 have y:=bN hm
 have hd:∀ m,m < 9→∀ b,b < 256→b < 2 ^ m→2 ^ m - 1 - b = diff (2 ^ m - 1) b:=by
  intro m hm b hb hlt
  apply Nat.eq_of_testBit_eq
  intro j
  rw [cC,Nat.testBit_two_pow_sub_one,show 2 ^ m - 1 - b = 2 ^ m - (b+1) by omega,Nat.testBit_two_pow_sub_succ hlt]
 rw [← hd m (by omega) s (by omega) hs,de.jQ (by omega) (by omega)]
 omega
section
variable (m:Nat) (hm:m≤8) (l:List Nat) (hl:∀ b∈l,b < 2 ^ m) (hn:l.length≤1048576) (hM:eX (m:Int) (ints l) = true) (h0:0 < l.length) (hf:eN l = false)
include hm hl hn hM
theorem rC (K:Nat) (hK:K < 2 ^ m):Ev (fun k=>cZ.f k (m:Int) (ints l) (K:Int)) (sset (ints ((l.filter fun b=>decide (cnt (b &&& K) = bI l K)).map fun b=>b &&& K))):=by
 have j:=bN hm
 have y:∀ b∈l,b < 256:=fun b hb=>Nat.lt_of_lt_of_le (hl b hb) j
 unfold cZ.f
 simp only [Option.bind_some]
 have hR:=lS (m:Int) (ints l) (K:Int) (by rw [aH];exact hn)
 rw [hM,jw hm hK,dU] at hR
 simp only [Bool.and_self,if_true,Int.toNat_natCast] at hR
 refine Ev.bind hR ?_
 simp only [if_neg (show ¬ ((bI l K:Nat):Int) < 0 by omega)]
 have fl:∀ (q:List Nat) (o:List Int),q.foldl (fun (s:List Int) b=>if (decide (cnt (b &&& K) = bI l K)) = true then s ++ [((b &&& K:Nat):Int)] else s) o = o ++ ints ((q.filter fun b=>decide (cnt (b &&& K) = bI l K)).map fun b=>b &&& K):=by
  intro q
  induction q with
  | nil=>intro o;simp [ints]
  | cons a q ih =>
   intro o
   rw [List.foldl_cons,ih,List.filter_cons]
   split <;> simp [ints]
 refine de.eI (fun k (s:List Int) i=>cZ.l0 k (K:Int) s (bI l K:Int) i (m:Int) (ints l)) l.length (fun i s=>if (decide (cnt (l.getD i 0 &&& K) = bI l K)) = true then s ++ [((l.getD i 0 &&& K:Nat):Int)] else s) (fun i s=>s.length≤i) _ (fun i s hi hP=>⟨?_,fun h=>?_⟩) l.length 0 [] (by omega) (by simp) (fun _=>?_)
 ·show (if _ then _ else _:List Int).length≤_
  split
  ·simp;omega
  ·omega
 ·have hb:=y _ (dG l 0 i hi)
  refine Ev.step (f:=fun k=>(b6.f k ((l.getD i 0 &&& K:Nat):Int)).bind fun t=>(if t = (bI l K:Int) then (cZ.l0 k (K:Int) (s ++ [((l.getD i 0 &&& K:Nat):Int)]) (bI l K:Int) ((i+1:Nat):Int) (m:Int) (ints l)) else (cZ.l0 k (K:Int) s (bI l K:Int) ((i+1:Nat):Int) (m:Int) (ints l)))) (fun k=>?_) ?_
  ·simp only [cZ.l0]
   rw [if_pos (by rw [aH];omega),if_pos (by omega),eO,jI _ _ (by omega) (by omega),de.dM i (by omega)]
   simp only [if_pos (show s.length < 17592186044416 by omega)]
  ·refine Ev.bind (fD _ (Nat.lt_of_le_of_lt Nat.and_le_left hb)) ?_
   by_cases e:cnt (l.getD i 0 &&& K) = bI l K
   ·rw [decide_eq_true e] at h
    simp only [e,if_true] at h ⊢
    exact h
   ·rw [decide_eq_false e] at h
    simp only [if_neg (show ¬ ((cnt (l.getD i 0 &&& K):Nat):Int) = (bI l K:Int) by omega)]
    simpa using h
 ·rw [gY l (fun (s:List Int) b=>if (decide (cnt (b &&& K) = bI l K)) = true then s ++ [((b &&& K:Nat):Int)] else s) [],fl,List.nil_append]
  refine Ev.step (f:=fun k=>(aC.f k (ints ((l.filter fun b=>decide (cnt (b &&& K) = bI l K)).map fun b=>b &&& K))).bind fun t=>some t) (fun k=>?_) (Ev.bind (kX _ (by rw [aH,List.length_map];exact Nat.le_trans (List.length_filter_le _ _) hn)) (Ev.now _))
  simp only [cZ.l0]
  rw [if_neg (by rw [aH];omega)]
include h0 hf
theorem q8 (s:Nat) (hs:s < 2 ^ m):Ev (fun k=>en.f k (m:Int) (ints l) (s:Int)) ((cnt (diff (2 ^ m - 1) s):Int),ints (ij l (diff (2 ^ m - 1) s))):=by
 have M:=bN hm
 have X:∀ b∈l,b < 256:=fun b hb=>Nat.lt_of_lt_of_le (hl b hb) M
 have hfull:2 ^ m - 1 < 2 ^ m:=by have:=Nat.one_le_two_pow (n:=m);omega
 have hK:diff (2 ^ m - 1) s < 2 ^ m:=dY hfull
 unfold en.f
 have hR:=lS (m:Int) (ints l) (s:Int) (by rw [aH];exact hn)
 rw [hM,jw hm hs] at hR
 simp only [Bool.and_self,if_true] at hR
 refine Ev.bind hR ?_
 simp only [if_neg (show ¬ ((bI ((ints l).map Int.toNat) (s:Int).toNat:Nat):Int) < 0 by omega),eP m hm,Option.bind_some,p4 m hm s hs]
 refine Ev.bind (rC m hm l hl hn hM _ hK) ?_
 obtain ⟨q,hq,hmem,hlen⟩:=tu ((l.filter fun b=>decide (cnt (b &&& diff (2 ^ m - 1) s) = bI l (diff (2 ^ m - 1) s))).map fun b=>b &&& diff (2 ^ m - 1) s)
 rw [hq]
 have hlq:q.length≤1048576:=by
  rw [List.length_map] at hlen
  exact Nat.le_trans hlen (Nat.le_trans (List.length_filter_le _ _) hn)
 refine Ev.bind (nP _ (by omega) q (fun x hx=>?_) hlq) ?_
 ·obtain ⟨b,_,rfl⟩:=List.mem_map.1 ((hmem x).1 hx)
  exact Nat.lt_of_le_of_lt Nat.and_le_right (by omega)
 ·rw [lR (kA _ _) (q:=ij l (diff (2 ^ m - 1) s)) fun x=>?_]
  ·exact Ev.now _
  ·rw [ru hm hl h0 hf hK,List.mem_map]
   constructor
   ·rintro ⟨y,hy,rfl⟩
    obtain ⟨b,hb,rfl⟩:=List.mem_map.1 ((hmem y).1 hy)
    obtain ⟨j,z⟩:=List.mem_filter.1 hb
    exact ⟨b,j,by simpa using z,rfl⟩
   ·rintro ⟨b,j,z,rfl⟩
    exact ⟨b &&& diff (2 ^ m - 1) s,(hmem _).2 (List.mem_map.2 ⟨b,List.mem_filter.2 ⟨j,by simpa using z⟩,rfl⟩),rfl⟩
omit h0 hf in
theorem oq (s:Nat) (hs:s < 2 ^ m):Ev (fun k=>bn.f k (m:Int) (ints l) (s:Int)) ((cnt (diff (2 ^ m - 1) s):Int),sset (ints (((l.filter fun b=>decide (cnt (b &&& s) = bI l s)).map fun b=>diff b s).map (pk (diff (2 ^ m - 1) s))))):=by
 have j:=bN hm
 have y:∀ b∈l,b < 256:=fun b hb=>Nat.lt_of_lt_of_le (hl b hb) j
 have hfull:2 ^ m - 1 < 2 ^ m:=by have:=Nat.one_le_two_pow (n:=m);omega
 have hK:diff (2 ^ m - 1) s < 2 ^ m:=dY hfull
 unfold bn.f
 have hR:=lS (m:Int) (ints l) (s:Int) (by rw [aH];exact hn)
 rw [hM,jw hm hs,dU] at hR
 simp only [Bool.and_self,if_true,Int.toNat_natCast] at hR
 refine Ev.bind hR ?_
 simp only [if_neg (show ¬ ((bI l s:Nat):Int) < 0 by omega)]
 have fl:∀ (q:List Nat) (o:List Int),q.foldl (fun (u:List Int) b=>if (decide (cnt (b &&& s) = bI l s)) = true then u ++ [((diff b s:Nat):Int)] else u) o = o ++ ints ((q.filter fun b=>decide (cnt (b &&& s) = bI l s)).map fun b=>diff b s):=by
  intro q
  induction q with
  | nil=>intro o;simp [ints]
  | cons a q ih =>
   intro o
   rw [List.foldl_cons,ih,List.filter_cons]
   split <;> simp [ints]
 refine de.eI (fun k (u:List Int) i=>bn.l0 k (s:Int) (bI l s:Int) u i (m:Int) (ints l)) l.length (fun i u=>if (decide (cnt (l.getD i 0 &&& s) = bI l s)) = true then u ++ [((diff (l.getD i 0) s:Nat):Int)] else u) (fun i u=>u.length≤i) _ (fun i u hi hP=>⟨?_,fun h=>?_⟩) l.length 0 [] (by omega) (by simp) (fun _=>?_)
 ·show (if _ then _ else _:List Int).length≤_
  split
  ·simp;omega
  ·omega
 ·have hb:=y _ (dG l 0 i hi)
  have hds:wrap64 (((l.getD i 0:Nat):Int) - ((l.getD i 0 &&& s:Nat):Int)) = ((diff (l.getD i 0) s:Nat):Int):=by
   have hle:l.getD i 0 &&& s≤l.getD i 0:=Nat.and_le_left
   have hx:diff (l.getD i 0) s+(l.getD i 0 &&& s) = l.getD i 0:=rz _ hb s (by omega)
   rw [de.jQ (by omega) (by omega)]
   omega
  refine Ev.step (f:=fun k=>(b6.f k ((l.getD i 0 &&& s:Nat):Int)).bind fun t=>(if t = (bI l s:Int) then (bn.l0 k (s:Int) (bI l s:Int) (u ++ [((diff (l.getD i 0) s:Nat):Int)]) ((i+1:Nat):Int) (m:Int) (ints l)) else (bn.l0 k (s:Int) (bI l s:Int) u ((i+1:Nat):Int) (m:Int) (ints l)))) (fun k=>?_) ?_
  ·simp only [bn.l0]
   rw [if_pos (by rw [aH];omega),if_pos (by omega),eO,jI _ _ (by omega) (by omega),de.dM i (by omega),hds]
   simp only [if_pos (show u.length < 17592186044416 by omega)]
  ·refine Ev.bind (fD _ (Nat.lt_of_le_of_lt Nat.and_le_left hb)) ?_
   by_cases e:cnt (l.getD i 0 &&& s) = bI l s
   ·rw [decide_eq_true e] at h
    simp only [e,if_true] at h ⊢
    exact h
   ·rw [decide_eq_false e] at h
    simp only [if_neg (show ¬ ((cnt (l.getD i 0 &&& s):Nat):Int) = (bI l s:Int) by omega)]
    simpa using h
 ·rw [gY l (fun (u:List Int) b=>if (decide (cnt (b &&& s) = bI l s)) = true then u ++ [((diff b s:Nat):Int)] else u) [],fl,List.nil_append]
  refine Ev.step (f:=fun k=>(cV.f k ((diff (2 ^ m - 1) s:Nat):Int) (ints ((l.filter fun b=>decide (cnt (b &&& s) = bI l s)).map fun b=>diff b s))).bind fun bt=>some (bt.1,bt.2)) (fun k=>?_) (Ev.bind (nP _ (by omega) _ (fun x hx=>?_) (by rw [List.length_map];exact Nat.le_trans (List.length_filter_le _ _) hn)) (Ev.now _))
  ·simp only [bn.l0]
   rw [if_neg (by rw [aH];omega),eP m hm]
   simp only [Option.bind_some]
   rw [p4 m hm s hs]
  ·obtain ⟨b,hb,rfl⟩:=List.mem_map.1 hx
   exact dY (n:=8) (y b (List.mem_filter.1 hb).1)
end
end Go.Proofs.YtmpodackojmojaaGreat.kf
end
section
namespace Go.Proofs.YtmpodackojmojaaGreat.Poly
open Go.RowKit Go.Proofs.YtmpodackojmojaaGreat.Pr Go.Proofs.YtmpodackojmojaaGreat.jR Go.Proofs.YtmpodackojmojaaGreat.Sets Go.Proofs.YtmpodackojmojaaGreat.mA Go.Proofs.YtmpodackojmojaaGreat.iD Go.Proofs.YtmpodackojmojaaGreat.Flat Go.Proofs.YtmpodackojmojaaGreat.jo Go.Proofs.YtmpodackojmojaaGreat.je Go.Proofs.YtmpodackojmojaaGreat.Sort Go.Proofs.YtmpodackojmojaaGreat.rQ Go.Proofs.YtmpodackojmojaaGreat.ov Go.Proofs.YtmpodackojmojaaGreat.jl Go.Proofs.YtmpodackojmojaaGreat.kf Go.Proofs.YtmpodackojmojaaGreat.gO Go.Proofs.YtmpodackojmojaaGreat.gN Go.Proofs.ag.bl Go.Proofs.ag.cj Go.Proofs.ag.ck
set_option linter.unusedVariables false
theorem rD:∀ n,n < 8→∀ y,y < 128→y < 2 ^ n→gR (2 ^ n - 1) y = y:=by decide +kernel
theorem k9:∀ n,n < 8→cnt (2 ^ n - 1) = n∧diff (2 ^ (n+1) - 1) (2 ^ n) = 2 ^ n - 1∧cnt (2 ^ n) = 1:=by decide +kernel
theorem n7 {n y:Nat} (hn:n < 8) (hy:y < 2 ^ n):gR (2 ^ n - 1) y = y:=rD n hn y (Nat.lt_of_lt_of_le hy (Nat.pow_le_pow_right (by decide) (by omega):2 ^ n≤2 ^ 7)) hy
theorem rE (a b:Nat):cnt (a ||| b)≤cnt a+cnt b:=by
 have:=l7 a b
 omega
section
variable {m:Nat} (hm:m≤8) {l:List Nat} (hl:∀ s∈l,s < 2 ^ m) (h0:0 < l.length) (hf:eN l = false)
include h0 in
theorem qM (a b:Nat):bI l (a ||| b)≤bI l a+cnt b:=by
 obtain ⟨c,hc,hr⟩:=ig h0 (a ||| b)
 have h1:=fG l a c hc
 have e:(a ||| b) &&& c = (a &&& c) ||| (b &&& c):=by
  apply Nat.eq_of_testBit_eq
  intro j
  simp only [Nat.testBit_and,Nat.testBit_or]
  cases a.testBit j <;> cases b.testBit j <;> cases c.testBit j <;> rfl
 rw [e] at hr
 have h2:=rE (a &&& c) (b &&& c)
 have h3:=gU (fo b c)
 omega
include hm hl h0 hf in
theorem grow {a b:Nat} (ha:a < 2 ^ m) (hb:b < 2 ^ m) (h:bI l a < bI l b):∃ e,b.testBit e = true∧a.testBit e = false∧bI l a+1≤bI l (a ||| 2 ^ e):=by
 have hI:=kN hm hl h0 hf
 obtain ⟨⟨i,y,Y,a4⟩,a0⟩:=(jz h0).1 (rfl:bI l a = bI l a)
 obtain ⟨⟨j,z,a1,a5⟩,a6⟩:=(jz h0).1 (rfl:bI l b = bI l b)
 have hia:i < 2 ^ m:=sub_lt y ha
 have hjb:j < 2 ^ m:=sub_lt z hb
 obtain ⟨e,M,a2,X⟩:=hI.aug i j hia hjb Y a1 (by omega)
 have a3:e < 8:=by
  have:=gT hjb M
  omega
 have hc:cnt (i ||| 2 ^ e) = cnt i+1:=fW a3 a2
 refine ⟨e,z e M,?_,?_⟩
 ·cases hae:a.testBit e with
  | false=>rfl
  | true =>
   have:=a0 (i ||| 2 ^ e) (fun t ht=>by
    rw [Nat.testBit_or,Nat.testBit_two_pow,Bool.or_eq_true,decide_eq_true_eq] at ht
    rcases ht with h | h
    ·exact y t h
    ·exact h ▸ hae) X
   omega
 ·obtain ⟨c,hcl,hsub⟩:=eH.1 X
  have h1:=fG l (a ||| 2 ^ e) c hcl
  have h2:cnt (i ||| 2 ^ e)≤cnt ((a ||| 2 ^ e) &&& c):=gU (fV (fun t ht=>by
   rw [Nat.testBit_or,Bool.or_eq_true] at ht ⊢
   rcases ht with h | h
   ·exact .inl (y t h)
   ·exact .inr h) hsub)
  omega
end
section
variable {n:Nat} (hn:n < 8) {l:List Nat} (hl:∀ s∈l,s < 2 ^ (n+1)) (h0:0 < l.length) (hf:eN l = false)
def Q (l:List Nat) (n y:Nat):Bool:=decide (bI l (y ||| 2 ^ n) = cnt y+bI l (2 ^ n))
include h0 in
theorem wI (y:Nat):bI l (y ||| 2 ^ n)≤cnt y+bI l (2 ^ n):=by
 have:=qM h0 (2 ^ n) y
 rw [Nat.or_comm] at this
 omega
theorem qa {n y:Nat} (hy:y < 2 ^ n):y ||| 2 ^ n < 2 ^ (n+1):=mg (Nat.lt_of_lt_of_le hy (Nat.pow_le_pow_right (by decide) (by omega))) (Nat.pow_lt_pow_right (by decide) (by omega))
include hn hl h0 hf in
theorem qb {a b:Nat} (ha:a < 2 ^ n) (hb:b < 2 ^ n) (hQ:Q l n a = true) (h:bI l (a ||| 2 ^ n) < bI l (b ||| 2 ^ n)):∃ e,b.testBit e = true∧a.testBit e = false∧Q l n (a ||| 2 ^ e) = true:=by
 obtain ⟨e,y,j,z⟩:=grow (m:=n+1) (by omega) hl h0 hf (qa ha) (qa hb) h
 rw [Nat.testBit_or,Nat.testBit_two_pow] at y j
 rw [Bool.or_eq_false_iff] at j
 rw [j.2,Bool.or_false] at y
 have M:e < 8:=by
  have:=gT hb y
  omega
 refine ⟨e,y,j.1,?_⟩
 have h1:bI l (a ||| 2 ^ n) = cnt a+bI l (2 ^ n):=of_decide_eq_true hQ
 have h2:=wI (n:=n) h0 (a ||| 2 ^ e)
 have h3:cnt (a ||| 2 ^ e) = cnt a+1:=fW M j.1
 have h4:a ||| 2 ^ n ||| 2 ^ e = a ||| 2 ^ e ||| 2 ^ n:=by rw [Nat.or_assoc,Nat.or_comm (2 ^ n),← Nat.or_assoc]
 rw [h4] at z
 exact decide_eq_true (by omega)
include hn hl h0 hf in
theorem p5:og n (Q l n):=by
 refine ⟨?_,?_,?_⟩
 ·refine decide_eq_true ?_
  have hz:cnt 0 = 0:=by decide +kernel
  rw [Nat.zero_or,hz]
  omega
 ·intro a b hb hab hQ
  have h1:bI l (b ||| 2 ^ n) = cnt b+bI l (2 ^ n):=of_decide_eq_true hQ
  have h2:=wI (n:=n) h0 a
  have e:b ||| 2 ^ n = (a ||| 2 ^ n) ||| diff b a:=by
   apply Nat.eq_of_testBit_eq
   intro j
   have:=hab j
   simp only [Nat.testBit_or,cC]
   cases ha:a.testBit j with
   | false=>cases b.testBit j <;> cases (2 ^ n).testBit j <;> rfl
   | true=>rw [this ha];cases (2 ^ n).testBit j <;> rfl
  have h3:=qM h0 (a ||| 2 ^ n) (diff b a)
  rw [← e] at h3
  have h4:=fc b a
  rw [Nat.and_comm,iI.2 hab] at h4
  exact decide_eq_true (by omega)
 ·intro a b ha hb y z hlt
  have h1:bI l (a ||| 2 ^ n) = cnt a+bI l (2 ^ n):=of_decide_eq_true y
  have h2:bI l (b ||| 2 ^ n) = cnt b+bI l (2 ^ n):=of_decide_eq_true z
  exact qb hn hl h0 hf ha hb y (by omega)
include hn hl h0 hf in
theorem n8 {y:Nat} (hy:y < 2 ^ n):bI (eY n (Q l n)) y+bI l (2 ^ n) = bI l (y ||| 2 ^ n):=by
 have hI:=p5 hn hl h0 hf
 have key:∀ (k a:Nat),a < 2 ^ n→Sub a y→Q l n a = true→bI l (y ||| 2 ^ n)≤bI l (a ||| 2 ^ n)+k→∃ t,t < 2 ^ n∧Sub t y∧Q l n t = true∧cnt t+bI l (2 ^ n) = bI l (y ||| 2 ^ n):=by
  intro k
  induction k with
  | zero =>
   intro a ha hay hQ hk
   have h1:bI l (a ||| 2 ^ n) = cnt a+bI l (2 ^ n):=of_decide_eq_true hQ
   have h2:bI l (a ||| 2 ^ n)≤bI l (y ||| 2 ^ n):=jl.jA fun j hj=>by
    rw [Nat.testBit_or,Bool.or_eq_true] at hj ⊢
    exact hj.imp (hay j) id
   exact ⟨a,ha,hay,hQ,by omega⟩
  | succ k ih =>
   intro a ha hay hQ hk
   by_cases hlt:bI l (a ||| 2 ^ n) < bI l (y ||| 2 ^ n)
   ·obtain ⟨e,z,Y,M⟩:=qb hn hl h0 hf ha hy hQ hlt
    have hen:=gT hy z
    have h1:bI l (a ||| 2 ^ n) = cnt a+bI l (2 ^ n):=of_decide_eq_true hQ
    have h3:bI l (a ||| 2 ^ e ||| 2 ^ n) = cnt (a ||| 2 ^ e)+bI l (2 ^ n):=of_decide_eq_true M
    have h4:cnt (a ||| 2 ^ e) = cnt a+1:=fW (by omega) Y
    refine ih (a ||| 2 ^ e) (mg ha (Nat.pow_lt_pow_right (by decide) hen)) (fun j hj=>?_) M (by omega)
    rw [Nat.testBit_or,Nat.testBit_two_pow,Bool.or_eq_true,decide_eq_true_eq] at hj
    rcases hj with h | h
    ·exact hay j h
    ·exact h ▸ z
   ·exact ih a ha hay hQ (by omega)
 obtain ⟨t,a0,a1,a2,a4⟩:=key (bI l (y ||| 2 ^ n)) 0 (Nat.pow_pos (by decide)) (fun j hj=>by rw [Nat.zero_testBit] at hj;cases hj) hI.zero (by omega)
 have hs:=hI.some (by omega:n≤8)
 have h5:bI (eY n (Q l n)) y = cnt t:=by
  refine (jz hs).2 ⟨⟨t,a1,by rw [hI.indep (by omega) a0];exact a2,rfl⟩,fun u hu X=>?_⟩
  have a3:u < 2 ^ n:=sub_lt hu hy
  rw [hI.indep (by omega) a3] at X
  have h6:bI l (u ||| 2 ^ n) = cnt u+bI l (2 ^ n):=of_decide_eq_true X
  have h7:bI l (u ||| 2 ^ n)≤bI l (y ||| 2 ^ n):=jl.jA fun j hj=>by
   rw [Nat.testBit_or,Bool.or_eq_true] at hj ⊢
   exact hj.imp (hu j) id
  omega
 omega
end
end Go.Proofs.YtmpodackojmojaaGreat.Poly
end
section
namespace Go.Proofs.YtmpodackojmojaaGreat.Poly
open Go.RowKit Go.Proofs.YtmpodackojmojaaGreat.jR Go.Proofs.YtmpodackojmojaaGreat.Sets Go.Proofs.YtmpodackojmojaaGreat.mA Go.Proofs.YtmpodackojmojaaGreat.iD Go.Proofs.YtmpodackojmojaaGreat.Flat Go.Proofs.YtmpodackojmojaaGreat.jo Go.Proofs.YtmpodackojmojaaGreat.je Go.Proofs.YtmpodackojmojaaGreat.Sort Go.Proofs.YtmpodackojmojaaGreat.rQ Go.Proofs.YtmpodackojmojaaGreat.jl Go.Proofs.YtmpodackojmojaaGreat.gO Go.Proofs.YtmpodackojmojaaGreat.gN Go.Proofs.ag.bl Go.Proofs.ag.cj Go.Proofs.ag.ck
set_option linter.unusedVariables false
theorem fc (s b:Nat):cnt (s &&& b)+cnt (diff s b) = cnt s:=by
 rw [fK,fK,fK]
 simp only [Nat.testBit_and,cC]
 generalize List.range' 0 8 = q
 induction q with
 | nil=>rfl
 | cons j q ih =>
  rw [List.countP_cons,List.countP_cons,List.countP_cons]
  cases s.testBit j <;> cases b.testBit j <;> simp <;> omega
theorem p8 {m s b:Nat} (hm:m≤8) (hs:s < 2 ^ m):s &&& diff (2 ^ m - 1) b = diff s b:=by
 apply Nat.eq_of_testBit_eq
 intro j
 rw [Nat.testBit_and,cC,cC,Nat.testBit_two_pow_sub_one]
 by_cases h:j < m
 ·rw [decide_eq_true h,Bool.true_and]
 ·rw [iG hs (by omega),Bool.false_and,Bool.false_and]
theorem tA {m s b:Nat} (hm:m≤8) (hb:b < 2 ^ m):diff (2 ^ m - 1) s &&& b = diff b s:=by
 rw [Nat.and_comm]
 exact p8 hm hb
theorem rF {m:Nat} (hm:m≤8) {l q:List Nat} (hl:∀ s∈l,s < 2 ^ m) (h0:0 < l.length) (hf:eN l = false) (hq:∀ x,x∈q↔∃ b∈l,x = diff (2 ^ m - 1) b) {s:Nat} (hs:s < 2 ^ m):bI q s+top l = cnt s+bI l (diff (2 ^ m - 1) s):=by
 have j:=bN hm
 have y:∀ b∈l,b < 256:=fun b hb=>Nat.lt_of_lt_of_le (hl b hb) j
 have each:∀ b∈l,cnt (s &&& diff (2 ^ m - 1) b)+top l = cnt s+cnt (diff (2 ^ m - 1) s &&& b):=fun b hb=>by
  rw [p8 hm hs,tA hm (hl b hb)]
  have h1:=fc s b
  have h2:=fc b s
  have h3:=kr y hf h0 hb
  rw [Nat.and_comm] at h2
  omega
 obtain ⟨b,hb,hbr⟩:=ig h0 (diff (2 ^ m - 1) s)
 have h1:=fG q s _ ((hq _).2 ⟨b,hb,rfl⟩)
 have h2:=each b hb
 have h3:bI q s≤cnt s+bI l (diff (2 ^ m - 1) s) - top l:=gy q s _ fun x hx=>by
  obtain ⟨c,hc,rfl⟩:=(hq x).1 hx
  have h4:=each c hc
  have h5:=fG l (diff (2 ^ m - 1) s) c hc
  omega
 omega
theorem uu (g:Nat→Int):∀ N:Nat,((List.range' 0 N).map fun s=>g (N - 1 - s)).sum = ((List.range' 0 N).map g).sum:=by
 intro N
 have:(List.range' 0 N).map (fun s=>g (N - 1 - s)) = ((List.range' 0 N).map g).reverse:=by
  apply List.ext_getElem
  ·simp
  ·intro i h1 h2
   simp at h1
   simp
   try (congr 1;omega)
 rw [this,List.sum_reverse]
theorem ik {f g f' g':Nat→Nat}:∀ {l:List Nat},(∀ s∈l,f s = f' s∧g s = g' s)→∀ i j,co f g l i j = co f' g' l i j:=by
 intro l h i j
 unfold co
 congr 1
 refine List.map_congr_left fun s hs=>?_
 rw [(h s hs).1,(h s hs).2]
theorem tB {m:Nat} (hm:m≤8) {l q:List Nat} (hl:∀ s∈l,s < 2 ^ m) (h0:0 < l.length) (hf:eN l = false) (hq:∀ x,x∈q↔∃ b∈l,x = diff (2 ^ m - 1) b) (y:0 < q.length) (i j:Nat):gZ (eG m q) j i = gZ (eG m l) i j:=by
 have z:=bN hm
 have hfull:2 ^ m - 1 < 2 ^ m:=by have:=Nat.one_le_two_pow (n:=m);omega
 have X:∀ s∈q,s < 2 ^ m:=fun s hs=>by
  obtain ⟨b,hb,rfl⟩:=(hq s).1 hs
  exact dY hm (hl b hb)
 have M:∀ b∈l,b < 256:=fun b hb=>Nat.lt_of_lt_of_le (hl b hb) z
 have Y:top q+top l = m:=by
  obtain ⟨b,hb,hbq⟩:=(hq _).1 (dG q 0 0 y)
  unfold top
  rw [hbq]
  have h1:=jb hm (hl b hb)
  have h2:=kr M hf h0 hb
  unfold top at h2
  omega
 rw [iS hm X y,iS hm hl h0]
 have e1:∀ s,s < 2 ^ m→top q - bI q s = cnt (2 ^ m - 1 - s) - bI l (2 ^ m - 1 - s)∧cnt s - bI q s = top l - bI l (2 ^ m - 1 - s):=fun s hs=>by
  rw [pB.lK hm hs]
  have h1:=rF hm hl h0 hf hq hs
  have h2:=jb hm hs
  have h3:=gN.eF l (diff (2 ^ m - 1) s)
  have h4:=jJ M hf h0 (diff (2 ^ m - 1) s)
  have h5:=gN.eF q s
  omega
 rw [ik (f':=fun s=>cnt (2 ^ m - 1 - s) - bI l (2 ^ m - 1 - s)) (g':=fun s=>top l - bI l (2 ^ m - 1 - s)) (fun s hs=>e1 s (by have:=List.mem_range'_1.1 hs;omega))]
 unfold co
 rw [← uu (fun s=>P (top l - bI l s) i * P (cnt s - bI l s) j) (2 ^ m)]
 congr 1
 refine List.map_congr_left fun s hs=>?_
 exact Int.mul_comm _ _
end Go.Proofs.YtmpodackojmojaaGreat.Poly
end
section
namespace Go.Proofs.YtmpodackojmojaaGreat.Poly
open Go.RowKit Go.Proofs.YtmpodackojmojaaGreat.Pr Go.Proofs.YtmpodackojmojaaGreat.jR Go.Proofs.YtmpodackojmojaaGreat.Sets Go.Proofs.YtmpodackojmojaaGreat.mA Go.Proofs.YtmpodackojmojaaGreat.iD Go.Proofs.YtmpodackojmojaaGreat.Flat Go.Proofs.YtmpodackojmojaaGreat.jo Go.Proofs.YtmpodackojmojaaGreat.je Go.Proofs.YtmpodackojmojaaGreat.Sort Go.Proofs.YtmpodackojmojaaGreat.rQ Go.Proofs.YtmpodackojmojaaGreat.ov Go.Proofs.YtmpodackojmojaaGreat.jl Go.Proofs.YtmpodackojmojaaGreat.kf Go.Proofs.YtmpodackojmojaaGreat.gO Go.Proofs.YtmpodackojmojaaGreat.gN Go.Proofs.ag.bl Go.Proofs.ag.cj Go.Proofs.ag.ck
set_option linter.unusedVariables false
theorem gV (m:Nat):2 ^ m - 1 < 2 ^ m:=by have:=Nat.one_le_two_pow (n:=m);omega
theorem ot {m b:Nat} (hb:b < 2 ^ m):Sub b (2 ^ m - 1):=fun j hj=>by
 rw [Nat.testBit_two_pow_sub_one,decide_eq_true (gT hb hj)]
theorem jC {m:Nat} (hm:m≤8) {l:List Nat} (hl:∀ s∈l,s < 2 ^ m) (h0:0 < l.length) (hf:eN l = false):bI l (2 ^ m - 1) = top l:=by
 have j:=bN hm
 have y:∀ b∈l,b < 256:=fun b hb=>Nat.lt_of_lt_of_le (hl b hb) j
 obtain ⟨c,hc,hr⟩:=ig h0 (2 ^ m - 1)
 rw [Nat.and_comm,iI.2 (ot (hl c hc))] at hr
 rw [← hr]
 exact kr y hf h0 hc
theorem n9 (n:Nat):(2 ^ n - 1) ||| 2 ^ n = 2 ^ (n+1) - 1:=by
 apply Nat.eq_of_testBit_eq
 intro j
 rw [Nat.testBit_or,Nat.testBit_two_pow_sub_one,Nat.testBit_two_pow_sub_one,Nat.testBit_two_pow,Bool.eq_iff_iff,Bool.or_eq_true,decide_eq_true_eq,decide_eq_true_eq,decide_eq_true_eq]
 omega
section
variable {n:Nat} (hn:n < 8) {l:List Nat} (hl:∀ s∈l,s < 2 ^ (n+1)) (h0:0 < l.length) (hf:eN l = false)
include hn hl h0 hf in
theorem pb (x:Nat):(∃ b∈l,cnt (b &&& 2 ^ n) = bI l (2 ^ n)∧x = pk (2 ^ n - 1) (diff b (2 ^ n)))↔x∈eY n (Q l n):=by
 have hI:=p5 hn hl h0 hf
 obtain ⟨j,y,Y⟩:=k9 n hn
 have hE:2 ^ n < 2 ^ (n+1):=Nat.pow_lt_pow_right (by decide) (by omega)
 have hiff:=ry (m:=n+1) (by omega) hl h0 hf hE x
 rw [y,j] at hiff
 rw [hiff]
 have hmono:∀ t,t < 2 ^ n→bI l (t ||| 2 ^ n)≤bI l (2 ^ (n+1) - 1):=fun t ht=>jl.jA (ot (qa ht))
 constructor
 ·rintro ⟨h1,h2,h3⟩
  rw [n7 hn h1] at h3
  refine hI.lQ (by omega) h1 (decide_eq_true (by omega)) fun t ht hQ=>?_
  have h4:bI l (t ||| 2 ^ n) = cnt t+bI l (2 ^ n):=of_decide_eq_true hQ
  have:=hmono t ht
  omega
 ·intro hx
  have h1:x < 2 ^ n:=(eU.1 hx).1
  have h2:Q l n x = true:=(eU.1 hx).2.1
  have h3:bI l (x ||| 2 ^ n) = cnt x+bI l (2 ^ n):=of_decide_eq_true h2
  have h4:=hmono x h1
  have h5:¬ bI l (x ||| 2 ^ n) < bI l (2 ^ (n+1) - 1):=fun hlt=>by
   rw [← n9 n] at hlt
   obtain ⟨e,z,M,X⟩:=qb hn hl h0 hf h1 (gV n) h2 hlt
   have hen:=gT (gV n) z
   have h6:=hI.lP (by omega) hx (mg h1 (Nat.pow_lt_pow_right (by decide) hen)) X
   have h7:cnt (x ||| 2 ^ e) = cnt x+1:=fW (by omega) M
   omega
  rw [n7 hn h1]
  exact ⟨h1,by omega,by omega⟩
theorem rG (n:Nat):List.range' 0 (2 ^ (n+1)) = List.range' 0 (2 ^ n) ++ (List.range' 0 (2 ^ n)).map (fun s=>s ||| 2 ^ n):=by
 have h4:=List.range'_append_1 (s:=0) (m:=2 ^ n) (n:=2 ^ n)
 rw [Nat.zero_add,← Nat.mul_two,← Nat.pow_succ] at h4
 rw [← h4]
 congr 1
 apply List.ext_getElem
 ·simp
 ·intro i h1 h2
  simp at h1
  simp
  rw [Nat.or_comm]
  exact Nat.two_pow_add_eq_or_of_lt h1 1 |> fun h=>by simpa using h
theorem qc (f g:Nat→Nat) (n i j:Nat):co f g (List.range' 0 (2 ^ (n+1))) i j = co f g (List.range' 0 (2 ^ n)) i j+co (fun s=>f (s ||| 2 ^ n)) (fun s=>g (s ||| 2 ^ n)) (List.range' 0 (2 ^ n)) i j:=by
 unfold co
 rw [rG,List.map_append,List.sum_append,List.map_map]
 rfl
theorem wJ:∀ b,b < 8→∀ j,j < 10→P b j+P (b+1) j = if j = 0 then 0 else P b (j - 1):=by decide +kernel
theorem wK {b:Nat} (hb:b < 8) (j:Nat):P b j+P (b+1) j = if j = 0 then 0 else P b (j - 1):=by
 by_cases h:j < 10
 ·exact wJ b hb j h
 ·rw [nM (by omega) (by omega),nM (by omega) (by omega),if_neg (by omega),nM (by omega) (by omega)]
  rfl
theorem nQ (h:∀ b∈l,b.testBit n = false) (s:Nat):bI l (s ||| 2 ^ n) = bI l s:=by
 have e:∀ b∈l,(s ||| 2 ^ n) &&& b = s &&& b:=fun b hb=>by
  apply Nat.eq_of_testBit_eq
  intro j
  rw [Nat.testBit_and,Nat.testBit_and,Nat.testBit_or,Nat.testBit_two_pow]
  by_cases hj:n = j
  ·subst hj;rw [h b hb,Bool.and_false,Bool.and_false]
  ·rw [decide_eq_false hj,Bool.or_false]
 refine Nat.le_antisymm (gy l _ _ fun b hb=>?_) (gy l _ _ fun b hb=>?_)
 ·rw [e b hb];exact fG l s b hb
 ·rw [← e b hb];exact fG l _ b hb
include h0 in
theorem jk (hn:n < 8) (h:∀ b∈l,b.testBit n = true) {s:Nat} (hs:s < 2 ^ n):bI l (s ||| 2 ^ n) = bI l s+1:=by
 have e:∀ b∈l,cnt ((s ||| 2 ^ n) &&& b) = cnt (s &&& b)+1:=fun b hb=>by
  have:(s ||| 2 ^ n) &&& b = (s &&& b) ||| 2 ^ n:=by
   apply Nat.eq_of_testBit_eq
   intro j
   rw [Nat.testBit_and,Nat.testBit_or,Nat.testBit_or,Nat.testBit_and,Nat.testBit_two_pow]
   by_cases hj:n = j
   ·subst hj;rw [h b hb];cases s.testBit n <;> simp
   ·rw [decide_eq_false hj,Bool.or_false,Bool.or_false]
  rw [this]
  refine fW hn ?_
  rw [Nat.testBit_and,iG hs (Nat.le_refl _),Bool.false_and]
 refine Nat.le_antisymm (gy l _ _ fun b hb=>?_) ?_
 ·rw [e b hb]
  have:=fG l s b hb
  omega
 ·obtain ⟨b,hb,hr⟩:=ig h0 s
  rw [← hr,← e b hb]
  exact fG l _ b hb
end
end Go.Proofs.YtmpodackojmojaaGreat.Poly
end
section
namespace Go.Proofs.YtmpodackojmojaaGreat.jS
open Go.RowKit Go.Proofs.YtmpodackojmojaaGreat.Pr Go.Proofs.YtmpodackojmojaaGreat.jR Go.Proofs.ag.bl Go.Proofs.ag.cj Go.Proofs.ag.ck
set_option linter.unusedVariables false
def kG (r xs:List Int):List Int:=(List.range' 0 xs.length).foldl (fun r j=>r.set j (wrap64 (rd r (j:Int)+rd xs (j:Int)))) r
theorem iC (q:List Nat) (xs:List Int) (r:List Int):(q.foldl (fun r j=>r.set j (wrap64 (rd r (j:Int)+rd xs (j:Int)))) r).length = r.length:=by
 induction q generalizing r with
 | nil=>rfl
 | cons a q ih=>rw [List.foldl_cons,ih,List.length_set]
theorem iU (r xs:List Int):(kG r xs).length = r.length:=iC _ _ _
def iM (x y:List Int):List Int:=kG (kG (List.replicate (max x.length y.length) 0) x) y
theorem nv (x y:List Int):(iM x y).length = max x.length y.length:=by
 unfold iM
 rw [iU,iU,List.length_replicate]
def pc (a b:List (List Int)):List (List Int):=(List.range' 0 (max a.length b.length)).foldl (fun s i=>s ++ [iM (a.getD i []) (b.getD i [])]) []
theorem add_mid (a b:List (List Int)) (ha:Small a) (hb:Small b):vP (pc a b):=by
 have key:∀ (q:List Nat) (s:List (List Int)),(∀ x∈s,x.length≤2097152)→(q.foldl (fun s i=>s ++ [iM (a.getD i []) (b.getD i [])]) s).length = s.length+q.length∧∀ x∈q.foldl (fun s i=>s ++ [iM (a.getD i []) (b.getD i [])]) s,x.length≤2097152:=by
  intro q
  induction q with
  | nil=>exact fun s h=>⟨by simp,h⟩
  | cons i q ih =>
   intro s h
   rw [List.foldl_cons]
   have:=ih (s ++ [iM (a.getD i []) (b.getD i [])]) (fun x hx=>by
    rw [List.mem_append,List.mem_singleton] at hx
    rcases hx with hx | rfl
    ·exact h x hx
    ·rw [nv]
     have h1:=ha.at_ i
     have h2:=hb.at_ i
     omega)
   refine ⟨?_,this.2⟩
   rw [this.1]
   simp
   omega
 obtain ⟨h1,h2⟩:=key (List.range' 0 (max a.length b.length)) [] (by simp)
 refine ⟨?_,h2⟩
 have:=ha.1
 have:=hb.1
 unfold pc
 rw [h1]
 simp
 omega
theorem rowAt (a:List (List Int)) (i:Nat):ei.f a (i:Int) = some (a.getD i []):=by
 unfold ei.f
 by_cases h:(i:Int)≥(a.length:Int)
 ·rw [if_pos h]
  have:a.length≤i:=by omega
  simp [List.getD,this]
 ·rw [if_neg h,if_pos (by omega),if_pos (by omega),uM]
theorem vK (x y:Nat):dO.f (x:Int) (y:Int) = some ((max x y:Nat):Int):=by
 unfold dO.f
 split <;> congr 1 <;> omega
theorem xb (x y:Nat):mx (x:Int) (y:Int) = ((max x y:Nat):Int):=by
 unfold mx
 split <;> omega
theorem od (a b:List (List Int)) (ha:Small a) (hb:Small b):Ev (fun k=>aJ.f k a b) (pc a b):=by
 have h1:=ha.1
 have h2:=hb.1
 unfold aJ.f
 refine de.eI (fun k s i=>aJ.l0 k a b s i) (max a.length b.length) (fun i s=>s ++ [iM (a.getD i []) (b.getD i [])]) (fun i s=>s.length = i) _ (fun i s hi hP=>⟨by simp [hP],fun h=>?_⟩) _ 0 [] (Nat.zero_add _) rfl (fun _=>de.eW 1 (fun k hk=>?_))
 ·have la:=ha.at_ i
  have lb:=hb.at_ i
  refine Ev.step (f:=fun k=>aJ.l1 k a b s (i:Int) (a.getD i []) (b.getD i []) (List.replicate (max (a.getD i []).length (b.getD i []).length) 0) 0) (fun k=>?_) ?_
  ·simp only [aJ.l0]
   rw [vK]
   simp only [Option.bind_some]
   rw [if_pos (by omega),rowAt,Option.bind_some,rowAt,Option.bind_some,vK,Option.bind_some,if_pos (by omega),if_pos (by omega),Int.toNat_natCast]
  generalize hx:a.getD i [] = x at la h ⊢
  generalize hy:b.getD i [] = y at lb h ⊢
  refine de.eI (fun k r j=>aJ.l1 k a b s (i:Int) x y r j) x.length (fun j r=>r.set j (wrap64 (rd r (j:Int)+rd x (j:Int)))) (fun _ r=>r.length = max x.length y.length) _ (fun j r hj hr=>⟨by simpa using hr,fun h=>Ev.step (fun k=>?_) h⟩) _ 0 (List.replicate (max x.length y.length) 0) (Nat.zero_add _) (by simp) (fun hr=>?_)
  ·simp only [aJ.l1]
   rw [if_pos (by omega),if_pos (by omega),if_pos (by omega),de.dM j (by omega),Int.toNat_natCast]
  ·refine Ev.step (f:=fun k=>aJ.l2 k a b s (i:Int) y (kG (List.replicate (max x.length y.length) 0) x) 0) (fun k=>by
    simp only [aJ.l1]
    rw [if_neg (by omega)]
    rfl) ?_
   refine de.eI (fun k r j=>aJ.l2 k a b s (i:Int) y r j) y.length (fun j r=>r.set j (wrap64 (rd r (j:Int)+rd y (j:Int)))) (fun _ r=>r.length = max x.length y.length) _ (fun j r hj hr=>⟨by simpa using hr,fun h=>Ev.step (fun k=>?_) h⟩) _ 0 (kG (List.replicate (max x.length y.length) 0) x) (Nat.zero_add _) (by rw [iU];simp) (fun hr=>Ev.step (fun k=>?_) h)
   ·simp only [aJ.l2]
    rw [if_pos (by omega),if_pos (by omega),if_pos (by omega),de.dM j (by omega),Int.toNat_natCast]
   ·simp only [aJ.l2]
    rw [if_neg (by omega),if_pos (by omega),de.dM i (by omega)]
    rfl
 ·obtain ⟨q,rfl⟩:∃ q,k = q+1:=⟨k - 1,by omega⟩
  simp only [aJ.l0]
  rw [vK]
  simp only [Option.bind_some]
  rw [if_neg (by omega)]
  rfl
theorem qN (a b:List (List Int)) (ha:Small a) (hb:Small b):Ev (fun k=>aU.f k a b) (pc a b):=by
 have h1:=ha.1
 have h2:=hb.1
 unfold aU.f
 refine de.eI (fun k s i=>aU.l0 k a b s i) (max a.length b.length) (fun i s=>s ++ [iM (a.getD i []) (b.getD i [])]) (fun i s=>s.length = i) _ (fun i s hi hP=>⟨by simp [hP],fun h=>?_⟩) _ 0 [] (Nat.zero_add _) rfl (fun _=>de.eW 1 (fun k hk=>?_))
 ·have la:=ha.at_ i
  have lb:=hb.at_ i
  refine Ev.step (f:=fun k=>aU.l1 k a b s (i:Int) (b.getD i []) (List.replicate (max (a.getD i []).length (b.getD i []).length) 0) (a.getD i []) ((a.getD i []).length:Int) 0) (fun k=>?_) ?_
  ·simp only [aU.l0]
   rw [xb,if_pos (by omega),rowAt,Option.bind_some,rowAt,Option.bind_some,xb,if_pos (by omega),if_pos (by omega),Int.toNat_natCast]
  generalize hx:a.getD i [] = x at la h ⊢
  generalize hy:b.getD i [] = y at lb h ⊢
  refine de.eI (fun k r j=>aU.l1 k a b s (i:Int) y r x (x.length:Int) j) x.length (fun j r=>r.set j (wrap64 (rd r (j:Int)+rd x (j:Int)))) (fun _ r=>r.length = max x.length y.length) _ (fun j r hj hr=>⟨by simpa using hr,fun h=>Ev.step (fun k=>?_) h⟩) _ 0 (List.replicate (max x.length y.length) 0) (Nat.zero_add _) (by simp) (fun hr=>?_)
  ·simp only [aU.l1]
   rw [if_pos (by omega),if_pos (by omega),if_pos (by omega),if_pos (by omega),de.dM j (by omega),Int.toNat_natCast]
  ·refine Ev.step (f:=fun k=>aU.l2 k a b s (i:Int) (kG (List.replicate (max x.length y.length) 0) x) y (y.length:Int) 0) (fun k=>by
    simp only [aU.l1]
    rw [if_neg (by omega)]
    rfl) ?_
   refine de.eI (fun k r j=>aU.l2 k a b s (i:Int) r y (y.length:Int) j) y.length (fun j r=>r.set j (wrap64 (rd r (j:Int)+rd y (j:Int)))) (fun _ r=>r.length = max x.length y.length) _ (fun j r hj hr=>⟨by simpa using hr,fun h=>Ev.step (fun k=>?_) h⟩) _ 0 (kG (List.replicate (max x.length y.length) 0) x) (Nat.zero_add _) (by rw [iU];simp) (fun hr=>Ev.step (fun k=>?_) h)
   ·simp only [aU.l2]
    rw [if_pos (by omega),if_pos (by omega),if_pos (by omega),if_pos (by omega),de.dM j (by omega),Int.toNat_natCast]
   ·simp only [aU.l2]
    rw [if_neg (by omega),if_pos (by omega),de.dM i (by omega)]
    rfl
 ·obtain ⟨q,rfl⟩:∃ q,k = q+1:=⟨k - 1,by omega⟩
  simp only [aU.l0]
  rw [xb,if_neg (by omega)]
  rfl
end Go.Proofs.YtmpodackojmojaaGreat.jS
end
section
namespace Go.Proofs.YtmpodackojmojaaGreat.Shift
open Go.RowKit Go.Proofs.YtmpodackojmojaaGreat.Pr Go.Proofs.YtmpodackojmojaaGreat.jR Go.Proofs.ag.bl Go.Proofs.ag.cj Go.Proofs.ag.ck
def jn (xs:List (List Int)) (i j:Int):List (List Int) :=
 if 0≤i∧i≤8∧0≤j∧j≤8 then List.replicate i.toNat [] ++ xs.map (fun x=>List.replicate j.toNat 0 ++ x) else []
theorem rH (xs:List (List Int)) (i j:Int) (h:Small xs):vP (jn xs i j):=by
 unfold jn
 split
 ·next c =>
  refine ⟨by simp;have:=h.1;omega,fun x hx=>?_⟩
  simp only [List.mem_append,List.mem_replicate,List.mem_map] at hx
  rcases hx with ⟨_,rfl⟩ | ⟨y,hy,rfl⟩
  ·simp
  ·simp;have:=h.2 y hy;omega
 ·exact ⟨by simp,by simp⟩
theorem n3 (n:Nat) (hn:n≤8) (L:Nat→List (List Int)→Int→Option (List (List Int))) (r:List (List Int)) (v:List Int)
  (hstep:∀ k ys (i:Nat),i < n→ys.length = i→L (k+1) ys (i:Int) = L k (ys ++ [v]) ((i+1:Nat):Int)) (hend:Ev (fun k=>L k (List.replicate n v) (n:Int)) r):Ev (fun k=>L k [] 0) r:=by
 have key:∀ (d i:Nat),i+d = n→Ev (fun k=>L k (List.replicate i v) (i:Int)) r:=by
  intro d
  induction d with
  | zero =>
   intro i e
   obtain rfl:i = n:=by omega
   exact hend
  | succ d ih =>
   intro i e
   refine Ev.step (fun k=>hstep k _ i (by omega) (by simp)) ?_
   have:=ih (i+1) (by omega)
   rwa [List.replicate_succ'] at this
 exact key n 0 (by omega)
theorem rows (xs:List (List Int)) (j:Nat) (hx:xs.length≤1048576) (L:Nat→List (List Int)→Int→Option (List (List Int))) (acc:List (List Int)) (ha:acc.length≤8)
  (hstep:∀ k ys (i:Nat),i < xs.length→ys.length≤2097152→L (k+1) ys (i:Int) = L k (ys ++ [List.replicate j 0 ++ xs.getD i []]) ((i+1:Nat):Int)) (hend:∀ k ys,L (k+1) ys (xs.length:Int) = some ys):Ev (fun k=>L k acc 0) (acc ++ xs.map (fun x=>List.replicate j 0 ++ x)):=by
 have key:∀ (rs ds:List (List Int)),ds ++ rs = xs→Ev (fun k=>L k (acc ++ ds.map (fun x=>List.replicate j 0 ++ x)) (ds.length:Int)) (acc ++ xs.map (fun x=>List.replicate j 0 ++ x)):=by
  intro rs
  induction rs with
  | nil =>
   intro ds e
   rw [List.append_nil] at e
   subst e
   refine de.eW 1 (fun k hk=>?_)
   obtain ⟨q,rfl⟩:∃ q,k = q+1:=⟨k - 1,by omega⟩
   exact hend q _
  | cons x rs ih =>
   intro ds e
   have hl:ds.length < xs.length:=by rw [← e];simp
   have hr:xs.getD ds.length [] = x:=by rw [← e];exact vF ds rs x
   refine Ev.step (fun k=>hstep k _ ds.length hl (by simp;omega)) ?_
   rw [hr]
   have:=ih (ds ++ [x]) (by rw [← e];simp)
   simpa using this
 simpa using key xs [] rfl
theorem rI (xs:List (List Int)) (i j:Int) (h:Small xs):Ev (fun k=>aI.f k xs i j) (jn xs i j):=by
 have hx:=h.1
 unfold aI.f bH.f jn
 simp only [Option.bind_some]
 have no:Ev (fun k=>aI.j0 k xs i j [] true) []:=de.eW 1 (fun k hk=>by
  obtain ⟨q,rfl⟩:∃ q,k = q+1:=⟨k - 1,by omega⟩
  simp only [aI.j0]
  rw [if_pos (by trivial)])
 by_cases M:i≥0
 ·simp only [if_pos M,Option.bind_some]
  by_cases y:i≤8
  ·simp only [decide_eq_true y,if_true]
   by_cases X:j≥0
   ·simp only [if_pos X,Option.bind_some]
    by_cases z:j≤8
    ·rw [if_pos ⟨by omega,y,by omega,z⟩]
     simp only [decide_eq_true z,Bool.not_true]
     refine Ev.step (f:=fun k=>aI.l0 k xs i j [] 0) (fun k=>by
      simp only [aI.j0]
      rw [if_neg (by decide)]) ?_
     refine n3 i.toNat (by omega) (fun k ys n=>aI.l0 k xs i j ys n) _ [] (fun k ys n hn hy=>?_) ?_
     ·simp only [aI.l0]
      rw [if_pos (by omega),if_pos (by omega),de.dM n (by omega)]
     ·refine Ev.step (f:=fun k=>aI.l1 k xs j (List.replicate i.toNat []) 0) (fun k=>by
       simp only [aI.l0]
       rw [if_neg (by omega)]) ?_
      refine rows xs j.toNat hx (fun k ys n=>aI.l1 k xs j ys n) _ (by simp;omega) (fun k ys n hn hy=>?_) (fun k ys=>?_)
      ·have:=h.at_ n
       simp only [aI.l1,Option.bind_some]
       rw [if_pos (by omega),if_pos (by omega),if_pos (by omega),if_pos (by omega),uM,if_pos (by simp only [List.length_replicate];omega),if_pos (by omega),de.dM n (by omega)]
      ·simp only [aI.l1]
       rw [if_neg (by omega)]
    ·rw [if_neg (show ¬ (0≤i∧i≤8∧0≤j∧j≤8) by omega)]
     simp only [decide_eq_false z,Bool.not_false]
     exact no
   ·rw [if_neg (show ¬ (0≤i∧i≤8∧0≤j∧j≤8) by omega)]
    simp only [if_neg X,Option.bind_some,Bool.not_false]
    exact no
  ·rw [if_neg (show ¬ (0≤i∧i≤8∧0≤j∧j≤8) by omega)]
   simp only [decide_eq_false y,Bool.false_eq_true,if_false]
   exact no
 ·rw [if_neg (show ¬ (0≤i∧i≤8∧0≤j∧j≤8) by omega)]
  simp only [if_neg M,Option.bind_some,Bool.false_eq_true,if_false]
  exact no
theorem rJ (i:Int) (h0:0≤i) (j:i≤8):Ev (fun k=>cg.f k i 0) (List.replicate i.toNat []):=by
 unfold cg.f
 refine n3 i.toNat (by omega) (fun k ys n=>cg.l0 k i 0 ys n) _ [] (fun k ys n hn hy=>?_) (de.eW 1 (fun k hk=>?_))
 ·simp only [cg.l0]
  rw [if_pos (by omega),if_pos (by omega),if_pos (by decide),if_pos (by omega),de.dM n (by omega)]
  rfl
 ·obtain ⟨q,rfl⟩:∃ q,k = q+1:=⟨k - 1,by omega⟩
  simp only [cg.l0]
  rw [if_neg (by omega)]
theorem lT (xs:List (List Int)) (i j:Int) (h:Small xs):Ev (fun k=>aW.f k xs i j) (jn xs i j):=by
 have hx:=h.1
 unfold aW.f dm.f jn
 have no:Ev (fun k=>aW.j0 k xs i j true) []:=de.eW 1 (fun k hk=>by
  obtain ⟨q,rfl⟩:∃ q,k = q+1:=⟨k - 1,by omega⟩
  simp only [aW.j0]
  rw [if_pos (by trivial)])
 by_cases M:i≥0
 ·simp only [if_pos M,Option.bind_some]
  by_cases y:i≤8
  ·simp only [decide_eq_true y,if_true]
   by_cases X:j≥0
   ·simp only [if_pos X,Option.bind_some]
    by_cases z:j≤8
    ·rw [if_pos ⟨by omega,y,by omega,z⟩]
     simp only [decide_eq_true z,Bool.not_true]
     refine Ev.step (f:=fun k=>(cg.f k i 0).bind fun t=>aW.l0 k j t xs (xs.length:Int) 0) (fun k=>by
      simp only [aW.j0]
      rw [if_neg (by decide)]) ?_
     refine Ev.bind (rJ i (by omega) y) ?_
     refine rows xs j.toNat hx (fun k ys n=>aW.l0 k j ys xs (xs.length:Int) n) _ (by simp;omega) (fun k ys n hn hy=>?_) (fun k ys=>?_)
     ·have:=h.at_ n
      simp only [aW.l0,Option.bind_some]
      rw [if_pos (by omega),if_pos (by omega),if_pos (by omega),if_pos (by omega),if_pos (by omega),uM,if_pos (by simp only [List.length_replicate];omega),if_pos (by omega),de.dM n (by omega)]
     ·simp only [aW.l0]
      rw [if_neg (by omega)]
    ·rw [if_neg (show ¬ (0≤i∧i≤8∧0≤j∧j≤8) by omega)]
     simp only [decide_eq_false z,Bool.not_false]
     exact no
   ·rw [if_neg (show ¬ (0≤i∧i≤8∧0≤j∧j≤8) by omega)]
    simp only [if_neg X,Option.bind_some,Bool.not_false]
    exact no
  ·rw [if_neg (show ¬ (0≤i∧i≤8∧0≤j∧j≤8) by omega)]
   simp only [decide_eq_false y,Bool.false_eq_true,if_false]
   exact no
 ·rw [if_neg (show ¬ (0≤i∧i≤8∧0≤j∧j≤8) by omega)]
  simp only [if_neg M,Option.bind_some,Bool.false_eq_true,if_false]
  exact no
end Go.Proofs.YtmpodackojmojaaGreat.Shift
end
section
namespace Go.Proofs.YtmpodackojmojaaGreat.Poly
open Go.RowKit Go.Proofs.YtmpodackojmojaaGreat.Pr Go.Proofs.YtmpodackojmojaaGreat.jR Go.Proofs.YtmpodackojmojaaGreat.Sets Go.Proofs.YtmpodackojmojaaGreat.mA Go.Proofs.YtmpodackojmojaaGreat.iD Go.Proofs.YtmpodackojmojaaGreat.Flat Go.Proofs.YtmpodackojmojaaGreat.jo Go.Proofs.YtmpodackojmojaaGreat.je Go.Proofs.YtmpodackojmojaaGreat.Sort Go.Proofs.YtmpodackojmojaaGreat.rQ Go.Proofs.YtmpodackojmojaaGreat.ov Go.Proofs.YtmpodackojmojaaGreat.jl Go.Proofs.YtmpodackojmojaaGreat.kf Go.Proofs.YtmpodackojmojaaGreat.gO Go.Proofs.YtmpodackojmojaaGreat.gN Go.Proofs.ag.bl Go.Proofs.ag.cj Go.Proofs.ag.ck
set_option linter.unusedVariables false
theorem uR (f g:Nat→Nat) (i j:Nat):∀ L:List Nat,(∀ s∈L,g s < 8)→co f g L i j+co f (fun s=>g s+1) L i j = if j = 0 then 0 else co f g L i (j - 1)
 | [],_=>by simp [co]
 | s :: L,h=>by
  have ih:=uR f g i j L fun t ht=>h t (by simp [ht])
  have h1:=wK (h s (by simp)) j
  have e:∀ (f g:Nat→Nat) (j:Nat),co f g (s :: L) i j = P (f s) i * P (g s) j+co f g L i j:=fun _ _ _=>rfl
  rw [e,e,e]
  by_cases hj:j = 0
  ·rw [if_pos hj] at ih h1 ⊢
   have h2:P (f s) i * P (g s) j+P (f s) i * P (g s+1) j = 0:=by rw [← Int.mul_add,h1,Int.mul_zero]
   omega
  ·rw [if_neg hj] at ih h1 ⊢
   have h2:P (f s) i * P (g s) j+P (f s) i * P (g s+1) j = P (f s) i * P (g s) (j - 1):=by rw [← Int.mul_add,h1]
   omega
theorem tC (f g:Nat→Nat) (i j:Nat):∀ L:List Nat,(∀ s∈L,f s < 8)→co f g L i j+co (fun s=>f s+1) g L i j = if i = 0 then 0 else co f g L (i - 1) j
 | [],_=>by simp [co]
 | s :: L,h=>by
  have ih:=tC f g i j L fun t ht=>h t (by simp [ht])
  have h1:=wK (h s (by simp)) i
  have e:∀ (f g:Nat→Nat) (i:Nat),co f g (s :: L) i j = P (f s) i * P (g s) j+co f g L i j:=fun _ _ _=>rfl
  rw [e,e,e]
  by_cases hj:i = 0
  ·rw [if_pos hj] at ih h1 ⊢
   have h2:P (f s) i * P (g s) j+P (f s+1) i * P (g s) j = 0:=by rw [← Int.add_mul,h1,Int.zero_mul]
   omega
  ·rw [if_neg hj] at ih h1 ⊢
   have h2:P (f s) i * P (g s) j+P (f s+1) i * P (g s) j = P (f s) (i - 1) * P (g s) j:=by rw [← Int.add_mul,h1]
   omega
section
variable {n:Nat} (hn:n < 8) {l:List Nat} (hl:∀ s∈l,s < 2 ^ (n+1)) (h0:0 < l.length) (hf:eN l = false)
include hn hl h0 hf in
theorem pe {s:Nat} (hs:s < 2 ^ n):bI (ij l (2 ^ n - 1)) s = bI l s:=by
 have hK:2 ^ n - 1 < 2 ^ (n+1):=Nat.lt_of_lt_of_le (gV n) (Nat.pow_le_pow_right (by decide) (by omega))
 rw [q5 (m:=n+1) (by omega) hl h0 hf hK (by rw [(k9 n hn).1];exact hs),n7 hn hs]
include hn hl h0 hf in
theorem qO (i j:Nat):gZ (eG n (ij l (2 ^ n - 1))) i j = co (fun s=>bI l (2 ^ n - 1) - bI l s) (fun s=>cnt s - bI l s) (List.range' 0 (2 ^ n)) i j:=by
 have hK:2 ^ n - 1 < 2 ^ (n+1):=Nat.lt_of_lt_of_le (gV n) (Nat.pow_le_pow_right (by decide) (by omega))
 have hc:=(k9 n hn).1
 have hDl:∀ s∈ij l (2 ^ n - 1),s < 2 ^ n:=fun s hs=>by
  have:=(eU.1 hs).1
  rwa [hc] at this
 have y:=kP (m:=n+1) (by omega) hl h0 hf hK
 have hDf:=q4 (m:=n+1) (by omega) hl h0 hf hK
 rw [iS (by omega) hDl y]
 refine ik (fun s hs=>?_) i j
 have hs:=List.mem_range'_1.1 hs
 rw [← jC (by omega) hDl y hDf,pe hn hl h0 hf (gV n),pe hn hl h0 hf (by omega)]
 exact ⟨rfl,rfl⟩
include hn hl h0 hf in
theorem qP (i j:Nat):gZ (eG n (eY n (Q l n))) i j = co (fun s=>(bI l (2 ^ (n+1) - 1) - bI l (2 ^ n)) - (bI l (s ||| 2 ^ n) - bI l (2 ^ n))) (fun s=>cnt s - (bI l (s ||| 2 ^ n) - bI l (2 ^ n))) (List.range' 0 (2 ^ n)) i j:=by
 have hI:=p5 hn hl h0 hf
 have z:∀ s∈eY n (Q l n),s < 2 ^ n:=fun s hs=>(eU.1 hs).1
 have M:=hI.some (by omega:n≤8)
 have X:=hI.fO (by omega:n≤8)
 rw [iS (by omega) z M]
 refine ik (fun s hs=>?_) i j
 have hs:=List.mem_range'_1.1 hs
 have h1:=n8 hn hl h0 hf (gV n)
 have h2:=n8 hn hl h0 hf (y:=s) (by omega)
 rw [n9] at h1
 rw [← jC (by omega) z M X]
 omega
include hn in
theorem my {s:Nat} (hs:s < 2 ^ n):cnt s≤n∧cnt (s ||| 2 ^ n) = cnt s+1:=by
 have:=jb (m:=n) (by omega) hs
 exact ⟨by omega,fW hn (iG hs (Nat.le_refl _))⟩
include hn hl h0 hf in
theorem tD (h:∀ b∈l,b.testBit n = false) (i j:Nat):gZ (eG (n+1) l) i j = if j = 0 then 0 else gZ (eG n (ij l (2 ^ n - 1))) i (j - 1):=by
 rw [iS (by omega) hl h0,qc,qO hn hl h0 hf]
 have ht:=jC (by omega) hl h0 hf
 have htop:bI l (2 ^ n - 1) = top l:=by rw [← ht,← n9 n];exact (nQ h _).symm
 rw [← uR _ _ i j _ (fun s hs=>by
  have hs:=List.mem_range'_1.1 hs
  have:=(my hn (s:=s) (by omega)).1
  omega)]
 congr 1
 ·exact ik (fun s hs=>by rw [htop];exact ⟨rfl,rfl⟩) i j
 ·refine ik (fun s hs=>?_) i j
  have hs:=List.mem_range'_1.1 hs
  have h1:=(my hn (s:=s) (by omega)).2
  have h2:=gN.eF l s
  rw [nQ h,htop]
  omega
include hn hl h0 hf in
theorem qd (h:∀ b∈l,b.testBit n = true) (i j:Nat):gZ (eG (n+1) l) i j = if i = 0 then 0 else gZ (eG n (eY n (Q l n))) (i - 1) j:=by
 have y:∀ b∈l,b < 256:=fun b hb=>Nat.lt_of_lt_of_le (hl b hb) (bN (by omega))
 rw [iS (by omega) hl h0,qc,qP hn hl h0 hf]
 have ht:=jC (by omega) hl h0 hf
 have hE:bI l (2 ^ n) = 1:=by
  have:=jk h0 hn h (s:=0) (Nat.pow_pos (by decide))
  rw [Nat.zero_or] at this
  have hz:=gN.eF l 0
  have z:cnt 0 = 0:=by decide +kernel
  omega
 have htl:=jL (m:=n+1) (by omega) hl h0
 rw [← tC _ _ i j _ (fun s hs=>by
  have hs:=List.mem_range'_1.1 hs
  have:=jk h0 hn h (s:=s) (by omega)
  omega),Int.add_comm]
 congr 1
 ·refine ik (fun s hs=>?_) i j
  have hs:=List.mem_range'_1.1 hs
  have h1:=(my hn (s:=s) (by omega)).2
  have h2:=jk h0 hn h (s:=s) (by omega)
  have h3:=gN.eF l s
  omega
 ·refine ik (fun s hs=>?_) i j
  have hs:=List.mem_range'_1.1 hs
  have h2:=jk h0 hn h (s:=s) (by omega)
  have h3:=gN.eF l s
  have h4:=jJ y hf h0 (s ||| 2 ^ n)
  omega
include hn hl h0 hf in
theorem tE (hA:∃ b∈l,b.testBit n = false) (hB:∃ b∈l,b.testBit n = true) (i j:Nat):gZ (eG (n+1) l) i j = gZ (eG n (ij l (2 ^ n - 1))) i j+gZ (eG n (eY n (Q l n))) i j:=by
 have y:∀ b∈l,b < 256:=fun b hb=>Nat.lt_of_lt_of_le (hl b hb) (bN (by omega))
 rw [iS (by omega) hl h0,qc,qP hn hl h0 hf,qO hn hl h0 hf]
 have ht:=jC (by omega) hl h0 hf
 have htop:bI l (2 ^ n - 1) = top l:=by
  obtain ⟨b,hb,hbn⟩:=hA
  have h1:=fG l (2 ^ n - 1) b hb
  have h2:(2 ^ n - 1) &&& b = b:=by
   rw [Nat.and_comm]
   refine iI.2 fun j hj=>?_
   have:=gT (hl b hb) hj
   rw [Nat.testBit_two_pow_sub_one]
   refine decide_eq_true (Nat.lt_of_not_le fun hle=>?_)
   have:j = n:=by omega
   rw [this,hbn] at hj
   cases hj
  rw [h2] at h1
  have h3:=kr y hf h0 hb
  have h4:=jJ y hf h0 (2 ^ n - 1)
  omega
 have hE:bI l (2 ^ n) = 1:=by
  obtain ⟨b,hb,hbn⟩:=hB
  have h1:=fG l (2 ^ n) b hb
  have h2:2 ^ n &&& b = 2 ^ n:=iI.2 fun j hj=>by
   rw [Nat.testBit_two_pow,decide_eq_true_eq] at hj
   exact hj ▸ hbn
  rw [h2] at h1
  have h3:=gN.eF l (2 ^ n)
  have h4:=(k9 n hn).2.2
  omega
 congr 1
 ·exact ik (fun s hs=>by rw [htop];exact ⟨rfl,rfl⟩) i j
 ·refine ik (fun s hs=>?_) i j
  have hs:=List.mem_range'_1.1 hs
  have h1:=(my hn (s:=s) (by omega)).2
  have h2:bI l (2 ^ n)≤bI l (s ||| 2 ^ n):=jl.jA fun j hj=>by rw [Nat.testBit_or,hj,Bool.or_true]
  have h3:=jJ y hf h0 (s ||| 2 ^ n)
  have h4:=gN.eF l (s ||| 2 ^ n)
  omega
end
end Go.Proofs.YtmpodackojmojaaGreat.Poly
end
section
namespace Go.Proofs.YtmpodackojmojaaGreat.Char
open Go.RowKit Go.Proofs.YtmpodackojmojaaGreat.Pr Go.Proofs.YtmpodackojmojaaGreat.Sets Go.Proofs.YtmpodackojmojaaGreat.mA Go.Proofs.YtmpodackojmojaaGreat.iD Go.Proofs.YtmpodackojmojaaGreat.Flat Go.Proofs.YtmpodackojmojaaGreat.jo Go.Proofs.YtmpodackojmojaaGreat.uB Go.Proofs.ag.bl Go.Proofs.ag.cj Go.Proofs.ag.ck
set_option linter.unusedVariables false
set_option maxRecDepth 100000 in
theorem rK:∀ a,a < 256→∀ b,b < 256→diff a b+(a &&& b) = a:=by decide +kernel
def loops (m:Nat) (l:List Nat):Nat:=l.foldl diff (2 ^ m - 1)
def qe (n:Int) (l:List Int):Int:=if eX n l = true then (loops n.toNat (l.map Int.toNat):Int) else 0
theorem gV (m:Nat):2 ^ m - 1 < 2 ^ m:=by
 have:0 < 2 ^ m:=Nat.pow_pos (by decide)
 omega
theorem rL (n:Int) (l:List Int) (hn:l.length≤1048576):Ev (fun k=>da.f k n l) (qe n l):=by
 unfold da.f qe
 refine Ev.bind (iQ n l hn) ?_
 cases h:eX n l with
 | false=>simp only [Bool.false_eq_true,if_false];exact Ev.now _
 | true =>
  obtain ⟨m,j,rfl,hm,rfl,hl,h0,hf⟩:=iH h
  have z:=bN hm
  have y:=jK hm hl
  rw [aH] at hn
  simp only [if_true,dU,Int.toNat_natCast,eP m hm,Option.bind_some]
  unfold loops
  rw [← gY]
  refine de.eI (fun k (s:Nat) i=>da.l0 k (s:Int) i (m:Int) (ints j)) j.length (fun i s=>diff s (j.getD i 0)) (fun _ s=>s < 2 ^ m) _ (fun i s hi hs=>⟨dY hs,fun h=>Ev.step (fun k=>?_) h⟩) j.length 0 _ (by omega) (gV m) (fun _=>de.eW 1 (fun k hk=>?_))
  ·have hb:=y _ (dG j 0 i hi)
   have hd:=rK s (by omega) _ hb
   simp only [da.l0]
   rw [if_pos (by rw [aH];omega),if_pos (by omega),eO,jI s _ (by omega) (by omega),de.dM i (by omega),de.jQ (by omega) (by omega),show ((s:Int) - ((s &&& j.getD i 0:Nat):Int)) = ((diff s (j.getD i 0):Nat):Int) by omega]
  ·obtain ⟨q,rfl⟩:∃ q,k = q+1:=⟨k - 1,by omega⟩
   simp only [da.l0]
   rw [if_neg (by rw [aH];omega)]
end Go.Proofs.YtmpodackojmojaaGreat.Char
end
section
namespace Go.Proofs.YtmpodackojmojaaGreat.Poly
open Go.RowKit Go.Proofs.YtmpodackojmojaaGreat.Pr Go.Proofs.YtmpodackojmojaaGreat.jR Go.Proofs.YtmpodackojmojaaGreat.Sets Go.Proofs.YtmpodackojmojaaGreat.mA Go.Proofs.YtmpodackojmojaaGreat.iD Go.Proofs.YtmpodackojmojaaGreat.Flat Go.Proofs.YtmpodackojmojaaGreat.jo Go.Proofs.YtmpodackojmojaaGreat.je Go.Proofs.YtmpodackojmojaaGreat.Sort Go.Proofs.YtmpodackojmojaaGreat.rQ Go.Proofs.YtmpodackojmojaaGreat.ov Go.Proofs.YtmpodackojmojaaGreat.jl Go.Proofs.YtmpodackojmojaaGreat.kf Go.Proofs.YtmpodackojmojaaGreat.gO Go.Proofs.YtmpodackojmojaaGreat.gN Go.Proofs.ag.bl Go.Proofs.ag.cj Go.Proofs.ag.ck
set_option linter.unusedVariables false
theorem element (t:List (List Int)) (i j:Nat):ey.f t (i:Int) (j:Int) = some (gZ t i j):=by
 unfold ey.f gZ
 rw [if_neg (by omega)]
 by_cases hi:i < t.length
 ·rw [if_neg (by omega),if_neg (by omega),if_pos (by omega),if_pos (by omega)]
  show (if (j:Int)≥(((t.getD i []).length:Nat):Int) then some 0 else (if 0≤(j:Int) then (if (j:Int) < (((t.getD i []).length:Nat):Int) then some (rd (t.getD i []) (j:Int)) else none) else none)) = _
  by_cases hj:j < (t.getD i []).length
  ·rw [if_neg (by omega),if_pos (by omega),if_pos (by omega),de.gq]
  ·rw [if_pos (by omega),List.getD_eq_getElem?_getD (l:=t.getD i []),List.getElem?_eq_none (by omega)]
   rfl
 ·rw [if_pos (by omega),List.getD_eq_getElem?_getD (l:=t),List.getElem?_eq_none (by omega)]
  rfl
theorem tF {t u:List (List Int)} (h:∀ i j,gZ t i j = gZ u i j):Ev (fun k=>bg.f k t u) true:=by
 unfold bg.f
 have key:∀ d i:Nat,i+d = 12→Ev (fun k=>bg.l0 k t u (i:Int)) true:=by
  intro d
  induction d with
  | zero =>
   intro i hi
   refine Ev.step (f:=fun _=>some true) (fun k=>?_) (Ev.now _)
   rw [bg.l0,if_neg (by omega)]
  | succ d ih =>
   intro i hi
   have inner:∀ e j:Nat,j+e = 12→Ev (fun k=>bg.l1 k t u (i:Int) (j:Int)) true:=by
    intro e
    induction e with
    | zero =>
     intro j hj
     refine Ev.step (fun k=>?_) (ih (i+1) (by omega))
     rw [bg.l1,if_neg (by omega),de.dM i (by omega)]
    | succ e y =>
     intro j hj
     refine Ev.step (fun k=>?_) (y (j+1) (by omega))
     rw [bg.l1,if_pos (by omega),element,element,Option.bind_some,Option.bind_some,if_pos (h i j),de.dM j (by omega)]
   refine Ev.step (fun k=>?_) (inner 12 0 (by omega))
   rw [bg.l0,if_pos (by omega)]
   rfl
 exact key 12 0 (by omega)
theorem qf (p:List (List Int)) (i j:Nat):gZ (Shift.jn p 0 1) i j = if j = 0 then 0 else gZ p i (j - 1):=by
 unfold Shift.jn gZ
 rw [if_pos (by decide)]
 show ((p.map fun x=>(0:Int) :: x).getD i []).getD j 0 = _
 rw [List.getD_eq_getElem?_getD (l:=p.map _),List.getElem?_map,List.getD_eq_getElem?_getD (l:=p)]
 cases p[i]? with
 | none=>by_cases hj:j = 0 <;> simp [hj]
 | some x =>
  cases j with
  | zero=>rfl
  | succ j=>rw [if_neg (by omega)];rfl
theorem qg (p:List (List Int)) (i j:Nat):gZ (Shift.jn p 1 0) i j = if i = 0 then 0 else gZ p (i - 1) j:=by
 unfold Shift.jn gZ
 rw [if_pos (by decide)]
 show (([] :: p.map fun x=>x).getD i []).getD j 0 = _
 rw [List.map_id']
 cases i with
 | zero=>rfl
 | succ i=>rw [if_neg (by omega)];rfl
theorem pg (xs:List Int) (j:Nat):∀ (n:Nat) (r:List Int),n≤xs.length→xs.length≤r.length→((List.range' 0 n).foldl (fun r j=>r.set j (wrap64 (rd r (j:Int)+rd xs (j:Int)))) r).getD j 0 = if j < n then wrap64 (r.getD j 0+xs.getD j 0) else r.getD j 0:=by
 intro n
 induction n with
 | zero=>intro r _ _;rw [if_neg (by omega)];rfl
 | succ n ih =>
  intro r hn hr
  rw [List.range'_1_concat,List.foldl_append,List.foldl_cons,List.foldl_nil,Nat.zero_add]
  obtain ⟨q,hq⟩:∃ q,q = (List.range' 0 n).foldl (fun r j=>r.set j (wrap64 (rd r (j:Int)+rd xs (j:Int)))) r:=⟨_,rfl⟩
  have y:q.length = r.length:=by rw [hq];exact jS.iC _ _ _
  have h1:=ih r (by omega) hr
  rw [← hq] at h1 ⊢
  rw [List.getD_eq_getElem?_getD,List.getElem?_set]
  by_cases hj:n = j
  ·subst hj
   rw [if_pos rfl,if_pos (by omega),if_pos (by omega),Option.getD_some,de.gq,de.gq,h1,if_neg (by omega)]
  ·rw [if_neg hj,← List.getD_eq_getElem?_getD,h1]
   by_cases h2:j < n
   ·rw [if_pos h2,if_pos (by omega)]
   ·rw [if_neg h2,if_neg (by omega)]
theorem pn (xs:List Int) {j:Nat} (h:xs.length≤j):xs.getD j 0 = 0:=by
 rw [List.getD_eq_getElem?_getD,List.getElem?_eq_none h]
 rfl
theorem rM (x y:List Int) (hx:∀ j,-2000000≤x.getD j 0∧x.getD j 0≤2000000) (hy:∀ j,-2000000≤y.getD j 0∧y.getD j 0≤2000000) (j:Nat):(jS.iM x y).getD j 0 = x.getD j 0+y.getD j 0:=by
 have hz:∀ j,(List.replicate (max x.length y.length) (0:Int)).getD j 0 = 0:=fun j=>by
  rw [List.getD_eq_getElem?_getD,List.getElem?_replicate]
  split <;> rfl
 have h1:∀ j,(jS.kG (List.replicate (max x.length y.length) 0) x).getD j 0 = x.getD j 0:=fun j=>by
  unfold jS.kG
  rw [pg x j x.length _ (Nat.le_refl _) (by rw [List.length_replicate];omega),hz]
  by_cases h:j < x.length
  ·rw [if_pos h,Int.zero_add]
   have:=hx j
   exact de.jQ (by omega) (by omega)
  ·rw [if_neg h,pn x (by omega)]
 unfold jS.iM
 unfold jS.kG at h1 ⊢
 rw [pg y j y.length _ (Nat.le_refl _) (by rw [jS.iC,List.length_replicate];omega),h1]
 by_cases h:j < y.length
 ·rw [if_pos h]
  have:=hx j
  have:=hy j
  exact de.jQ (by omega) (by omega)
 ·rw [if_neg h,pn y (by omega),Int.add_zero]
theorem uv {a b:List (List Int)} (ha:∀ i j,-2000000≤gZ a i j∧gZ a i j≤2000000) (hb:∀ i j,-2000000≤gZ b i j∧gZ b i j≤2000000) (i j:Nat):gZ (jS.pc a b) i j = gZ a i j+gZ b i j:=by
 have e:jS.pc a b = (List.range' 0 (max a.length b.length)).map fun i=>jS.iM (a.getD i []) (b.getD i []):=by
  unfold jS.pc
  have:∀ (q:List Nat) (f:Nat→List Int) (o:List (List Int)),q.foldl (fun s i=>s ++ [f i]) o = o ++ q.map f:=by
   intro q f
   induction q with
   | nil=>intro o;simp
   | cons x q ih=>intro o;rw [List.foldl_cons,ih];simp
  rw [this,List.nil_append]
 have h1:(jS.pc a b).getD i [] = if i < max a.length b.length then jS.iM (a.getD i []) (b.getD i []) else []:=by
  rw [e,List.getD_eq_getElem?_getD,List.getElem?_map]
  by_cases h:i < max a.length b.length
  ·rw [if_pos h,List.getElem?_range' h];simp
  ·rw [if_neg h,List.getElem?_eq_none (by simp;omega)];rfl
 unfold gZ at ha hb ⊢
 rw [h1]
 by_cases h:i < max a.length b.length
 ·rw [if_pos h]
  exact rM _ _ (ha i) (hb i) j
 ·rw [if_neg h]
  have h2:a.getD i [] = []:=by rw [List.getD_eq_getElem?_getD,List.getElem?_eq_none (by omega)];rfl
  have h3:b.getD i [] = []:=by rw [List.getD_eq_getElem?_getD,List.getElem?_eq_none (by omega)];rfl
  rw [h2,h3]
  rfl
theorem rN (l:List Nat) (j:Nat):∀ a:Nat,(l.foldl diff a).testBit j = (a.testBit j && l.all fun b=>!b.testBit j):=by
 induction l with
 | nil=>intro a;simp
 | cons b l ih=>intro a;rw [List.foldl_cons,ih,cC,List.all_cons,Bool.and_assoc]
theorem po (l:List Nat) (j:Nat):∀ a:Nat,(l.foldl (fun a b=>a &&& b) a).testBit j = (a.testBit j && l.all fun b=>b.testBit j):=by
 induction l with
 | nil=>intro a;simp
 | cons b l ih=>intro a;rw [List.foldl_cons,ih,Nat.testBit_and,List.all_cons,Bool.and_assoc]
theorem qQ:∀ n:Nat,n < 8→∀ x:Nat,x < 256→dy.f ((2 ^ n:Nat):Int) (x:Int) = some (x.testBit n):=by decide +kernel
theorem wL:∀ n:Nat,n < 8→dz.f 0 (n:Int) = some ((2 ^ n:Nat):Int):=by decide +kernel
section
variable {m:Nat} (hm:m≤8) {l:List Nat} (hl:∀ s∈l,s < 2 ^ m) (h0:0 < l.length) (hf:eN l = false) (hn:l.length≤1048576) (hM:eX (m:Int) (ints l) = true)
include hm hl hn hM in
theorem uw:Ev (fun k=>cG.f k (m:Int) (ints l)) ((l.foldl (fun a b=>a &&& b) (2 ^ m - 1):Nat):Int):=by
 have j:=bN hm
 have h1:=iQ (m:Int) (ints l) (by rw [aH];exact hn)
 rw [hM] at h1
 unfold cG.f
 refine Ev.bind h1 ?_
 simp only [if_true,eP m hm,Option.bind_some]
 rw [← gY]
 refine de.eI (fun k (s:Nat) i=>cG.l0 k (s:Int) i (m:Int) (ints l)) l.length (fun i s=>s &&& l.getD i 0) (fun _ s=>s < 2 ^ m) _ (fun i s hi hs=>⟨Nat.lt_of_le_of_lt Nat.and_le_left hs,fun h=>Ev.step (fun k=>?_) h⟩) l.length 0 _ (by omega) (gV m) (fun _=>de.eW 1 (fun k hk=>?_))
 ·have hb:l.getD i 0 < 256:=Nat.lt_of_lt_of_le (hl _ (dG l 0 i hi)) j
  simp only [cG.l0]
  rw [if_pos (by rw [aH];omega),if_pos (by omega),eO,jI s _ (by omega) (by omega),de.dM i (by omega)]
 ·obtain ⟨q,rfl⟩:∃ q,k = q+1:=⟨k - 1,by omega⟩
  simp only [cG.l0]
  rw [if_neg (by rw [aH];omega)]
include hm hl hn hM in
theorem pq:Ev (fun k=>b7.f k (m:Int) (ints l)) (ints ((List.range' 0 (2 ^ m)).filter fun s=>decide (bI l s = cnt s))):=by
 have z:=bN hm
 have M:∀ b∈l,b < 256:=fun b hb=>Nat.lt_of_lt_of_le (hl b hb) z
 have hpos:0 < 2 ^ m:=Nat.pow_pos (by decide)
 have h1:=iQ (m:Int) (ints l) (by rw [aH];exact hn)
 rw [hM] at h1
 have key:∀ d i:Nat,i+d = 2 ^ m→Ev (fun k=>b7.l0 k (ints ((List.range' 0 i).filter fun s=>decide (bI l s = cnt s))) (i:Int) (m:Int) (ints l)) (ints ((List.range' 0 (2 ^ m)).filter fun s=>decide (bI l s = cnt s))):=by
  intro d
  induction d with
  | zero =>
   intro i hi
   obtain rfl:i = 2 ^ m:=by omega
   refine Ev.step (f:=fun _=>some (ints ((List.range' 0 (2 ^ m)).filter fun s=>decide (bI l s = cnt s)))) (fun k=>?_) (Ev.now _)
   rw [b7.l0,eP m hm,Option.bind_some,if_neg (by omega)]
  | succ d ih =>
   intro i hi
   have h2:=ih (i+1) (by omega)
   have hfl:(ints ((List.range' 0 i).filter fun s=>decide (bI l s = cnt s))).length < 17592186044416:=by
    rw [aH]
    have:=List.length_filter_le (fun s=>decide (bI l s = cnt s)) (List.range' 0 i)
    rw [List.length_range'] at this
    omega
   rw [List.range'_1_concat,List.filter_append,Nat.zero_add] at h2
   refine Ev.step (f:=fun k=>(cO.f k (m:Int) (ints l) (i:Int)).bind fun j=>((b6.f k (i:Int)).bind fun y=>(if j = y then (b7.l0 k (ints ((List.range' 0 i).filter fun s=>decide (bI l s = cnt s)) ++ [(i:Int)]) ((i+1:Nat):Int) (m:Int) (ints l)) else (b7.l0 k (ints ((List.range' 0 i).filter fun s=>decide (bI l s = cnt s))) ((i+1:Nat):Int) (m:Int) (ints l))))) (fun k=>?_) ?_
   ·rw [b7.l0,eP m hm,Option.bind_some,if_pos (by omega),de.dM i (by omega),if_pos hfl]
   ·refine Ev.bind (n2 m l i (by omega) M hn) (Ev.bind (fD i (by omega)) ?_)
    by_cases e:bI l i = cnt i
    ·rw [show ([i].filter fun s=>decide (bI l s = cnt s)) = [i] by simp [e]] at h2
     refine Ev.congr (fun k=>if_pos (by omega)) ?_
     have X:ints ((List.range' 0 i).filter fun s=>decide (bI l s = cnt s)) ++ [(i:Int)] = ints ((List.range' 0 i).filter (fun s=>decide (bI l s = cnt s)) ++ [i]):=by simp [ints]
     rw [X]
     exact h2
    ·rw [show ([i].filter fun s=>decide (bI l s = cnt s)) = [] by simp [e],List.append_nil] at h2
     exact Ev.congr (fun k=>if_neg (by omega)) h2
 unfold b7.f
 simp only [Option.bind_some]
 refine Ev.bind h1 ?_
 simp only [if_true]
 exact key (2 ^ m) 0 (by omega)
end
end Go.Proofs.YtmpodackojmojaaGreat.Poly
end
section
namespace Go.Proofs.YtmpodackojmojaaGreat.Eval
open Go.RowKit Go.Proofs.YtmpodackojmojaaGreat.Pr Go.Proofs.YtmpodackojmojaaGreat.jR Go.Proofs.ag.bl Go.Proofs.ag.cj Go.Proofs.ag.ck
def cell (y:Int) (s:Int×Int) (c:Int):Int×Int:=(wrap64 (s.1+wrap64 (c * s.2)),wrap64 (s.2 * y))
def row (x y:Int) (s:Int×Int) (r:List Int):Int×Int:=((r.foldl (cell y) s).1,wrap64 (s.2 * x))
def val (xs:List (List Int)) (x y:Int):Int:=(xs.foldl (row x y) (0,1)).1
theorem spec (xs:List (List Int)) (x y:Int) (h:Small xs):Ev (fun k=>aQ.f k xs x y) (val xs x y):=by
 have hn:=h.1
 have inner:∀ (i:Nat),i < xs.length→∀ (r:Int) (p:Int) (d j:Nat) (s:Int×Int),j+d = (xs.getD i []).length →
   Ev (fun k=>aQ.l0 k xs x y (((xs.getD i []).drop j).foldl (cell y) s).1 (wrap64 (p * x)) ((i+1:Nat):Int)) r →
   Ev (fun k=>aQ.l1 k xs x y s.1 p (i:Int) s.2 (j:Int)) r:=by
  intro i hi r p d
  have hle:=h.at_ i
  induction d with
  | zero =>
   intro j s hj hr
   refine Ev.step (fun k=>?_) hr
   simp only [aQ.l1]
   rw [if_pos (by omega),if_pos (by omega),uM,if_neg (by omega),List.drop_of_length_le (by omega),de.dM i (by omega)]
   rfl
  | succ d ih =>
   intro j s hj hr
   rw [kp _ 0 j (by omega),List.foldl_cons] at hr
   refine Ev.step (fun k=>?_) (ih (j+1) (cell y s ((xs.getD i []).getD j 0)) (by omega) hr)
   simp only [aQ.l1]
   rw [if_pos (by omega),if_pos (by omega),uM,if_pos (by omega),if_pos (by omega),de.gq,de.dM j (by omega)]
   rfl
 have outer:∀ (d i:Nat) (s:Int×Int),i+d = xs.length→Ev (fun k=>aQ.l0 k xs x y s.1 s.2 (i:Int)) ((xs.drop i).foldl (row x y) s).1:=by
  intro d
  induction d with
  | zero =>
   intro i s hi
   refine de.eW 1 (fun k hk=>?_)
   obtain ⟨m,rfl⟩:∃ m,k = m+1:=⟨k - 1,by omega⟩
   simp only [aQ.l0]
   rw [if_neg (by omega),List.drop_of_length_le (by omega)]
   rfl
  | succ d ih =>
   intro i s hi
   have hlt:i < xs.length:=by omega
   rw [kp xs [] i hlt,List.foldl_cons]
   refine Ev.step (fun k=>?_) (inner i hlt _ s.2 (xs.getD i []).length 0 s (by omega) (by rw [List.drop_zero];exact ih (i+1) (row x y s (xs.getD i [])) (by omega)))
   simp only [aQ.l0]
   rw [if_pos (by omega)]
   rfl
 exact outer xs.length 0 (0,1) (by omega)
theorem impl (xs:List (List Int)) (x y:Int) (h:Small xs):Ev (fun k=>aT.f k xs x y) (val xs x y):=by
 have hn:=h.1
 have inner:∀ (i:Nat),i < xs.length→∀ (r:Int) (p:Int) (d j:Nat) (s:Int×Int),j+d = (xs.getD i []).length →
   Ev (fun k=>aT.l0 k x y (((xs.getD i []).drop j).foldl (cell y) s).1 (wrap64 (p * x)) xs (xs.length:Int) ((i+1:Nat):Int)) r →
   Ev (fun k=>aT.l1 k x y s.1 p s.2 xs (xs.length:Int) (i:Int) (xs.getD i []) ((xs.getD i []).length:Int) (j:Int)) r:=by
  intro i hi r p d
  have hle:=h.at_ i
  induction d with
  | zero =>
   intro j s hj hr
   refine Ev.step (fun k=>?_) hr
   simp only [aT.l1]
   rw [if_neg (by omega),List.drop_of_length_le (by omega),de.dM i (by omega)]
   rfl
  | succ d ih =>
   intro j s hj hr
   rw [kp _ 0 j (by omega),List.foldl_cons] at hr
   refine Ev.step (fun k=>?_) (ih (j+1) (cell y s ((xs.getD i []).getD j 0)) (by omega) hr)
   simp only [aT.l1]
   rw [if_pos (by omega),if_pos (by omega),if_pos (by omega),de.gq,de.dM j (by omega)]
   rfl
 have outer:∀ (d i:Nat) (s:Int×Int),i+d = xs.length→Ev (fun k=>aT.l0 k x y s.1 s.2 xs (xs.length:Int) (i:Int)) ((xs.drop i).foldl (row x y) s).1:=by
  intro d
  induction d with
  | zero =>
   intro i s hi
   refine de.eW 1 (fun k hk=>?_)
   obtain ⟨m,rfl⟩:∃ m,k = m+1:=⟨k - 1,by omega⟩
   simp only [aT.l0]
   rw [if_neg (by omega),List.drop_of_length_le (by omega)]
   rfl
  | succ d ih =>
   intro i s hi
   have hlt:i < xs.length:=by omega
   rw [kp xs [] i hlt,List.foldl_cons]
   refine Ev.step (fun k=>?_) (inner i hlt _ s.2 (xs.getD i []).length 0 s (by omega) (by rw [List.drop_zero];exact ih (i+1) (row x y s (xs.getD i [])) (by omega)))
   simp only [aT.l0]
   rw [if_pos (by omega),if_pos (by omega),if_pos (by omega),uM]
   rfl
 exact outer xs.length 0 (0,1) (by omega)
end Go.Proofs.YtmpodackojmojaaGreat.Eval
end
section
namespace Go.Proofs.YtmpodackojmojaaGreat.Pr
open Go.RowKit Go.Proofs.ag.bl Go.Proofs.ag.cj Go.Proofs.ag.ck
attribute [local go_sem] j5 j6 jG jH iy iz j7 j8
set_option linter.unusedVariables false
set_option linter.unusedSimpArgs false
def fu.l0:Nat→List (uI)→Int→Option (Bool)
 | 0,_,_=>none
 | k+1,j,y=>if y < (j.length:Int) then (if 0≤y then ((bH.f ((sG j y).f0) 0 6).bind fun z=>(if z = true then ((bH.f ((sG j y).f1) 0 1000).bind fun M=>(if M = true then (fu.l0 k j (wrap64 (y+1))) else (some false))) else (some false))) else (none)) else (some (decide ((j.length:Int)≤8)))
def fu.f (k:Nat) (l0:List (uI)):Option (Bool):=fu.l0 k l0 0
end Go.Proofs.YtmpodackojmojaaGreat.Pr
end
section
namespace Go.Proofs.YtmpodackojmojaaGreat.Task
open Go.RowKit Go.Proofs.YtmpodackojmojaaGreat.Pr Go.Proofs.YtmpodackojmojaaGreat.jR Go.Proofs.YtmpodackojmojaaGreat.Sets Go.Proofs.YtmpodackojmojaaGreat.mA Go.Proofs.ag.bl Go.Proofs.ag.cj Go.Proofs.ag.ck
set_option linter.unusedVariables false
def good (x:uI):Bool:=decide (0≤x.f0∧x.f0≤6∧0≤x.f1∧x.f1≤1000)
def all (xs:List uI):Bool:=(List.range' 0 xs.length).all (fun i=>good (xs.getD i vu)) && decide ((xs.length:Int)≤8)
theorem qD (xs:List uI) (hn:xs.length≤1048576) (k:Nat) (hk:xs.length < k):fu.f k xs = some (all xs):=by
 unfold fu.f
 refine de.kV (fun k i=>fu.l0 k xs i) xs.length (fun i=>good (xs.getD i vu)) 0 (decide ((xs.length:Int)≤8)) (fun k i _ hi=>?_) (fun k _=>?_) xs.length 0 k (by omega) (by omega)
 ·simp only [fu.l0,bH.f]
  rw [if_pos (by omega),if_pos (by omega),de.dM i (by omega)]
  show ((if (xs.getD i _).f0≥0 then some (decide ((xs.getD i _).f0≤6)) else some false).bind _) = _
  unfold good
  by_cases h0:(xs.getD i vu).f0≥0
  ·rw [if_pos h0]
   simp only [Option.bind_some]
   by_cases h1:(xs.getD i vu).f0≤6
   ·rw [if_pos (by simpa using h1)]
    show ((if (xs.getD i _).f1≥0 then some (decide ((xs.getD i _).f1≤1000)) else some false).bind _) = _
    by_cases h2:(xs.getD i vu).f1≥0
    ·rw [if_pos h2]
     simp only [Option.bind_some]
     by_cases h3:(xs.getD i vu).f1≤1000
     ·rw [if_pos (by simpa using h3),if_pos (decide_eq_true (by omega))]
     ·rw [if_neg (by simpa using h3),if_neg (by rw [decide_eq_true_eq];omega)]
    ·rw [if_neg h2]
     simp only [Option.bind_some]
     rw [if_neg (by simp),if_neg (by rw [decide_eq_true_eq];omega)]
   ·rw [if_neg (by simpa using h1),if_neg (by rw [decide_eq_true_eq];omega)]
  ·rw [if_neg h0]
   simp only [Option.bind_some]
   rw [if_neg (by simp),if_neg (by rw [decide_eq_true_eq];omega)]
 ·simp only [fu.l0]
  rw [if_neg (by omega)]
theorem qR {α:Type} (l:List α) (d:α) {i:Nat} (hi:i < l.length):l.getD i d = l[i]:=by simp [List.getD,hi]
theorem nJ {n s:Int} (h:isSet n s = true):((s.toNat:Nat):Int) = s:=by
 unfold isSet at h
 have:=(of_decide_eq_true h).2.2.1
 omega
end Go.Proofs.YtmpodackojmojaaGreat.Task
end
section
namespace Go.Proofs.YtmpodackojmojaaGreat.Poly
open Go.RowKit Go.Proofs.YtmpodackojmojaaGreat.jR Go.Proofs.YtmpodackojmojaaGreat.Sets Go.Proofs.YtmpodackojmojaaGreat.mA Go.Proofs.YtmpodackojmojaaGreat.iD Go.Proofs.YtmpodackojmojaaGreat.Flat Go.Proofs.YtmpodackojmojaaGreat.jo Go.Proofs.YtmpodackojmojaaGreat.gO Go.Proofs.YtmpodackojmojaaGreat.gN Go.Proofs.ag.bl Go.Proofs.ag.cj Go.Proofs.ag.ck
set_option linter.unusedVariables false
def rs (y:Int):Int→List Int→Int
 | _,[]=>0
 | p,c :: r=>c * p+rs y (p * y) r
def vs (x y:Int):Int→List (List Int)→Int
 | _,[]=>0
 | p,r :: t=>rs y p r+vs x y (p * x) t
theorem vL {c p:Int} (hc:-2000000≤c∧c≤2000000) (hp:0≤p∧p≤1073741824):-2147483648000000≤c * p∧c * p≤2147483648000000:=by
 have e:(c * p).natAbs≤2000000 * 1073741824:=by
  rw [Int.natAbs_mul]
  exact Nat.mul_le_mul (by omega) (by omega)
 omega
theorem ux {y:Int} (hy:y = 1∨y = 2) (r:List Int):∀ (acc p:Int),(∀ c∈r,-2000000≤c∧c≤2000000)→0≤p→p * 2 ^ r.length≤1073741824→-(4000000000000000000 - 2147483648000000 * (r.length:Int))≤acc∧acc≤4000000000000000000 - 2147483648000000 * (r.length:Int) →
  (r.foldl (Eval.cell y) (acc,p)).1 = acc+rs y p r∧-(2147483648000000 * (r.length:Int))≤rs y p r∧rs y p r≤2147483648000000 * (r.length:Int):=by
 induction r with
 | nil =>
  intro acc p _ _ _ _
  unfold rs
  rw [List.length_nil]
  exact ⟨(Int.add_zero acc).symm,by omega,by omega⟩
 | cons c r ih =>
  intro acc p hc hp hb ha
  have h1:=hc c (by simp)
  have j:(1:Int)≤2 ^ r.length:=by
   have:=Nat.one_le_two_pow (n:=r.length)
   exact_mod_cast this
  rw [List.length_cons,Int.pow_succ,← Int.mul_assoc] at hb
  have M:p≤1073741824:=by
   have h:=Int.mul_le_mul_of_nonneg_left j hp
   omega
  have hm:=vL h1 ⟨hp,M⟩
  have hpy:0≤p * y∧p * y * 2 ^ r.length≤1073741824∧p * y≤2147483648:=by
   rcases hy with rfl | rfl
   ·have h:0≤p * 2 ^ r.length:=Int.mul_nonneg hp (by omega)
    rw [Int.mul_one]
    omega
   ·have e:p * 2 * 2 ^ r.length = p * 2 ^ r.length * 2:=by rw [Int.mul_assoc,Int.mul_comm 2,← Int.mul_assoc]
    rw [e]
    omega
  rw [List.length_cons] at ha
  have ew:wrap64 (p * y) = p * y:=de.jQ (by omega) (by omega)
  have z:wrap64 (acc+wrap64 (c * p)) = acc+c * p:=by
   rw [de.jQ (i:=c * p) (by omega) (by omega),de.jQ (by omega) (by omega)]
  rw [List.foldl_cons]
  have es:Eval.cell y (acc,p) c = (acc+c * p,p * y):=by
   unfold Eval.cell
   rw [ew,z]
  clear ew z
  rw [es]
  obtain ⟨h2,h3,h4⟩:=ih (acc+c * p) (p * y) (fun d hd=>hc d (by simp [hd])) hpy.1 hpy.2.1 (by omega)
  rw [h2,show rs y p (c :: r) = c * p+rs y (p * y) r from rfl,List.length_cons]
  omega
theorem qS {n:Nat} (h:n≤9):(2:Int) ^ n≤512:=by
 have key:∀ n:Nat,n < 10→(2:Int) ^ n≤512:=by decide
 exact key n (by omega)
theorem uy {x y:Int} (hx:x = 1∨x = 2) (hy:y = 1∨y = 2) (t:List (List Int)):∀ (acc p:Int),(∀ r∈t,r.length≤9∧∀ c∈r,-2000000≤c∧c≤2000000)→0≤p→p * 2 ^ t.length≤1024→-(4000000000000000000 - 20000000000000000 * ((t.length:Int)+1))≤acc∧acc≤4000000000000000000 - 20000000000000000 * ((t.length:Int)+1) →
  (t.foldl (Eval.row x y) (acc,p)).1 = acc+vs x y p t:=by
 induction t with
 | nil =>
  intro acc p _ _ _ _
  exact (Int.add_zero acc).symm
 | cons r t ih =>
  intro acc p hr hp hb ha
  obtain ⟨M,hc⟩:=hr r (by simp)
  have j:(1:Int)≤2 ^ t.length:=by
   have:=Nat.one_le_two_pow (n:=t.length)
   exact_mod_cast this
  have z:(2:Int) ^ r.length≤512:=qS M
  rw [List.length_cons,Int.pow_succ,← Int.mul_assoc] at hb
  have X:p≤1024:=by
   have h:=Int.mul_le_mul_of_nonneg_left j hp
   omega
  have hpr:p * 2 ^ r.length≤1073741824:=by
   have h1:=Int.mul_le_mul_of_nonneg_left z hp
   omega
  have hpx:0≤p * x∧p * x * 2 ^ t.length≤1024∧p * x≤2048:=by
   rcases hx with rfl | rfl
   ·have h:0≤p * 2 ^ t.length:=Int.mul_nonneg hp (by omega)
    rw [Int.mul_one]
    omega
   ·have e:p * 2 * 2 ^ t.length = p * 2 ^ t.length * 2:=by rw [Int.mul_assoc,Int.mul_comm 2,← Int.mul_assoc]
    rw [e]
    omega
  rw [List.length_cons] at ha
  obtain ⟨h1,h2,h3⟩:=ux hy r acc p hc hp hpr (by omega)
  have ew:wrap64 (p * x) = p * x:=de.jQ (by omega) (by omega)
  have es:Eval.row x y (acc,p) r = (acc+rs y p r,p * x):=by
   unfold Eval.row
   rw [ew,h1]
  clear ew
  rw [List.foldl_cons,es,ih (acc+rs y p r) (p * x) (fun q hq=>hr q (by simp [hq])) hpx.1 hpx.2.1 (by omega),show vs x y p (r :: t) = rs y p r+vs x y (p * x) t from rfl]
  omega
theorem vM (y:Int) (r:List Int):∀ (p:Int) (j0:Nat),rs y (p * y ^ j0) r = ((List.range' j0 r.length).map fun j=>r.getD (j - j0) 0 * (p * y ^ j)).sum:=by
 induction r with
 | nil=>exact fun _ _=>rfl
 | cons c r ih =>
  intro p j0
  rw [show rs y (p * y ^ j0) (c :: r) = c * (p * y ^ j0)+rs y (p * y ^ j0 * y) r from rfl,Int.mul_assoc,← Int.pow_succ,ih p (j0+1),List.length_cons,List.range'_succ,List.map_cons,List.sum_cons,Nat.sub_self]
  congr 2
  refine List.map_congr_left fun j hj=>?_
  have:=List.mem_range'_1.1 hj
  rw [show j - j0 = (j - (j0+1))+1 by omega]
  rfl
theorem vN (x y:Int) (t:List (List Int)):∀ (p:Int) (i0:Nat),vs x y (p * x ^ i0) t = ((List.range' i0 t.length).map fun i=>rs y (p * x ^ i) (t.getD (i - i0) [])).sum:=by
 induction t with
 | nil=>exact fun _ _=>rfl
 | cons r t ih =>
  intro p i0
  rw [show vs x y (p * x ^ i0) (r :: t) = rs y (p * x ^ i0) r+vs x y (p * x ^ i0 * x) t from rfl,Int.mul_assoc p,← Int.pow_succ,ih p (i0+1),List.length_cons,List.range'_succ,List.map_cons,List.sum_cons,Nat.sub_self]
  congr 2
  refine List.map_congr_left fun i hi=>?_
  have:=List.mem_range'_1.1 hi
  rw [show i - i0 = (i - (i0+1))+1 by omega]
  rfl
def V (x y:Int) (r c:Nat) (e:Nat→Nat→Int):Int:=((List.range' 0 r).map fun i=>((List.range' 0 c).map fun j=>e i j * (x ^ i * y ^ j)).sum).sum
theorem wM {x y:Int} (hx:x = 1∨x = 2) (hy:y = 1∨y = 2) {r c:Nat} (hr:r≤9) (hc:c≤9) {t:List (List Int)} (hR:gI r c t) (hB:∀ i j,-2000000≤gZ t i j∧gZ t i j≤2000000):Eval.val t x y = V x y r c (gZ t):=by
 have hall:∀ q∈t,q.length≤9∧∀ d∈q,-2000000≤d∧d≤2000000:=fun q hq=>by
  refine ⟨by rw [hR.2 q hq];exact hc,fun d hd=>?_⟩
  obtain ⟨i,hi,rfl⟩:=List.getElem_of_mem hq
  obtain ⟨j,hj,rfl⟩:=List.getElem_of_mem hd
  have:=hB i j
  unfold gZ at this
  rw [Task.qR t [] hi,Task.qR _ 0 hj] at this
  exact this
 have z:(2:Int) ^ t.length≤512:=qS (by rw [hR.1];exact hr)
 have hl:t.length≤9:=by rw [hR.1];exact hr
 unfold Eval.val V
 rw [uy hx hy t 0 1 hall (by decide) (by omega) (by omega),Int.zero_add]
 have h1:=vN x y t 1 0
 rw [Int.pow_zero,Int.mul_one] at h1
 rw [h1,hR.1]
 congr 1
 refine List.map_congr_left fun i hi=>?_
 have hi:=List.mem_range'_1.1 hi
 have h2:=vM y (t.getD (i - 0) []) (1 * x ^ i) 0
 rw [Int.pow_zero,Int.mul_one] at h2
 rw [h2,Nat.sub_zero,hR.at_ (by omega)]
 congr 1
 refine List.map_congr_left fun j hj=>?_
 rw [Int.one_mul,Nat.sub_zero]
 rfl
end Go.Proofs.YtmpodackojmojaaGreat.Poly
end
section
namespace Go.Proofs.YtmpodackojmojaaGreat.Poly
open Go.RowKit Go.Proofs.YtmpodackojmojaaGreat.jR Go.Proofs.YtmpodackojmojaaGreat.Sets Go.Proofs.YtmpodackojmojaaGreat.mA Go.Proofs.YtmpodackojmojaaGreat.iD Go.Proofs.YtmpodackojmojaaGreat.Flat Go.Proofs.YtmpodackojmojaaGreat.jo Go.Proofs.YtmpodackojmojaaGreat.je Go.Proofs.YtmpodackojmojaaGreat.rQ Go.Proofs.YtmpodackojmojaaGreat.jl Go.Proofs.YtmpodackojmojaaGreat.gO Go.Proofs.YtmpodackojmojaaGreat.gN Go.Proofs.ag.bl Go.Proofs.ag.cj Go.Proofs.ag.ck
set_option linter.unusedVariables false
theorem sum_add (l:List Nat) (f g:Nat→Int):(l.map fun i=>f i+g i).sum = (l.map f).sum+(l.map g).sum:=by
 induction l with
 | nil=>rfl
 | cons i l ih=>rw [List.map_cons,List.map_cons,List.map_cons,List.sum_cons,List.sum_cons,List.sum_cons,ih];omega
theorem pz (l:List Nat):(l.map fun _=>(0:Int)).sum = 0:=by
 induction l with
 | nil=>rfl
 | cons i l ih=>rw [List.map_cons,List.sum_cons,ih];rfl
theorem wN (x y:Int) (r c:Nat) (A B:Nat→Nat→Int):V x y r c (fun i j=>A i j+B i j) = V x y r c A+V x y r c B:=by
 unfold V
 rw [← sum_add]
 congr 1
 refine List.map_congr_left fun i _=>?_
 rw [← sum_add]
 congr 1
 refine List.map_congr_left fun j _=>?_
 exact Int.add_mul _ _ _
theorem vO (x y:Int) (r c:Nat):V x y r c (fun _ _=>0) = 0:=by
 unfold V
 have:∀ i,((List.range' 0 c).map fun j=>(0:Int) * (x ^ i * y ^ j)).sum = 0:=fun i=>by
  rw [List.map_congr_left (g:=fun _=>(0:Int)) (fun j _=>Int.zero_mul _)]
  exact pz _
 rw [List.map_congr_left (g:=fun _=>(0:Int)) (fun i _=>this i)]
 exact pz _
theorem xd (x y:Int) (r c:Nat) (f g:Nat→Nat) (l:List Nat):V x y r c (co f g l) = (l.map fun s=>V x y r c (fun i j=>P (f s) i * P (g s) j)).sum:=by
 induction l with
 | nil=>exact vO x y r c
 | cons s l ih =>
  rw [List.map_cons,List.sum_cons,← ih,← wN]
  rfl
theorem xg:∀ r,r < 10→∀ c,c < 10→∀ a,a < r→∀ b,b < c→V 1 1 r c (fun i j=>P a i * P b j) = if (a == 0 && b == 0) = true then 1 else 0:=by decide +kernel
theorem xD:∀ r,r < 10→∀ c,c < 10→∀ a,a < r→∀ b,b < c→V 2 1 r c (fun i j=>P a i * P b j) = if (b == 0) = true then 1 else 0:=by decide +kernel
theorem xE:∀ r,r < 10→∀ c,c < 10→∀ a,a < r→∀ b,b < c→V 2 2 r c (fun i j=>P a i * P b j) = if true = true then 1 else 0:=by decide +kernel
theorem uz (l:List Nat) (p:Nat→Bool):(l.map fun s=>if p s = true then (1:Int) else 0).sum = ((l.filter p).length:Int):=by
 induction l with
 | nil=>rfl
 | cons s l ih =>
  rw [List.map_cons,List.sum_cons,ih]
  by_cases h:p s = true
  ·rw [if_pos h,List.filter_cons_of_pos h,List.length_cons];omega
  ·rw [if_neg h,List.filter_cons_of_neg h];omega
variable {m:Nat} (hm:m≤8) {l:List Nat} (hl:∀ s∈l,s < 2 ^ m) (h0:0 < l.length) (hf:eN l = false)
include hm hl h0 in
theorem lU (i j:Nat):-2000000≤gZ (eG m l) i j∧gZ (eG m l) i j≤2000000:=by
 rw [iS hm hl h0]
 have ht:=jL hm hl h0
 have y:2 ^ m≤256:=bN hm
 have key:∀ q:List Nat,(∀ s∈q,s < 2 ^ m)→-(4900 * (q.length:Int))≤co (fun s=>top l - bI l s) (fun s=>cnt s - bI l s) q i j∧co (fun s=>top l - bI l s) (fun s=>cnt s - bI l s) q i j≤4900 * (q.length:Int):=by
  intro q
  induction q with
  | nil=>exact fun _=>⟨by simp [co],by simp [co]⟩
  | cons s q ih =>
   intro hq
   have h1:=ih fun s' h'=>hq s' (by simp [h'])
   have h2:=l8 hm hl h0 (hq s (by simp))
   have h3:=qH (a:=top l - bI l s) (b:=cnt s - bI l s) (by omega) (by omega) i j
   rw [show co (fun s=>top l - bI l s) (fun s=>cnt s - bI l s) (s :: q) i j = P (top l - bI l s) i * P (cnt s - bI l s) j+co (fun s=>top l - bI l s) (fun s=>cnt s - bI l s) q i j from rfl,List.length_cons]
   omega
 have:=key (List.range' 0 (2 ^ m)) (fun s hs=>by have:=List.mem_range'_1.1 hs;omega)
 rw [List.length_range'] at this
 omega
include hm hl h0 in
theorem count {x y:Int} (hx:x = 1∨x = 2) (hy:y = 1∨y = 2) (p:Nat→Nat→Bool) (hV:∀ r,r < 10→∀ c,c < 10→∀ a,a < r→∀ b,b < c→V x y r c (fun i j=>P a i * P b j) = if p a b = true then 1 else 0):Eval.val (eG m l) x y = (((List.range' 0 (2 ^ m)).filter fun s=>p (top l - bI l s) (cnt s - bI l s)).length:Int):=by
 have ht:=jL hm hl h0
 rw [wM hx hy (r:=top l+1) (c:=m - top l+1) (by omega) (by omega) (jx m l) (lU hm hl h0),← uz]
 have e:gZ (eG m l) = co (fun s=>top l - bI l s) (fun s=>cnt s - bI l s) (List.range' 0 (2 ^ m)):=by
  funext i j
  exact iS hm hl h0 i j
 rw [e,xd]
 congr 1
 refine List.map_congr_left fun s hs=>?_
 have hs:=List.mem_range'_1.1 hs
 have h2:=l8 hm hl h0 (s:=s) (by omega)
 exact hV _ (by omega) _ (by omega) _ (by omega) _ (by omega)
theorem qh {l:List Nat} (hs:l.Pairwise (· < ·)):∀ (n a:Nat),(∀ s∈l,a≤s∧s < a+n)→((List.range' a n).filter fun s=>l.contains s).length = l.length:=by
 induction l with
 | nil=>intro n a _;simp
 | cons x l ih =>
  intro n a hl
  obtain ⟨h1,h2⟩:=List.pairwise_cons.1 hs
  have hx:=hl x (by simp)
  have e:List.range' a n = List.range' a (x - a) ++ x :: List.range' (x+1) (a+n - (x+1)):=by
   have h3:x :: List.range' (x+1) (a+n - (x+1)) = List.range' x (a+n - x):=by
    rw [show a+n - x = (a+n - (x+1))+1 by omega,List.range'_succ]
   rw [h3]
   have h4:=List.range'_append_1 (s:=a) (m:=x - a) (n:=a+n - x)
   rw [show a+(x - a) = x by omega,show x - a+(a+n - x) = n by omega] at h4
   exact h4.symm
  rw [e,List.filter_append,List.filter_cons_of_pos (by simp),List.length_append,List.length_cons,List.length_cons]
  have j:(List.range' a (x - a)).filter (fun s=>(x :: l).contains s) = []:=by
   refine List.filter_eq_nil_iff.2 fun s hs h=>?_
   have hs:=List.mem_range'_1.1 hs
   rcases List.mem_cons.1 (List.contains_iff_mem.1 h) with rfl | h'
   ·omega
   ·have:=h1 s h';omega
  have y:((List.range' (x+1) (a+n - (x+1))).filter fun s=>(x :: l).contains s).length = l.length:=by
   rw [← ih h2 (a+n - (x+1)) (x+1) (fun s hs=>⟨h1 s hs,by have:=hl s (by simp [hs]);omega⟩)]
   congr 1
   refine List.filter_congr fun s hs=>?_
   have hs:=List.mem_range'_1.1 hs
   rw [Bool.eq_iff_iff,List.contains_iff_mem,List.contains_iff_mem,List.mem_cons]
   exact ⟨fun h=>h.resolve_left (by omega),.inr⟩
  rw [j,y]
  simp
include hm hl h0 hf in
theorem mj (hs:l.Pairwise (· < ·)):Eval.val (eG m l) 1 1 = (l.length:Int):=by
 have z:=bN hm
 have y:∀ b∈l,b < 256:=fun b hb=>Nat.lt_of_lt_of_le (hl b hb) z
 rw [count hm hl h0 (.inl rfl) (.inl rfl) (fun a b=>a == 0 && b == 0) xg,← qh hs (2 ^ m) 0 (fun s hs=>⟨Nat.zero_le _,by have:=hl s hs;omega⟩)]
 congr 2
 refine List.filter_congr fun s hs=>?_
 have hs:=List.mem_range'_1.1 hs
 have h1:=jJ y hf h0 s
 have h2:=gN.eF l s
 rw [Bool.eq_iff_iff,List.contains_iff_mem,Bool.and_eq_true,beq_iff_eq,beq_iff_eq]
 constructor
 ·intro h
  obtain ⟨b,hb,hbr⟩:=ig h0 s
  have h3:=kr y hf h0 hb
  have h4:s &&& b = s:=gJ (by omega) (fo _ _) (by omega)
  have h5:s = b:=gJ (y b hb) (fun j hj=>by
   rw [← h4,Nat.testBit_and] at hj
   exact (Bool.and_eq_true_iff.1 hj).2) (by omega)
  rw [h5]
  exact hb
 ·intro h
  have h3:=kr y hf h0 h
  have h4:=fG l s s h
  rw [Nat.and_self] at h4
  omega
include hm hl h0 in
theorem nc:Eval.val (eG m l) 2 2 = ((2 ^ m:Nat):Int):=by
 rw [count hm hl h0 (.inr rfl) (.inr rfl) (fun _ _=>true) xE,List.filter_eq_self.2 (fun _ _=>rfl),List.length_range']
include hm hl h0 in
theorem nf:Eval.val (eG m l) 2 1 = (((List.range' 0 (2 ^ m)).filter fun s=>decide (bI l s = cnt s)).length:Int):=by
 rw [count hm hl h0 (.inr rfl) (.inl rfl) (fun _ b=>b == 0) xD]
 congr 2
 refine List.filter_congr fun s hs=>?_
 have h2:=gN.eF l s
 rw [Bool.eq_iff_iff,beq_iff_eq,decide_eq_true_iff]
 omega
end Go.Proofs.YtmpodackojmojaaGreat.Poly
end
section
namespace Go.Proofs.YtmpodackojmojaaGreat.Pure
open Go.RowKit Go.Proofs.YtmpodackojmojaaGreat.Pr Go.Proofs.YtmpodackojmojaaGreat.jR Go.Proofs.YtmpodackojmojaaGreat.Sets Go.Proofs.YtmpodackojmojaaGreat.mA Go.Proofs.YtmpodackojmojaaGreat.Flat Go.Proofs.YtmpodackojmojaaGreat.jo Go.Proofs.YtmpodackojmojaaGreat.gO Go.Proofs.YtmpodackojmojaaGreat.gN Go.Proofs.ag.bl Go.Proofs.ag.cj Go.Proofs.ag.ck
set_option linter.unusedVariables false
theorem jc (n:Int) (l:List Int):Small (k7 n l):=by
 unfold k7
 split
 ·next c =>
  obtain ⟨m,j,rfl,hm,rfl,hl,h0,hf⟩:=iH c
  rw [Int.toNat_natCast,dU]
  have:=jL hm hl h0
  have hR:=jx m j
  exact ⟨by rw [hR.1];omega,fun x hx=>by rw [hR.2 x hx];omega⟩
 ·exact ⟨by simp,by simp⟩
def iq (n:Int) (l:List Int):List Int:=if eX n l = true then [Eval.val (k7 n l) 1 1,Eval.val (k7 n l) 2 1,Eval.val (k7 n l) 1 2,Eval.val (k7 n l) 2 2] else []
theorem nh (n:Int) (l:List Int):(iq n l).length≤1048576:=by
 unfold iq
 split <;> simp
theorem qi (n:Int) (l:List Int) (hn:l.length≤1048576):Ev (fun k=>eE.f k n l) (iq n l):=by
 have hs:=jc n l
 unfold eE.f iq
 refine Ev.bind (qC n l hn) ?_
 cases eX n l with
 | false=>simp only [Bool.false_eq_true,if_false];exact Ev.now _
 | true =>
  simp only [if_true]
  refine Ev.bind (qG n l hn) (Ev.bind (Eval.impl _ 1 1 hs) (Ev.bind (Eval.impl _ 2 1 hs) (Ev.bind (Eval.impl _ 1 2 hs) (Ev.bind (Eval.impl _ 2 2 hs) ?_))))
  exact Ev.now _
theorem qj (n:Int) (l:List Int) (hn:l.length≤1048576):Ev (fun k=>dL.f k n l) (iq n l):=by
 have hs:=jc n l
 unfold dL.f iq
 refine Ev.bind (iQ n l hn) ?_
 cases eX n l with
 | false=>simp only [Bool.false_eq_true,if_false];exact Ev.now _
 | true =>
  simp only [if_true]
  refine Ev.bind (l9 n l hn) (Ev.bind (Eval.spec _ 1 1 hs) (Ev.bind (Eval.spec _ 2 1 hs) (Ev.bind (Eval.spec _ 1 2 hs) (Ev.bind (Eval.spec _ 2 2 hs) ?_))))
  exact Ev.now _
end Go.Proofs.YtmpodackojmojaaGreat.Pure
end
section
namespace Go.Proofs.YtmpodackojmojaaGreat.Poly
open Go.RowKit Go.Proofs.YtmpodackojmojaaGreat.jR Go.Proofs.YtmpodackojmojaaGreat.Sets Go.Proofs.YtmpodackojmojaaGreat.mA Go.Proofs.YtmpodackojmojaaGreat.iD Go.Proofs.YtmpodackojmojaaGreat.Flat Go.Proofs.YtmpodackojmojaaGreat.jo Go.Proofs.YtmpodackojmojaaGreat.je Go.Proofs.YtmpodackojmojaaGreat.Sort Go.Proofs.YtmpodackojmojaaGreat.rQ Go.Proofs.YtmpodackojmojaaGreat.ov Go.Proofs.YtmpodackojmojaaGreat.jl Go.Proofs.YtmpodackojmojaaGreat.kf Go.Proofs.YtmpodackojmojaaGreat.gO Go.Proofs.YtmpodackojmojaaGreat.gN Go.Proofs.ag.bl Go.Proofs.ag.cj Go.Proofs.ag.ck
set_option linter.unusedVariables false
section
variable {m:Nat} (hm:m≤8) {l:List Nat} (hl:∀ s∈l,s < 2 ^ m) (h0:0 < l.length) (hf:eN l = false)
def jP (l:List Nat) (s:Nat):Bool:=l.any fun b=>decide (b &&& s = 0)
theorem gK {l:List Nat} {s:Nat}:jP l s = true↔∃ b∈l,∀ j,s.testBit j = true→b.testBit j = false:=by
 unfold jP
 rw [List.any_eq_true]
 refine ⟨fun ⟨b,hb,h⟩=>⟨b,hb,fun j hj=>?_⟩,fun ⟨b,hb,h⟩=>⟨b,hb,decide_eq_true (Nat.eq_of_testBit_eq fun j=>?_)⟩⟩
 ·have:=congrArg (fun x=>x.testBit j) (of_decide_eq_true h)
  simp only [Nat.testBit_and,hj,Bool.and_true,Nat.zero_testBit] at this
  exact this
 ·rw [Nat.testBit_and,Nat.zero_testBit]
  cases hs:s.testBit j with
  | false=>rw [Bool.and_false]
  | true=>rw [h j hs];rfl
include hm hl h0 hf in
theorem lV:og m (jP l):=by
 have X:=bN hm
 have z:∀ b∈l,b < 256:=fun b hb=>Nat.lt_of_lt_of_le (hl b hb) X
 have hI:=kN hm hl h0 hf
 refine ⟨?_,?_,?_⟩
 ·exact gK.2 ⟨_,dG l 0 0 h0,fun j hj=>by rw [Nat.zero_testBit] at hj;cases hj⟩
 ·intro a b hb hab h
  obtain ⟨c,hc,h1⟩:=gK.1 h
  exact gK.2 ⟨c,hc,fun j hj=>h1 j (hab j hj)⟩
 ·intro a b ha hb a1 a2 hlt
  obtain ⟨A,hA,a3⟩:=gK.1 a1
  obtain ⟨B,hB,Y⟩:=gK.1 a2
  refine Classical.byContradiction fun hno=>?_
  have hall:∀ c∈l,(∀ j,a.testBit j = true→c.testBit j = false)→∀ e,b.testBit e = true→a.testBit e = false→c.testBit e = true:=fun c hc h1 e y M=>by
   cases hce:c.testBit e with
   | true=>rfl
   | false =>
    exact absurd ⟨e,y,M,gK.2 ⟨c,hc,fun j hj=>by
     rw [Nat.testBit_or,Nat.testBit_two_pow,Bool.or_eq_true,decide_eq_true_eq] at hj
     rcases hj with h | h
     ·exact h1 j h
     ·exact h ▸ hce⟩⟩ hno
  have hgrow:∀ (k i:Nat),i < 2 ^ m→indep l i = true→Sub (diff B a) i→(∀ j,a.testBit j = true→i.testBit j = false)→cnt A≤cnt i+k→∃ c∈l,Sub (diff B a) c∧∀ j,a.testBit j = true→c.testBit j = false:=by
   intro k
   induction k with
   | zero =>
    intro i hi hii hsub hav hk
    obtain ⟨c,hc,hic⟩:=eH.1 hii
    have h1:=gF z hf hA hc
    have h2:i = c:=gJ (z c hc) hic (by omega)
    exact ⟨c,hc,h2 ▸ hsub,h2 ▸ hav⟩
   | succ k ih =>
    intro i hi hii hsub hav hk
    by_cases a0:cnt i < cnt A
    ·obtain ⟨e,y,M,a4⟩:=hI.aug i A hi (hl A hA) hii (eH.2 ⟨A,hA,Sub.refl A⟩) a0
     have hem:=gT (hl A hA) y
     have h4:cnt (i ||| 2 ^ e) = cnt i+1:=fW (by omega) M
     refine ih (i ||| 2 ^ e) (mg hi (Nat.pow_lt_pow_right (by decide) hem)) a4 (fun j hj=>by rw [Nat.testBit_or,hsub j hj,Bool.true_or]) (fun j hj=>?_) (by omega)
     rw [Nat.testBit_or,hav j hj,Bool.false_or,Nat.testBit_two_pow]
     refine decide_eq_false fun h=>?_
     have h9:=a3 j hj
     rw [← h,y] at h9
     cases h9
    ·exact ih i hi hii hsub hav (by omega)
  have hBd:Sub (diff B a) B:=fun j hj=>by
   rw [cC,Bool.and_eq_true] at hj
   exact hj.1
  obtain ⟨c,hc,a5,a6⟩:=hgrow (cnt A) (diff B a) (sub_lt hBd (hl B hB)) (eH.2 ⟨B,hB,hBd⟩) (Sub.refl _) (fun j hj=>by rw [cC,hj];simp) (by omega)
  have hcb:=hall c hc a6
  have h1:=gF z hf hc hB
  have h2:cnt (diff B a ||| diff b a)≤cnt c:=gU fun j hj=>by
   rw [Nat.testBit_or,Bool.or_eq_true] at hj
   rcases hj with h | h
   ·exact a5 j h
   ·rw [cC,Bool.and_eq_true,Bool.not_eq_true'] at h
    exact hcb j h.1 h.2
  have h3:=l7 (diff B a) (diff b a)
  have h4:diff B a &&& diff b a = 0:=Nat.eq_of_testBit_eq fun j=>by
   rw [Nat.testBit_and,cC,cC,Nat.zero_testBit]
   cases hbj:b.testBit j with
   | false=>simp
   | true=>rw [Y j hbj];rfl
  have h5:=fc B a
  have h6:=fc b a
  have h7:=fc a b
  rw [Nat.and_comm] at h7
  have h8:cnt (B &&& a)≤cnt (diff a b):=gU fun j hj=>by
   rw [Nat.testBit_and,Bool.and_eq_true] at hj
   rw [cC,hj.2,Bool.true_and]
   cases hbj:b.testBit j with
   | false=>rfl
   | true =>
    have:=Y j hbj
    rw [hj.1] at this
    cases this
  have hz:cnt 0 = 0:=by decide +kernel
  rw [h4,hz] at h3
  omega
include hm hl h0 hf in
theorem pA (x:Nat):x∈eY m (jP l)↔∃ b∈l,x = diff (2 ^ m - 1) b:=by
 have y:=bN hm
 have z:∀ b∈l,b < 256:=fun b hb=>Nat.lt_of_lt_of_le (hl b hb) y
 have hI:=lV hm hl h0 hf
 have hav:∀ b∈l,jP l (diff (2 ^ m - 1) b) = true:=fun b hb=>gK.2 ⟨b,hb,fun j hj=>by
  rw [cC,Bool.and_eq_true,Bool.not_eq_true'] at hj
  exact hj.2⟩
 have hsub:∀ t,t < 2 ^ m→∀ c,(∀ j,t.testBit j = true→c.testBit j = false)→Sub t (diff (2 ^ m - 1) c):=fun t ht c h j hj=>by
  rw [cC,ot ht j hj,h j hj]
  rfl
 constructor
 ·intro hx
  have h1:=(eU.1 hx).1
  obtain ⟨c,hc,h2⟩:=gK.1 (eU.1 hx).2.1
  have h3:=hI.lP hm hx (gO.dY hm (hl c hc)) (hav c hc)
  exact ⟨c,hc,gJ (Nat.lt_of_lt_of_le (gO.dY hm (hl c hc)) y) (hsub x h1 c h2) h3⟩
 ·rintro ⟨b,hb,rfl⟩
  refine hI.lQ hm (gO.dY hm (hl b hb)) (hav b hb) fun t ht hp=>?_
  obtain ⟨c,hc,h2⟩:=gK.1 hp
  have h3:=gU (hsub t ht c h2)
  have h4:=jb hm (hl b hb)
  have h5:=jb hm (hl c hc)
  have M:=gF z hf hb hc
  omega
include hm hl h0 hf in
theorem rO:pB.comp m l = ints (eY m (jP l)):=by
 unfold pB.comp
 refine lR (kA m _) fun s=>?_
 rw [pA hm hl h0 hf,List.mem_map]
 exact ⟨fun ⟨b,hb,h⟩=>⟨b,hb,h.symm⟩,fun ⟨b,hb,h⟩=>⟨b,hb,h.symm⟩⟩
include hm hl h0 hf in
theorem qk:eX (m:Int) (ints (eY m (jP l))) = true:=k8 hm (lV hm hl h0 hf)
include hm hl h0 hf in
theorem tG (i j:Nat):gZ (eG m (eY m (jP l))) j i = gZ (eG m l) i j:=tB hm hl h0 hf (pA hm hl h0 hf) ((lV hm hl h0 hf).some hm) i j
end
end Go.Proofs.YtmpodackojmojaaGreat.Poly
end
section
namespace Go.Proofs.YtmpodackojmojaaGreat.ow
open Go.RowKit Go.Proofs.YtmpodackojmojaaGreat.Pr Go.Proofs.YtmpodackojmojaaGreat.Sets Go.Proofs.YtmpodackojmojaaGreat.mA Go.Proofs.YtmpodackojmojaaGreat.iD Go.Proofs.YtmpodackojmojaaGreat.Flat Go.Proofs.YtmpodackojmojaaGreat.jo Go.Proofs.YtmpodackojmojaaGreat.je Go.Proofs.YtmpodackojmojaaGreat.Sort Go.Proofs.YtmpodackojmojaaGreat.rQ Go.Proofs.YtmpodackojmojaaGreat.ov Go.Proofs.YtmpodackojmojaaGreat.kf Go.Proofs.ag.bl Go.Proofs.ag.cj Go.Proofs.ag.ck
set_option linter.unusedVariables false
theorem nR {m:Nat} {l:List Nat} (h:eX (m:Int) (ints l) = true):l.Pairwise (· < ·):=by
 unfold eX at h
 rw [Bool.and_eq_true,Bool.and_eq_true] at h
 have hf:=h.1.1
 unfold oL at hf
 rw [Bool.and_eq_true] at hf
 rw [List.pairwise_iff_getElem]
 have step:∀ i,i+1 < l.length→l.getD i 0 < l.getD (i+1) 0:=fun i hi=>by
  have:=List.all_eq_true.1 hf.1 (i+1) (List.mem_range'_1.2 (by rw [aH];omega))
  rw [Bool.and_eq_true,ju,ju] at this
  have h2:=this.2
  rw [decide_eq_false (show ¬ i+1 = 0 by omega),Bool.false_or,decide_eq_true_eq] at h2
  rw [show i+1 - 1 = i by omega] at h2
  omega
 have key:∀ d i,i+d+1 < l.length→l.getD i 0 < l.getD (i+d+1) 0:=by
  intro d
  induction d with
  | zero=>exact fun i hi=>step i hi
  | succ d ih=>exact fun i hi=>Nat.lt_trans (ih i (by omega)) (step (i+d+1) (by omega))
 intro i j hi hj hij
 have:=key (j - i - 1) i (by omega)
 rw [show i+(j - i - 1)+1 = j by omega] at this
 have y:l.getD i 0 = l[i]:=by simp [List.getD,hi]
 have z:l.getD j 0 = l[j]:=by simp [List.getD,hj]
 rw [y,z] at this
 exact this
end Go.Proofs.YtmpodackojmojaaGreat.ow
end
section
namespace Go.Proofs.YtmpodackojmojaaGreat.Pure
open Go.RowKit Go.Proofs.YtmpodackojmojaaGreat.Pr Go.Proofs.YtmpodackojmojaaGreat.jR Go.Proofs.YtmpodackojmojaaGreat.Sets Go.Proofs.YtmpodackojmojaaGreat.mA Go.Proofs.YtmpodackojmojaaGreat.iD Go.Proofs.YtmpodackojmojaaGreat.Flat Go.Proofs.YtmpodackojmojaaGreat.jo Go.Proofs.YtmpodackojmojaaGreat.je Go.Proofs.YtmpodackojmojaaGreat.Sort Go.Proofs.YtmpodackojmojaaGreat.rQ Go.Proofs.YtmpodackojmojaaGreat.ov Go.Proofs.YtmpodackojmojaaGreat.jl Go.Proofs.YtmpodackojmojaaGreat.kf Go.Proofs.YtmpodackojmojaaGreat.gO Go.Proofs.YtmpodackojmojaaGreat.gN Go.Proofs.YtmpodackojmojaaGreat.Poly Go.Proofs.ag.bl Go.Proofs.ag.cj Go.Proofs.ag.ck
set_option linter.unusedVariables false
namespace ni
theorem small {xs:List (List Int)} (h:nw.vE xs):Small xs:=⟨Nat.le_trans h.1 (by decide),fun x hx=>Nat.le_trans (h.2 x hx) (by decide)⟩
theorem uS (p:List Int) (hp:p.length≤2097152):Ev (fun k=>bZ.f k p p) true:=by
 unfold bZ.f
 simp only [if_true]
 have key:∀ d i:Nat,i+d = p.length→Ev (fun k=>bZ.l0 k p p (i:Int)) true:=by
  intro d
  induction d with
  | zero =>
   intro i hi
   refine Ev.step (f:=fun _=>some true) (fun k=>?_) (Ev.now _)
   rw [bZ.l0,if_neg (by omega)]
  | succ d ih =>
   intro i hi
   refine Ev.step (fun k=>?_) (ih (i+1) (by omega))
   rw [bZ.l0,if_pos (by omega),if_pos (by omega),if_pos (by omega),if_pos rfl,de.dM i (by omega)]
 exact key p.length 0 (by omega)
theorem lists (xs:List (List Int)) (h:vP xs):Ev (fun k=>bB.f k xs xs) true:=by
 have j:=h.1
 unfold bB.f
 simp only [if_true]
 have key:∀ d i:Nat,i+d = xs.length→Ev (fun k=>bB.l0 k xs xs (i:Int)) true:=by
  intro d
  induction d with
  | zero =>
   intro i hi
   refine Ev.step (f:=fun _=>some true) (fun k=>?_) (Ev.now _)
   rw [bB.l0,if_neg (by omega)]
  | succ d ih =>
   intro i hi
   have hx:(xs.getD i []).length≤2097152:=h.2 _ (dG xs [] i (by omega))
   refine Ev.step (f:=fun k=>(bZ.f k (xs.getD i []) (xs.getD i [])).bind fun t=>(if t = true then bB.l0 k xs xs ((i+1:Nat):Int) else some false)) (fun k=>?_) (Ev.bind (uS _ hx) (Ev.congr (fun k=>if_pos rfl) (ih (i+1) (by omega))))
   rw [bB.l0,if_pos (by omega),if_pos (by omega),if_pos (by omega),de.dM i (by omega)]
   rfl
 have hl:=h.1
 exact key xs.length 0 (by omega)
theorem jd {m:Nat} {q:List Nat} (h:eX (m:Int) (ints q) = true):k7 (m:Int) (ints q) = eG m q:=by
 unfold k7
 rw [if_pos h,Int.toNat_natCast,dU]
section
variable {n:Nat} (hn:n < 8) {l:List Nat} (hl:∀ s∈l,s < 2 ^ (n+1)) (h0:0 < l.length) (hf:eN l = false) (hM:eX ((n+1:Nat):Int) (ints l) = true) (hln:l.length≤1048576)
include hn hl h0 hf hM hln in
theorem minors (c:List Int):Ev (fun k=>ah.j3 k (eG (n+1) l) c false ((n+1:Nat):Int) (ints l)) true:=by
 have hE:2 ^ n < 2 ^ (n+1):=Nat.pow_lt_pow_right (by decide) (by omega)
 obtain ⟨M,ar,_⟩:=k9 n hn
 have hK:2 ^ n - 1 < 2 ^ (n+1):=Nat.lt_of_lt_of_le (Poly.gV n) (Nat.pow_le_pow_right (by decide) (by omega))
 have hdel:=q8 (n+1) (by omega) l hl hln hM h0 hf (2 ^ n) hE
 have hcon:=oq (n+1) (by omega) l hl hln hM (2 ^ n) hE
 rw [ar,M] at hdel hcon
 have hmap:sset (ints (((l.filter fun b=>decide (cnt (b &&& 2 ^ n) = bI l (2 ^ n))).map fun b=>diff b (2 ^ n)).map (pk (2 ^ n - 1)))) = ints (eY n (Q l n)):=by
  refine lR (kA n _) fun s=>?_
  rw [← pb hn hl h0 hf,List.mem_map]
  constructor
  ·rintro ⟨x,hx,rfl⟩
   obtain ⟨b,hb,rfl⟩:=List.mem_map.1 hx
   have:=List.mem_filter.1 hb
   exact ⟨b,this.1,of_decide_eq_true this.2,rfl⟩
  ·rintro ⟨b,hb,h1,rfl⟩
   exact ⟨_,List.mem_map.2 ⟨b,List.mem_filter.2 ⟨hb,decide_eq_true h1⟩,rfl⟩,rfl⟩
 rw [hmap] at hcon
 have ab:eX (n:Int) (ints (ij l (2 ^ n - 1))) = true:=by
  have h1:=jB (m:=n+1) (by omega) hl h0 hf hK
  have h2:=k8 (by omega:cnt (2 ^ n - 1)≤8) h1
  rw [M] at h2
  unfold ij
  rw [M]
  exact h2
 have hCM:eX (n:Int) (ints (eY n (Q l n))) = true:=k8 (by omega) (p5 hn hl h0 hf)
 have htd:=l9 (n:Int) (ints (ij l (2 ^ n - 1))) (by rw [aH];unfold ij;rw [M];exact Nat.le_trans (jN n (by omega) _) (by decide))
 have htc:=l9 (n:Int) (ints (eY n (Q l n))) (by rw [aH];exact Nat.le_trans (jN n (by omega) _) (by decide))
 rw [jd ab] at htd
 rw [jd hCM] at htc
 have aL:=jx n (ij l (2 ^ n - 1))
 have aO:=jx n (eY n (Q l n))
 have hsd:Small (eG n (ij l (2 ^ n - 1))):=by rw [← jd ab];exact jc _ _
 have hsc:Small (eG n (eY n (Q l n))):=by rw [← jd hCM];exact jc _ _
 have hDl:∀ s∈ij l (2 ^ n - 1),s < 2 ^ n:=fun s hs=>by
  have:=(eU.1 hs).1
  rwa [M] at this
 have aw:=kP (m:=n+1) (by omega) hl h0 hf hK
 have aB:∀ s∈eY n (Q l n),s < 2 ^ n:=fun s hs=>(eU.1 hs).1
 have aF:=(p5 hn hl h0 hf).some (by omega:n≤8)
 have hlo:=Char.rL ((n+1:Nat):Int) (ints l) (by rw [aH];exact hln)
 unfold Char.qe at hlo
 rw [if_pos hM,Int.toNat_natCast,dU] at hlo
 unfold Char.loops at hlo
 have hco:=uw (by omega:n+1≤8) hl hln hM
 have hlb:=rN l n (2 ^ (n+1) - 1)
 have hcb:=po l n (2 ^ (n+1) - 1)
 have hfn:(2 ^ (n+1) - 1).testBit n = true:=by rw [Nat.testBit_two_pow_sub_one];exact decide_eq_true (by omega)
 rw [hfn,Bool.true_and] at hlb hcb
 have a0:2 ^ (n+1)≤256:=bN (by omega)
 have al:l.foldl diff (2 ^ (n+1) - 1) < 256:=by
  have key:∀ (q:List Nat) (a:Nat),a < 2 ^ (n+1)→q.foldl diff a < 2 ^ (n+1):=by
   intro q
   induction q with
   | nil=>exact fun a h=>h
   | cons b q ih=>exact fun a h=>ih _ (Sets.dY h)
  exact Nat.lt_of_lt_of_le (key l _ (Poly.gV _)) a0
 have am:l.foldl (fun a b=>a &&& b) (2 ^ (n+1) - 1) < 256:=by
  have key:∀ (q:List Nat) (a:Nat),a < 2 ^ (n+1)→q.foldl (fun a b=>a &&& b) a < 2 ^ (n+1):=by
   intro q
   induction q with
   | nil=>exact fun a h=>h
   | cons b q ih=>exact fun a h=>ih _ (Nat.lt_of_le_of_lt Nat.and_le_left h)
  exact Nat.lt_of_lt_of_le (key l _ (Poly.gV _)) a0
 have ew:wrap64 (((n+1:Nat):Int) - 1) = (n:Int):=by rw [de.jQ (by omega) (by omega)];omega
 have hwe:=wL n hn
 refine Ev.step (f:=fun k=>(en.f k ((n+1:Nat):Int) (ints l) ((2 ^ n:Nat):Int)).bind fun y=>((aZ.f k y.1 y.2).bind fun X=>((bn.f k ((n+1:Nat):Int) (ints l) ((2 ^ n:Nat):Int)).bind fun z=>((aZ.f k z.1 z.2).bind fun Y=>((da.f k ((n+1:Nat):Int) (ints l)).bind fun a1=>((dy.f ((2 ^ n:Nat):Int) a1).bind fun a2=>(if a2 = true then ((aW.f k X 0 1).bind fun a3=>((bg.f k (eG (n+1) l) a3).bind fun a4=>(some a4))) else ((cG.f k ((n+1:Nat):Int) (ints l)).bind fun a5=>((dy.f ((2 ^ n:Nat):Int) a5).bind fun a6=>(if a6 = true then ((aW.f k Y 1 0).bind fun a7=>((bg.f k (eG (n+1) l) a7).bind fun a8=>(some a8))) else ((aU.f k X Y).bind fun a9=>((bg.f k (eG (n+1) l) a9).bind fun aa=>(some aa))))))))))))) (fun k=>?_) ?_
 ·rw [ah.j3,if_neg (by decide),ew,hwe,Option.bind_some]
 clear ew
 refine Ev.bind hdel (Ev.bind htd (Ev.bind hcon (Ev.bind htc (Ev.bind hlo ?_))))
 have ao:=qQ n hn _ al
 have ap:=qQ n hn _ am
 rw [hlb] at ao
 rw [hcb] at ap
 rw [ao]
 show Ev (fun k=>if (l.all fun b=>!b.testBit n) = true then _ else _) true
 by_cases hL:(l.all fun b=>!b.testBit n) = true
 ·refine Ev.congr (fun k=>if_pos hL) ?_
  refine Ev.bind (Shift.lT _ 0 1 hsd) (Ev.bind (tF fun i j=>?_) (Ev.now _))
  rw [tD hn hl h0 hf (fun b hb=>by simpa using List.all_eq_true.1 hL b hb),qf]
 ·refine Ev.congr (fun k=>if_neg hL) ?_
  refine Ev.bind hco ?_
  rw [ap]
  show Ev (fun k=>if (l.all fun b=>b.testBit n) = true then _ else _) true
  by_cases hC:(l.all fun b=>b.testBit n) = true
  ·refine Ev.congr (fun k=>if_pos hC) ?_
   refine Ev.bind (Shift.lT _ 1 0 hsc) (Ev.bind (tF fun i j=>?_) (Ev.now _))
   rw [qd hn hl h0 hf (fun b hb=>List.all_eq_true.1 hC b hb),qg]
  ·refine Ev.congr (fun k=>if_neg hC) ?_
   refine Ev.bind (jS.qN _ _ hsd hsc) (Ev.bind (tF fun i j=>?_) (Ev.now _))
   have hA:∃ b∈l,b.testBit n = false:=by
    refine Classical.byContradiction fun hno=>hC (List.all_eq_true.2 fun b hb=>?_)
    cases hbn:b.testBit n with
    | true=>rfl
    | false=>exact absurd ⟨b,hb,hbn⟩ hno
   have hB:∃ b∈l,b.testBit n = true:=by
    refine Classical.byContradiction fun hno=>hL (List.all_eq_true.2 fun b hb=>?_)
    cases hbn:b.testBit n with
    | true=>exact absurd ⟨b,hb,hbn⟩ hno
    | false=>rfl
   rw [tE hn hl h0 hf hA hB,uv (lU (by omega) hDl aw) (lU (by omega) aB aF)]
end
section
variable {m:Nat} (hm:m≤8) {l:List Nat} (hl:∀ s∈l,s < 2 ^ m) (h0:0 < l.length) (hf:eN l = false) (hM:eX (m:Int) (ints l) = true) (hln:l.length≤1048576)
def kH (m:Nat) (l:List Nat):List Int:=[Eval.val (eG m l) 1 1,Eval.val (eG m l) 2 1,Eval.val (eG m l) 1 2,Eval.val (eG m l) 2 2]
theorem c0 (m:Nat) (l:List Nat):rd (kH m l) 0 = Eval.val (eG m l) 1 1:=rfl
theorem c1 (m:Nat) (l:List Nat):rd (kH m l) 1 = Eval.val (eG m l) 2 1:=rfl
theorem c3 (m:Nat) (l:List Nat):rd (kH m l) 3 = Eval.val (eG m l) 2 2:=rfl
theorem cl (m:Nat) (l:List Nat):((kH m l).length:Int) = 4:=rfl
include hm in
theorem uT:wrap64 (((2 ^ m - 1:Nat):Int)+1) = ((2 ^ m:Nat):Int):=by
 have j:2 ^ m≤256:=bN hm
 have:=Nat.one_le_two_pow (n:=m)
 rw [de.jQ (by omega) (by omega)]
 omega
include hm hl h0 hf hM hln in
theorem rP (t:List (List Int)):Ev (fun k=>ah.j3 k t (kH m l) true (m:Int) (ints l)) true:=by
 have hb:=mj hm hl h0 hf (ow.nR hM)
 have hi:=nf hm hl h0
 have hs:=nc hm hl h0
 refine Ev.step (f:=fun k=>(b7.f k (m:Int) (ints l)).bind fun j=>(if (rd (kH m l) 1) = (j.length:Int) then (if 3 < ((kH m l).length:Int) then ((br.f (m:Int)).bind fun y=>(some ((rd (kH m l) 3) == (wrap64 (y+1))))) else (none)) else (some false))) (fun k=>?_) (Ev.bind (pq hm hl hln hM) ?_)
 ·rw [ah.j3,if_pos rfl,cl,if_pos (by decide),c0,hb,aH,if_pos rfl,if_pos (by decide)]
 ·refine Ev.congr (fun k=>?_) (Ev.now true)
  rw [c1,hi,aH,if_pos rfl,cl,if_pos (by decide),eP m hm,Option.bind_some,uT hm,c3,hs]
  simp
include hm hl h0 hf hM hln in
theorem after:Ev (fun k=>if 0 < ((kH m l).length:Int) then (if (rd (kH m l) 0) = ((ints l).length:Int) then (if 1 < ((kH m l).length:Int) then ((b7.f k (m:Int) (ints l)).bind fun j=>(if (rd (kH m l) 1) = (j.length:Int) then (if 3 < ((kH m l).length:Int) then ((br.f (m:Int)).bind fun y=>(if (rd (kH m l) 3) = (wrap64 (y+1)) then (ah.j3 k (eG m l) (kH m l) ((m:Int) == 0) (m:Int) (ints l)) else (ah.j3 k (eG m l) (kH m l) true (m:Int) (ints l)))) else (none)) else (ah.j3 k (eG m l) (kH m l) true (m:Int) (ints l)))) else (none)) else (ah.j3 k (eG m l) (kH m l) true (m:Int) (ints l))) else (none)) true:=by
 have hb:=mj hm hl h0 hf (ow.nR hM)
 have hi:=nf hm hl h0
 have hs:=nc hm hl h0
 have hlast:Ev (fun k=>ah.j3 k (eG m l) (kH m l) ((m:Int) == 0) (m:Int) (ints l)) true:=by
  cases m with
  | zero=>exact rP hm hl h0 hf hM hln _
  | succ n =>
   have e:(((n+1:Nat):Int) == 0) = false:=beq_eq_false_iff_ne.2 (by omega)
   rw [e]
   exact minors (by omega) hl h0 hf hM hln _
 refine Ev.congr (f:=fun k=>(b7.f k (m:Int) (ints l)).bind fun j=>(if (rd (kH m l) 1) = (j.length:Int) then (if 3 < ((kH m l).length:Int) then ((br.f (m:Int)).bind fun y=>(if (rd (kH m l) 3) = (wrap64 (y+1)) then (ah.j3 k (eG m l) (kH m l) ((m:Int) == 0) (m:Int) (ints l)) else (ah.j3 k (eG m l) (kH m l) true (m:Int) (ints l)))) else (none)) else (ah.j3 k (eG m l) (kH m l) true (m:Int) (ints l)))) (fun k=>?_) (Ev.bind (pq hm hl hln hM) (Ev.congr (fun k=>?_) hlast))
 ·rw [cl,if_pos (by decide),c0,hb,aH,if_pos rfl,if_pos (by decide)]
 ·rw [c1,hi,aH,if_pos rfl,cl,if_pos (by decide),eP m hm,Option.bind_some,uT hm,c3,hs,if_pos rfl]
include hm hl h0 hf hM hln in
theorem places:Ev (fun k=>ah.j0 k (eG m l) (kH m l) false (m:Int) (ints l)) true:=by
 have hs:=iQ (m:Int) (ints l) (by rw [aH];exact hln)
 rw [hM] at hs
 have hd:=pB.sV (m:Int) (ints l) (by rw [aH];exact hln)
 have X:pB.qE (m:Int) (ints l) = ((m:Int),ints (eY m (jP l))):=by
  unfold pB.qE
  rw [if_pos hM,Int.toNat_natCast,dU,rO hm hl h0 hf]
 rw [X] at hd
 have Y:=qk hm hl h0 hf
 have htd:=l9 (m:Int) (ints (eY m (jP l))) (by rw [aH];exact Nat.le_trans (jN m hm _) (by decide))
 rw [jd Y] at htd
 have hR:=jx m l
 have hsm:Small (eG m l):=by rw [← jd hM];exact jc _ _
 have hlen:=hsm.1
 have key:∀ d i:Nat,i+d = (eG m l).length→Ev (fun k=>ah.l0 k (eG m l) (kH m l) (eG m (eY m (jP l))) (i:Int) (m:Int) (ints l)) true:=by
  intro d
  induction d with
  | zero =>
   intro i hi
   refine Ev.step (fun k=>?_) (after hm hl h0 hf hM hln)
   rw [ah.l0,if_neg (by omega)]
  | succ d ih =>
   intro i hi
   have hrow:((eG m l).getD i []).length≤1048576:=hsm.2 _ (dG _ [] i (by omega))
   have inner:∀ e j:Nat,j+e = ((eG m l).getD i []).length→Ev (fun k=>ah.l1 k (eG m l) (kH m l) (eG m (eY m (jP l))) (i:Int) (j:Int) (m:Int) (ints l)) true:=by
    intro e
    induction e with
    | zero =>
     intro j hj
     refine Ev.step (fun k=>?_) (ih (i+1) (by omega))
     rw [ah.l1,if_pos (by omega),if_pos (by omega)]
     show (if (j:Int) < ((((eG m l).getD i []).length:Nat):Int) then _ else _) = _
     rw [if_neg (by omega),de.dM i (by omega)]
    | succ e a0 =>
     intro j hj
     refine Ev.step (fun k=>?_) (a0 (j+1) (by omega))
     rw [ah.l1,if_pos (by omega),if_pos (by omega)]
     show (if (j:Int) < ((((eG m l).getD i []).length:Nat):Int) then _ else _) = _
     rw [if_pos (by omega),if_pos (by omega),element,Option.bind_some,tG hm hl h0 hf]
     show (if rd ((eG m l).getD i []) (j:Int) = _ then _ else _) = _
     rw [de.gq,if_pos (show ((eG m l).getD i []).getD j 0 = gZ (eG m l) i j from rfl),de.dM j (by omega)]
   refine Ev.step (fun k=>?_) (inner _ 0 (Nat.zero_add _))
   rw [ah.l0,if_pos (by omega)]
   rfl
 refine Ev.step (f:=fun k=>(bf.f k (m:Int) (ints l)).bind fun z=>(if z = true then ((dx.f k (m:Int) (ints l)).bind fun y=>((aZ.f k y.1 y.2).bind fun M=>(ah.l0 k (eG m l) (kH m l) M 0 (m:Int) (ints l)))) else (if ((eG m l).length:Int) = 0 then (some (((kH m l).length:Int) == 0)) else (some false)))) (fun k=>?_) (Ev.bind hs (Ev.congr (fun k=>if_pos rfl) (Ev.bind hd (Ev.bind htd (key _ 0 (Nat.zero_add _))))))
 rw [ah.j0,if_neg (by decide)]
end
end ni
open ni in
theorem ou (code:List Int) (hm:code.length≤maxLen∧∀ x∈code,(Lit.int .u8 x).wf = true):∃ k,ah.f k code = some true:=by
 refine Ev.rounds ?_
 unfold ah.f j9.f
 simp only [Option.bind_some]
 by_cases hbig:(code.length:Int) > 1048576
 ·simp only [decide_eq_true hbig,if_true]
  exact Ev.now _
 ·simp only [decide_eq_false hbig,Bool.false_eq_true,if_false]
  have hc:code.length≤1048576:=by omega
  obtain ⟨n,l,Y,hl⟩:=nw.wD code hc
  obtain ⟨es,x,y,a0,he⟩:=nw.eval code hc
  obtain ⟨ta,tb,a1,ha,hb⟩:=nw.add code hc
  obtain ⟨ss,i,j,a2,hs⟩:=nw.shift code hc
  refine Ev.bind Y (Ev.bind (qG n l hl) (Ev.bind a0 (Ev.bind a1 (Ev.bind a2 (Ev.bind (qi n l hl) (Ev.bind (l9 n l hl) (Ev.bind (lists _ (sZ n l)) ?_)))))))
  refine Ev.congr (fun k=>if_pos rfl) ?_
  refine Ev.bind (Eval.impl es x y (small he)) (Ev.bind (Eval.spec es x y (small he)) (Ev.congr (fun k=>if_pos rfl) ?_))
  refine Ev.bind (jS.qN ta tb (small ha) (small hb)) (Ev.bind (jS.od ta tb (small ha) (small hb)) (Ev.bind (lists _ (jS.add_mid ta tb (small ha) (small hb))) (Ev.congr (fun k=>if_pos rfl) ?_)))
  refine Ev.bind (Shift.lT ss i j (small hs)) (Ev.bind (Shift.rI ss i j (small hs)) (Ev.bind (lists _ (Shift.rH ss i j (small hs))) (Ev.congr (fun k=>if_pos rfl) ?_)))
  refine Ev.bind (qj n l hl) (Ev.bind (uS _ (Nat.le_trans (nh n l) (by decide))) ?_)
  show Ev (fun k=>ah.j0 k (k7 n l) (iq n l) false n l) true
  cases hM:eX n l with
  | false =>
   have h1:k7 n l = []:=by unfold k7;rw [hM];rfl
   have h2:iq n l = []:=by unfold iq;rw [hM];rfl
   have h3:=iQ n l hl
   rw [hM] at h3
   rw [h1,h2]
   refine Ev.step (f:=fun k=>(bf.f k n l).bind fun M=>(if M = true then ((dx.f k n l).bind fun z=>((aZ.f k z.1 z.2).bind fun X=>(ah.l0 k [] [] X 0 n l))) else (if ((([]:List (List Int)).length:Nat):Int) = 0 then (some (((([]:List Int).length:Nat):Int) == 0)) else (some false)))) (fun k=>?_) (Ev.bind h3 (Ev.congr (fun k=>if_neg (by decide)) (Ev.now _)))
   rw [ah.j0,if_neg (by decide)]
  | true =>
   obtain ⟨m,lN,rfl,a3,rfl,hlm,h0,hf⟩:=iH hM
   have h1:=jd hM
   have h2:iq (m:Int) (ints lN) = kH m lN:=by
    unfold iq kH
    rw [if_pos hM,h1]
   rw [h1,h2]
   rw [aH] at hl
   exact places a3 hlm h0 hf hM hl
end Go.Proofs.YtmpodackojmojaaGreat.Pure
end
section
namespace Go.Proofs.YtmpodackojmojaaGreat.Open
open Go.ChangeShapes Go.WideShapes Go.RowKit Go.Proofs.ag.bl Go.Deep
set_option linter.unusedVariables false
structure iu {α:Type} (P:Program) (d:Kd α) (t:TypeId) (Wf:α→Prop):Prop where
 go:∀ (H:Type) (enc:TypeId×Value→H) (w:World) (base:Nat) (spare:Nat→Bool) (held:Bool) (fuel:Nat) (cs:List Value) (x:DataW H×List MemPlace),
  DataW.trod enc P w base spare held fuel t cs = some x→∃ a,d.K w a cs∧Wf a
theorem iu.int {P:Program} {t:TypeId} {k:IntKind} (ht:P.underlying t = some (.int k)):iu P (Kd.int k) t (fun n=>(Lit.int k n).wf = true):=by
 refine ⟨fun H enc w base spare held fuel cs x h=>?_⟩
 obtain ⟨n,rfl,_,hw⟩:=DataW.trod_int ht h
 exact ⟨n,rfl,hw⟩
theorem iu.bool {P:Program} {t:TypeId} (ht:P.underlying t = some .bool):iu P Kd.bool t (fun _=>True):=by
 refine ⟨fun H enc w base spare held fuel cs x h=>?_⟩
 obtain ⟨n,rfl,_⟩:=DataW.trod_bool ht h
 exact ⟨n,rfl,trivial⟩
theorem iu.string {P:Program} {t:TypeId} (ht:P.underlying t = some .string):iu P Kd.string t (fun s=>s.size≤maxLen):=by
 refine ⟨fun H enc w base spare held fuel cs x h=>?_⟩
 obtain ⟨n,rfl,_,hw⟩:=DataW.trod_string ht h
 exact ⟨n,rfl,hw⟩
theorem uA {α:Type} {p:Nat→α→Prop}:∀ {len:Nat},(∀ i,i < len→∃ y,p i y)→∃ xs:List α,xs.length = len∧∀ i y,xs[i]? = some y→p i y:=by
 intro len
 induction len with
 | zero=>exact fun _=>⟨[],rfl,fun i y h=>by simp at h⟩
 | succ len ih =>
  intro key
  obtain ⟨xs,hxl,hxs⟩:=ih (fun i hi=>key i (by omega))
  obtain ⟨y,hy⟩:=key len (by omega)
  refine ⟨xs ++ [y],by simp [hxl],fun i z hz=>?_⟩
  by_cases hi:i < xs.length
  ·rw [List.getElem?_append_left hi] at hz
   exact hxs i z hz
  ·have hlt:i < (xs ++ [y]).length:=(List.getElem?_eq_some_iff.1 hz).1
   have e:i = len:=by simp [hxl] at hlt hi;omega
   subst e
   rw [List.getElem?_append_right (by omega),hxl] at hz
   simp at hz
   subst hz
   exact hy
theorem iu.slice {α:Type} {P:Program} {t e:TypeId} {d:Kd α} {Wf:α→Prop} (ht:P.underlying t = some (.slice e)) (hs:P.cellsOf e = d.sz) (h:iu P d e Wf) :
  iu P (Kd.slice e d) t (fun xs=>xs.length≤maxLen∧∀ x∈xs,Wf x):=by
 refine ⟨fun H enc w base spare held fuel cs x hx=>?_⟩
 rcases open_slice ht hx with ⟨rfl,_⟩ | ⟨a,len,cap,m,n,D,Pl,rfl,hb,hl,hm,hmm,_,hel⟩
 ·exact ⟨[],⟨none,0,rfl,Nat.le_refl _,rfl,by simp,fun h=>absurd h (by simp)⟩,by simp,by simp⟩
 ·have hlm:len≤m:=by rw [hmm];split <;> omega
  have key:∀ i,i < len→∃ y:α,(∃ cs',w.cells? base (a.add (i * P.cellsOf e)) (P.cellsOf e) = some cs'∧d.K w y cs')∧Wf y:=fun i hi=>by
   obtain ⟨cs',h1,h2⟩:=hel i (by omega)
   obtain ⟨y,h3,h4⟩:=h.go _ enc w base spare held n cs' _ h2
   exact ⟨y,⟨cs',h1,h3⟩,h4⟩
  obtain ⟨xs,hxl,hxs⟩:=uA key
  refine ⟨xs,⟨some a,cap,by rw [hxl],by omega,rfl,by have:=hm;unfold maxLen at this;omega,fun _=>⟨a,rfl,fun j p hj=>?_⟩⟩,by omega,fun y hy=>?_⟩
  ·obtain ⟨⟨cs',h1,h2⟩,_⟩:=hxs j p hj
   obtain ⟨_,h3,h4⟩:=World.cells?_some h1
   refine ⟨cs',by rw [h3,hs],h2,fun i u hu=>?_⟩
   have hlt:i < cs'.length:=(List.getElem?_eq_some_iff.1 hu).1
   have:=h4 i (by omega)
   rw [hs,Go.Deep.add_add] at this
   rw [this,hu]
  ·obtain ⟨i,hi⟩:=List.getElem?_of_mem hy
   exact (hxs i y hi).2
structure kB {α:Type} (P:Program) (fs:List Field) (off:Nat) (d:Kd α) (Wf:α→Prop):Prop where
 go:∀ (H:Type) (enc:TypeId×Value→H) (w:World) (base:Nat) (spare:Nat→Bool) (held:Bool) (n:Nat) (cs:List Value),
  cs.length = off+d.sz→(∀ f∈fs,∃ x,DataW.trod enc P w base spare held n f.type ((cs.drop f.offset).take (P.cellsOf f.type)) = some x)→∃ a,d.K w a (cs.drop off)∧Wf a
theorem kB.one {α:Type} {P:Program} {f:Field} {off:Nat} {d:Kd α} {Wf:α→Prop} (ho:f.offset = off) (hs:P.cellsOf f.type = d.sz) (h:iu P d f.type Wf):kB P [f] off d Wf:=by
 refine ⟨fun H enc w base spare held n cs hl hf=>?_⟩
 obtain ⟨x,hx⟩:=hf f (by simp)
 rw [ho,hs,List.take_of_length_le (by rw [List.length_drop];omega)] at hx
 exact h.go _ enc w base spare held n _ x hx
theorem kB.cons {α β:Type} {P:Program} {f:Field} {fs:List Field} {off:Nat} {d:Kd α} {d':Kd β} {Wf:α→Prop} {j:β→Prop} (ho:f.offset = off) (hs:P.cellsOf f.type = d.sz) (h:iu P d f.type Wf)
  (h':kB P fs (off+d.sz) d' j):kB P (f :: fs) off (Kd.pair d d') (fun x=>Wf x.1∧j x.2):=by
 refine ⟨fun H enc w base spare held n cs hl hf=>?_⟩
 have hl':cs.length = off+(d.sz+d'.sz):=hl
 obtain ⟨x,hx⟩:=hf f (by simp)
 rw [ho,hs] at hx
 obtain ⟨a,ha,wa⟩:=h.go _ enc w base spare held n _ x hx
 obtain ⟨b,hb,wb⟩:=h'.go _ enc w base spare held n cs (by omega) (fun g hg=>hf g (by simp [hg]))
 refine ⟨(a,b),⟨(cs.drop off).take d.sz,cs.drop (off+d.sz),?_,ha,hb⟩,wa,wb⟩
 rw [← List.drop_drop,List.take_append_drop]
theorem iu.struct {α:Type} {P:Program} {t:TypeId} {fs:Array Field} {d:Kd α} {Wf:α→Prop} (ht:P.underlying t = some (.struct fs)) (hs:P.cellsOf t = d.sz) (h:kB P fs.toList 0 d Wf):iu P d t Wf:=by
 refine ⟨fun H enc w base spare held fuel cs x hx=>?_⟩
 obtain ⟨xs,n,_,_,hl,hlen,hg⟩:=DataW.trod_struct ht hx
 obtain ⟨a,ha,wa⟩:=h.go _ enc w base spare held n cs (by omega) (fun f hf=>by
  obtain ⟨i,hi⟩:=List.getElem?_of_mem hf
  have h1:=hg i f (by simpa using hi)
  have hlt:i < fs.size:=by have:=(List.getElem?_eq_some_iff.1 hi).1;simpa using this
  exact ⟨_,h1.trans (List.getElem?_eq_getElem (by omega))⟩)
 exact ⟨a,by simpa using ha,wa⟩
theorem iu.tH {α:Type} {P:Program} {t e:TypeId} {d:Kd α} {Wf:List α→Prop} (h:iu P (Kd.slice e d) t Wf) {H:Type} {enc:TypeId×Value→H} {w:World} {base:Nat} {spare:Nat→Bool} {held:Bool} {v:Value} {x:DataW H} {ps:List MemPlace}
  (hv:∃ a len cap,v = .slice a len cap) (ht:DataW.Trod enc P w base spare held t v x ps):∃ A c xs,v = .slice A xs.length c∧xs.length≤c∧d.C w A xs.length xs∧Wf xs:=by
 obtain ⟨a,len,cap,rfl⟩:=hv
 obtain ⟨fuel,hf⟩:=ht
 obtain ⟨xs,⟨A,c,hc,hl,hr⟩,wf⟩:=h.go _ enc w base spare held fuel _ _ hf
 simp only [Value.cells,List.cons.injEq,and_true] at hc
 exact ⟨A,c,xs,hc,hl,hr,wf⟩
end Go.Proofs.YtmpodackojmojaaGreat.Open
end
section
namespace Go.Proofs.YtmpodackojmojaaGreat.lz
open Go.ChangeShapes Go.WideShapes Go.ChangeAt Go.RowKit Go.Proofs.YtmpodackojmojaaGreat.Open Go.Proofs.ag.bl
open Go.ChangeMaps (open_string shut_string)
set_option linter.unusedVariables false
theorem own:ownKnob Tryz.prog.godebug = none:=by kernel_rfl
theorem laidOut:laidOutB Tryz.prog = true:=by kernel_rfl
set_option maxRecDepth 100000 in
theorem lifted (os:Os) (started:os.Started) (H:Type) (enc:TypeId×Value→H) :
  ReturnsInHanded {} Tryz.checked os 5 .any (Rows.fnPolynomialSpec.pre6 enc Tryz.prog Tryz.f5 Rows.fnPolynomialRow.domain false) (Rows.fnPolynomialSpec.post enc Tryz.prog Tryz.f5 false true false false):=by
 refine returnsInHanded_of_change_sized (C:=Tryz.checked) own started (by kernel_rfl) Tryz.func5
  (ChangeSpec.witness6 (enc:=enc) (C:=Tryz.checked) false ⟨#[],#[.slice none 0 0],[]⟩ 8 (by kernel_rfl) (by kernel_rfl) (by kernel_rfl) (by kernel_rfl)) ?_
 intro W base args ds gs before y hW hcnd z _
 have hval:∀ (j:Nat) t v,Tryz.f5.params[j]? = some t→args[j]? = some v→Value.okWide Tryz.prog W .any base t v:=y
 have hW':=hW
 obtain ⟨p,q,M,hV,rfl,hfz,hnd⟩:=hW
 have hA:DataW.TrodAll enc Tryz.prog W 0 (fun _=>true) true Tryz.f5.params.toList args.toList ds p:=M
 rw [Tryz.params5] at hA hval
 obtain ⟨v0,a1,d0,a2,p0,q0,hargs,rfl,rfl,h0,r0⟩:=trodAll_cons hA
 obtain ⟨rfl,rfl,rfl⟩:=trodAll_nil r0
 obtain rfl:args = #[v0]:=by cases args;simp_all
 obtain ⟨rfl,rfl⟩:=trodVars_none hV
 have k0:=h0
 have X:∀ x∈p0,x.block < W.heap.size:=by obtain ⟨m,hm⟩:=k0;exact DataW.trod_lt m _ _ _ hm
 obtain ⟨A0,c0,x0,rfl,Y,a0,w0⟩:=iu.tH (iu.slice Tryz.underlying22 (by kernel_rfl) (iu.int Tryz.underlying5)) (okWide_slice Tryz.underlying22 (hval 0 22 v0 rfl rfl)) h0
 clear M y z
 obtain ⟨k,hk⟩:=Pure.ou x0 w0
 refine (Pr.ah.calls k _ _ x0 true W a0 Y ⟨rfl⟩ hk).mono fun e W' ⟨he,bel⟩=>?_
 subst he
 exact ⟨_,rfl,_,_,_,[],_,[],hW',trodAll_mk1 (shut_bool Tryz.underlying4 _),(trodAll_cons_mk (Below.trod laidOut (by kernel_rfl) (of_decide_eq_true (by kernel_rfl)) k0 bel X) trodAll_mk0),rfl,bel.frame _,fun h=>by cases h⟩
theorem xe:Rows.fnPolynomialRow.holds Tryz.pinned (OpenSpec.ofChange Rows.fnPolynomialSpec) :=
 OpenClaim.holds_of_wide 5 Tryz.f5 rfl rfl rfl rfl rfl rfl rfl ⟨rfl,rfl,rfl,rfl,rfl⟩ rfl rfl rfl rfl rfl (by kernel_rfl) Tryz.func5 (by kernel_rfl)
  (of_decide_eq_true (by kernel_rfl)) (by unfold Func.isWrapper;first | (rw [if_pos (by decide +kernel)];kernel_rfl) | (rw [if_neg (by decide +kernel)];exact ⟨rfl,rfl⟩))
  (fun os started H enc _=>lifted os started H enc)
theorem proved:Rows.FnPolynomialSaid:=xe
#print axioms proved
end Go.Proofs.YtmpodackojmojaaGreat.lz
namespace Go.Proofs.YtmpodackojmojaaGreat
theorem fnPolynomial_holds:Rows.FnPolynomialSaid:=lz.proved
end Go.Proofs.YtmpodackojmojaaGreat
end
