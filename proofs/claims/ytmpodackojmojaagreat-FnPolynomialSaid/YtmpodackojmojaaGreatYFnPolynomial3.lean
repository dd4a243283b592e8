/- The claim FnPolynomial: every text that its row comes to, laid together by slim.py (the words of the kit's print, the printed walks, the pure law, the row). -/
import Derived.Test.YtmpodackojmojaaGreatYFnPolynomial2
section
namespace Go.Proofs.YtmpodackojmojaaGreat.Pr
open Go.RowKit Go.Proofs.ag.bl Go.Proofs.ag.cj Go.Proofs.ag.ck
attribute [local go_sem] j5 j6 jG jH iy iz j7 j8
set_option linter.unusedVariables false
set_option linter.unusedSimpArgs false
def cS.f (k:Nat) (M:List Int) (a9:Int) (aa:Int) (a1:Int):Option (Int×List Int×Int×Int):=(eC.f k M a9 aa a1).bind fun j=>((aM.f M j.2.2.1 j.2.2.2 10).bind fun y=>(if y.1 = 0 then ((cK.f M y.2.1 y.2.2 (([(-1),0,2,9]:List Int))).bind fun X=>(some (X.1,j.2.1,X.2.1,X.2.2))) else (if y.1 = 1 then ((gD.f M y.2.1 y.2.2).bind fun Y=>(if j.2.1.length < 17592186044416 then (some (j.1,(j.2.1 ++ [Y.1]),Y.2.1,Y.2.2)) else (none))) else (if y.1 = 2 then (if (j.2.1.length:Int) > 1 then ((aM.f M y.2.1 y.2.2 (j.2.1.length:Int)).bind fun z=>((some (([]:List Int):List Int)).bind fun a2=>(if 0≤z.1 then (if z.1≤(j.2.1.length:Int) then ((some (j.2.1.take (z.1:Int).toNat:List Int)).bind fun a3=>(if a2.length+a3.length < 17592186044416 then ((some (a2 ++ a3:List Int)).bind fun a4=>(if 0≤(wrap64 (z.1+1)) then (if (wrap64 (z.1+1))≤(j.2.1.length:Int) then ((some (j.2.1.drop ((wrap64 (z.1+1)):Int).toNat:List Int)).bind fun a5=>(if a4.length+a5.length < 17592186044416 then (some (j.1,(a4 ++ a5),z.2.1,z.2.2)) else (none))) else (none)) else (none))) else (none))) else (none)) else (none)))) else (some (j.1,j.2.1,y.2.1,y.2.2))) else (if y.1 = 3 then ((gW.f j.1 8).bind fun a6=>((dO.f 0 a6).bind fun a7=>((dw.f k M y.2.1 y.2.2 a7).bind fun a0=>((aC.f k a0.1).bind fun a8=>(some (j.1,a8,a0.2.1,a0.2.2)))))) else (some (j.1,j.2.1,y.2.1,y.2.2)))))))
def cS.T6:Bool×List (List Nat×List Nat):=(true,[([],[]),([0],[0]),([],[]),([2],[2]),([3],[3]),([1,4,3],[1,4]),([0,1,2,3,4,5],[]),([6,5,5,0,1,2,3,4,5],[5,6])])
def cS.B6:List Nat:=[0,1,0,4,12,31,63,127]
theorem cS.r7:gr .any (opsOf Tryz.f100 6) = cS.T6:=by kernel_rfl
theorem cS.nG:eL cS.T6.2 cS.B6 = true:=by kernel_rfl
def cS.wj:Bool×List (List Nat×List Nat):=(true,[([],[]),([],[]),([1],[1]),([],[]),([2,3],[2,3]),([0,4],[0,4]),([],[]),([6],[6]),([],[]),([8],[8]),([7,9],[7,9]),([5,10,5],[5,10]),([0,1,2,3,4,5,6,7,8,9,10,11],[]),([12,11,11,0,1,2,3,4,5,6,7,8,9,10,11],[11,12])])
def cS.wR:List Nat:=[0,0,2,0,14,31,0,64,0,256,960,2047,4095,8191]
theorem cS.qx:gr .any (opsOf Tryz.f100 10) = cS.wj:=by kernel_rfl
theorem cS.o6:eL cS.wj.2 cS.wR = true:=by kernel_rfl
set_option maxHeartbeats 8000000 in
set_option maxRecDepth 100000 in
theorem cS.calls (k:Nat) (g:Nat) (a4:List Int) (ba:Int) (bc:Int) (a1:Int) (r1:Int) (r2:List Int) (r3:Int) (r4:Int) (w0 w:World) (hI:av w0 w g a4 ba bc) (hB:Below w0.heap.size w0 w) (h:cS.f k a4 ba bc a1 = some (r1,r2,r3,r4)) :
  Calls Tryz.prog 100 #[.pointer (some ⟨g,0,none⟩),.int .i64 a1] w fun e w'=>∃ kl:Value,e = .returned (.agg #[.int .i64 r1,kl])∧Kd.R (Kd.int .i64) 3 w' w.heap.size (fun _=>True) kl r2∧av w0 w' g a4 r3 r4∧Below w0.heap.size w0 w'∧aq w w' g none:=by
 have tm:=Tryz.underlying30
 have aa:=ae.mk hI
 have HK:=ae.mk (aq.refl w g none)
 have HL:=ae.mk hB.size
 clear hI
 have dl:=ae.mk hB.size
 have HB:=ae.mk hB
 clear hB
 unfold cS.f at h
 have H:=h
 clear h
 obtain ⟨⟨a2,a0,a8,a9⟩,A3,H⟩:=af.be H
 (try dsimp only at H)
 obtain ⟨⟨ab,ar,aw⟩,A4,H⟩:=af.be H
 (try dsimp only at H)
 by_cases c5:ab = 0
 ·rw [if_pos c5] at H
  have km:(ab == 0) = true:=beq_iff_eq.mpr c5
  have kq:(ab != 0) = false:=bne_eq_false_iff_eq.mpr c5
  clear c5
  obtain ⟨es,e0⟩:∃ y_:List Int,y_ = (([(-1),0,2,9]:List Int)):=⟨_,rfl⟩
  replace H:((cK.f a4 ar aw es).bind fun e1=>(some (e1.1,a0,e1.2.1,e1.2.2))) = some (r1,r2,r3,r4):=by (try rw [e0]);exact af.Z
  have fi:=ae.mk e0
  clear e0
  obtain ⟨⟨e2,hu,hx⟩,A6,H⟩:=af.be H
  (try dsimp only at H)
  simp only [Option.some.injEq,Prod.mk.injEq] at H
  obtain ⟨rfl,rfl,rfl,rfl⟩:=H
  go_enter Tryz.func100,Tryz.ntmps100
  go_wp2_with (first | (refine af.bx 4 #[.int .i64 0,.slice none 0 0] 30 ?_;intro X hg w7 hbox hb;replace HB:=ae.mk (az (af.J HB) hb);have j:=ae.mk hbox;have d7:=ae.mk ((by rw [hg];exact (bj (w:=w) (g:=g) (row:=none) (af.K HK)):w.heap.size≤X));have d8:=ae.mk ((Nat.le_trans dl.out (by rw [hg];exact (bj (w:=w) (g:=g) (row:=none) (af.K HK)):w.heap.size≤X):w0.heap.size≤X));replace HK:=ae.mk (aq.trans (af.K HK) (aq.cW hb g none) (.inl rfl));have ao:=ae.mk ((by rw [hg];exact Nat.ne_of_lt (av.lt (show av w0 _ g a4 ba bc from af.I)):g≠X));have a3:=ae.mk ((by rw [hg];exact Nat.ne_of_gt (av.lt (show av w0 _ g a4 ba bc from af.I)):X≠g));replace aa:=ae.mk (av.below af.I hb);clear hb hbox hg) | (refine af.gl (some 9) Tryz.func139 #[.pointer (some ⟨g,0,none⟩),.int .i64 a1] ?_;(with_reducible refine (eC.calls k g a4 ba bc a1 a2 a0 a8 a9 w0 _ ?side1 ?side2 A3.out).mono ?_);(case side1=>exact af.I);(case side2=>exact af.J HB);rintro e w8 ⟨dt,rfl,ca,hi,hb,hk⟩;refine ⟨_,rfl,?_⟩;replace j:=ae.mk (aq.blk hk (g':=X) (o:=.cells #[.int .i64 0,.slice none 0 0] 30 (0,0)) (af.Bw j.out) a3.out (by simp));have z:=ae.mk (Kd.b9 ca (bj (w:=w) (g:=g) (row:=none) (af.K HK)));replace HK:=ae.mk (aq.trans (af.K HK) hk (.inl rfl));replace HB:=ae.mk hb;replace aa:=ae.mk hi;(try clear hb);(try clear d2);(try clear hk);(try clear hi);(try clear ca)) | (refine af.bx 5 #[.int .i64 0,.slice none 0 0] 30 ?_;intro Y hg w9 hbox hb;have aB:=af.rb z hb;have b0:=ae.mk (av.below af.I hb);have b1:=af.bb j hb;have b2:=ae.mk (aq.trans (af.K HK) (aq.cW hb g none) (.inl rfl));have b3:=ae.mk (az (af.J HB) hb);have b4:=ae.mk hbox;have ci:=ae.mk ((by rw [hg];exact (bj (w:=w) (g:=g) (row:=none) (af.K HK)):w.heap.size≤Y));have cp:=ae.mk ((Nat.le_trans dl.out (by rw [hg];exact (bj (w:=w) (g:=g) (row:=none) (af.K HK)):w.heap.size≤Y):w0.heap.size≤Y));have cx:=af.nl hg j;have cy:=af.ng hg j;have cb:=ae.mk ((by rw [hg];exact Nat.ne_of_lt (av.lt (show av w0 _ g a4 a8 a9 from af.I)):g≠Y));have cc:=ae.mk ((by rw [hg];exact Nat.ne_of_gt (av.lt (show av w0 _ g a4 a8 a9 from af.I)):Y≠g));clear z;clear aa;clear j;clear HK;clear HB;have z:=aB;have aa:=b0;have j:=b1;have HK:=b2;have HB:=b3;have y:=b4;have d9:=ci;have db:=cp;have a6:=cx;have a7:=cy;have ap:=cb;have a5:=cc;clear aB b0 b1 b2 b3 b4 ci cp cx cy cb cc;clear hb hbox hg;have q9:=a7.out;have qr:=a6.out;have qs:=a5.out;have r0:=ap.out;obtain ⟨ks,kt,kv,kw⟩:=af.bR y.out;obtain ⟨el,em,ky⟩:=Kd.aY z.out;subst ky) | (refine af.gl (some 11) Tryz.func80 #[.pointer (some ⟨g,0,none⟩),.int .i64 10] ?_;(with_reducible refine (aM.calls g a4 a8 a9 10 ab ar aw w0 _ ?side1 ?side2 A4.out).mono ?_);(case side1=>exact af.I);(case side2=>exact af.J HB);rintro e ub ⟨rfl,hi,hb,hk⟩;refine ⟨_,rfl,?_⟩;replace j:=ae.mk (aq.blk hk (g':=X) (o:=.cells #[.int .i64 0,.slice none 0 0] 30 (0,0)) af.B a3.out (by simp));replace z:=ae.mk (Kd.aX (Kd.fR (av.apart (show av w0 _ g a4 a8 a9 from af.I) (af.Rw ((Kd.aX (Kd.cI (p:=⟨Y,1,none⟩) (Kd.cI (p:=⟨Y,0,none⟩) (Kd.cR z.out y.out (by decide)) (fun _ hk=>hk.2) (.int .i64 a2)) (fun _ hk=>hk.2) (.slice el a0.length em)) (fun _ h_=>h_.1)))) (by decide)) hk (fun _ h=>h.2)) (fun _ h=>h.1));replace y:=ae.mk (aq.blk hk (g':=Y) (o:=.cells #[.int .i64 a2,.slice el a0.length em] 30 (0,0)) af.B a5.out (by simp));replace HK:=ae.mk (aq.trans (af.K HK) hk (.inl rfl));replace HB:=ae.mk hb;replace aa:=ae.mk hi;(try clear hb);(try clear d2);(try clear hk);(try clear hi)) | ((with_reducible refine bJ (N:=15) rfl ?_);refine Kd.iY (Kd.int .i64) _ 3 ?hg (N:=15) ?hd (xs:=([(-1),0,2,9]:List Int)) (inner:=[.int .i64 (-1),.int .i64 0,.int .i64 2,.int .i64 9]) (ok:=fun _=>True) (okp:=fun _=>True) ?hr ?hp (fun _ hk=>hk) trivial (Below.refl _ _) (Nat.le_refl _) (by simp) ?_;(case hd=>rfl);(case hg=>rfl);(case hr=>first | (go_simp;done) | (go_simp;rfl));(case hp=>exact (cE.one (show Kd.M (Kd.int .i64) _ _ _ (-1) [.int .i64 (-1)] from rfl) (cE.one (show Kd.M (Kd.int .i64) _ _ _ 0 [.int .i64 0] from rfl) (cE.one (show Kd.M (Kd.int .i64) _ _ _ 2 [.int .i64 2] from rfl) (cE.one (show Kd.M (Kd.int .i64) _ _ _ 9 [.int .i64 9] from rfl) (cE.none _ _))))));intro ra ui dE hb hz et;clear hz et;(first | rw [← fi.out] at dE | (simp only [Int.reduceToNat] at dE;rw [← fi.out] at dE));have cX:=ae.mk (Kd.b9 (Kd.dc dE (Kd.cD (af.Rw z.out))) (bj (w:=w) (g:=g) (row:=none) (af.K HK)));replace z:=ae.mk (Kd.cm (af.Rw z.out) (Kd.bF dE) hb);replace j:=af.bb j hb;replace y:=af.bb y hb;replace HK:=ae.mk (aq.trans (af.K HK) (aq.cW hb g none) (.inl rfl));replace HB:=ae.mk (az (af.J HB) hb);replace aa:=ae.mk (av.below af.I hb);clear hb dE;obtain ⟨la,lc,le⟩:=Kd.aY cX.out;subst le) | (refine af.gl (some 16) Tryz.func119 #[.pointer (some ⟨g,0,none⟩),.slice la es.length lc] ?_;(with_reducible refine (cK.calls g a4 ar aw _ _ es e2 hu hx w0 _ ?side1 ?side2 ?side3 ?side4 ?side5 A6.out).mono ?_);(case side1=>exact af.I);(case side2=>exact af.J HB);(case side3=>exact af.Cw ((Kd.au cX.out).2.2));(case side4=>exact (Kd.au cX.out).2.1);(case side5=>exact js (av.hJ aa.out cX.out (by decide)));rintro e ul ⟨rfl,hi,hb,hk⟩;refine ⟨_,rfl,?_⟩;replace j:=ae.mk (aq.blk hk (g':=X) (o:=.cells #[.int .i64 0,.slice none 0 0] 30 (0,0)) (af.Bw j.out) a3.out (by simp));replace z:=ae.mk (Kd.aX (Kd.fR (av.apart (show av w0 _ g a4 ar aw from af.I) (af.Rw z.out) (by decide)) hk (fun _ h=>h.2)) (fun _ h=>h.1));replace y:=ae.mk (aq.blk hk (g':=Y) (o:=.cells #[.int .i64 a2,.slice el a0.length em] 30 (0,0)) (af.Bw y.out) a5.out (by simp));replace cX:=ae.mk (Kd.aX (Kd.fR (av.apart (show av w0 _ g a4 ar aw from af.I) (af.Rw cX.out) (by decide)) hk (fun _ h=>h.2)) (fun _ h=>h.1));replace HK:=ae.mk (aq.trans (af.K HK) hk (.inl rfl));replace HB:=ae.mk hb;replace aa:=ae.mk hi;(try clear hb);(try clear d2);(try clear hk);(try clear hi);obtain ⟨lf,lh,li,lj⟩:=af.bR y.out;have rc:=a3.out;have re:=ao.out;obtain ⟨lk,ll,lm,ln⟩:=af.bR j.out))
  refine bodyPost_ret (results_cell_row rfl _ _ X 30 #[.int .i64 e2,.slice el a0.length em] (0,0) _ rfl af.B Tryz.underlying30 rfl (by kernel_rfl)) rfl ?_
  exact ⟨_,af.E,by (with_reducible repeat (first | apply Kd.cL | apply Kd.cM | apply Kd.bS));exact Kd.aX (Kd.cI (p:=⟨X,1,none⟩) (Kd.cI (p:=⟨X,0,none⟩) (Kd.cI (p:=⟨Y,0,none⟩) (Kd.cR (Kd.cR z.out y.out (by decide)) j.out (by decide)) (fun _ hk=>hk.1.2) (.int .i64 e2)) (fun _ hk=>hk.2) (.int .i64 e2)) (fun _ hk=>hk.2) (.slice el a0.length em)) (fun _ hk=>trivial),af.I,af.J HB,af.K HK⟩
 ·rw [if_neg c5] at H
  have km:(ab == 0) = false:=beq_eq_false_iff_ne.mpr c5
  have kq:(ab != 0) = true:=bne_iff_ne.mpr c5
  by_cases ev:ab = 1
  ·rw [if_pos ev] at H
   have hA:(ab == 1) = true:=beq_iff_eq.mpr ev
   have hC:(ab != 1) = false:=bne_eq_false_iff_eq.mpr ev
   clear ev
   obtain ⟨⟨e3,fY,g0⟩,rg,H⟩:=af.be H
   (try dsimp only at H)
   obtain ⟨lo,H⟩:=af.ip H
   have hD:=ae.mk lo
   clear lo
   obtain ⟨e4,e8⟩:∃ y_:List Int,y_ = (a0 ++ [e3]):=⟨_,rfl⟩
   replace H:(some (a2,e4,fY,g0)) = some (r1,r2,r3,r4):=by (try rw [e8]);exact af.Z
   have gs:=ae.mk e8
   clear e8
   simp only [Option.some.injEq,Prod.mk.injEq] at H
   obtain ⟨rfl,rfl,rfl,rfl⟩:=H
   go_enter Tryz.func100,Tryz.ntmps100
   try go_wp2_with (first | (refine af.bx 4 #[.int .i64 0,.slice none 0 0] 30 ?_;intro X hg un hbox hb;replace HB:=ae.mk (az (af.J HB) hb);have j:=ae.mk hbox;have d7:=ae.mk ((by rw [hg];exact (bj (w:=w) (g:=g) (row:=none) (af.K HK)):w.heap.size≤X));have d8:=ae.mk ((Nat.le_trans dl.out (by rw [hg];exact (bj (w:=w) (g:=g) (row:=none) (af.K HK)):w.heap.size≤X):w0.heap.size≤X));replace HK:=ae.mk (aq.trans (af.K HK) (aq.cW hb g none) (.inl rfl));have ao:=ae.mk ((by rw [hg];exact Nat.ne_of_lt (av.lt (show av w0 _ g a4 ba bc from af.I)):g≠X));have a3:=ae.mk ((by rw [hg];exact Nat.ne_of_gt (av.lt (show av w0 _ g a4 ba bc from af.I)):X≠g));replace aa:=ae.mk (av.below af.I hb);clear hb hbox hg) | (refine af.gl (some 9) Tryz.func139 #[.pointer (some ⟨g,0,none⟩),.int .i64 a1] ?_;(with_reducible refine (eC.calls k g a4 ba bc a1 a2 a0 a8 a9 w0 _ ?side1 ?side2 A3.out).mono ?_);(case side1=>exact af.I);(case side2=>exact af.J HB);rintro e up ⟨dt,rfl,ca,hi,hb,hk⟩;refine ⟨_,rfl,?_⟩;replace j:=ae.mk (aq.blk hk (g':=X) (o:=.cells #[.int .i64 0,.slice none 0 0] 30 (0,0)) (af.Bw j.out) a3.out (by simp));have z:=ae.mk (Kd.b9 ca (bj (w:=w) (g:=g) (row:=none) (af.K HK)));replace HK:=ae.mk (aq.trans (af.K HK) hk (.inl rfl));replace HB:=ae.mk hb;replace aa:=ae.mk hi;(try clear hb);(try clear d2);(try clear hk);(try clear hi);(try clear ca)) | (refine af.bx 5 #[.int .i64 0,.slice none 0 0] 30 ?_;intro Y hg us hbox hb;have aB:=af.rb z hb;have b0:=ae.mk (av.below af.I hb);have b1:=af.bb j hb;have b2:=ae.mk (aq.trans (af.K HK) (aq.cW hb g none) (.inl rfl));have b3:=ae.mk (az (af.J HB) hb);have b4:=ae.mk hbox;have ci:=ae.mk ((by rw [hg];exact (bj (w:=w) (g:=g) (row:=none) (af.K HK)):w.heap.size≤Y));have cp:=ae.mk ((Nat.le_trans dl.out (by rw [hg];exact (bj (w:=w) (g:=g) (row:=none) (af.K HK)):w.heap.size≤Y):w0.heap.size≤Y));have cx:=af.nl hg j;have cy:=af.ng hg j;have cb:=ae.mk ((by rw [hg];exact Nat.ne_of_lt (av.lt (show av w0 _ g a4 a8 a9 from af.I)):g≠Y));have cc:=ae.mk ((by rw [hg];exact Nat.ne_of_gt (av.lt (show av w0 _ g a4 a8 a9 from af.I)):Y≠g));clear z;clear aa;clear j;clear HK;clear HB;have z:=aB;have aa:=b0;have j:=b1;have HK:=b2;have HB:=b3;have y:=b4;have d9:=ci;have db:=cp;have a6:=cx;have a7:=cy;have ap:=cb;have a5:=cc;clear aB b0 b1 b2 b3 b4 ci cp cx cy cb cc;clear hb hbox hg;have rk:=a7.out;have rl:=a6.out;have rm:=a5.out;have rn:=ap.out;obtain ⟨lr,ls,lv,lw⟩:=af.bR y.out;obtain ⟨du,dv,lx⟩:=Kd.aY z.out;subst lx) | (refine af.gl (some 11) Tryz.func80 #[.pointer (some ⟨g,0,none⟩),.int .i64 10] ?_;(with_reducible refine (aM.calls g a4 a8 a9 10 ab ar aw w0 _ ?side1 ?side2 A4.out).mono ?_);(case side1=>exact af.I);(case side2=>exact af.J HB);rintro e ro ⟨rfl,hi,hb,hk⟩;refine ⟨_,rfl,?_⟩;replace j:=ae.mk (aq.blk hk (g':=X) (o:=.cells #[.int .i64 0,.slice none 0 0] 30 (0,0)) af.B a3.out (by simp));replace z:=ae.mk (Kd.aX (Kd.fR (av.apart (show av w0 _ g a4 a8 a9 from af.I) (af.Rw ((Kd.aX (Kd.cI (p:=⟨Y,1,none⟩) (Kd.cI (p:=⟨Y,0,none⟩) (Kd.cR z.out y.out (by decide)) (fun _ hk=>hk.2) (.int .i64 a2)) (fun _ hk=>hk.2) (.slice du a0.length dv)) (fun _ h_=>h_.1)))) (by decide)) hk (fun _ h=>h.2)) (fun _ h=>h.1));replace y:=ae.mk (aq.blk hk (g':=Y) (o:=.cells #[.int .i64 a2,.slice du a0.length dv] 30 (0,0)) af.B a5.out (by simp));replace HK:=ae.mk (aq.trans (af.K HK) hk (.inl rfl));replace HB:=ae.mk hb;replace aa:=ae.mk hi;(try clear hb);(try clear d2);(try clear hk);(try clear hi)))
   replace z:=ae.mk (Kd.bS z.out)
   replace j:=ae.mk (dZ j.out)
   replace y:=ae.mk (dZ y.out)
   replace aa:=ae.mk (av.drew aa.out)
   replace HK:=ae.mk (lE HK.out)
   replace HB:=ae.mk (bU HB.out)
   refine eS (n:=8) (S:=fun w'=>w'.cell? ⟨Y,0,none⟩ = some (.int .i64 a2)∧w'.cell? ⟨Y,1,none⟩ = some (.slice du a0.length dv)) (ds:=[7]) #[false,false,false,false,false,false,false,false] (by kernel_rfl) rfl rfl ⟨(ak y.out 0).trans rfl,(ak y.out 1).trans rfl⟩ (fun hHeld=>?_);refine dn cS.r7 cS.nG (fun cf gt=>?_)
   generalize ro.drew = ut at z j y aa HK HB hHeld ⊢
   refine af.pu 0 20 cf ?_
   refine af.pu 2 22 cf ?_
   refine af.tk 1 21 cf gt hHeld ?_
   refine gA (i:=3) (N:=some 23) #[true,true,true,true,false,false,false,false] rfl rfl (dD cf.out (by kernel_rfl)) (by decide) (fun K hK=>?_)
   refine iZ Tryz.func90 (by kernel_rfl) rfl #[.pointer (some ⟨g,0,none⟩)] (by rfl) rfl rfl (by (try simp only [List.map_toArray,List.map_cons,List.map_nil]);first | done | rfl) ?_
   with_reducible refine (gD.calls g a4 ar aw e3 fY g0 w0 _ ?side1 ?side2 rg.out).mono ?_
   (case side1=>exact af.I)
   (case side2=>exact af.J HB)
   rintro e v0 ⟨rfl,hi,hb,hk⟩
   refine ⟨_,rfl,?_⟩
   replace j:=ae.mk (aq.blk hk (g':=X) (o:=.cells #[.int .i64 0,.slice none 0 0] 30 (0,0)) (af.Bw j.out) a3.out (by simp))
   replace z:=ae.mk (Kd.aX (Kd.fR (av.apart (show av w0 _ g a4 ar aw from af.I) (af.Rw z.out) (by decide)) hk (fun _ h=>h.2)) (fun _ h=>h.1))
   replace y:=ae.mk (aq.blk hk (g':=Y) (o:=.cells #[.int .i64 a2,.slice du a0.length dv] 30 (0,0)) (af.Bw y.out) a5.out (by simp))
   replace HK:=ae.mk (aq.trans (af.K HK) hk (.inl rfl))
   replace HB:=ae.mk hb
   replace aa:=ae.mk hi
   (try clear hb)
   (try clear d2)
   (try clear hk)
   (try clear hi)
   refine hK.out _ _ ⟨(ak y.out 0).trans rfl,(ak y.out 1).trans rfl⟩ (fun hHeld=>?_)
   clear hK K
   refine eV (a':=?_) ?_ ?_
   rotate_left
   ·show Act.put _ (some 23) _ = _
    simp only [Act.put,List.setIfInBounds_toArray,List.set_cons_zero,List.set_cons_succ,bw,bW]
    rfl
   refine gA (i:=4) (N:=some 24) #[true,true,true,true,true,false,false,false] rfl rfl (dD cf.out (by kernel_rfl)) (by decide) (fun K hK=>?_)
   refine kK (w1:=?_) (v:=?_) (by rfl) rfl ?_ ?_
   rotate_left 2
   ·go_simp
    constructor
    ·rfl
    ·rfl
   refine hK.out _ _ ⟨(ak (gg y.out _) 0).trans rfl,(ak (gg y.out _) 1).trans rfl⟩ (fun hHeld=>?_)
   clear hK K
   refine eV (a':=?_) ?_ ?_
   rotate_left
   ·show Act.put _ (some 24) _ = _
    simp only [Act.put,List.setIfInBounds_toArray,List.set_cons_zero,List.set_cons_succ,bw,bW]
    rfl
   refine gA (i:=5) (N:=some 25) #[true,true,true,true,true,true,false,false] rfl rfl (dD cf.out (by kernel_rfl)) (by decide) (fun K hK=>?_)
   refine Kd.fS (Kd.int .i64) w.heap.size (by rfl) (.tmp 21) (.tmp 24) 28 3 (.int .i64 0) 8 rfl Tryz.underlying28 eJ rfl (by decide) (by omega) (.slice du a0.length dv) a0 e3 [.int .i64 e3] (fun _=>True) (fun _=>False) rfl rfl ?aP (fun _ hk=>hk.elim) ?aF ?aO (Below.refl _ _) ?aS ?aL ?_
   (case aP=>exact rfl)
   (case aF=>exact (fun _ _=>trivial))
   (case aO=>exact (af.Rw z.out))
   (case aS=>exact (bj (w:=w) (g:=g) (row:=none) (af.K HK)))
   (case aL=>have:=hD.out;omega)
   intro rp rr ho hb hg hat
   rw [← gs.out] at ho
   have aB:=ae.mk (av.grown af.I hg (av.hJ aa.out z.out (by decide)))
   have b0:=ae.mk (ep (g:=X) (o:=.cells #[.int .i64 0,.slice none 0 0] 30 (0,0)) (af.Bw j.out) hg (Kd.jr z.out j.out (by decide)))
   have b1:=ae.mk (ep (g:=Y) (o:=.cells #[.int .i64 a2,.slice du a0.length dv] 30 (0,0)) (af.Bw y.out) hg (Kd.jr z.out y.out (by decide)))
   have b2:=ae.mk (gu (af.J HB) HL.out hb)
   have b3:=ae.mk (aq.trans (af.K HK) (aq.ia hg g) (Kd.jF z.out))
   have b4:=ae.mk ho
   clear aa
   clear j
   clear y
   clear HB
   clear HK
   clear z
   have aa:=aB
   have j:=b0
   have y:=b1
   have HB:=b2
   have HK:=b3
   have fj:=b4
   clear aB b0 b1 b2 b3 b4
   clear ho hb hg hat
   obtain ⟨g1,g2,h9⟩:=Kd.aY fj.out
   (first | subst h9 | (injection h9 with g3 hE g4;have hG:=g3.symm;have hH:=g4.symm;clear g3 hE g4;subst hG;subst hH))
   refine hK.out _ _ ⟨(ak y.out 0).trans rfl,(ak y.out 1).trans rfl⟩ (fun hHeld=>?_)
   clear hK K
   refine eV (a':=?_) ?_ ?_
   rotate_left
   ·show Act.put _ (some 25) _ = _
    simp only [Act.put,List.setIfInBounds_toArray,List.set_cons_zero,List.set_cons_succ,bw,bW]
    rfl
   refine af.pu 6 26 cf ?_
   refine lY (i:=7) (N:=none) #[true,true,true,true,true,true,true,true] rfl rfl (dD cf.out (by kernel_rfl)) (by decide) (fun K hK=>?_)
   have tp:rr.cell? ⟨Y,1,none⟩ = some (.slice du a0.length dv):=(ak y.out 1).trans rfl
   have rt:=an y.out 1
   have ly:=a6.out
   have lL:=a7.out
   refine mL (w1:=?_) (by rfl) rfl ?_ ?_
   rotate_left
   ·go_simp
    rfl
   refine hK.out _ _ ?_
   clear hK K
   refine gh (er cf.out (by kernel_rfl)) ?_
   obtain ⟨lN,m0,m1,m2⟩:=af.bR y.out
   have rv:=a3.out
   have rx:=ao.out
   obtain ⟨m3,m4,m5,m6⟩:=af.bR j.out
   try go_wp2
   refine bodyPost_ret (results_cell_row rfl _ _ X 30 #[.int .i64 a2,.slice g1 e4.length g2] (0,0) _ rfl af.B Tryz.underlying30 rfl (by kernel_rfl)) rfl ?_
   exact ⟨_,af.E,by (with_reducible repeat (first | apply Kd.cL | apply Kd.cM | apply Kd.bS));exact Kd.aX (Kd.cI (p:=⟨X,1,none⟩) (Kd.cI (p:=⟨X,0,none⟩) (Kd.cI (p:=⟨Y,1,none⟩) (Kd.cR (Kd.cR fj.out y.out (by decide)) j.out (by decide)) (fun _ hk=>hk.1.2) (.slice g1 e4.length g2)) (fun _ hk=>hk.2) (.int .i64 a2)) (fun _ hk=>hk.2) (.slice g1 e4.length g2)) (fun _ hk=>trivial),af.I,af.J HB,af.K HK⟩
  ·rw [if_neg ev] at H
   have hA:(ab == 1) = false:=beq_eq_false_iff_ne.mpr ev
   have hC:(ab != 1) = true:=bne_iff_ne.mpr ev
   by_cases ew:ab = 2
   ·rw [if_pos ew] at H
    have hL:(ab == 2) = true:=beq_iff_eq.mpr ew
    have hM:(ab != 2) = false:=bne_eq_false_iff_eq.mpr ew
    clear ew
    by_cases fX:(a0.length:Int) > 1
    ·rw [if_pos fX] at H
     have hO:=decide_eq_true fX
     have hP:decide (1 < a0.length) = true:=decide_eq_true (by omega)
     clear fX
     obtain ⟨⟨al,d3,d4⟩,m7,H⟩:=af.be H
     (try dsimp only at H)
     obtain ⟨dk,ea⟩:∃ y_:List Int,y_ = (([]:List Int)):=⟨_,rfl⟩
     replace H:(if 0≤al then (if al≤(a0.length:Int) then ((some (a0.take (al:Int).toNat:List Int)).bind fun bo=>(if dk.length+bo.length < 17592186044416 then ((some (dk ++ bo:List Int)).bind fun bd=>(if 0≤(wrap64 (al+1)) then (if (wrap64 (al+1))≤(a0.length:Int) then ((some (a0.drop ((wrap64 (al+1)):Int).toNat:List Int)).bind fun am=>(if bd.length+am.length < 17592186044416 then (some (a2,(bd ++ am),d3,d4)) else (none))) else (none)) else (none))) else (none))) else (none)) else (none)) = some (r1,r2,r3,r4):=by (try rw [ea]);exact af.Z
     have fl:=ae.mk ea
     clear ea
     obtain ⟨hR,H⟩:=af.ip H
     have s0:=eq_true hR
     have s1:decide (0≤al) = true:=decide_eq_true hR
     clear hR
     obtain ⟨hT,H⟩:=af.ip H
     have s2:=eq_true hT
     have s3:decide (al≤(a0.length:Int)) = true:=decide_eq_true hT
     clear hT
     obtain ⟨bo,eb⟩:∃ y_:List Int,y_ = (a0.take (al:Int).toNat):=⟨_,rfl⟩
     replace H:(if dk.length+bo.length < 17592186044416 then ((some (dk ++ bo:List Int)).bind fun bd=>(if 0≤(wrap64 (al+1)) then (if (wrap64 (al+1))≤(a0.length:Int) then ((some (a0.drop ((wrap64 (al+1)):Int).toNat:List Int)).bind fun am=>(if bd.length+am.length < 17592186044416 then (some (a2,(bd ++ am),d3,d4)) else (none))) else (none)) else (none))) else (none)) = some (r1,r2,r3,r4):=by (try rw [eb]);exact af.Z
     have dp:=ae.mk eb
     clear eb
     obtain ⟨m8,H⟩:=af.ip H
     have hU:=ae.mk m8
     clear m8
     obtain ⟨bd,ec⟩:∃ y_:List Int,y_ = (dk ++ bo):=⟨_,rfl⟩
     replace H:(if 0≤(wrap64 (al+1)) then (if (wrap64 (al+1))≤(a0.length:Int) then ((some (a0.drop ((wrap64 (al+1)):Int).toNat:List Int)).bind fun am=>(if bd.length+am.length < 17592186044416 then (some (a2,(bd ++ am),d3,d4)) else (none))) else (none)) else (none)) = some (r1,r2,r3,r4):=by (try rw [ec]);exact af.Z
     have h0:=ae.mk ec
     clear ec
     obtain ⟨bi,d5⟩:∃ j_:Int,(wrap64 (al+1)) = j_:=⟨_,rfl⟩
     replace H:(if 0≤(bi) then (if (bi)≤(a0.length:Int) then ((some (a0.drop ((bi):Int).toNat:List Int)).bind fun am=>(if bd.length+am.length < 17592186044416 then (some (a2,(bd ++ am),d3,d4)) else (none))) else (none)) else (none)) = some (r1,r2,r3,r4):=by first | (rw [d5] at H;exact H) | (simp only [d5] at H ⊢;exact H)
     (try rw [d5] at A3)
     (try rw [d5] at A4)
     (try rw [d5] at m7)
     have ps:(IntKind.i64.wrap (al+1)) = bi:=(bw _).trans d5
     obtain ⟨hV,H⟩:=af.ip H
     have sa:=eq_true hV
     have sb:decide (0≤(bi)) = true:=decide_eq_true hV
     clear hV
     obtain ⟨hW,H⟩:=af.ip H
     have sc:=eq_true hW
     have sd:decide ((bi)≤(a0.length:Int)) = true:=decide_eq_true hW
     clear hW
     obtain ⟨am,ed⟩:∃ y_:List Int,y_ = (a0.drop ((bi):Int).toNat):=⟨_,rfl⟩
     replace H:(if bd.length+am.length < 17592186044416 then (some (a2,(bd ++ am),d3,d4)) else (none)) = some (r1,r2,r3,r4):=by (try rw [ed]);exact af.Z
     have dq:=ae.mk ed
     clear ed
     obtain ⟨m9,H⟩:=af.ip H
     have hX:=ae.mk m9
     clear m9
     obtain ⟨ee,ef⟩:∃ y_:List Int,y_ = (bd ++ am):=⟨_,rfl⟩
     replace H:(some (a2,ee,d3,d4)) = some (r1,r2,r3,r4):=by (try rw [ef]);exact af.Z
     have h6:=ae.mk ef
     clear ef
     simp only [Option.some.injEq,Prod.mk.injEq] at H
     obtain ⟨rfl,rfl,rfl,rfl⟩:=H
     go_enter Tryz.func100,Tryz.ntmps100
     try go_wp2_with (first | (refine af.bx 4 #[.int .i64 0,.slice none 0 0] 30 ?_;intro X hg v2 hbox hb;replace HB:=ae.mk (az (af.J HB) hb);have j:=ae.mk hbox;have d7:=ae.mk ((by rw [hg];exact (bj (w:=w) (g:=g) (row:=none) (af.K HK)):w.heap.size≤X));have d8:=ae.mk ((Nat.le_trans dl.out (by rw [hg];exact (bj (w:=w) (g:=g) (row:=none) (af.K HK)):w.heap.size≤X):w0.heap.size≤X));replace HK:=ae.mk (aq.trans (af.K HK) (aq.cW hb g none) (.inl rfl));have ao:=ae.mk ((by rw [hg];exact Nat.ne_of_lt (av.lt (show av w0 _ g a4 ba bc from af.I)):g≠X));have a3:=ae.mk ((by rw [hg];exact Nat.ne_of_gt (av.lt (show av w0 _ g a4 ba bc from af.I)):X≠g));replace aa:=ae.mk (av.below af.I hb);clear hb hbox hg) | (refine af.gl (some 9) Tryz.func139 #[.pointer (some ⟨g,0,none⟩),.int .i64 a1] ?_;(with_reducible refine (eC.calls k g a4 ba bc a1 a2 a0 a8 a9 w0 _ ?side1 ?side2 A3.out).mono ?_);(case side1=>exact af.I);(case side2=>exact af.J HB);rintro e v3 ⟨dt,rfl,ca,hi,hb,hk⟩;refine ⟨_,rfl,?_⟩;replace j:=ae.mk (aq.blk hk (g':=X) (o:=.cells #[.int .i64 0,.slice none 0 0] 30 (0,0)) (af.Bw j.out) a3.out (by simp));have z:=ae.mk (Kd.b9 ca (bj (w:=w) (g:=g) (row:=none) (af.K HK)));replace HK:=ae.mk (aq.trans (af.K HK) hk (.inl rfl));replace HB:=ae.mk hb;replace aa:=ae.mk hi;(try clear hb);(try clear d2);(try clear hk);(try clear hi);(try clear ca)) | (refine af.bx 5 #[.int .i64 0,.slice none 0 0] 30 ?_;intro Y hg v4 hbox hb;have aB:=af.rb z hb;have b0:=ae.mk (av.below af.I hb);have b1:=af.bb j hb;have b2:=ae.mk (aq.trans (af.K HK) (aq.cW hb g none) (.inl rfl));have b3:=ae.mk (az (af.J HB) hb);have b4:=ae.mk hbox;have ci:=ae.mk ((by rw [hg];exact (bj (w:=w) (g:=g) (row:=none) (af.K HK)):w.heap.size≤Y));have cp:=ae.mk ((Nat.le_trans dl.out (by rw [hg];exact (bj (w:=w) (g:=g) (row:=none) (af.K HK)):w.heap.size≤Y):w0.heap.size≤Y));have cx:=af.nl hg j;have cy:=af.ng hg j;have cb:=ae.mk ((by rw [hg];exact Nat.ne_of_lt (av.lt (show av w0 _ g a4 a8 a9 from af.I)):g≠Y));have cc:=ae.mk ((by rw [hg];exact Nat.ne_of_gt (av.lt (show av w0 _ g a4 a8 a9 from af.I)):Y≠g));clear z;clear aa;clear j;clear HK;clear HB;have z:=aB;have aa:=b0;have j:=b1;have HK:=b2;have HB:=b3;have y:=b4;have d9:=ci;have db:=cp;have a6:=cx;have a7:=cy;have ap:=cb;have a5:=cc;clear aB b0 b1 b2 b3 b4 ci cp cx cy cb cc;clear hb hbox hg;have se:=a7.out;have sf:=a6.out;have sh:=a5.out;have sl:=ap.out;obtain ⟨ma,mf,mi,ml⟩:=af.bR y.out;obtain ⟨cd,bm,mn⟩:=Kd.aY z.out;subst mn) | (refine af.gl (some 11) Tryz.func80 #[.pointer (some ⟨g,0,none⟩),.int .i64 10] ?_;(with_reducible refine (aM.calls g a4 a8 a9 10 ab ar aw w0 _ ?side1 ?side2 A4.out).mono ?_);(case side1=>exact af.I);(case side2=>exact af.J HB);rintro e v5 ⟨rfl,hi,hb,hk⟩;refine ⟨_,rfl,?_⟩;replace j:=ae.mk (aq.blk hk (g':=X) (o:=.cells #[.int .i64 0,.slice none 0 0] 30 (0,0)) af.B a3.out (by simp));replace z:=ae.mk (Kd.aX (Kd.fR (av.apart (show av w0 _ g a4 a8 a9 from af.I) (af.Rw ((Kd.aX (Kd.cI (p:=⟨Y,1,none⟩) (Kd.cI (p:=⟨Y,0,none⟩) (Kd.cR z.out y.out (by decide)) (fun _ hk=>hk.2) (.int .i64 a2)) (fun _ hk=>hk.2) (.slice cd a0.length bm)) (fun _ h_=>h_.1)))) (by decide)) hk (fun _ h=>h.2)) (fun _ h=>h.1));replace y:=ae.mk (aq.blk hk (g':=Y) (o:=.cells #[.int .i64 a2,.slice cd a0.length bm] 30 (0,0)) af.B a5.out (by simp));replace HK:=ae.mk (aq.trans (af.K HK) hk (.inl rfl));replace HB:=ae.mk hb;replace aa:=ae.mk hi;(try clear hb);(try clear d2);(try clear hk);(try clear hi);obtain ⟨mr,ms,mv,n0⟩:=af.bR y.out) | (refine af.gl (some 37) Tryz.func80 #[.pointer (some ⟨g,0,none⟩),.int .i64 (a0.length:Int)] ?_;(with_reducible refine (aM.calls g a4 ar aw (a0.length:Int) al d3 d4 w0 _ ?side1 ?side2 m7.out).mono ?_);(case side1=>exact af.I);(case side2=>exact af.J HB);rintro e sm ⟨rfl,hi,hb,hk⟩;refine ⟨_,rfl,?_⟩;replace j:=ae.mk (aq.blk hk (g':=X) (o:=.cells #[.int .i64 0,.slice none 0 0] 30 (0,0)) (af.Bw j.out) a3.out (by simp));replace z:=ae.mk (Kd.aX (Kd.fR (av.apart (show av w0 _ g a4 ar aw from af.I) (af.Rw z.out) (by decide)) hk (fun _ h=>h.2)) (fun _ h=>h.1));replace y:=ae.mk (aq.blk hk (g':=Y) (o:=.cells #[.int .i64 a2,.slice cd a0.length bm] 30 (0,0)) (af.Bw y.out) a5.out (by simp));replace HK:=ae.mk (aq.trans (af.K HK) hk (.inl rfl));replace HB:=ae.mk hb;replace aa:=ae.mk hi;(try clear hb);(try clear d2);(try clear hk);(try clear hi)))
     replace z:=ae.mk (Kd.bS z.out)
     replace j:=ae.mk (dZ j.out)
     replace y:=ae.mk (dZ y.out)
     replace aa:=ae.mk (av.drew aa.out)
     replace HK:=ae.mk (lE HK.out)
     replace HB:=ae.mk (bU HB.out)
     have hY:(al:Int)≤((a0.length:Int):Int):=af.D
     obtain ⟨tt,g5,_,hZ,_⟩:=info_parts eJ
     have eo:a0.length≤bm:=(Kd.au z.out).2.1
     have hj:Kd.C (Kd.int .i64) _ cd a0.length a0:=(Kd.au z.out).2.2
     have h7:=pD (P:=Tryz.prog) 28 3 .i64 Tryz.underlying28 g5 cd a0.length bm al (af.D) hY eo
     have g6:=Kd.pF (m:=(al:Int).toNat) hj (by omega)
     have g7:bo.length = (al:Int).toNat:=(by rw [dp.out,List.length_take];omega)
     rw [← dp.out] at g6
     rw [← g7] at h7
     have bs:=ae.mk g6
     have pt:=ae.mk (show bo.length≤bm from by omega)
     clear g6 hj eo g5 hZ
     have ty:=ae.mk g7
     clear g7
     have hl:=ae.mk (show (al:Int).toNat≤a0.length from by omega)
     replace hY:=eq_true hY
     have i0:((bi):Int)≤((a0.length:Int):Int):=af.D
     obtain ⟨tz,g8,_,g9,_⟩:=info_parts eJ
     have dC:a0.length≤bm:=(Kd.au z.out).2.1
     have hm:Kd.C (Kd.int .i64) _ cd a0.length a0:=(Kd.au z.out).2.2
     have n1:(0:Int)≤((bi):Int):=af.D
     have h8:=mG (P:=Tryz.prog) 28 3 .i64 Tryz.underlying28 g8 1 g9 cd a0.length bm (bi) n1 i0
     have eq:=Kd.kJ (m:=((bi):Int).toNat) (c:=bm) hm (by omega) dC
     obtain ⟨i1,fp⟩:∃ A1,A1 = (if bm = ((bi):Int).toNat then cd else (cd:Option Addr).map (·.add (((bi):Int).toNat * 1))):=⟨_,rfl⟩
     obtain ⟨so,gc⟩:∃ c1,c1 = bm - ((bi):Int).toNat:=⟨_,rfl⟩
     have fs:am.length = a0.length - ((bi):Int).toNat:=(by rw [dq.out,List.length_drop] <;> omega)
     rw [show (a0).drop ((bi):Int).toNat = am from dq.out.symm] at eq
     replace eq:Kd.C (Kd.int .i64) _ i1 am.length am:=(by rw [fp];exact eq)
     rw [← fs,← fp,← gc] at h8
     have bv:=ae.mk eq
     have pv:=ae.mk (show am.length≤so from by rw [fs,gc];exact Nat.sub_le_sub_right dC _)
     clear eq hm dC g8 g9 gc
     have u1:=ae.mk fs
     have hn:=ae.mk fp
     clear fs fp
     have hq:=ae.mk (show ((bi):Int).toNat≤a0.length from by omega)
     replace i0:=eq_true i0
     refine eS (n:=14) (S:=fun w'=>w'.cell? ⟨Y,0,none⟩ = some (.int .i64 a2)∧w'.cell? ⟨Y,1,none⟩ = some (.slice cd a0.length bm)) (ds:=[13]) #[false,false,false,false,false,false,false,false,false,false,false,false,false,false] (by kernel_rfl) rfl rfl ⟨(ak y.out 0).trans rfl,(ak y.out 1).trans rfl⟩ (fun hHeld=>?_);refine dn cS.qx cS.o6 (fun cf gt=>?_)
     generalize sm.drew = v6 at z j y aa HK HB bs bv hHeld ⊢
     refine af.pu 1 39 cf ?_
     refine af.pu 3 41 cf ?_
     refine af.pu 6 44 cf ?_
     refine af.pu 8 46 cf ?_
     refine af.pu 9 47 cf ?_
     refine af.tk 2 40 cf gt hHeld ?_
     refine af.pu 4 42 cf ?_
     refine af.tk 7 45 cf gt hHeld ?_
     refine af.pu 10 48 cf ?_
     refine gA (i:=0) (N:=some 38) #[true,true,true,true,true,false,true,true,true,true,true,false,false,false] rfl rfl (dD cf.out (by kernel_rfl)) (by decide) (fun K hK=>?_)
     refine Kd.mH (Kd.int .i64) _ 3 ?hg (N:=38) ?hd (xs:=([]:List Int)) (inner:=[]) (ok:=fun _=>True) (okp:=fun _=>True) ?hr ?hp (fun _ hk=>hk) trivial (Below.refl _ _) (Nat.le_refl _) (by simp) ?_;(case hd=>rfl);(case hg=>rfl);(case hr=>first | (go_simp;done) | (go_simp;rfl));(case hp=>exact (cE.none _ _))
     intro i2 jQ dT hb hz et
     clear hz et
     (first | rw [← fl.out] at dT | (simp only [Int.reduceToNat] at dT;rw [← fl.out] at dT))
     have cY:=ae.mk (Kd.b9 (Kd.dc dT (Kd.cD (af.Rw z.out))) (bj (w:=w) (g:=g) (row:=none) (af.K HK)))
     replace z:=ae.mk (Kd.cm (af.Rw z.out) (Kd.bF dT) hb)
     replace aa:=ae.mk (av.below af.I hb)
     replace j:=af.bb j hb
     replace y:=af.bb y hb
     replace bs:=ae.mk (Kd.bG (by repeat (first | (with_reducible exact bs.out) | (with_reducible refine Kd.fk ?_ _) | (with_reducible refine Kd.fm ?_ _) | (with_reducible refine Kd.fJ ?_) | exact bs.out)) hb)
     replace bv:=ae.mk (Kd.bG (by repeat (first | (with_reducible exact bv.out) | (with_reducible refine Kd.fk ?_ _) | (with_reducible refine Kd.fm ?_ _) | (with_reducible refine Kd.fJ ?_) | exact bv.out)) hb)
     replace HK:=ae.mk (aq.trans (af.K HK) (aq.cW hb g none) (.inl rfl))
     replace HB:=ae.mk (az (af.J HB) hb)
     clear hb dT
     refine hK.out _ _ ⟨(ak y.out 0).trans rfl,(ak y.out 1).trans rfl⟩ (fun hHeld=>?_)
     clear hK K
     refine eV (a':=?_) ?_ ?_
     rotate_left
     ·show Act.put _ (some 38) _ = _
      simp only [Act.put,List.setIfInBounds_toArray,List.set_cons_zero,List.set_cons_succ,bw,bW]
      rfl
     refine gA (i:=5) (N:=some 43) #[true,true,true,true,true,true,true,true,true,true,true,false,false,false] rfl rfl (dD cf.out (by kernel_rfl)) (by decide) (fun K hK=>?_)
     refine Kd.fC (Kd.int .i64) w.heap.size (by rfl) (.tmp 38) (.tmp 42) 28 3 (.int .i64 0) 8 rfl Tryz.underlying28 eJ rfl (by decide) (by omega) i2 dk bo _ _ _ (fun k_=>some k_≠(.slice cd a0.length bm:Value).ownBlock) (fun _=>False) rfl rfl ?aO ?aR (fun _ _ h=>h) (fun _ h=>h.elim) ?aF (Below.refl _ _) ?aS ?aL ?_
     (case aR=>repeat (first | exact (by repeat (first | (with_reducible exact bs.out) | (with_reducible refine Kd.fk ?_ _) | (with_reducible refine Kd.fm ?_ _) | (with_reducible refine Kd.fJ ?_) | exact bs.out)) | (with_reducible refine Kd.fk ?_ _) | (with_reducible refine Kd.fm ?_ _) | (with_reducible refine Kd.fJ ?_)))
     (case aF=>exact (fun k_ hk=>Kd.fresh' (Kd.cD (af.Rw z.out)) k_ hk))
     (case aO=>exact (af.Rw (Kd.aX cY.out (fun _ hk=>hk.2))))
     (case aS=>exact (bj (w:=w) (g:=g) (row:=none) (af.K HK)))
     (case aL=>have:=hU.out;omega)
     intro i3 n6 ho hb hg hat
     rw [← h0.out] at ho
     have aB:=ae.mk (av.grown af.I hg (av.hJ aa.out cY.out (by decide)))
     have b0:=ae.mk (ep (g:=X) (o:=.cells #[.int .i64 0,.slice none 0 0] 30 (0,0)) (af.Bw j.out) hg (Kd.jr cY.out j.out (by decide)))
     have b1:=ae.mk (Kd.eK (ok:=(fun _=>True)) (af.Rw z.out) hg hat)
     have b2:=ae.mk (ep (g:=Y) (o:=.cells #[.int .i64 a2,.slice cd a0.length bm] 30 (0,0)) (af.Bw y.out) hg (Kd.jr cY.out y.out (by decide)))
     have b3:=ae.mk (gu (af.J HB) HL.out hb)
     have b4:=ae.mk (aq.trans (af.K HK) (aq.ia hg g) (Kd.jF cY.out))
     have ci:=ae.mk ((show Kd.C (Kd.int .i64) n6 cd bo.length bo from by rw [dp.out];exact Kd.pF (m:=(al:Int).toNat) ((Kd.au (Kd.eK (ok:=(fun _=>True)) (af.Rw z.out) hg hat)).2.2) hl.out))
     have cp:=ae.mk ((show Kd.C (Kd.int .i64) n6 i1 am.length am from by rw [dq.out,hn.out];exact Kd.kJ (m:=((bi):Int).toNat) (c:=bm) ((Kd.au (Kd.eK (ok:=(fun _=>True)) (af.Rw z.out) hg hat)).2.2) hq.out ((Kd.au (Kd.eK (ok:=(fun _=>True)) (af.Rw z.out) hg hat)).2.1)))
     have cx:=ae.mk ho
     clear aa
     clear j
     clear z
     clear y
     clear HB
     clear HK
     clear bs
     clear bv
     clear cY
     have aa:=aB
     have j:=b0
     have z:=b1
     have y:=b2
     have HB:=b3
     have HK:=b4
     have bs:=ci
     have bv:=cp
     have d0:=cx
     clear aB b0 b1 b2 b3 b4 ci cp cx
     clear ho hb hg hat
     refine hK.out _ _ ⟨(ak y.out 0).trans rfl,(ak y.out 1).trans rfl⟩ (fun hHeld=>?_)
     clear hK K
     refine eV (a':=?_) ?_ ?_
     rotate_left
     ·show Act.put _ (some 43) _ = _
      simp only [Act.put,List.setIfInBounds_toArray,List.set_cons_zero,List.set_cons_succ,bw,bW]
      rfl
     refine gA (i:=11) (N:=some 49) #[true,true,true,true,true,true,true,true,true,true,true,true,false,false] rfl rfl (dD cf.out (by kernel_rfl)) (by decide) (fun K hK=>?_)
     refine Kd.fC (Kd.int .i64) w.heap.size (by rfl) (.tmp 43) (.tmp 48) 28 3 (.int .i64 0) 8 rfl Tryz.underlying28 eJ rfl (by decide) (by omega) i3 bd am _ _ _ (fun k_=>some k_≠(.slice cd a0.length bm:Value).ownBlock) (fun _=>False) rfl rfl ?aO ?aR (fun _ _ h=>h) (fun _ h=>h.elim) ?aF (Below.refl _ _) ?aS ?aL ?_
     (case aR=>repeat (first | exact (by repeat (first | (with_reducible exact bv.out) | (with_reducible refine Kd.fk ?_ _) | (with_reducible refine Kd.fm ?_ _) | (with_reducible refine Kd.fJ ?_) | exact bv.out)) | (with_reducible refine Kd.fk ?_ _) | (with_reducible refine Kd.fm ?_ _) | (with_reducible refine Kd.fJ ?_)))
     (case aF=>exact (fun k_ hk=>Kd.fresh' (Kd.cD (af.Rw z.out)) k_ hk))
     (case aO=>exact (af.Rw d0.out))
     (case aS=>exact (bj (w:=w) (g:=g) (row:=none) (af.K HK)))
     (case aL=>have:=hX.out;omega)
     intro sp i4 ho hb hg hat
     rw [← h6.out] at ho
     have aB:=ae.mk (av.grown af.I hg (av.hJ aa.out d0.out (by decide)))
     have b0:=ae.mk (ep (g:=X) (o:=.cells #[.int .i64 0,.slice none 0 0] 30 (0,0)) (af.Bw j.out) hg (Kd.jr d0.out j.out (by decide)))
     have b1:=ae.mk (Kd.eK (ok:=(fun _=>True)) (af.Rw z.out) hg hat)
     have b2:=ae.mk (ep (g:=Y) (o:=.cells #[.int .i64 a2,.slice cd a0.length bm] 30 (0,0)) (af.Bw y.out) hg (Kd.jr d0.out y.out (by decide)))
     have b3:=ae.mk (gu (af.J HB) HL.out hb)
     have b4:=ae.mk (aq.trans (af.K HK) (aq.ia hg g) (Kd.jF d0.out))
     have ci:=ae.mk ((show Kd.C (Kd.int .i64) i4 cd bo.length bo from by rw [dp.out];exact Kd.pF (m:=(al:Int).toNat) ((Kd.au (Kd.eK (ok:=(fun _=>True)) (af.Rw z.out) hg hat)).2.2) hl.out))
     have cp:=ae.mk ((show Kd.C (Kd.int .i64) i4 i1 am.length am from by rw [dq.out,hn.out];exact Kd.kJ (m:=((bi):Int).toNat) (c:=bm) ((Kd.au (Kd.eK (ok:=(fun _=>True)) (af.Rw z.out) hg hat)).2.2) hq.out ((Kd.au (Kd.eK (ok:=(fun _=>True)) (af.Rw z.out) hg hat)).2.1)))
     have cx:=ae.mk ho
     clear aa
     clear j
     clear z
     clear y
     clear HB
     clear HK
     clear bs
     clear bv
     clear d0
     have aa:=aB
     have j:=b0
     have z:=b1
     have y:=b2
     have HB:=b3
     have HK:=b4
     have bs:=ci
     have bv:=cp
     have ft:=cx
     clear aB b0 b1 b2 b3 b4 ci cp cx
     clear ho hb hg hat
     obtain ⟨gk,go,ht⟩:=Kd.aY ft.out
     (first | subst ht | (injection ht with g3 hE g4;have hG:=g3.symm;have hH:=g4.symm;clear g3 hE g4;subst hG;subst hH))
     refine hK.out _ _ ⟨(ak y.out 0).trans rfl,(ak y.out 1).trans rfl⟩ (fun hHeld=>?_)
     clear hK K
     refine eV (a':=?_) ?_ ?_
     rotate_left
     ·show Act.put _ (some 49) _ = _
      simp only [Act.put,List.setIfInBounds_toArray,List.set_cons_zero,List.set_cons_succ,bw,bW]
      rfl
     refine af.pu 12 50 cf ?_
     refine lY (i:=13) (N:=none) #[true,true,true,true,true,true,true,true,true,true,true,true,true,true] rfl rfl (dD cf.out (by kernel_rfl)) (by decide) (fun K hK=>?_)
     have u2:i4.cell? ⟨Y,1,none⟩ = some (.slice cd a0.length bm):=(ak y.out 1).trans rfl
     have ss:=an y.out 1
     have na:=a6.out
     have nb:=a7.out
     refine mL (w1:=?_) (by rfl) rfl ?_ ?_
     rotate_left
     ·go_simp
      rfl
     refine hK.out _ _ ?_
     clear hK K
     refine gh (er cf.out (by kernel_rfl)) ?_
     obtain ⟨ne,nm,no,np⟩:=af.bR y.out
     have st:=a3.out
     have sz:=ao.out
     obtain ⟨ns,nz,o0,o1⟩:=af.bR j.out
     try go_wp2
     refine bodyPost_ret (results_cell_row rfl _ _ X 30 #[.int .i64 a2,.slice gk ee.length go] (0,0) _ rfl af.B Tryz.underlying30 rfl (by kernel_rfl)) rfl ?_
     exact ⟨_,by first | rfl | (simp [gj,gm] <;> rfl) | (simp only [← d5];first | rfl | (simp [gj,gm] <;> rfl)) | (simp [*,gj,gm] <;> rfl),by (with_reducible repeat (first | apply Kd.cL | apply Kd.cM | apply Kd.bS));exact Kd.aX (Kd.cI (p:=⟨X,1,none⟩) (Kd.cI (p:=⟨X,0,none⟩) (Kd.cI (p:=⟨Y,1,none⟩) (Kd.cR (Kd.cR ft.out y.out (by decide)) j.out (by decide)) (fun _ hk=>hk.1.2) (.slice gk ee.length go)) (fun _ hk=>hk.2) (.int .i64 a2)) (fun _ hk=>hk.2) (.slice gk ee.length go)) (fun _ hk=>trivial),af.I,af.J HB,af.K HK⟩
    ·rw [if_neg fX] at H
     have hO:decide (1 < (a0.length:Int)) = false:=decide_eq_false fX
     have hP:decide (1 < a0.length) = false:=decide_eq_false (by omega)
     clear fX
     simp only [Option.some.injEq,Prod.mk.injEq] at H
     obtain ⟨rfl,rfl,rfl,rfl⟩:=H
     go_enter Tryz.func100,Tryz.ntmps100
     go_wp2_with (first | (refine af.bx 4 #[.int .i64 0,.slice none 0 0] 30 ?_;intro X hg v7 hbox hb;replace HB:=ae.mk (az (af.J HB) hb);have j:=ae.mk hbox;have d7:=ae.mk ((by rw [hg];exact (bj (w:=w) (g:=g) (row:=none) (af.K HK)):w.heap.size≤X));have d8:=ae.mk ((Nat.le_trans dl.out (by rw [hg];exact (bj (w:=w) (g:=g) (row:=none) (af.K HK)):w.heap.size≤X):w0.heap.size≤X));replace HK:=ae.mk (aq.trans (af.K HK) (aq.cW hb g none) (.inl rfl));have ao:=ae.mk ((by rw [hg];exact Nat.ne_of_lt (av.lt (show av w0 _ g a4 ba bc from af.I)):g≠X));have a3:=ae.mk ((by rw [hg];exact Nat.ne_of_gt (av.lt (show av w0 _ g a4 ba bc from af.I)):X≠g));replace aa:=ae.mk (av.below af.I hb);clear hb hbox hg) | (refine af.gl (some 9) Tryz.func139 #[.pointer (some ⟨g,0,none⟩),.int .i64 a1] ?_;(with_reducible refine (eC.calls k g a4 ba bc a1 a2 a0 a8 a9 w0 _ ?side1 ?side2 A3.out).mono ?_);(case side1=>exact af.I);(case side2=>exact af.J HB);rintro e v8 ⟨dt,rfl,ca,hi,hb,hk⟩;refine ⟨_,rfl,?_⟩;replace j:=ae.mk (aq.blk hk (g':=X) (o:=.cells #[.int .i64 0,.slice none 0 0] 30 (0,0)) (af.Bw j.out) a3.out (by simp));have z:=ae.mk (Kd.b9 ca (bj (w:=w) (g:=g) (row:=none) (af.K HK)));replace HK:=ae.mk (aq.trans (af.K HK) hk (.inl rfl));replace HB:=ae.mk hb;replace aa:=ae.mk hi;(try clear hb);(try clear d2);(try clear hk);(try clear hi);(try clear ca)) | (refine af.bx 5 #[.int .i64 0,.slice none 0 0] 30 ?_;intro Y hg v9 hbox hb;have aB:=af.rb z hb;have b0:=ae.mk (av.below af.I hb);have b1:=af.bb j hb;have b2:=ae.mk (aq.trans (af.K HK) (aq.cW hb g none) (.inl rfl));have b3:=ae.mk (az (af.J HB) hb);have b4:=ae.mk hbox;have ci:=ae.mk ((by rw [hg];exact (bj (w:=w) (g:=g) (row:=none) (af.K HK)):w.heap.size≤Y));have cp:=ae.mk ((Nat.le_trans dl.out (by rw [hg];exact (bj (w:=w) (g:=g) (row:=none) (af.K HK)):w.heap.size≤Y):w0.heap.size≤Y));have cx:=af.nl hg j;have cy:=af.ng hg j;have cb:=ae.mk ((by rw [hg];exact Nat.ne_of_lt (av.lt (show av w0 _ g a4 a8 a9 from af.I)):g≠Y));have cc:=ae.mk ((by rw [hg];exact Nat.ne_of_gt (av.lt (show av w0 _ g a4 a8 a9 from af.I)):Y≠g));clear z;clear aa;clear j;clear HK;clear HB;have z:=aB;have aa:=b0;have j:=b1;have HK:=b2;have HB:=b3;have y:=b4;have d9:=ci;have db:=cp;have a6:=cx;have a7:=cy;have ap:=cb;have a5:=cc;clear aB b0 b1 b2 b3 b4 ci cp cx cy cb cc;clear hb hbox hg;have sT:=a7.out;have t0:=a6.out;have t1:=a5.out;have t2:=ap.out;obtain ⟨o2,ob,oj,ol⟩:=af.bR y.out;obtain ⟨fw,fx,on⟩:=Kd.aY z.out;subst on) | (refine af.gl (some 11) Tryz.func80 #[.pointer (some ⟨g,0,none⟩),.int .i64 10] ?_;(with_reducible refine (aM.calls g a4 a8 a9 10 ab ar aw w0 _ ?side1 ?side2 A4.out).mono ?_);(case side1=>exact af.I);(case side2=>exact af.J HB);rintro e va ⟨rfl,hi,hb,hk⟩;refine ⟨_,rfl,?_⟩;replace j:=ae.mk (aq.blk hk (g':=X) (o:=.cells #[.int .i64 0,.slice none 0 0] 30 (0,0)) af.B a3.out (by simp));replace z:=ae.mk (Kd.aX (Kd.fR (av.apart (show av w0 _ g a4 a8 a9 from af.I) (af.Rw ((Kd.aX (Kd.cI (p:=⟨Y,1,none⟩) (Kd.cI (p:=⟨Y,0,none⟩) (Kd.cR z.out y.out (by decide)) (fun _ hk=>hk.2) (.int .i64 a2)) (fun _ hk=>hk.2) (.slice fw a0.length fx)) (fun _ h_=>h_.1)))) (by decide)) hk (fun _ h=>h.2)) (fun _ h=>h.1));replace y:=ae.mk (aq.blk hk (g':=Y) (o:=.cells #[.int .i64 a2,.slice fw a0.length fx] 30 (0,0)) af.B a5.out (by simp));replace HK:=ae.mk (aq.trans (af.K HK) hk (.inl rfl));replace HB:=ae.mk hb;replace aa:=ae.mk hi;(try clear hb);(try clear d2);(try clear hk);(try clear hi);obtain ⟨os,oX,oY,p0⟩:=af.bR y.out;have t3:=a3.out;have t4:=ao.out;obtain ⟨p1,p2,p3,p6⟩:=af.bR j.out))
     refine bodyPost_ret (results_cell_row rfl _ _ X 30 #[.int .i64 a2,.slice fw a0.length fx] (0,0) _ rfl af.B Tryz.underlying30 rfl (by kernel_rfl)) rfl ?_
     exact ⟨_,af.E,by (with_reducible repeat (first | apply Kd.cL | apply Kd.cM | apply Kd.bS));exact Kd.aX (Kd.cI (p:=⟨X,1,none⟩) (Kd.cI (p:=⟨X,0,none⟩) (Kd.cR z.out j.out (by decide)) (fun _ hk=>hk.2) (.int .i64 a2)) (fun _ hk=>hk.2) (.slice fw a0.length fx)) (fun _ hk=>trivial),af.I,af.J HB,af.K HK⟩
   ·rw [if_neg ew] at H
    have hL:(ab == 2) = false:=beq_eq_false_iff_ne.mpr ew
    have hM:(ab != 2) = true:=bne_iff_ne.mpr ew
    by_cases ex:ab = 3
    ·rw [if_pos ex] at H
     have i5:(ab == 3) = true:=beq_iff_eq.mpr ex
     have i6:(ab != 3) = false:=bne_eq_false_iff_eq.mpr ex
     clear ex
     obtain ⟨eQ,t5,H⟩:=af.be H
     (try dsimp only at H)
     obtain ⟨f0,t6,H⟩:=af.be H
     (try dsimp only at H)
     obtain ⟨⟨f1,i7,i8⟩,t7,H⟩:=af.be H
     (try dsimp only at H)
     obtain ⟨eg,t8,H⟩:=af.be H
     (try dsimp only at H)
     simp only [Option.some.injEq,Prod.mk.injEq] at H
     obtain ⟨rfl,rfl,rfl,rfl⟩:=H
     go_enter Tryz.func100,Tryz.ntmps100
     go_wp2_with (first | (refine af.bx 4 #[.int .i64 0,.slice none 0 0] 30 ?_;intro X hg vb hbox hb;replace HB:=ae.mk (az (af.J HB) hb);have j:=ae.mk hbox;have d7:=ae.mk ((by rw [hg];exact (bj (w:=w) (g:=g) (row:=none) (af.K HK)):w.heap.size≤X));have d8:=ae.mk ((Nat.le_trans dl.out (by rw [hg];exact (bj (w:=w) (g:=g) (row:=none) (af.K HK)):w.heap.size≤X):w0.heap.size≤X));replace HK:=ae.mk (aq.trans (af.K HK) (aq.cW hb g none) (.inl rfl));have ao:=ae.mk ((by rw [hg];exact Nat.ne_of_lt (av.lt (show av w0 _ g a4 ba bc from af.I)):g≠X));have a3:=ae.mk ((by rw [hg];exact Nat.ne_of_gt (av.lt (show av w0 _ g a4 ba bc from af.I)):X≠g));replace aa:=ae.mk (av.below af.I hb);clear hb hbox hg) | (refine af.gl (some 9) Tryz.func139 #[.pointer (some ⟨g,0,none⟩),.int .i64 a1] ?_;(with_reducible refine (eC.calls k g a4 ba bc a1 a2 a0 a8 a9 w0 _ ?side1 ?side2 A3.out).mono ?_);(case side1=>exact af.I);(case side2=>exact af.J HB);rintro e vc ⟨dt,rfl,ca,hi,hb,hk⟩;refine ⟨_,rfl,?_⟩;replace j:=ae.mk (aq.blk hk (g':=X) (o:=.cells #[.int .i64 0,.slice none 0 0] 30 (0,0)) (af.Bw j.out) a3.out (by simp));have z:=ae.mk (Kd.b9 ca (bj (w:=w) (g:=g) (row:=none) (af.K HK)));replace HK:=ae.mk (aq.trans (af.K HK) hk (.inl rfl));replace HB:=ae.mk hb;replace aa:=ae.mk hi;(try clear hb);(try clear d2);(try clear hk);(try clear hi);(try clear ca)) | (refine af.bx 5 #[.int .i64 0,.slice none 0 0] 30 ?_;intro Y hg vd hbox hb;have aB:=af.rb z hb;have b0:=ae.mk (av.below af.I hb);have b1:=af.bb j hb;have b2:=ae.mk (aq.trans (af.K HK) (aq.cW hb g none) (.inl rfl));have b3:=ae.mk (az (af.J HB) hb);have b4:=ae.mk hbox;have ci:=ae.mk ((by rw [hg];exact (bj (w:=w) (g:=g) (row:=none) (af.K HK)):w.heap.size≤Y));have cp:=ae.mk ((Nat.le_trans dl.out (by rw [hg];exact (bj (w:=w) (g:=g) (row:=none) (af.K HK)):w.heap.size≤Y):w0.heap.size≤Y));have cx:=af.nl hg j;have cy:=af.ng hg j;have cb:=ae.mk ((by rw [hg];exact Nat.ne_of_lt (av.lt (show av w0 _ g a4 a8 a9 from af.I)):g≠Y));have cc:=ae.mk ((by rw [hg];exact Nat.ne_of_gt (av.lt (show av w0 _ g a4 a8 a9 from af.I)):Y≠g));clear z;clear aa;clear j;clear HK;clear HB;have z:=aB;have aa:=b0;have j:=b1;have HK:=b2;have HB:=b3;have y:=b4;have d9:=ci;have db:=cp;have a6:=cx;have a7:=cy;have ap:=cb;have a5:=cc;clear aB b0 b1 b2 b3 b4 ci cp cx cy cb cc;clear hb hbox hg;have t9:=a7.out;have ta:=a6.out;have tb:=a5.out;have te:=ap.out;obtain ⟨p7,p9,pa,pd⟩:=af.bR y.out;obtain ⟨dd,df,pf⟩:=Kd.aY z.out;subst pf) | (refine af.gl (some 11) Tryz.func80 #[.pointer (some ⟨g,0,none⟩),.int .i64 10] ?_;(with_reducible refine (aM.calls g a4 a8 a9 10 ab ar aw w0 _ ?side1 ?side2 A4.out).mono ?_);(case side1=>exact af.I);(case side2=>exact af.J HB);rintro e ce ⟨rfl,hi,hb,hk⟩;refine ⟨_,rfl,?_⟩;replace j:=ae.mk (aq.blk hk (g':=X) (o:=.cells #[.int .i64 0,.slice none 0 0] 30 (0,0)) af.B a3.out (by simp));replace z:=ae.mk (Kd.aX (Kd.fR (av.apart (show av w0 _ g a4 a8 a9 from af.I) (af.Rw ((Kd.aX (Kd.cI (p:=⟨Y,1,none⟩) (Kd.cI (p:=⟨Y,0,none⟩) (Kd.cR z.out y.out (by decide)) (fun _ hk=>hk.2) (.int .i64 a2)) (fun _ hk=>hk.2) (.slice dd a0.length df)) (fun _ h_=>h_.1)))) (by decide)) hk (fun _ h=>h.2)) (fun _ h=>h.1));replace y:=ae.mk (aq.blk hk (g':=Y) (o:=.cells #[.int .i64 a2,.slice dd a0.length df] 30 (0,0)) af.B a5.out (by simp));replace HK:=ae.mk (aq.trans (af.K HK) hk (.inl rfl));replace HB:=ae.mk hb;replace aa:=ae.mk hi;(try clear hb);(try clear d2);(try clear hk);(try clear hi);obtain ⟨ph,pi,pj,pl⟩:=af.bR y.out) | (refine af.gl (some 56) Tryz.func81 #[.int .i64 a2,.int .i64 8] ?_;(with_reducible refine (gW.calls a2 8 eQ _ t5.out).mono ?_);rintro e w' ⟨rfl,⟨nd,rfl⟩⟩;refine ⟨_,rfl,?_⟩;(try (rw [eA ce];generalize d6:World.drewN ce _ = ce;have aB:ae (Kd.R (Kd.int .i64) 3 ce w.heap.size (fun _=>True) (.slice dd a0.length df) a0):=⟨by rw [← d6];exact (af.Rw z.out)⟩;have b0:ae (ce.heap[X]? = some (.cells #[.int .i64 0,.slice none 0 0] 30 (0,0))):=⟨by rw [← d6];exact (af.Bw j.out)⟩;have b1:ae (ce.heap[Y]? = some (.cells #[.int .i64 a2,.slice dd a0.length df] 30 (0,0))):=⟨by rw [← d6];exact (af.Bw y.out)⟩;have b2:ae (av w0 ce g a4 ar aw):=⟨by rw [← d6];exact af.I⟩;have b3:ae (aq w ce g none):=⟨by rw [← d6];exact (af.K HK)⟩;have b4:ae (Below w0.heap.size w0 ce):=⟨by rw [← d6];exact (af.J HB)⟩;clear z j y aa HK HB d6;have z:=aB;have j:=b0;have y:=b1;have aa:=b2;have HK:=b3;have HB:=b4;clear aB b0 b1 b2 b3 b4;have f2:ce.cell? ⟨X,0,none⟩ = some (.int .i64 0):=(ak j.out 0).trans rfl;have f3:=an j.out 0;have f4:ce.cell? ⟨X,1,none⟩ = some (.slice none 0 0):=(ak j.out 1).trans rfl;have f5:=an j.out 1;have f6:ce.cell? ⟨Y,0,none⟩ = some (.int .i64 a2):=(ak y.out 0).trans rfl;have f7:=an y.out 0;have f8:ce.cell? ⟨Y,1,none⟩ = some (.slice dd a0.length df):=(ak y.out 1).trans rfl;have f9:=an y.out 1))) | (refine af.gl (some 57) Tryz.func121 #[.int .i64 0,.int .i64 eQ] ?_;(with_reducible refine (dO.calls 0 eQ f0 _ t6.out).mono ?_);rintro e w' ⟨rfl,⟨nd,rfl⟩⟩;refine ⟨_,rfl,?_⟩;(try (rw [eA ce];generalize d6:World.drewN ce _ = ce;have aB:ae (Kd.R (Kd.int .i64) 3 ce w.heap.size (fun _=>True) (.slice dd a0.length df) a0):=⟨by rw [← d6];exact (af.Rw z.out)⟩;have b0:ae (ce.heap[X]? = some (.cells #[.int .i64 0,.slice none 0 0] 30 (0,0))):=⟨by rw [← d6];exact (af.Bw j.out)⟩;have b1:ae (ce.heap[Y]? = some (.cells #[.int .i64 a2,.slice dd a0.length df] 30 (0,0))):=⟨by rw [← d6];exact (af.Bw y.out)⟩;have b2:ae (av w0 ce g a4 ar aw):=⟨by rw [← d6];exact af.I⟩;have b3:ae (aq w ce g none):=⟨by rw [← d6];exact (af.K HK)⟩;have b4:ae (Below w0.heap.size w0 ce):=⟨by rw [← d6];exact (af.J HB)⟩;clear z j y aa HK HB d6;have z:=aB;have j:=b0;have y:=b1;have aa:=b2;have HK:=b3;have HB:=b4;clear aB b0 b1 b2 b3 b4;have f2:ce.cell? ⟨X,0,none⟩ = some (.int .i64 0):=(ak j.out 0).trans rfl;have f3:=an j.out 0;have f4:ce.cell? ⟨X,1,none⟩ = some (.slice none 0 0):=(ak j.out 1).trans rfl;have f5:=an j.out 1;have f6:ce.cell? ⟨Y,0,none⟩ = some (.int .i64 a2):=(ak y.out 0).trans rfl;have f7:=an y.out 0;have f8:ce.cell? ⟨Y,1,none⟩ = some (.slice dd a0.length df):=(ak y.out 1).trans rfl;have f9:=an y.out 1))) | (refine af.gl (some 58) Tryz.func142 #[.pointer (some ⟨g,0,none⟩),.int .i64 f0] ?_;(with_reducible refine (dw.calls k g a4 ar aw f0 f1 i7 i8 w0 _ ?side1 ?side2 t7.out).mono ?_);(case side1=>exact af.I);(case side2=>exact af.J HB);rintro e ve ⟨ti,rfl,ca,hi,hb,hk⟩;refine ⟨_,rfl,?_⟩;replace j:=ae.mk (aq.blk hk (g':=X) (o:=.cells #[.int .i64 0,.slice none 0 0] 30 (0,0)) (af.Bw j.out) a3.out (by simp));replace y:=ae.mk (aq.blk hk (g':=Y) (o:=.cells #[.int .i64 a2,.slice dd a0.length df] 30 (0,0)) (af.Bw y.out) a5.out (by simp));have d1:=ae.mk (Kd.b9 (Kd.dc ca (Kd.cD (af.Rw z.out))) (bj (w:=w) (g:=g) (row:=none) (af.K HK)));replace z:=ae.mk (Kd.aX (Kd.sv (Kd.su (av.apart (show av w0 _ g a4 ar aw from af.I) (af.Rw z.out) (by decide)) hk) (Kd.bF ca)) (fun _ h_=>h_.1));replace HK:=ae.mk (aq.trans (af.K HK) hk (.inl rfl));replace HB:=ae.mk hb;replace aa:=ae.mk hi;(try clear hb);(try clear d2);(try clear hk);(try clear hi);(try clear ca);obtain ⟨pm,pp,pr⟩:=Kd.aY d1.out;subst pr) | (refine af.gl (some 59) Tryz.func137 #[.slice pm f1.length pp] ?_;(with_reducible refine (aC.calls k _ _ f1 eg _ ?side1 ?side2 t8.out).mono ?_);(case side1=>exact af.Cw ((Kd.au d1.out).2.2));(case side2=>exact (Kd.au d1.out).2.1);rintro e u3 ⟨tl,rfl,ca,hb⟩;refine ⟨_,rfl,?_⟩;have fy:=ae.mk (Kd.b9 (Kd.dc (Kd.dc ca (Kd.cD (af.Rw z.out))) (Kd.cD (af.Rw d1.out))) (bj (w:=w) (g:=g) (row:=none) (af.K HK)));replace z:=ae.mk (Kd.cm (af.Rw z.out) (Kd.bF ca) hb);replace d1:=ae.mk (Kd.cm (af.Rw d1.out) (Kd.bF ca) hb);replace j:=af.bb j hb;replace y:=af.bb y hb;replace HK:=ae.mk (aq.trans (af.K HK) (aq.cW hb g none) (.inl rfl));replace HB:=ae.mk (az (af.J HB) hb);replace aa:=ae.mk (av.below af.I hb);(try clear hb);(try clear d2);(try clear hk);(try clear hi);(try clear ca);obtain ⟨fa,fd,i9⟩:=Kd.aY fy.out;subst i9;obtain ⟨ie,ih,ii,il⟩:=af.bR y.out;have px:=a3.out;have py:=ao.out;obtain ⟨im,io,it,jp⟩:=af.bR j.out))
     refine bodyPost_ret (results_cell_row rfl _ _ X 30 #[.int .i64 a2,.slice fa eg.length fd] (0,0) _ rfl af.B Tryz.underlying30 rfl (by kernel_rfl)) rfl ?_
     exact ⟨_,af.E,by (with_reducible repeat (first | apply Kd.cL | apply Kd.cM | apply Kd.bS));exact Kd.aX (Kd.cI (p:=⟨X,1,none⟩) (Kd.cI (p:=⟨X,0,none⟩) (Kd.cI (p:=⟨Y,1,none⟩) (Kd.cR (Kd.cR fy.out y.out (by decide)) j.out (by decide)) (fun _ hk=>hk.1.2) (.slice fa eg.length fd)) (fun _ hk=>hk.2) (.int .i64 a2)) (fun _ hk=>hk.2) (.slice fa eg.length fd)) (fun _ hk=>trivial),af.I,af.J HB,af.K HK⟩
    ·rw [if_neg ex] at H
     have i5:(ab == 3) = false:=beq_eq_false_iff_ne.mpr ex
     have i6:(ab != 3) = true:=bne_iff_ne.mpr ex
     simp only [Option.some.injEq,Prod.mk.injEq] at H
     obtain ⟨rfl,rfl,rfl,rfl⟩:=H
     go_enter Tryz.func100,Tryz.ntmps100
     go_wp2_with (first | (refine af.bx 4 #[.int .i64 0,.slice none 0 0] 30 ?_;intro X hg u5 hbox hb;replace HB:=ae.mk (az (af.J HB) hb);have j:=ae.mk hbox;have d7:=ae.mk ((by rw [hg];exact (bj (w:=w) (g:=g) (row:=none) (af.K HK)):w.heap.size≤X));have d8:=ae.mk ((Nat.le_trans dl.out (by rw [hg];exact (bj (w:=w) (g:=g) (row:=none) (af.K HK)):w.heap.size≤X):w0.heap.size≤X));replace HK:=ae.mk (aq.trans (af.K HK) (aq.cW hb g none) (.inl rfl));have ao:=ae.mk ((by rw [hg];exact Nat.ne_of_lt (av.lt (show av w0 _ g a4 ba bc from af.I)):g≠X));have a3:=ae.mk ((by rw [hg];exact Nat.ne_of_gt (av.lt (show av w0 _ g a4 ba bc from af.I)):X≠g));replace aa:=ae.mk (av.below af.I hb);clear hb hbox hg) | (refine af.gl (some 9) Tryz.func139 #[.pointer (some ⟨g,0,none⟩),.int .i64 a1] ?_;(with_reducible refine (eC.calls k g a4 ba bc a1 a2 a0 a8 a9 w0 _ ?side1 ?side2 A3.out).mono ?_);(case side1=>exact af.I);(case side2=>exact af.J HB);rintro e u6 ⟨dt,rfl,ca,hi,hb,hk⟩;refine ⟨_,rfl,?_⟩;replace j:=ae.mk (aq.blk hk (g':=X) (o:=.cells #[.int .i64 0,.slice none 0 0] 30 (0,0)) (af.Bw j.out) a3.out (by simp));have z:=ae.mk (Kd.b9 ca (bj (w:=w) (g:=g) (row:=none) (af.K HK)));replace HK:=ae.mk (aq.trans (af.K HK) hk (.inl rfl));replace HB:=ae.mk hb;replace aa:=ae.mk hi;(try clear hb);(try clear d2);(try clear hk);(try clear hi);(try clear ca)) | (refine af.bx 5 #[.int .i64 0,.slice none 0 0] 30 ?_;intro Y hg u7 hbox hb;have aB:=af.rb z hb;have b0:=ae.mk (av.below af.I hb);have b1:=af.bb j hb;have b2:=ae.mk (aq.trans (af.K HK) (aq.cW hb g none) (.inl rfl));have b3:=ae.mk (az (af.J HB) hb);have b4:=ae.mk hbox;have ci:=ae.mk ((by rw [hg];exact (bj (w:=w) (g:=g) (row:=none) (af.K HK)):w.heap.size≤Y));have cp:=ae.mk ((Nat.le_trans dl.out (by rw [hg];exact (bj (w:=w) (g:=g) (row:=none) (af.K HK)):w.heap.size≤Y):w0.heap.size≤Y));have cx:=af.nl hg j;have cy:=af.ng hg j;have cb:=ae.mk ((by rw [hg];exact Nat.ne_of_lt (av.lt (show av w0 _ g a4 a8 a9 from af.I)):g≠Y));have cc:=ae.mk ((by rw [hg];exact Nat.ne_of_gt (av.lt (show av w0 _ g a4 a8 a9 from af.I)):Y≠g));clear z;clear aa;clear j;clear HK;clear HB;have z:=aB;have aa:=b0;have j:=b1;have HK:=b2;have HB:=b3;have y:=b4;have d9:=ci;have db:=cp;have a6:=cx;have a7:=cy;have ap:=cb;have a5:=cc;clear aB b0 b1 b2 b3 b4 ci cp cx cy cb cc;clear hb hbox hg;have q0:=a7.out;have q1:=a6.out;have q2:=a5.out;have q3:=ap.out;obtain ⟨k0,k1,k2,k3⟩:=af.bR y.out;obtain ⟨eh,ej,ib⟩:=Kd.aY z.out;subst ib) | (refine af.gl (some 11) Tryz.func80 #[.pointer (some ⟨g,0,none⟩),.int .i64 10] ?_;(with_reducible refine (aM.calls g a4 a8 a9 10 ab ar aw w0 _ ?side1 ?side2 A4.out).mono ?_);(case side1=>exact af.I);(case side2=>exact af.J HB);rintro e u8 ⟨rfl,hi,hb,hk⟩;refine ⟨_,rfl,?_⟩;replace j:=ae.mk (aq.blk hk (g':=X) (o:=.cells #[.int .i64 0,.slice none 0 0] 30 (0,0)) af.B a3.out (by simp));replace z:=ae.mk (Kd.aX (Kd.fR (av.apart (show av w0 _ g a4 a8 a9 from af.I) (af.Rw ((Kd.aX (Kd.cI (p:=⟨Y,1,none⟩) (Kd.cI (p:=⟨Y,0,none⟩) (Kd.cR z.out y.out (by decide)) (fun _ hk=>hk.2) (.int .i64 a2)) (fun _ hk=>hk.2) (.slice eh a0.length ej)) (fun _ h_=>h_.1)))) (by decide)) hk (fun _ h=>h.2)) (fun _ h=>h.1));replace y:=ae.mk (aq.blk hk (g':=Y) (o:=.cells #[.int .i64 a2,.slice eh a0.length ej] 30 (0,0)) af.B a5.out (by simp));replace HK:=ae.mk (aq.trans (af.K HK) hk (.inl rfl));replace HB:=ae.mk hb;replace aa:=ae.mk hi;(try clear hb);(try clear d2);(try clear hk);(try clear hi);obtain ⟨k4,k5,ka,kb⟩:=af.bR y.out;have q6:=a3.out;have q7:=ao.out;obtain ⟨kc,kd,ke,kh⟩:=af.bR j.out))
     refine bodyPost_ret (results_cell_row rfl _ _ X 30 #[.int .i64 a2,.slice eh a0.length ej] (0,0) _ rfl af.B Tryz.underlying30 rfl (by kernel_rfl)) rfl ?_
     exact ⟨_,af.E,by (with_reducible repeat (first | apply Kd.cL | apply Kd.cM | apply Kd.bS));exact Kd.aX (Kd.cI (p:=⟨X,1,none⟩) (Kd.cI (p:=⟨X,0,none⟩) (Kd.cR z.out j.out (by decide)) (fun _ hk=>hk.2) (.int .i64 a2)) (fun _ hk=>hk.2) (.slice eh a0.length ej)) (fun _ hk=>trivial),af.I,af.J HB,af.K HK⟩
def eD.f (k:Nat) (l0:List Int):Option (Int×List Int):=(dr.f k l0).bind fun j=>((cS.f k j.1 j.2.1 j.2.2 7).bind fun y=>(some (y.1,y.2.1)))
set_option maxHeartbeats 8000000 in
set_option maxRecDepth 100000 in
theorem eD.calls (k:Nat) (A0:Option Addr) (c0:Nat) (l0:List Int) (r1:Int) (r2:List Int) (w:World) (a9:Kd.C (Kd.int .u8) w A0 l0.length l0) (aa:l0.length≤c0) (h:eD.f k l0 = some (r1,r2)) :
  Calls Tryz.prog 50 #[.slice A0 l0.length c0] w fun e w'=>∃ ab:Value,e = .returned (.agg #[.int .i64 r1,ab])∧Kd.R (Kd.int .i64) 3 w' w.heap.size (fun _=>True) ab r2∧Below w.heap.size w w':=by
 have b0:=Tryz.underlying30
 have aO:=ae.mk a9
 have aP:=ae.mk aa
 clear a9 aa
 have HB:=ae.mk (Below.refl w.heap.size w)
 unfold eD.f at h
 have H:=h
 clear h
 obtain ⟨⟨a1,a2,a3⟩,A2,H⟩:=af.be H
 (try dsimp only at H)
 obtain ⟨⟨X,Y,a7,a8⟩,A3,H⟩:=af.be H
 (try dsimp only at H)
 simp only [Option.some.injEq,Prod.mk.injEq] at H
 obtain ⟨rfl,rfl⟩:=H
 go_enter Tryz.func50,Tryz.ntmps50
 go_wp2_with (first | (refine af.bx 2 #[.int .i64 0,.slice none 0 0] 30 ?_;intro z hg w4 hbox hb;have j:=ae.mk hbox;have ap:=af.gw hg HB;have ar:=af.gw hg HB;replace HB:=af.lb HB hb;clear hb hbox hg) | (refine af.gl (some 4) Tryz.func74 #[.slice A0 l0.length c0] ?_;(with_reducible refine (dr.calls k _ _ l0 a1 a2 a3 w _ ?side1 ?side2 ?side3 A2.out).mono ?_);(case side1=>exact af.J HB);(case side2=>exact aO.out);(case side3=>exact aP.out);rintro e w5 ⟨a4,rfl,hi,hb,a5⟩;refine ⟨_,rfl,?_⟩;replace HB:=ae.mk hb;have a6:=ae.mk hi;have M:=ae.mk (av.sJ hi (bQ (af.Bw j.out) a5) (by decide));have y:=ae.mk (Ne.symm (av.sJ hi (bQ (af.Bw j.out) a5) (by decide)));replace j:=ae.mk (bQ (af.Bw j.out) a5);(try clear hb);(try clear a5);(try clear hk);(try clear hi)) | (refine af.gl (some 5) Tryz.func100 #[.pointer (some ⟨a4,0,none⟩),.int .i64 7] ?_;(with_reducible refine (cS.calls k a4 a1 a2 a3 7 X Y a7 a8 w _ ?side1 ?side2 A3.out).mono ?_);(case side1=>exact af.I);(case side2=>exact af.J HB);rintro e w6 ⟨aR,rfl,al,hi,hb,hk⟩;refine ⟨_,rfl,?_⟩;replace j:=ae.mk (aq.blk hk (g':=z) (o:=.cells #[.int .i64 0,.slice none 0 0] 30 (0,0)) (af.Bw j.out) y.out (by simp));have a0:=ae.mk (Kd.b9 al (aj (af.J HB)));replace HB:=ae.mk hb;replace a6:=ae.mk hi;(try clear hb);(try clear a5);(try clear hk);(try clear hi);(try clear al);have b1:=y.out;have b2:=M.out;obtain ⟨aw,aB,aF,aL⟩:=af.bR j.out;obtain ⟨am,ao,aS⟩:=Kd.aY a0.out;subst aS))
 refine bodyPost_ret (results_cell_row rfl _ _ z 30 #[.int .i64 X,.slice am Y.length ao] (0,0) _ rfl af.B Tryz.underlying30 rfl (by kernel_rfl)) rfl ?_
 exact ⟨_,af.E,by (with_reducible repeat (first | apply Kd.cL | apply Kd.cM | apply Kd.bS));exact Kd.aX (Kd.cI (p:=⟨z,1,none⟩) (Kd.cI (p:=⟨z,0,none⟩) (Kd.cR a0.out j.out (by decide)) (fun _ hk=>hk.2) (.int .i64 X)) (fun _ hk=>hk.2) (.slice am Y.length ao)) (fun _ hk=>trivial),af.J HB⟩
def dm.f (a0:Int):Option (Bool):=if a0≥0 then (some (decide (a0≤8))) else (some false)
set_option maxHeartbeats 8000000 in
set_option maxRecDepth 100000 in
theorem dm.calls (a0:Int) (r:Bool) (w:World) (h:dm.f a0 = some r) :
  Calls Tryz.prog 123 #[.int .i64 a0] w fun e w'=>e = .returned (.bool r)∧cQ w w':=by
 unfold dm.f at h
 have H:=h
 clear h
 by_cases c2:a0≥0
 ·rw [if_pos c2] at H
  have j:=decide_eq_true c2
  clear c2
  obtain rfl:=Option.some.inj H
  go_enter Tryz.func123,Tryz.ntmps123
  go_wp2
  go_ret
  exact ⟨af.F,af.G⟩
 ·rw [if_neg c2] at H
  have j:decide (0≤a0) = false:=decide_eq_false c2
  clear c2
  obtain rfl:=Option.some.inj H
  go_enter Tryz.func123,Tryz.ntmps123
  go_wp2
  go_ret
  exact ⟨af.F,af.G⟩
def fN.f (a0:Int):Option (Int):=(dm.f a0).bind fun j=>(if j = true then (if 0≤a0 then (some (wrap64 ((shl .i64 1 a0) - 1))) else (none)) else (some 0))
set_option maxHeartbeats 8000000 in
set_option maxRecDepth 100000 in
theorem fN.calls (a0:Int) (r:Int) (w:World) (h:fN.f a0 = some r) :
  Calls Tryz.prog 115 #[.int .i64 a0] w fun e w'=>e = .returned (.int .i64 r)∧cQ w w':=by
 unfold fN.f at h
 have H:=h
 clear h
 obtain ⟨Y,A2,H⟩:=af.be H
 (try dsimp only at H)
 by_cases c3:Y = true
 ·subst c3
  replace H:(if 0≤a0 then (some (wrap64 ((shl .i64 1 a0) - 1))) else (none)) = some r:=by rw [if_pos rfl] at H;exact H
  obtain ⟨c4,H⟩:=af.ip H
  have a6:=eq_true c4
  have a7:decide (0≤a0) = true:=decide_eq_true c4
  clear c4
  obtain ⟨y,j⟩:∃ j_:Int,(shl .i64 1 a0) = j_:=⟨_,rfl⟩
  replace H:(some (wrap64 ((y) - 1))) = some r:=by first | (rw [j] at H;exact H) | (simp only [j] at H ⊢;exact H)
  (try rw [j] at A2)
  have z:(IntKind.i64.wrap (1 * 2 ^ min a0.toNat 64)) = y:=j
  have M:a0≤64→(IntKind.i64.wrap (1 * 2 ^ a0.toNat)) = y:=gi j
  have a2:(IntKind.i64.wrap (2 ^ min a0.toNat 64)) = y:=by have X:=z;rw [Int.one_mul] at X;exact X
  have a3:a0≤64→(IntKind.i64.wrap (2 ^ a0.toNat)) = y:=fun a1=>by have X:=M a1;rw [Int.one_mul] at X;exact X
  have a4:(wrap64 (1 * 2 ^ min a0.toNat 64)) = y:=(bw _).symm.trans z
  have a5:a0≤64→(wrap64 (1 * 2 ^ a0.toNat)) = y:=fun X=>(bw _).symm.trans (M X)
  obtain rfl:=Option.some.inj H
  go_enter Tryz.func115,Tryz.ntmps115
  go_wp2_with (first | (refine af.gl (some 4) Tryz.func123 #[.int .i64 a0] ?_;(with_reducible refine (dm.calls a0 true _ A2.out).mono ?_);rintro e w' ⟨rfl,⟨nd,rfl⟩⟩;refine ⟨_,rfl,?_⟩))
  go_ret
  exact ⟨by first | rfl | (simp;done) | (simp only [← j] <;> (first | rfl | simp)) | (simp [*];done),af.G⟩
 ·replace c3:=Bool.eq_false_iff.mpr c3
  subst c3
  replace H:(some 0) = some r:=by rw [if_neg (show ¬ (false = true) by decide)] at H;exact H
  obtain rfl:=Option.some.inj H
  go_enter Tryz.func115,Tryz.ntmps115
  go_wp2_with (first | (refine af.gl (some 4) Tryz.func123 #[.int .i64 a0] ?_;(with_reducible refine (dm.calls a0 false _ A2.out).mono ?_);rintro e w' ⟨rfl,⟨nd,rfl⟩⟩;refine ⟨_,rfl,?_⟩))
  go_ret
  exact ⟨af.F,af.G⟩
def fe.f (a0:Int):Option (Bool):=if a0≥0 then (some (decide (a0 < 256))) else (some false)
set_option maxHeartbeats 8000000 in
set_option maxRecDepth 100000 in
theorem fe.calls (a0:Int) (r:Bool) (w:World) (h:fe.f a0 = some r) :
  Calls Tryz.prog 147 #[.int .i64 a0] w fun e w'=>e = .returned (.bool r)∧cQ w w':=by
 unfold fe.f at h
 have H:=h
 clear h
 by_cases c2:a0≥0
 ·rw [if_pos c2] at H
  have j:=decide_eq_true c2
  clear c2
  obtain rfl:=Option.some.inj H
  go_enter Tryz.func147,Tryz.ntmps147
  go_wp2
  go_ret
  exact ⟨af.F,af.G⟩
 ·rw [if_neg c2] at H
  have j:decide (0≤a0) = false:=decide_eq_false c2
  clear c2
  obtain rfl:=Option.some.inj H
  go_enter Tryz.func147,Tryz.ntmps147
  go_wp2
  go_ret
  exact ⟨af.F,af.G⟩
def gn.f (a0:Int):Option (Int):=some (Go.bits .and .i64 (wrap64 (IntKind.u64.wrap ((IntKind.u64.wrap ((IntKind.u64.wrap ((Go.bits .and .u64 (IntKind.u64.wrap (((IntKind.u64.wrap ((Go.bits .and .u64 ((IntKind.u64.wrap ((Go.bits .and .u64 (a0 / 2) 6148914691236517205)+(Go.bits .and .u64 a0 6148914691236517205))) / 4) 3689348814741910323)+(Go.bits .and .u64 (IntKind.u64.wrap ((Go.bits .and .u64 (a0 / 2) 6148914691236517205)+(Go.bits .and .u64 a0 6148914691236517205))) 3689348814741910323))) / 16)+(IntKind.u64.wrap ((Go.bits .and .u64 ((IntKind.u64.wrap ((Go.bits .and .u64 (a0 / 2) 6148914691236517205)+(Go.bits .and .u64 a0 6148914691236517205))) / 4) 3689348814741910323)+(Go.bits .and .u64 (IntKind.u64.wrap ((Go.bits .and .u64 (a0 / 2) 6148914691236517205)+(Go.bits .and .u64 a0 6148914691236517205))) 3689348814741910323))))) 1085102592571150095)+((Go.bits .and .u64 (IntKind.u64.wrap (((IntKind.u64.wrap ((Go.bits .and .u64 ((IntKind.u64.wrap ((Go.bits .and .u64 (a0 / 2) 6148914691236517205)+(Go.bits .and .u64 a0 6148914691236517205))) / 4) 3689348814741910323)+(Go.bits .and .u64 (IntKind.u64.wrap ((Go.bits .and .u64 (a0 / 2) 6148914691236517205)+(Go.bits .and .u64 a0 6148914691236517205))) 3689348814741910323))) / 16)+(IntKind.u64.wrap ((Go.bits .and .u64 ((IntKind.u64.wrap ((Go.bits .and .u64 (a0 / 2) 6148914691236517205)+(Go.bits .and .u64 a0 6148914691236517205))) / 4) 3689348814741910323)+(Go.bits .and .u64 (IntKind.u64.wrap ((Go.bits .and .u64 (a0 / 2) 6148914691236517205)+(Go.bits .and .u64 a0 6148914691236517205))) 3689348814741910323))))) 1085102592571150095) / 256)))+((IntKind.u64.wrap ((Go.bits .and .u64 (IntKind.u64.wrap (((IntKind.u64.wrap ((Go.bits .and .u64 ((IntKind.u64.wrap ((Go.bits .and .u64 (a0 / 2) 6148914691236517205)+(Go.bits .and .u64 a0 6148914691236517205))) / 4) 3689348814741910323)+(Go.bits .and .u64 (IntKind.u64.wrap ((Go.bits .and .u64 (a0 / 2) 6148914691236517205)+(Go.bits .and .u64 a0 6148914691236517205))) 3689348814741910323))) / 16)+(IntKind.u64.wrap ((Go.bits .and .u64 ((IntKind.u64.wrap ((Go.bits .and .u64 (a0 / 2) 6148914691236517205)+(Go.bits .and .u64 a0 6148914691236517205))) / 4) 3689348814741910323)+(Go.bits .and .u64 (IntKind.u64.wrap ((Go.bits .and .u64 (a0 / 2) 6148914691236517205)+(Go.bits .and .u64 a0 6148914691236517205))) 3689348814741910323))))) 1085102592571150095)+((Go.bits .and .u64 (IntKind.u64.wrap (((IntKind.u64.wrap ((Go.bits .and .u64 ((IntKind.u64.wrap ((Go.bits .and .u64 (a0 / 2) 6148914691236517205)+(Go.bits .and .u64 a0 6148914691236517205))) / 4) 3689348814741910323)+(Go.bits .and .u64 (IntKind.u64.wrap ((Go.bits .and .u64 (a0 / 2) 6148914691236517205)+(Go.bits .and .u64 a0 6148914691236517205))) 3689348814741910323))) / 16)+(IntKind.u64.wrap ((Go.bits .and .u64 ((IntKind.u64.wrap ((Go.bits .and .u64 (a0 / 2) 6148914691236517205)+(Go.bits .and .u64 a0 6148914691236517205))) / 4) 3689348814741910323)+(Go.bits .and .u64 (IntKind.u64.wrap ((Go.bits .and .u64 (a0 / 2) 6148914691236517205)+(Go.bits .and .u64 a0 6148914691236517205))) 3689348814741910323))))) 1085102592571150095) / 256))) / 65536)))+((IntKind.u64.wrap ((IntKind.u64.wrap ((Go.bits .and .u64 (IntKind.u64.wrap (((IntKind.u64.wrap ((Go.bits .and .u64 ((IntKind.u64.wrap ((Go.bits .and .u64 (a0 / 2) 6148914691236517205)+(Go.bits .and .u64 a0 6148914691236517205))) / 4) 3689348814741910323)+(Go.bits .and .u64 (IntKind.u64.wrap ((Go.bits .and .u64 (a0 / 2) 6148914691236517205)+(Go.bits .and .u64 a0 6148914691236517205))) 3689348814741910323))) / 16)+(IntKind.u64.wrap ((Go.bits .and .u64 ((IntKind.u64.wrap ((Go.bits .and .u64 (a0 / 2) 6148914691236517205)+(Go.bits .and .u64 a0 6148914691236517205))) / 4) 3689348814741910323)+(Go.bits .and .u64 (IntKind.u64.wrap ((Go.bits .and .u64 (a0 / 2) 6148914691236517205)+(Go.bits .and .u64 a0 6148914691236517205))) 3689348814741910323))))) 1085102592571150095)+((Go.bits .and .u64 (IntKind.u64.wrap (((IntKind.u64.wrap ((Go.bits .and .u64 ((IntKind.u64.wrap ((Go.bits .and .u64 (a0 / 2) 6148914691236517205)+(Go.bits .and .u64 a0 6148914691236517205))) / 4) 3689348814741910323)+(Go.bits .and .u64 (IntKind.u64.wrap ((Go.bits .and .u64 (a0 / 2) 6148914691236517205)+(Go.bits .and .u64 a0 6148914691236517205))) 3689348814741910323))) / 16)+(IntKind.u64.wrap ((Go.bits .and .u64 ((IntKind.u64.wrap ((Go.bits .and .u64 (a0 / 2) 6148914691236517205)+(Go.bits .and .u64 a0 6148914691236517205))) / 4) 3689348814741910323)+(Go.bits .and .u64 (IntKind.u64.wrap ((Go.bits .and .u64 (a0 / 2) 6148914691236517205)+(Go.bits .and .u64 a0 6148914691236517205))) 3689348814741910323))))) 1085102592571150095) / 256)))+((IntKind.u64.wrap ((Go.bits .and .u64 (IntKind.u64.wrap (((IntKind.u64.wrap ((Go.bits .and .u64 ((IntKind.u64.wrap ((Go.bits .and .u64 (a0 / 2) 6148914691236517205)+(Go.bits .and .u64 a0 6148914691236517205))) / 4) 3689348814741910323)+(Go.bits .and .u64 (IntKind.u64.wrap ((Go.bits .and .u64 (a0 / 2) 6148914691236517205)+(Go.bits .and .u64 a0 6148914691236517205))) 3689348814741910323))) / 16)+(IntKind.u64.wrap ((Go.bits .and .u64 ((IntKind.u64.wrap ((Go.bits .and .u64 (a0 / 2) 6148914691236517205)+(Go.bits .and .u64 a0 6148914691236517205))) / 4) 3689348814741910323)+(Go.bits .and .u64 (IntKind.u64.wrap ((Go.bits .and .u64 (a0 / 2) 6148914691236517205)+(Go.bits .and .u64 a0 6148914691236517205))) 3689348814741910323))))) 1085102592571150095)+((Go.bits .and .u64 (IntKind.u64.wrap (((IntKind.u64.wrap ((Go.bits .and .u64 ((IntKind.u64.wrap ((Go.bits .and .u64 (a0 / 2) 6148914691236517205)+(Go.bits .and .u64 a0 6148914691236517205))) / 4) 3689348814741910323)+(Go.bits .and .u64 (IntKind.u64.wrap ((Go.bits .and .u64 (a0 / 2) 6148914691236517205)+(Go.bits .and .u64 a0 6148914691236517205))) 3689348814741910323))) / 16)+(IntKind.u64.wrap ((Go.bits .and .u64 ((IntKind.u64.wrap ((Go.bits .and .u64 (a0 / 2) 6148914691236517205)+(Go.bits .and .u64 a0 6148914691236517205))) / 4) 3689348814741910323)+(Go.bits .and .u64 (IntKind.u64.wrap ((Go.bits .and .u64 (a0 / 2) 6148914691236517205)+(Go.bits .and .u64 a0 6148914691236517205))) 3689348814741910323))))) 1085102592571150095) / 256))) / 65536))) / 4294967296)))) 127)
set_option maxHeartbeats 8000000 in
set_option maxRecDepth 100000 in
theorem gn.calls (a0:Int) (r:Int) (w:World) (h:gn.f a0 = some r) :
  Calls Tryz.prog 167 #[.int .u64 a0] w fun e w'=>e = .returned (.int .i64 r)∧cQ w w':=by
 unfold gn.f at h
 have H:=h
 clear h
 obtain rfl:=Option.some.inj H
 go_enter Tryz.func167,Tryz.ntmps167
 go_wp2
 go_ret
 exact ⟨af.F,af.G⟩
def gp.f (a0:Int):Option (Int):=(gn.f a0).bind fun j=>(some j)
set_option maxHeartbeats 8000000 in
set_option maxRecDepth 100000 in
theorem gp.calls (a0:Int) (r:Int) (w:World) (h:gp.f a0 = some r) :
  Calls Tryz.prog 148 #[.int .u64 a0] w fun e w'=>e = .returned (.int .i64 r)∧cQ w w':=by
 unfold gp.f at h
 have H:=h
 clear h
 obtain ⟨j,y,H⟩:=af.be H
 (try dsimp only at H)
 obtain rfl:=Option.some.inj H
 go_enter Tryz.func148,Tryz.ntmps148
 go_wp2_with (first | (refine af.gl (some 7) Tryz.func167 #[.int .u64 a0] ?_;(with_reducible refine (gn.calls a0 j _ y.out).mono ?_);rintro e w' ⟨rfl,⟨nd,rfl⟩⟩;refine ⟨_,rfl,?_⟩))
 go_ret
 exact ⟨af.F,af.G⟩
def eu.f (a0:Int):Option (Int):=(fe.f a0).bind fun j=>(if j = true then ((gp.f (IntKind.u64.wrap (a0))).bind fun y=>(some y)) else (some 0))
set_option maxHeartbeats 8000000 in
set_option maxRecDepth 100000 in
theorem eu.calls (a0:Int) (r:Int) (w:World) (h:eu.f a0 = some r) :
  Calls Tryz.prog 117 #[.int .i64 a0] w fun e w'=>e = .returned (.int .i64 r)∧cQ w w':=by
 unfold eu.f at h
 have H:=h
 clear h
 obtain ⟨y,z,H⟩:=af.be H
 (try dsimp only at H)
 by_cases c3:y = true
 ·subst c3
  replace H:((gp.f (IntKind.u64.wrap (a0))).bind fun j=>(some j)) = some r:=by rw [if_pos rfl] at H;exact H
  obtain ⟨j,M,H⟩:=af.be H
  (try dsimp only at H)
  obtain rfl:=Option.some.inj H
  go_enter Tryz.func117,Tryz.ntmps117
  go_wp2_with (first | (refine af.gl (some 4) Tryz.func147 #[.int .i64 a0] ?_;(with_reducible refine (fe.calls a0 true _ z.out).mono ?_);rintro e w' ⟨rfl,⟨nd,rfl⟩⟩;refine ⟨_,rfl,?_⟩) | (refine af.gl (some 8) Tryz.func148 #[.int .u64 (IntKind.u64.wrap (a0))] ?_;(with_reducible refine (gp.calls (IntKind.u64.wrap (a0)) j _ M.out).mono ?_);rintro e w' ⟨rfl,⟨nd,rfl⟩⟩;refine ⟨_,rfl,?_⟩))
  go_ret
  exact ⟨af.F,af.G⟩
 ·replace c3:=Bool.eq_false_iff.mpr c3
  subst c3
  replace H:(some 0) = some r:=by rw [if_neg (show ¬ (false = true) by decide)] at H;exact H
  obtain rfl:=Option.some.inj H
  go_enter Tryz.func117,Tryz.ntmps117
  go_wp2_with (first | (refine af.gl (some 4) Tryz.func147 #[.int .i64 a0] ?_;(with_reducible refine (fe.calls a0 false _ z.out).mono ?_);rintro e w' ⟨rfl,⟨nd,rfl⟩⟩;refine ⟨_,rfl,?_⟩))
  go_ret
  exact ⟨af.F,af.G⟩
def fU.f (a0:Int) (j:Int):Option (Bool):=(dm.f a0).bind fun t173=>(if t173 = true then (if j≥0 then (if 0≤a0 then (some (decide (j < (shl .i64 1 a0)))) else (none)) else (some false)) else (some false))
set_option maxHeartbeats 8000000 in
set_option maxRecDepth 100000 in
theorem fU.calls (a0:Int) (X:Int) (r:Bool) (w:World) (h:fU.f a0 X = some r) :
  Calls Tryz.prog 82 #[.int .i64 a0,.int .i64 X] w fun e w'=>e = .returned (.bool r)∧cQ w w':=by
 unfold fU.f at h
 have H:=h
 clear h
 obtain ⟨t173,A3,H⟩:=af.be H
 (try dsimp only at H)
 by_cases c4:t173 = true
 ·subst c4
  replace H:(if X≥0 then (if 0≤a0 then (some (decide (X < (shl .i64 1 a0)))) else (none)) else (some false)) = some r:=by rw [if_pos rfl] at H;exact H
  by_cases c5:X≥0
  ·rw [if_pos c5] at H
   have a2:=decide_eq_true c5
   clear c5
   obtain ⟨c6,H⟩:=af.ip H
   have a8:=eq_true c6
   have a9:decide (0≤a0) = true:=decide_eq_true c6
   clear c6
   obtain ⟨y,j⟩:∃ j_:Int,(shl .i64 1 a0) = j_:=⟨_,rfl⟩
   replace H:(some (decide (X < (y)))) = some r:=by first | (rw [j] at H;exact H) | (simp only [j] at H ⊢;exact H)
   (try rw [j] at A3)
   have z:(IntKind.i64.wrap (1 * 2 ^ min a0.toNat 64)) = y:=j
   have M:a0≤64→(IntKind.i64.wrap (1 * 2 ^ a0.toNat)) = y:=gi j
   have a4:(IntKind.i64.wrap (2 ^ min a0.toNat 64)) = y:=by have Y:=z;rw [Int.one_mul] at Y;exact Y
   have a5:a0≤64→(IntKind.i64.wrap (2 ^ a0.toNat)) = y:=fun a3=>by have Y:=M a3;rw [Int.one_mul] at Y;exact Y
   have a6:(wrap64 (1 * 2 ^ min a0.toNat 64)) = y:=(bw _).symm.trans z
   have a7:a0≤64→(wrap64 (1 * 2 ^ a0.toNat)) = y:=fun Y=>(bw _).symm.trans (M Y)
   obtain rfl:=Option.some.inj H
   go_enter Tryz.func82,Tryz.ntmps82
   go_wp2_with (first | (refine af.gl (some 6) Tryz.func123 #[.int .i64 a0] ?_;(with_reducible refine (dm.calls a0 true _ A3.out).mono ?_);rintro e w' ⟨rfl,⟨nd,rfl⟩⟩;refine ⟨_,rfl,?_⟩))
   go_ret
   exact ⟨by first | rfl | (simp;done) | (simp only [← j] <;> (first | rfl | simp)) | (simp [*];done),af.G⟩
  ·rw [if_neg c5] at H
   have a2:decide (0≤X) = false:=decide_eq_false c5
   clear c5
   obtain rfl:=Option.some.inj H
   go_enter Tryz.func82,Tryz.ntmps82
   go_wp2_with (first | (refine af.gl (some 6) Tryz.func123 #[.int .i64 a0] ?_;(with_reducible refine (dm.calls a0 true _ A3.out).mono ?_);rintro e w' ⟨rfl,⟨nd,rfl⟩⟩;refine ⟨_,rfl,?_⟩))
   go_ret
   exact ⟨af.F,af.G⟩
 ·replace c4:=Bool.eq_false_iff.mpr c4
  subst c4
  replace H:(some false) = some r:=by rw [if_neg (show ¬ (false = true) by decide)] at H;exact H
  obtain rfl:=Option.some.inj H
  go_enter Tryz.func82,Tryz.ntmps82
  go_wp2_with (first | (refine af.gl (some 6) Tryz.func123 #[.int .i64 a0] ?_;(with_reducible refine (dm.calls a0 false _ A3.out).mono ?_);rintro e w' ⟨rfl,⟨nd,rfl⟩⟩;refine ⟨_,rfl,?_⟩))
  go_ret
  exact ⟨af.F,af.G⟩
def cq.l0:Nat→Int→List Int→List Int→Int→Int→Option (Bool)
 | 0,_,_,_,_,_=>none
 | k+1,z,M,y,X,j=>if j < X then (if 0≤j then (if j < (y.length:Int) then ((fU.f z (rd y j)).bind fun t175=>(if t175 = true then (if j > 0 then (if 0≤(wrap64 (j - 1)) then (if (wrap64 (j - 1)) < (M.length:Int) then (if (rd y j)≤(rd M (wrap64 (j - 1))) then (some false) else (cq.l0 k z M y X (wrap64 (j+1)))) else (none)) else (none)) else (cq.l0 k z M y X (wrap64 (j+1)))) else (some false))) else (none)) else (none)) else ((dm.f z).bind fun t177=>(some t177))
def cq.f (k:Nat) (a0:Int) (l1:List Int):Option (Bool):=cq.l0 k a0 l1 l1 (l1.length:Int) 0
set_option maxHeartbeats 8000000 in
set_option maxRecDepth 100000 in
theorem cq.calls (k:Nat) (a0:Int) (A1:Option Addr) (c1:Nat) (l1:List Int) (r:Bool) (w:World) (al:Kd.C (Kd.int .i64) w A1 l1.length l1) (am:l1.length≤c1) (h:cq.f k a0 l1 = some r) :
  Calls Tryz.prog 150 #[.int .i64 a0,.slice A1 l1.length c1] w fun e w'=>e = .returned (.bool r)∧cQ w w':=by
 have a4:=ae.mk al
 have aR:=ae.mk am
 clear al am
 unfold cq.f at h
 have H:=h
 clear h
 have H':=ae.mk H
 clear H
 go_enter Tryz.func150,Tryz.ntmps150
 go_wp2
 go_loopg [9] k (fun kq v9 w'=>∃ (j:Int),v9 = .int .i64 j∧ae (cq.l0 kq a0 l1 l1 (l1.length:Int) j = some r)∧ae (kq≤k)∧cQ w w')
 case atStart=>exact ⟨(0),af.F,H',⟨Nat.le_refl _⟩,af.G⟩
 case round =>
  clear H'
  obtain ⟨j,rfl,HA,aa,⟨m1,rfl⟩⟩:=hrel
  cases gk with
  | zero=>exact absurd HA.out (by simp [cq.l0])
  | succ k1 =>
   have H:=HA.out
   clear HA
   simp only [cq.l0] at H
   by_cases c3:j < (l1.length:Int)
   ·rw [if_pos c3] at H
    have ao:=decide_eq_true c3
    clear c3
    obtain ⟨c4,H⟩:=af.ip H
    have aO:=decide_eq_true c4
    clear c4
    obtain ⟨c5,H⟩:=af.ip H
    have aP:=decide_eq_true c5
    clear c5
    obtain ⟨t175,A6,H⟩:=af.be H
    (try dsimp only at H)
    by_cases c7:t175 = true
    ·subst c7
     replace H:(if j > 0 then (if 0≤(wrap64 (j - 1)) then (if (wrap64 (j - 1)) < (l1.length:Int) then (if (rd l1 j)≤(rd l1 (wrap64 (j - 1))) then (some false) else (cq.l0 k1 a0 l1 l1 (l1.length:Int) (wrap64 (j+1)))) else (none)) else (none)) else (cq.l0 k1 a0 l1 l1 (l1.length:Int) (wrap64 (j+1)))) = some r:=by rw [if_pos rfl] at H;exact H
     by_cases c8:j > 0
     ·rw [if_pos c8] at H
      have ap:=decide_eq_true c8
      clear c8
      obtain ⟨y,a2⟩:∃ j_:Int,(wrap64 (j - 1)) = j_:=⟨_,rfl⟩
      replace H:(if 0≤(y) then (if (y) < (l1.length:Int) then (if (rd l1 j)≤(rd l1 (y)) then (some false) else (cq.l0 k1 a0 l1 l1 (l1.length:Int) (wrap64 (j+1)))) else (none)) else (none)) = some r:=by first | (rw [a2] at H;exact H) | (simp only [a2] at H ⊢;exact H)
      (try rw [a2] at A6)
      have aw:(IntKind.i64.wrap (j - 1)) = y:=(bw _).trans a2
      obtain ⟨gz,H⟩:=af.ip H
      have aB:=decide_eq_true gz
      clear gz
      obtain ⟨ar,H⟩:=af.ip H
      have aF:=decide_eq_true ar
      clear ar
      by_cases a5:(rd l1 j)≤(rd l1 (y))
      ·rw [if_pos a5] at H
       have ab:=decide_eq_true a5
       clear a5
       obtain rfl:=Option.some.inj H
       obtain ⟨z,M,X,a6,a7⟩:=af.ai a4.out j
       cases M
       go_wp2_with (first | (refine af.gl (some 16) Tryz.func82 #[.int .i64 a0,.int .i64 (rd l1 j)] ?_;(with_reducible refine (fU.calls a0 (rd l1 j) true _ A6.out).mono ?_);rintro e w' ⟨rfl,⟨nd,rfl⟩⟩;refine ⟨_,rfl,?_⟩;have Y:0≤((y):Int):=af.D;have a1:(y) < (l1.length:Int):=af.D;obtain ⟨a3,a8,a9⟩:=Kd.dS a4.out (y) Y a1;obtain rfl:z = a3:=(by injection a8);replace Y:=eq_true Y;replace a1:=eq_true a1))
       go_ret
       exact ⟨by first | rfl | (simp;done) | (simp only [← a2] <;> (first | rfl | simp)) | (simp [*];done),af.G⟩
      ·rw [if_neg a5] at H
       have ab:decide ((rd l1 j)≤(rd l1 (y))) = false:=decide_eq_false a5
       clear a5
       have H':=ae.mk H
       clear H
       obtain ⟨z,M,X,a6,a7⟩:=af.ai a4.out j
       cases M
       go_wp2_with (first | (refine af.gl (some 16) Tryz.func82 #[.int .i64 a0,.int .i64 (rd l1 j)] ?_;(with_reducible refine (fU.calls a0 (rd l1 j) true _ A6.out).mono ?_);rintro e w' ⟨rfl,⟨nd,rfl⟩⟩;refine ⟨_,rfl,?_⟩;have Y:0≤((y):Int):=af.D;have a1:(y) < (l1.length:Int):=af.D;obtain ⟨a3,a8,a9⟩:=Kd.dS a4.out (y) Y a1;obtain rfl:z = a3:=(by injection a8);replace Y:=eq_true Y;replace a1:=eq_true a1))
       go_roundg k1
       case measure=>have:=aa.out;omega
       case rel=>exact ⟨(wrap64 (j+1)),af.F,H',⟨by have:=aa.out;omega⟩,af.G⟩
     ·rw [if_neg c8] at H
      have ap:decide (0 < j) = false:=decide_eq_false c8
      clear c8
      have H':=ae.mk H
      clear H
      obtain ⟨z,M,X,a6,a7⟩:=af.ai a4.out j
      cases M
      go_wp2_with (first | (refine af.gl (some 16) Tryz.func82 #[.int .i64 a0,.int .i64 (rd l1 j)] ?_;(with_reducible refine (fU.calls a0 (rd l1 j) true _ A6.out).mono ?_);rintro e w' ⟨rfl,⟨nd,rfl⟩⟩;refine ⟨_,rfl,?_⟩))
      go_roundg k1
      case measure=>have:=aa.out;omega
      case rel=>exact ⟨(wrap64 (j+1)),af.F,H',⟨by have:=aa.out;omega⟩,af.G⟩
    ·replace c7:=Bool.eq_false_iff.mpr c7
     subst c7
     replace H:(some false) = some r:=by rw [if_neg (show ¬ (false = true) by decide)] at H;exact H
     obtain rfl:=Option.some.inj H
     obtain ⟨z,M,X,a6,a7⟩:=af.ai a4.out j
     cases M
     go_wp2_with (first | (refine af.gl (some 16) Tryz.func82 #[.int .i64 a0,.int .i64 (rd l1 j)] ?_;(with_reducible refine (fU.calls a0 (rd l1 j) false _ A6.out).mono ?_);rintro e w' ⟨rfl,⟨nd,rfl⟩⟩;refine ⟨_,rfl,?_⟩))
     go_ret
     exact ⟨af.F,af.G⟩
   ·rw [if_neg c3] at H
    have ao:decide (j < (l1.length:Int)) = false:=decide_eq_false c3
    clear c3
    obtain ⟨t177,aL,H⟩:=af.be H
    (try dsimp only at H)
    obtain rfl:=Option.some.inj H
    go_wp2_with (first | (refine af.gl (some 33) Tryz.func123 #[.int .i64 a0] ?_;(with_reducible refine (dm.calls a0 t177 _ aL.out).mono ?_);rintro e w' ⟨rfl,⟨nd,rfl⟩⟩;refine ⟨_,rfl,?_⟩))
    go_ret
    exact ⟨af.F,af.G⟩
def eR.f (a0:Int) (j:Int):Option (Bool):=(fe.f a0).bind fun t165=>(if t165 = true then (if j≥0 then (if j < 8 then (if 0≤j then (some ((Go.bits .and .i64 (shr .i64 a0 j) 1) == 1)) else (none)) else (some false)) else (some false)) else (some false))
set_option maxHeartbeats 8000000 in
set_option maxRecDepth 100000 in
theorem eR.calls (a0:Int) (y:Int) (r:Bool) (w:World) (h:eR.f a0 y = some r) :
  Calls Tryz.prog 132 #[.int .i64 a0,.int .i64 y] w fun e w'=>e = .returned (.bool r)∧cQ w w':=by
 unfold eR.f at h
 have H:=h
 clear h
 obtain ⟨t165,M,H⟩:=af.be H
 (try dsimp only at H)
 by_cases c4:t165 = true
 ·subst c4
  replace H:(if y≥0 then (if y < 8 then (if 0≤y then (some ((Go.bits .and .i64 (shr .i64 a0 y) 1) == 1)) else (none)) else (some false)) else (some false)) = some r:=by rw [if_pos rfl] at H;exact H
  by_cases c5:y≥0
  ·rw [if_pos c5] at H
   have X:=decide_eq_true c5
   clear c5
   by_cases c6:y < 8
   ·rw [if_pos c6] at H
    have Y:=decide_eq_true c6
    clear c6
    obtain ⟨c7,H⟩:=af.ip H
    have a4:=eq_true c7
    have a5:decide (0≤y) = true:=decide_eq_true c7
    clear c7
    obtain ⟨z,j⟩:∃ j_:Int,(shr .i64 a0 y) = j_:=⟨_,rfl⟩
    replace H:(some ((Go.bits .and .i64 (z) 1) == 1)) = some r:=by first | (rw [j] at H;exact H) | (simp only [j] at H ⊢;exact H)
    (try rw [j] at M)
    have a2:(a0 / 2 ^ min y.toNat 64) = z:=j
    have a3:y≤64→(a0 / 2 ^ y.toNat) = z:=nD j
    obtain rfl:=Option.some.inj H
    go_enter Tryz.func132,Tryz.ntmps132
    go_wp2_with (first | (refine af.gl (some 6) Tryz.func147 #[.int .i64 a0] ?_;(with_reducible refine (fe.calls a0 true _ M.out).mono ?_);rintro e w' ⟨rfl,⟨nd,rfl⟩⟩;refine ⟨_,rfl,?_⟩))
    go_ret
    exact ⟨by first | rfl | (simp;done) | (simp only [← j] <;> (first | rfl | simp)) | (simp [*];done),af.G⟩
   ·rw [if_neg c6] at H
    have Y:decide (y < 8) = false:=decide_eq_false c6
    clear c6
    obtain rfl:=Option.some.inj H
    go_enter Tryz.func132,Tryz.ntmps132
    go_wp2_with (first | (refine af.gl (some 6) Tryz.func147 #[.int .i64 a0] ?_;(with_reducible refine (fe.calls a0 true _ M.out).mono ?_);rintro e w' ⟨rfl,⟨nd,rfl⟩⟩;refine ⟨_,rfl,?_⟩))
    go_ret
    exact ⟨af.F,af.G⟩
  ·rw [if_neg c5] at H
   have X:decide (0≤y) = false:=decide_eq_false c5
   clear c5
   obtain rfl:=Option.some.inj H
   go_enter Tryz.func132,Tryz.ntmps132
   go_wp2_with (first | (refine af.gl (some 6) Tryz.func147 #[.int .i64 a0] ?_;(with_reducible refine (fe.calls a0 true _ M.out).mono ?_);rintro e w' ⟨rfl,⟨nd,rfl⟩⟩;refine ⟨_,rfl,?_⟩))
   go_ret
   exact ⟨af.F,af.G⟩
 ·replace c4:=Bool.eq_false_iff.mpr c4
  subst c4
  replace H:(some false) = some r:=by rw [if_neg (show ¬ (false = true) by decide)] at H;exact H
  obtain rfl:=Option.some.inj H
  go_enter Tryz.func132,Tryz.ntmps132
  go_wp2_with (first | (refine af.gl (some 6) Tryz.func147 #[.int .i64 a0] ?_;(with_reducible refine (fe.calls a0 false _ M.out).mono ?_);rintro e w' ⟨rfl,⟨nd,rfl⟩⟩;refine ⟨_,rfl,?_⟩))
  go_ret
  exact ⟨af.F,af.G⟩
def bL.l0:Nat→Int→List Int→Int→Option (List Int)
 | 0,_,_,_=>none
 | k+1,z,y,j=>if j < 8 then ((eR.f z j).bind fun t169=>(if t169 = true then (if y.length < 17592186044416 then (bL.l0 k z (y ++ [j]) (wrap64 (j+1))) else (none)) else (bL.l0 k z y (wrap64 (j+1))))) else (some y)
def bL.f (k:Nat) (a0:Int):Option (List Int):=bL.l0 k a0 (([]:List Int)) 0
set_option maxHeartbeats 8000000 in
set_option maxRecDepth 100000 in
theorem bL.calls (k:Nat) (a0:Int) (r:List Int) (w:World) (h:bL.f k a0 = some r) :
  Calls Tryz.prog 83 #[.int .i64 a0] w fun e w'=>∃ a9:Value,e = .returned (a9)∧Kd.R (Kd.int .i64) 3 w' w.heap.size (fun _=>True) a9 r∧Below w.heap.size w w':=by
 have HB:=ae.mk (Below.refl w.heap.size w)
 unfold bL.f at h
 have H:=h
 clear h
 obtain ⟨a3,z⟩:∃ y_:List Int,y_ = (([]:List Int)):=⟨_,rfl⟩
 replace H:(bL.l0 k a0 a3 0) = some r:=by (try rw [z]);exact af.Z
 have Y:=ae.mk z
 clear z
 have H':=ae.mk H
 clear H
 go_enter Tryz.func83,Tryz.ntmps83
 go_wp2_with (first | (refine af.lt (Kd.int .i64) 3 5 ?_;intro v167 w2 a1 hb ao a5;clear ao a5;(first | rw [← Y.out] at a1 | (simp only [Int.reduceToNat] at a1;rw [← Y.out] at a1));have a6:=ae.mk (Kd.b9 a1 (aj (af.Lw HB.out)));replace HB:=af.lb HB hb;clear hb a1))
 go_loopg [3,4] k (fun kq v3 v4 w'=>∃ (y:List Int) (j:Int),v4 = .int .i64 j∧ae (bL.l0 kq a0 y j = some r)∧ae (kq≤k)∧ae (Kd.R (Kd.int .i64) 3 w' w.heap.size (fun _=>True) v3 y)∧ae (Below w.heap.size w w'))
 case atStart=>exact ⟨(a3),(0),af.F,H',⟨Nat.le_refl _⟩,⟨af.Rw a6.out⟩,⟨af.Lw HB.out⟩⟩
 case round =>
  clear H'
  obtain ⟨y,j,rfl,HA,a2,X,HB⟩:=hrel
  cases gk with
  | zero=>exact absurd HA.out (by simp [bL.l0])
  | succ k1 =>
   have H:=HA.out
   clear HA
   simp only [bL.l0] at H
   by_cases c4:j < 8
   ·rw [if_pos c4] at H
    have aa:=decide_eq_true c4
    clear c4
    obtain ⟨t169,A5,H⟩:=af.be H
    (try dsimp only at H)
    by_cases c6:t169 = true
    ·subst c6
     replace H:(if y.length < 17592186044416 then (bL.l0 k1 a0 (y ++ [j]) (wrap64 (j+1))) else (none)) = some r:=by rw [if_pos rfl] at H;exact H
     obtain ⟨c7,H⟩:=af.ip H
     have ab:=ae.mk c7
     clear c7
     obtain ⟨a4,M⟩:∃ y_:List Int,y_ = (y ++ [j]):=⟨_,rfl⟩
     replace H:(bL.l0 k1 a0 a4 (wrap64 (j+1))) = some r:=by (try rw [M]);exact af.Z
     have a7:=ae.mk M
     clear M
     have H':=ae.mk H
     clear H
     go_wp2_with (first | (refine af.gl (some 12) Tryz.func132 #[.int .i64 a0,.int .i64 j] ?_;(with_reducible refine (eR.calls a0 j true _ A5.out).mono ?_);rintro e w' ⟨rfl,⟨nd,rfl⟩⟩;refine ⟨_,rfl,?_⟩) | ((with_reducible refine cB (b:=.append) (xs:=#[.tmp 13,.tmp 15]) rfl ?_);at_builtin;refine Kd.fg (Kd.int .i64) (w0:=w) w.heap.size rfl (.tmp 13) (.tmp 15) 28 3 (.int .i64 0) 8 rfl Tryz.underlying28 eJ rfl (by decide) (by omega) u3 y j [.int .i64 j] (fun _=>True) (fun _=>False) rfl rfl (by exact rfl) (fun _ hk=>hk.elim) (by exact fun _ _=>trivial) (by exact af.Rw X.out) (by exact af.Lw HB.out) (by exact aj (af.Lw HB.out)) (by have:=ab.out;omega) ?_;intro v171 w8 ho hb hg hat;rw [← a7.out] at ho;have al:=ae.mk hb;have am:=ae.mk ho;clear HB;clear X;have HB:=al;have a8:=am;clear al am;clear ho hb hg hat))
     go_roundg k1
     case measure=>have:=a2.out;omega
     case rel=>exact ⟨(a4),(wrap64 (j+1)),af.F,H',⟨by have:=a2.out;omega⟩,⟨af.Rw a8.out⟩,⟨af.Lw HB.out⟩⟩
    ·replace c6:=Bool.eq_false_iff.mpr c6
     subst c6
     replace H:(bL.l0 k1 a0 y (wrap64 (j+1))) = some r:=by rw [if_neg (show ¬ (false = true) by decide)] at H;exact H
     have H':=ae.mk H
     clear H
     go_wp2_with (first | (refine af.gl (some 12) Tryz.func132 #[.int .i64 a0,.int .i64 j] ?_;(with_reducible refine (eR.calls a0 j false _ A5.out).mono ?_);rintro e w' ⟨rfl,⟨nd,rfl⟩⟩;refine ⟨_,rfl,?_⟩))
     go_roundg k1
     case measure=>have:=a2.out;omega
     case rel=>exact ⟨(y),(wrap64 (j+1)),af.F,H',⟨by have:=a2.out;omega⟩,⟨af.Rw X.out⟩,⟨af.Lw HB.out⟩⟩
   ·rw [if_neg c4] at H
    have aa:decide (j < 8) = false:=decide_eq_false c4
    clear c4
    obtain rfl:=Option.some.inj H
    go_wp2
    go_ret
    exact ⟨_,af.E,by (with_reducible repeat (first | apply Kd.cL | apply Kd.cM | apply Kd.bS));exact X.out,af.L⟩
def bM.l0 (g:Int→Option Bool):Nat→List Int→Int→Option Int
 | 0,_,_=>none
 | k+1,y,j=>if j < (y.length:Int) then (if 0≤j then ((g (rd y j)).bind fun t=>(if t = true then (some j) else (bM.l0 g k y (wrap64 (j+1))))) else (none)) else (some (-1))
def bM.f (k:Nat) (l0:List Int) (g:Int→Option Bool):Option Int:=bM.l0 g k l0 0
set_option maxHeartbeats 8000000 in
set_option maxRecDepth 100000 in
theorem bM.calls (k:Nat) (A0:Option Addr) (c0:Nat) (l0:List Int) (fv:Value) (g:Int→Option Bool) (r:Int) (w:World) (Y:Kd.C (Kd.int .i64) w A0 l0.length l0) (hF:af.pO Tryz.prog w fv g) (h:bM.f k l0 g = some r) :
  Calls Tryz.prog 174 #[.slice A0 l0.length c0,fv] w fun e w'=>e = .returned (.int .i64 r)∧Below w.heap.size w w':=by
 have a4:=ae.mk Y
 clear Y
 have HB:=ae.mk (Below.refl w.heap.size w)
 unfold bM.f at h
 have H:=h
 clear h
 have H':=ae.mk H
 clear H
 go_enter Tryz.func174,Tryz.ntmps174
 go_wp2
 go_loopg [8] k (fun kq v8 w'=>∃ (j:Int),v8 = .int .i64 j∧ae (bM.l0 g kq l0 j = some r)∧ae (kq≤k)∧ae (Below w.heap.size w w'))
 case atStart=>exact ⟨0,rfl,H',⟨Nat.le_refl _⟩,HB⟩
 case round =>
  clear H' HB
  obtain ⟨j,rfl,HA,a0,HB⟩:=hrel
  cases gk with
  | zero=>exact absurd HA.out (by simp [bM.l0])
  | succ k1 =>
   have H:=HA.out
   clear HA
   simp only [bM.l0] at H
   by_cases c3:j < (l0.length:Int)
   ·rw [if_pos c3] at H
    have a1:=decide_eq_true c3
    clear c3
    obtain ⟨c4,H⟩:=af.ip H
    have a6:=decide_eq_true c4
    clear c4
    obtain ⟨t,a2,H⟩:=Option.bind_eq_some_iff.mp H
    have A5:=ae.mk a2
    clear a2
    have z:0≤(j:Int):=of_decide_eq_true (by assumption)
    have M:j < (l0.length:Int):=of_decide_eq_true (by assumption)
    obtain ⟨a5,a3,y⟩:=Kd.dS a4.out j z M
    cases a3
    replace y:=(HB.out.cell (World.block_lt_of_cell? w _ y)).trans y
    replace z:=eq_true z
    replace M:=eq_true M
    by_cases c6:t = true
    ·subst c6
     have H1:(some j) = some r:=by rw [if_pos rfl] at H;exact H
     clear H
     obtain rfl:=Option.some.inj H1
     clear H1
     go_wp2_with (first | (refine af.sD (some 16) rfl rfl 11 rfl hF A5.out HB.out rfl (by (try simp only [List.map_toArray,List.map_cons,List.map_nil]);first | done | rfl) ?_;intro w5 hb;have X:=ae.mk (az HB.out hb);clear HB;have HB:=X;clear X hb))
     go_ret
     exact ⟨rfl,HB.out⟩
    ·replace c6:=Bool.eq_false_iff.mpr c6
     subst c6
     have H1:(bM.l0 g k1 l0 (wrap64 (j+1))) = some r:=by rw [if_neg (show ¬ (false = true) by decide)] at H;exact H
     clear H
     have H':=ae.mk H1
     clear H1
     go_wp2_with (first | (refine af.sD (some 16) rfl rfl 11 rfl hF A5.out HB.out rfl (by (try simp only [List.map_toArray,List.map_cons,List.map_nil]);first | done | rfl) ?_;intro w5 hb;have X:=ae.mk (az HB.out hb);clear HB;have HB:=X;clear X hb))
     go_roundg k1
     case measure=>have:=a0.out;omega
     case rel=>exact ⟨(wrap64 (j+1)),rfl,H',⟨by have:=a0.out;omega⟩,HB⟩
   ·rw [if_neg c3] at H
    have a1:decide (j < (l0.length:Int)) = false:=decide_eq_false c3
    clear c3
    obtain rfl:=Option.some.inj H
    go_wp2
    go_ret
    exact ⟨rfl,HB.out⟩
def cz.f (k:Nat) (l0:List Int) (g:Int→Option Bool):Option Bool:=(bM.f k l0 g).bind fun t=>some (decide (t≥0))
set_option maxHeartbeats 8000000 in
set_option maxRecDepth 100000 in
theorem cz.calls (k:Nat) (y:Option Addr) (c0:Nat) (l0:List Int) (fv:Value) (g:Int→Option Bool) (r:Bool) (w:World) (j:Kd.C (Kd.int .i64) w y l0.length l0) (hF:af.pO Tryz.prog w fv g) (h:cz.f k l0 g = some r) :
  Calls Tryz.prog 159 #[.slice y l0.length c0,fv] w fun e w'=>e = .returned (.bool r)∧Below w.heap.size w w':=by
 have z:=ae.mk j
 clear j
 unfold cz.f at h
 obtain ⟨t,h1,h⟩:=Option.bind_eq_some_iff.mp h
 have M:=ae.mk h1
 clear h1
 obtain rfl:=Option.some.inj h
 clear h
 go_enter Tryz.func159,Tryz.ntmps159
 go_wp2_with (first | (refine af.gl (some 7) Tryz.func174 #[.slice y l0.length c0,fv] ?_;(with_reducible refine (bM.calls k _ _ l0 fv g t _ z.out hF M.out).mono ?_);rintro e X ⟨rfl,hb⟩;refine ⟨_,rfl,?_⟩;have HB:=ae.mk hb;clear hb))
 go_ret
 exact ⟨rfl,HB.out⟩
def ct.l0:Nat→List Int→Int→Int→Int→Option (Int)
 | 0,_,_,_,_=>none
 | k+1,y,z,M,j=>if j < M then (if 0≤j then (if j < (y.length:Int) then (if z = (rd y j) then (some j) else (ct.l0 k y z M (wrap64 (j+1)))) else (none)) else (none)) else (some (-1))
def ct.f (k:Nat) (l0:List Int) (j:Int):Option (Int):=ct.l0 k l0 j (l0.length:Int) 0
set_option maxHeartbeats 8000000 in
set_option maxRecDepth 100000 in
theorem ct.calls (k:Nat) (A0:Option Addr) (c0:Nat) (l0:List Int) (M:Int) (r:Int) (w:World) (Y:Kd.C (Kd.int .i64) w A0 l0.length l0) (a0:l0.length≤c0) (h:ct.f k l0 M = some r) :
  Calls Tryz.prog 86 #[.slice A0 l0.length c0,.int .i64 M] w fun e w'=>e = .returned (.int .i64 r)∧cQ w w':=by
 have a2:=ae.mk Y
 have ab:=ae.mk a0
 clear Y a0
 unfold ct.f at h
 have H:=h
 clear h
 have H':=ae.mk H
 clear H
 go_enter Tryz.func86,Tryz.ntmps86
 go_wp2
 go_loopg [8] k (fun kq v8 w'=>∃ (j:Int),v8 = .int .i64 j∧ae (ct.l0 kq l0 M (l0.length:Int) j = some r)∧ae (kq≤k)∧cQ w w')
 case atStart=>exact ⟨(0),af.F,H',⟨Nat.le_refl _⟩,af.G⟩
 case round =>
  clear H'
  obtain ⟨j,rfl,HA,a3,⟨m1,rfl⟩⟩:=hrel
  cases gk with
  | zero=>exact absurd HA.out (by simp [ct.l0])
  | succ k1 =>
   have H:=HA.out
   clear HA
   simp only [ct.l0] at H
   by_cases c3:j < (l0.length:Int)
   ·rw [if_pos c3] at H
    have a4:=decide_eq_true c3
    clear c3
    obtain ⟨c4,H⟩:=af.ip H
    have a9:=decide_eq_true c4
    clear c4
    obtain ⟨c5,H⟩:=af.ip H
    have aa:=decide_eq_true c5
    clear c5
    by_cases c6:M = (rd l0 j)
    ·rw [if_pos c6] at H
     have a5:(M == (rd l0 j)) = true:=beq_iff_eq.mpr c6
     have a6:(M != (rd l0 j)) = false:=bne_eq_false_iff_eq.mpr c6
     clear c6
     obtain rfl:=Option.some.inj H
     obtain ⟨X,y,z,a7,a8⟩:=af.ai a2.out j
     cases y
     go_wp2
     go_ret
     exact ⟨af.F,af.G⟩
    ·rw [if_neg c6] at H
     have a5:(M == (rd l0 j)) = false:=beq_eq_false_iff_ne.mpr c6
     have a6:(M != (rd l0 j)) = true:=bne_iff_ne.mpr c6
     have H':=ae.mk H
     clear H
     obtain ⟨X,y,z,a7,a8⟩:=af.ai a2.out j
     cases y
     go_wp2
     go_roundg k1
     case measure=>have:=a3.out;omega
     case rel=>exact ⟨(wrap64 (j+1)),af.F,H',⟨by have:=a3.out;omega⟩,af.G⟩
   ·rw [if_neg c3] at H
    have a4:decide (j < (l0.length:Int)) = false:=decide_eq_false c3
    clear c3
    obtain rfl:=Option.some.inj H
    go_wp2
    go_ret
    exact ⟨af.F,af.G⟩
def dV.f (k:Nat) (l0:List Int) (j:Int):Option (Bool):=(ct.f k l0 j).bind fun t179=>(some (decide (t179≥0)))
set_option maxHeartbeats 8000000 in
set_option maxRecDepth 100000 in
theorem dV.calls (k:Nat) (M:Option Addr) (c0:Nat) (l0:List Int) (z:Int) (r:Bool) (w:World) (j:Kd.C (Kd.int .i64) w M l0.length l0) (y:l0.length≤c0) (h:dV.f k l0 z = some r) :
  Calls Tryz.prog 179 #[.slice M l0.length c0,.int .i64 z] w fun e w'=>e = .returned (.bool r)∧cQ w w':=by
 have X:=ae.mk j
 have Y:=ae.mk y
 clear j y
 unfold dV.f at h
 have H:=h
 clear h
 obtain ⟨t179,A3,H⟩:=af.be H
 (try dsimp only at H)
 obtain rfl:=Option.some.inj H
 go_enter Tryz.func179,Tryz.ntmps179
 go_wp2_with (first | (refine af.gl (some 7) Tryz.func86 #[.slice M l0.length c0,.int .i64 z] ?_;(with_reducible refine (ct.calls k _ _ l0 z t179 _ ?side1 ?side2 A3.out).mono ?_);(case side1=>exact af.Cw X.out);(case side2=>exact Y.out);rintro e w' ⟨rfl,⟨nd,rfl⟩⟩;refine ⟨_,rfl,?_⟩))
 go_ret
 exact ⟨af.F,af.G⟩
def gE.f (k:Nat) (l0:List Int) (j:Int):Option (Bool):=(dV.f k l0 j).bind fun t180=>(some t180)
set_option maxHeartbeats 8000000 in
set_option maxRecDepth 100000 in
theorem gE.calls (k:Nat) (M:Option Addr) (c0:Nat) (l0:List Int) (z:Int) (r:Bool) (w:World) (j:Kd.C (Kd.int .i64) w M l0.length l0) (y:l0.length≤c0) (h:gE.f k l0 z = some r) :
  Calls Tryz.prog 169 #[.slice M l0.length c0,.int .i64 z] w fun e w'=>e = .returned (.bool r)∧cQ w w':=by
 have X:=ae.mk j
 have Y:=ae.mk y
 clear j y
 unfold gE.f at h
 have H:=h
 clear h
 obtain ⟨t180,A3,H⟩:=af.be H
 (try dsimp only at H)
 obtain rfl:=Option.some.inj H
 go_enter Tryz.func169,Tryz.ntmps169
 go_wp2_with (first | (refine af.gl (some 7) Tryz.func179 #[.slice M l0.length c0,.int .i64 z] ?_;(with_reducible refine (dV.calls k _ _ l0 z t180 _ ?side1 ?side2 A3.out).mono ?_);(case side1=>exact af.Cw X.out);(case side2=>exact Y.out);rintro e w' ⟨rfl,⟨nd,rfl⟩⟩;refine ⟨_,rfl,?_⟩))
 go_ret
 exact ⟨af.F,af.G⟩
def cA.f (k:Nat) (l:List Int) (a e f:Int):Option Bool:=if 0≤e then (if 0≤f then (gE.f k l (Go.bits .or .i64 (Go.bits .andNot .i64 a (shl .i64 1 e)) (shl .i64 1 f))) else (none)) else (none)
mutual
def aK.l0:Nat→Int→List Int→Int→Option (Int×Int×Int×Bool)
 | 0,_,_,_=>none
 | k+1,n,l,x=>if x < (l.length:Int) then (if 0≤x then (aK.l1 k n l x (rd l x) 0) else (none)) else (some (0,0,0,false))
def aK.l1:Nat→Int→List Int→Int→Int→Int→Option (Int×Int×Int×Bool)
 | 0,_,_,_,_,_=>none
 | k+1,n,l,x,a,y=>if y < (l.length:Int) then (if 0≤y then ((bL.f k (Go.bits .andNot .i64 a (rd l y))).bind fun es=>(aK.l2 k n l x a y (rd l y) es 0)) else (none)) else (aK.l0 k n l (wrap64 (x+1)))
def aK.l2:Nat→Int→List Int→Int→Int→Int→Int→List Int→Int→Option (Int×Int×Int×Bool)
 | 0,_,_,_,_,_,_,_,_=>none
 | k+1,n,l,x,a,y,b,es,z=>if z < (es.length:Int) then (if 0≤z then ((bL.f k (Go.bits .andNot .i64 b a)).bind fun fs=>((cz.f k fs (fun f=>cA.f k l a (rd es z) f)).bind fun t=>(if t = true then (aK.l2 k n l x a y b es (wrap64 (z+1))) else (some (a,b,rd es z,true))))) else (none)) else (aK.l1 k n l x a (wrap64 (y+1)))
end
def aK.f (k:Nat) (j:Int) (y:List Int):Option (Int×Int×Int×Bool):=(cq.f k j y).bind fun t=>(if t = true then (aK.l0 k j y 0) else (some (0,0,0,false)))
set_option maxHeartbeats 8000000 in
set_option maxRecDepth 100000 in
theorem cA.calls (k:Nat) (al:Int) (a4:Option Addr) (a5:Nat) (j:List Int) (a e f:Int) (b:Bool) (ab am ao:Nat) (w:World) (h1:w.heap[ab]? = some (.cells #[.int .i64 al,(.slice a4 j.length a5)] 30 (0,0))) (h5:w.heap[am]? = some (.cells #[.int .i64 a] 3 (0,0))) (h9:w.heap[ao]? = some (.cells #[.int .i64 e] 3 (0,0))) (a6:Kd.C (Kd.int .i64) w a4 j.length j) (a7:j.length≤a5) (h:cA.f k j a e f = some b) :
  Calls Tryz.prog 168 #[.int .i64 f,.pointer (some ⟨ab,0,none⟩),.pointer (some ⟨am,0,none⟩),.pointer (some ⟨ao,0,none⟩)] w fun e w'=>e = .returned (.bool b)∧Below w.heap.size w w':=by
 have bc:=Tryz.underlying30
 have HR:=ae.mk a6
 have HC:=ae.mk a7
 have ap:w.cell? ⟨ab,0,none⟩ = some (.int .i64 al):=(ak h1 0).trans rfl
 have ar:w.cell? ⟨ab,1,none⟩ = some (.slice a4 j.length a5):=(ak h1 1).trans rfl
 have aw:w.cell? ⟨am,0,none⟩ = some (.int .i64 a):=(ak h5 0).trans rfl
 have aB:w.cell? ⟨ao,0,none⟩ = some (.int .i64 e):=(ak h9 0).trans rfl
 clear a6 a7 h1 h5 h9
 have H:=h
 clear h
 unfold cA.f at H
 by_cases a8:0≤e
 case neg=>rw [if_neg a8] at H;exact absurd H (by simp)
 rw [if_pos a8] at H
 have b2:=eq_true a8
 have b3:decide (0≤e) = true:=decide_eq_true a8
 clear a8
 by_cases a9:0≤f
 case neg=>rw [if_neg a9] at H;exact absurd H (by simp)
 rw [if_pos a9] at H
 have b4:=eq_true a9
 have ba:decide (0≤f) = true:=decide_eq_true a9
 clear a9
 obtain ⟨y,M⟩:∃ j_:Int,(shl .i64 1 e) = j_:=⟨_,rfl⟩
 rw [M] at H
 have a0:(IntKind.i64.wrap (1 * 2 ^ min e.toNat 64)) = y:=M
 have a1:e≤64→(IntKind.i64.wrap (1 * 2 ^ e.toNat)) = y:=gi M
 have aF:(IntKind.i64.wrap (2 ^ min e.toNat 64)) = y:=by have X:=a0;rw [Int.one_mul] at X;exact X
 have aL:e≤64→(IntKind.i64.wrap (2 ^ e.toNat)) = y:=fun aa=>by have X:=a1 aa;rw [Int.one_mul] at X;exact X
 have aO:(wrap64 (1 * 2 ^ min e.toNat 64)) = y:=(bw _).symm.trans a0
 have aP:e≤64→(wrap64 (1 * 2 ^ e.toNat)) = y:=fun X=>(bw _).symm.trans (a1 X)
 obtain ⟨z,Y⟩:∃ j_:Int,(shl .i64 1 f) = j_:=⟨_,rfl⟩
 rw [Y] at H
 have a2:(IntKind.i64.wrap (1 * 2 ^ min f.toNat 64)) = z:=Y
 have a3:f≤64→(IntKind.i64.wrap (1 * 2 ^ f.toNat)) = z:=gi Y
 have aR:(IntKind.i64.wrap (2 ^ min f.toNat 64)) = z:=by have X:=a2;rw [Int.one_mul] at X;exact X
 have aS:f≤64→(IntKind.i64.wrap (2 ^ f.toNat)) = z:=fun aa=>by have X:=a3 aa;rw [Int.one_mul] at X;exact X
 have b0:(wrap64 (1 * 2 ^ min f.toNat 64)) = z:=(bw _).symm.trans a2
 have b1:f≤64→(wrap64 (1 * 2 ^ f.toNat)) = z:=fun X=>(bw _).symm.trans (a3 X)
 have A1:=ae.mk H
 clear H
 go_enter Tryz.func168,Tryz.ntmps168
 go_wp2_with fail
 go_quiet (first | (go_at_call 169;(with_reducible refine (gE.calls k _ _ j (Go.bits .or .i64 (Go.bits .andNot .i64 a y) z) b _ ?side1 ?side2 A1.out).mono ?_);(case side1=>repeat (first | exact HR.out | (with_reducible refine Kd.fk ?_ _) | (with_reducible refine Kd.fm ?_ _) | (with_reducible refine Kd.fJ ?_)));(case side2=>exact HC.out);rintro e w' ⟨rfl,⟨nd,rfl⟩⟩;(first | exact ⟨rfl,_,World.drewN_drewN _ _ _⟩ | exact ⟨rfl,_,Eq.trans (World.drewN_drewN _ _ _) (congrArg (World.drewN _) (Nat.add_assoc _ _ _))⟩)))
 go_wp2
 go_ret
 exact ⟨rfl,by first | exact dA (Below.refl _ _) _ | exact Below.refl _ _⟩
theorem cA.wm (k:Nat) (a0:Int) (y:Option Addr) (z:Nat) (j:List Int) (a e:Int) (M X Y:Nat) (w:World) (h1:w.heap[M]? = some (.cells #[.int .i64 a0,(.slice y j.length z)] 30 (0,0))) (h5:w.heap[X]? = some (.cells #[.int .i64 a] 3 (0,0))) (h9:w.heap[Y]? = some (.cells #[.int .i64 e] 3 (0,0))) (a1:Kd.C (Kd.int .i64) w y j.length j) (a2:j.length≤z) :
  af.pO Tryz.prog w (.func (.func 168) #[] #[.pointer (some ⟨M,0,none⟩),.pointer (some ⟨X,0,none⟩),.pointer (some ⟨Y,0,none⟩)]) (fun f=>cA.f k j a e f) :=
 ⟨⟨168,#[.pointer (some ⟨M,0,none⟩),.pointer (some ⟨X,0,none⟩),.pointer (some ⟨Y,0,none⟩)],Tryz.f168,rfl,Tryz.func168,by kernel_rfl,rfl,fun f b w' hw hg=>cA.calls k a0 y z j a e f b M X Y w' (bQ h1 hw) (bQ h5 hw) (bQ h9 hw) (Kd.bG a1 hw) a2 hg⟩⟩
set_option maxHeartbeats 8000000 in
set_option maxRecDepth 100000 in
theorem aK.calls (k:Nat) (ap:Int) (aF:Option Addr) (aw:Nat) (a2:List Int) (r1:Int) (r2:Int) (r3:Int) (r4:Bool) (w:World) (bd:Kd.C (Kd.int .i64) w aF a2.length a2) (bi:a2.length≤aw) (h:aK.f k ap a2 = some (r1,r2,r3,r4)) :
  Calls Tryz.prog 149 #[.agg #[.int .i64 ap,.slice aF a2.length aw]] w fun e w'=>e = .returned (.tuple #[.agg #[.int .i64 r1,.int .i64 r2,.int .i64 r3],.bool r4])∧Below w.heap.size w w':=by
 have d8:=Tryz.underlying30
 have d9:=Tryz.underlying89
 have HR:=ae.mk bd
 have HC:=ae.mk bi
 have HB:=ae.mk (Below.refl w.heap.size w)
 clear bd bi
 unfold aK.f at h
 obtain ⟨t,h1,h⟩:=Option.bind_eq_some_iff.mp h
 have A1:=ae.mk h1
 clear h1
 cases t with
 | false =>
  rw [if_neg (by decide)] at h
  simp only [Option.some.injEq,Prod.mk.injEq] at h
  obtain ⟨rfl,rfl,rfl,rfl⟩:=h
  go_enter Tryz.func149,Tryz.ntmps149
  go_wp2_with (first | ((with_reducible refine bJ (N:=1) rfl ?_);refine af.bx 1 #[.int .i64 ap,.slice aF a2.length aw] 30 ?_;intro ar hg w3 hbox hb;have cd:=ae.mk ((by rw [hg];exact aj HB.out):w.heap.size≤ar);replace HB:=ae.mk (az HB.out hb);have y:=ae.mk hbox;have M:w3.cell? ⟨ar,0,none⟩ = some ((.int .i64 ap)):=(ak y.out 0).trans rfl;have X:=an y.out 0;have Y:w3.cell? ⟨ar,1,none⟩ = some ((.slice aF a2.length aw)):=(ak y.out 1).trans rfl;have a0:=an y.out 1;clear hb hbox hg) | ((with_reducible refine bJ (N:=2) rfl ?_);refine af.bx 2 #[.int .i64 0,.int .i64 0,.int .i64 0] 89 ?_;intro al hg w4 hbox hb;have b4:=ae.mk ((by rw [hg];exact aj HB.out):w.heap.size≤al);replace HB:=ae.mk (az HB.out hb);have j:=ae.mk hbox;have m_:=ae.mk (bQ y.out hb);clear y;have y:=m_;clear m_;have M:w4.cell? ⟨ar,0,none⟩ = some ((.int .i64 ap)):=(ak y.out 0).trans rfl;have X:=an y.out 0;have Y:w4.cell? ⟨ar,1,none⟩ = some ((.slice aF a2.length aw)):=(ak y.out 1).trans rfl;have a0:=an y.out 1;have a3:w4.cell? ⟨al,0,none⟩ = some (.int .i64 0):=(ak j.out 0).trans rfl;have a4:=an j.out 0;have a5:w4.cell? ⟨al,1,none⟩ = some (.int .i64 0):=(ak j.out 1).trans rfl;have a6:=an j.out 1;have a7:w4.cell? ⟨al,2,none⟩ = some (.int .i64 0):=(ak j.out 2).trans rfl;have a8:=an j.out 2;clear hb hbox hg) | ((with_reducible refine ax (f:=150) rfl ?_);refine af.gl (some 15) Tryz.func150 #[.int .i64 ap,.slice aF a2.length aw] ?_;(with_reducible refine (cq.calls k ap _ _ a2 false _ ?side1 ?side2 A1.out).mono ?_);(case side1=>exact Kd.bG HR.out HB.out);(case side2=>exact HC.out);rintro e w5 ⟨rfl,hd⟩;refine ⟨_,rfl,?_⟩;have hb:=hd.below;clear hd;replace HB:=ae.mk (az HB.out hb);have m_:=ae.mk (bQ y.out hb);clear y;have y:=m_;clear m_;have m_:=ae.mk (bQ j.out hb);clear j;have j:=m_;clear m_;clear hb;have M:w5.cell? ⟨ar,0,none⟩ = some ((.int .i64 ap)):=(ak y.out 0).trans rfl;have X:=an y.out 0;have Y:w5.cell? ⟨ar,1,none⟩ = some ((.slice aF a2.length aw)):=(ak y.out 1).trans rfl;have a0:=an y.out 1;have a3:w5.cell? ⟨al,0,none⟩ = some (.int .i64 0):=(ak j.out 0).trans rfl;have a4:=an j.out 0;have a5:w5.cell? ⟨al,1,none⟩ = some (.int .i64 0):=(ak j.out 1).trans rfl;have a6:=an j.out 1;have a7:w5.cell? ⟨al,2,none⟩ = some (.int .i64 0):=(ak j.out 2).trans rfl;have a8:=an j.out 2))
  refine bodyPost_ret (fB rfl _ _ al 89 #[.int .i64 0,.int .i64 0,.int .i64 0] (0,0) _ rfl (by refine gG (cs:=#[.int .i64 0,.int .i64 0,.int .i64 0]) ?_ 2 _ rfl;refine gG (cs:=#[.int .i64 0,.int .i64 0,.int .i64 0]) ?_ 1 _ rfl;refine gG (cs:=#[.int .i64 0,.int .i64 0,.int .i64 0]) ?_ 0 _ rfl;exact j.out) Tryz.underlying89 rfl (by kernel_rfl)) rfl ?_
  exact ⟨rfl,by repeat (first | exact HB.out | refine dK ?_ b4.out)⟩
 | true =>
  rw [if_pos rfl] at h
  have H':=ae.mk h
  clear h
  go_enter Tryz.func149,Tryz.ntmps149
  go_wp2_with (first | ((with_reducible refine bJ (N:=1) rfl ?_);refine af.bx 1 #[.int .i64 ap,.slice aF a2.length aw] 30 ?_;intro ar hg w3 hbox hb;have cd:=ae.mk ((by rw [hg];exact aj HB.out):w.heap.size≤ar);replace HB:=ae.mk (az HB.out hb);have y:=ae.mk hbox;have M:w3.cell? ⟨ar,0,none⟩ = some ((.int .i64 ap)):=(ak y.out 0).trans rfl;have X:=an y.out 0;have Y:w3.cell? ⟨ar,1,none⟩ = some ((.slice aF a2.length aw)):=(ak y.out 1).trans rfl;have a0:=an y.out 1;clear hb hbox hg) | ((with_reducible refine bJ (N:=2) rfl ?_);refine af.bx 2 #[.int .i64 0,.int .i64 0,.int .i64 0] 89 ?_;intro al hg w4 hbox hb;have b4:=ae.mk ((by rw [hg];exact aj HB.out):w.heap.size≤al);replace HB:=ae.mk (az HB.out hb);have j:=ae.mk hbox;have m_:=ae.mk (bQ y.out hb);clear y;have y:=m_;clear m_;have M:w4.cell? ⟨ar,0,none⟩ = some ((.int .i64 ap)):=(ak y.out 0).trans rfl;have X:=an y.out 0;have Y:w4.cell? ⟨ar,1,none⟩ = some ((.slice aF a2.length aw)):=(ak y.out 1).trans rfl;have a0:=an y.out 1;have a3:w4.cell? ⟨al,0,none⟩ = some (.int .i64 0):=(ak j.out 0).trans rfl;have a4:=an j.out 0;have a5:w4.cell? ⟨al,1,none⟩ = some (.int .i64 0):=(ak j.out 1).trans rfl;have a6:=an j.out 1;have a7:w4.cell? ⟨al,2,none⟩ = some (.int .i64 0):=(ak j.out 2).trans rfl;have a8:=an j.out 2;clear hb hbox hg) | ((with_reducible refine ax (f:=150) rfl ?_);refine af.gl (some 15) Tryz.func150 #[.int .i64 ap,.slice aF a2.length aw] ?_;(with_reducible refine (cq.calls k ap _ _ a2 true _ ?side1 ?side2 A1.out).mono ?_);(case side1=>exact Kd.bG HR.out HB.out);(case side2=>exact HC.out);rintro e w5 ⟨rfl,hd⟩;refine ⟨_,rfl,?_⟩;have hb:=hd.below;clear hd;replace HB:=ae.mk (az HB.out hb);have m_:=ae.mk (bQ y.out hb);clear y;have y:=m_;clear m_;have m_:=ae.mk (bQ j.out hb);clear j;have j:=m_;clear m_;clear hb;have M:w5.cell? ⟨ar,0,none⟩ = some ((.int .i64 ap)):=(ak y.out 0).trans rfl;have X:=an y.out 0;have Y:w5.cell? ⟨ar,1,none⟩ = some ((.slice aF a2.length aw)):=(ak y.out 1).trans rfl;have a0:=an y.out 1;have a3:w5.cell? ⟨al,0,none⟩ = some (.int .i64 0):=(ak j.out 0).trans rfl;have a4:=an j.out 0;have a5:w5.cell? ⟨al,1,none⟩ = some (.int .i64 0):=(ak j.out 1).trans rfl;have a6:=an j.out 1;have a7:w5.cell? ⟨al,2,none⟩ = some (.int .i64 0):=(ak j.out 2).trans rfl;have a8:=an j.out 2))
  clear M Y X a0 a3 a5 a7 a4 a6 a8
  go_loopg [21] k (fun kq v21 w'=>∃ (x1:Int),v21 = .int .i64 x1∧ae (aK.l0 kq ap a2 x1 = some (r1,r2,r3,r4))∧ae (kq≤k)∧ae (w'.heap[ar]? = some (.cells #[.int .i64 ap,(.slice aF a2.length aw)] 30 (0,0)))∧ae (w'.heap[al]? = some (.cells #[.int .i64 0,.int .i64 0,.int .i64 0] 89 (0,0)))∧ae (Below w.heap.size w w'))
  case atStart=>exact ⟨0,rfl,H',⟨Nat.le_refl _⟩,y,j,HB⟩
  case round =>
   clear H' y j HB
   obtain ⟨x1,rfl,HA,ba,y,j,HB⟩:=hrel
   cases gk with
   | zero=>exact absurd HA.out (by simp [aK.l0])
   | succ k1 =>
    have H:=HA.out
    clear HA
    simp only [aK.l0] at H
    by_cases c3:x1 < (a2.length:Int)
    case neg =>
     rw [if_neg c3] at H
     have cb:decide (x1 < (a2.length:Int)) = false:=decide_eq_false c3
     clear c3
     simp only [Option.some.injEq,Prod.mk.injEq] at H
     obtain ⟨rfl,rfl,rfl,rfl⟩:=H
     have a3:wr.cell? ⟨al,0,none⟩ = some (.int .i64 0):=(ak j.out 0).trans rfl
     have a4:=an j.out 0
     have a5:wr.cell? ⟨al,1,none⟩ = some (.int .i64 0):=(ak j.out 1).trans rfl
     have a6:=an j.out 1
     have a7:wr.cell? ⟨al,2,none⟩ = some (.int .i64 0):=(ak j.out 2).trans rfl
     have a8:=an j.out 2
     go_wp2
     refine bodyPost_ret (fB rfl _ _ al 89 #[.int .i64 0,.int .i64 0,.int .i64 0] (0,0) _ rfl (by refine gG (cs:=#[.int .i64 0,.int .i64 0,.int .i64 0]) ?_ 2 _ rfl;refine gG (cs:=#[.int .i64 0,.int .i64 0,.int .i64 0]) ?_ 1 _ rfl;refine gG (cs:=#[.int .i64 0,.int .i64 0,.int .i64 0]) ?_ 0 _ rfl;exact j.out) Tryz.underlying89 rfl (by kernel_rfl)) rfl ?_
     exact ⟨rfl,by repeat (first | exact HB.out | refine dK ?_ b4.out)⟩
    rw [if_pos c3] at H
    have cb:=decide_eq_true c3
    clear c3
    by_cases c4:0≤x1
    case neg=>rw [if_neg c4] at H;exact absurd H (by simp)
    rw [if_pos c4] at H
    have cy:=decide_eq_true c4
    clear c4
    obtain ⟨aa,ci⟩:∃ j_:Int,rd a2 x1 = j_:=⟨_,rfl⟩
    rw [ci] at H
    have H':=ae.mk H
    clear H
    have p1:0≤(x1:Int):=of_decide_eq_true (by assumption)
    have q1:x1 < (a2.length:Int):=of_decide_eq_true (by assumption)
    obtain ⟨aS,e1,b0⟩:=Kd.dS HR.out x1 p1 q1
    rw [ci] at b0
    clear ci
    cases e1
    replace b0:=(HB.out.cell (World.block_lt_of_cell? w _ b0)).trans b0
    replace p1:=eq_true p1
    replace q1:=eq_true q1
    have M:wr.cell? ⟨ar,0,none⟩ = some ((.int .i64 ap)):=(ak y.out 0).trans rfl
    have X:=an y.out 0
    have Y:wr.cell? ⟨ar,1,none⟩ = some ((.slice (some aS) a2.length aw)):=(ak y.out 1).trans rfl
    have a0:=an y.out 1
    go_wp2_with (first | ((with_reducible refine bJ (N:=5) rfl ?_);refine af.bx 5 #[.int .i64 0] 3 ?_;intro aL hg w7 hbox hb;have d6:=ae.mk ((by rw [hg];exact aj HB.out):w.heap.size≤aL);have cX:=ae.mk hg;have cY:=ae.mk hb;have z:=ae.mk hbox;clear hb hg hbox;have a9:w7.cell? ⟨aL,0,none⟩ = some (.int .i64 0):=(ak z.out 0).trans rfl;have ab:=an z.out 0) | ((with_reducible refine fT (t:=3) (p:=5) rfl ?_);refine fq (t:=3) (p:=5) (v:=?vo1) (w1:=(w7.setCell ⟨aL,0,none⟩ (.int .i64 aa))) ?hg ?ho ?hn ?hr ?_;(case ho=>rfl);(case hg=>rfl);(case hn=>rfl);(case hr=>first | (go_simp;done) | (go_simp;rfl));intro w8 hw;have hb:Below wr.heap.size wr w8:=(by rw [hw];exact dK cY.out (Nat.le_of_eq cX.out.symm));have m5:ae (w8.heap[aL]? = some (.cells #[.int .i64 aa] 3 (0,0))):=⟨by rw [hw];exact gG z.out 0 _ rfl⟩;clear z hw a9 ab;have z:=m5;clear m5;replace HB:=ae.mk (az HB.out hb);have m_:=ae.mk (bQ y.out hb);clear y;have y:=m_;clear m_;have m_:=ae.mk (bQ j.out hb);clear j;have j:=m_;clear m_;clear hb cY cX;have M:w8.cell? ⟨ar,0,none⟩ = some ((.int .i64 ap)):=(ak y.out 0).trans rfl;have X:=an y.out 0;have Y:w8.cell? ⟨ar,1,none⟩ = some ((.slice (some aS) a2.length aw)):=(ak y.out 1).trans rfl;have a0:=an y.out 1))
    clear p1 q1 cb cy b0 M Y X a0
    go_loopg [28] k1 (fun kq v28 w'=>∃ (x2:Int),v28 = .int .i64 x2∧ae (aK.l1 kq ap a2 x1 aa x2 = some (r1,r2,r3,r4))∧ae (kq≤k1)∧ae (w'.heap[ar]? = some (.cells #[.int .i64 ap,(.slice (some aS) a2.length aw)] 30 (0,0)))∧ae (w'.heap[al]? = some (.cells #[.int .i64 0,.int .i64 0,.int .i64 0] 89 (0,0)))∧ae (w'.heap[aL]? = some (.cells #[.int .i64 aa] 3 (0,0)))∧ae (Below w.heap.size w w'))
    case atStart=>exact ⟨0,rfl,H',⟨Nat.le_refl _⟩,y,j,z,HB⟩
    case round =>
     clear H' y j z HB
     obtain ⟨x2,rfl,HA,bc,y,j,z,HB⟩:=hrel
     cases gk with
     | zero=>exact absurd HA.out (by simp [aK.l1])
     | succ k2 =>
      have H:=HA.out
      clear HA
      simp only [aK.l1] at H
      by_cases c5:x2 < (a2.length:Int)
      case neg =>
       rw [if_neg c5] at H
       have cc:decide (x2 < (a2.length:Int)) = false:=decide_eq_false c5
       clear c5
       have H':=ae.mk H
       clear H
       go_wp2
       go_roundg k2
       case measure=>have:=ba.out;have:=bc.out;omega
       case rel=>exact ⟨(wrap64 (x1+1)),rfl,H',⟨by have:=ba.out;have:=bc.out;omega⟩,y,j,HB⟩
      rw [if_pos c5] at H
      have cc:=decide_eq_true c5
      clear c5
      by_cases c6:0≤x2
      case neg=>rw [if_neg c6] at H;exact absurd H (by simp)
      rw [if_pos c6] at H
      have d0:=decide_eq_true c6
      clear c6
      obtain ⟨bb,hbb⟩:∃ j_:Int,rd a2 x2 = j_:=⟨_,rfl⟩
      rw [hbb] at H
      obtain ⟨es,d1,H⟩:=Option.bind_eq_some_iff.mp H
      have A2:=ae.mk d1
      clear d1
      have H':=ae.mk H
      clear H
      have p2:0≤(x2:Int):=of_decide_eq_true (by assumption)
      have q2:x2 < (a2.length:Int):=of_decide_eq_true (by assumption)
      obtain ⟨d7,e2,b1⟩:=Kd.dS HR.out x2 p2 q2
      obtain rfl:aS = d7:=(by injection e2)
      clear e2
      rw [hbb] at b1
      clear hbb
      replace b1:=(HB.out.cell (World.block_lt_of_cell? w _ b1)).trans b1
      replace p2:=eq_true p2
      replace q2:=eq_true q2
      have M:wr.cell? ⟨ar,0,none⟩ = some ((.int .i64 ap)):=(ak y.out 0).trans rfl
      have X:=an y.out 0
      have Y:wr.cell? ⟨ar,1,none⟩ = some ((.slice (some aS) a2.length aw)):=(ak y.out 1).trans rfl
      have a0:=an y.out 1
      have a9:wr.cell? ⟨aL,0,none⟩ = some (.int .i64 aa):=(ak z.out 0).trans rfl
      have ab:=an z.out 0
      go_wp2_with (first | ((with_reducible refine ax (f:=83) rfl ?_);refine af.gl (some 35) Tryz.func83 #[.int .i64 (Go.bits .andNot .i64 aa bb)] ?_;(with_reducible refine (bL.calls k2 (Go.bits .andNot .i64 aa bb) es _ A2.out).mono ?_);rintro e w9 ⟨v1,rfl,ho,hb⟩;refine ⟨_,rfl,?_⟩;have aB:=ae.mk (Kd.b9 ho (aj HB.out));have d2:=ae.mk (az HB.out hb);clear HB;have HB:=d2;clear d2 ho;have m_:=ae.mk (bQ y.out hb);clear y;have y:=m_;clear m_;have m_:=ae.mk (bQ j.out hb);clear j;have j:=m_;clear m_;have m_:=ae.mk (bQ z.out hb);clear z;have z:=m_;clear m_;clear hb M Y X a0 a9 ab b1;obtain ⟨Ae,ce,eo⟩:=Kd.aY aB.out;subst eo))
      clear p2 q2 cc d0
      go_loopg [37] k2 (fun kq v37 w'=>∃ (x3:Int),v37 = .int .i64 x3∧ae (aK.l2 kq ap a2 x1 aa x2 bb es x3 = some (r1,r2,r3,r4))∧ae (kq≤k2)∧ae (w'.heap[ar]? = some (.cells #[.int .i64 ap,(.slice (some aS) a2.length aw)] 30 (0,0)))∧ae (w'.heap[al]? = some (.cells #[.int .i64 0,.int .i64 0,.int .i64 0] 89 (0,0)))∧ae (w'.heap[aL]? = some (.cells #[.int .i64 aa] 3 (0,0)))∧ae (Kd.R (Kd.int .i64) 3 w' w.heap.size (fun _=>True) (.slice Ae es.length ce) es)∧ae (Below w.heap.size w w'))
      case atStart=>exact ⟨0,rfl,H',⟨Nat.le_refl _⟩,y,j,z,aB,HB⟩
      case round =>
       clear H' y j z aB HB
       obtain ⟨x3,rfl,HA,ca,y,j,z,aB,HB⟩:=hrel
       cases gk with
       | zero=>exact absurd HA.out (by simp [aK.l2])
       | succ k3 =>
        have H:=HA.out
        clear HA
        simp only [aK.l2] at H
        by_cases c7:x3 < (es.length:Int)
        case neg =>
         rw [if_neg c7] at H
         have d3:decide (x3 < (es.length:Int)) = false:=decide_eq_false c7
         clear c7
         have H':=ae.mk H
         clear H
         go_wp2
         go_roundg k3
         case measure=>have:=ba.out;have:=bc.out;have:=ca.out;omega
         case rel=>exact ⟨(wrap64 (x2+1)),rfl,H',⟨by have:=ba.out;have:=bc.out;have:=ca.out;omega⟩,y,j,z,HB⟩
        rw [if_pos c7] at H
        have d3:=decide_eq_true c7
        clear c7
        by_cases c8:0≤x3
        case neg=>rw [if_neg c8] at H;exact absurd H (by simp)
        rw [if_pos c8] at H
        have db:=decide_eq_true c8
        clear c8
        obtain ⟨ee,hee⟩:∃ j_:Int,rd es x3 = j_:=⟨_,rfl⟩
        rw [hee] at H
        obtain ⟨fs,d4,H⟩:=Option.bind_eq_some_iff.mp H
        have A3:=ae.mk d4
        clear d4
        obtain ⟨t,d5,H⟩:=Option.bind_eq_some_iff.mp H
        have A4:=ae.mk d5
        clear d5
        have p3:0≤(x3:Int):=of_decide_eq_true (by assumption)
        have q3:x3 < (es.length:Int):=of_decide_eq_true (by assumption)
        obtain ⟨dd,e3,cp⟩:=Kd.dS (Kd.au aB.out).2.2 x3 p3 q3
        rw [hee] at cp
        clear hee
        cases e3
        replace p3:=eq_true p3
        replace q3:=eq_true q3
        cases t with
        | true =>
         rw [if_pos rfl] at H
         have H':=ae.mk H
         clear H
         have a9:wr.cell? ⟨aL,0,none⟩ = some (.int .i64 aa):=(ak z.out 0).trans rfl
         have ab:=an z.out 0
         have M:wr.cell? ⟨ar,0,none⟩ = some ((.int .i64 ap)):=(ak y.out 0).trans rfl
         have X:=an y.out 0
         have Y:wr.cell? ⟨ar,1,none⟩ = some ((.slice (some aS) a2.length aw)):=(ak y.out 1).trans rfl
         have a0:=an y.out 1
         have a3:wr.cell? ⟨al,0,none⟩ = some (.int .i64 0):=(ak j.out 0).trans rfl
         have a4:=an j.out 0
         have a5:wr.cell? ⟨al,1,none⟩ = some (.int .i64 0):=(ak j.out 1).trans rfl
         have a6:=an j.out 1
         have a7:wr.cell? ⟨al,2,none⟩ = some (.int .i64 0):=(ak j.out 2).trans rfl
         have a8:=an j.out 2
         go_wp2_with (first | ((with_reducible refine bJ (N:=9) rfl ?_);refine af.bx 9 #[.int .i64 0] 3 ?_;intro aO hg bm hbox hb;have cx:=ae.mk ((by rw [hg];exact aj HB.out):w.heap.size≤aO);have bo:=ae.mk hg;have bs:=ae.mk hb;have a1:=ae.mk hbox;clear hb hg hbox;have am:bm.cell? ⟨aO,0,none⟩ = some (.int .i64 0):=(ak a1.out 0).trans rfl;have ao:=an a1.out 0) | ((with_reducible refine fT (t:=3) (p:=9) rfl ?_);refine fq (t:=3) (p:=9) (v:=?vo2) (w1:=(bm.setCell ⟨aO,0,none⟩ (.int .i64 ee))) ?hg ?ho ?hn ?hr ?_;(case ho=>rfl);(case hg=>rfl);(case hn=>rfl);(case hr=>first | (go_simp;done) | (go_simp;rfl));intro aP hw;have hb:Below wr.heap.size wr aP:=(by rw [hw];exact dK bs.out (Nat.le_of_eq bo.out.symm));have m5:ae (aP.heap[aO]? = some (.cells #[.int .i64 ee] 3 (0,0))):=⟨by rw [hw];exact gG a1.out 0 _ rfl⟩;clear a1 hw am ao;have a1:=m5;clear m5;replace HB:=ae.mk (az HB.out hb);have m_:=ae.mk (Kd.ga aB.out hb);clear aB;have aB:=m_;clear m_;have m_:=ae.mk (bQ y.out hb);clear y;have y:=m_;clear m_;have m_:=ae.mk (bQ j.out hb);clear j;have j:=m_;clear m_;have m_:=ae.mk (bQ z.out hb);clear z;have z:=m_;clear m_;clear hb bs bo;have M:aP.cell? ⟨ar,0,none⟩ = some ((.int .i64 ap)):=(ak y.out 0).trans rfl;have X:=an y.out 0;have Y:aP.cell? ⟨ar,1,none⟩ = some ((.slice (some aS) a2.length aw)):=(ak y.out 1).trans rfl;have a0:=an y.out 1;have a3:aP.cell? ⟨al,0,none⟩ = some (.int .i64 0):=(ak j.out 0).trans rfl;have a4:=an j.out 0;have a5:aP.cell? ⟨al,1,none⟩ = some (.int .i64 0):=(ak j.out 1).trans rfl;have a6:=an j.out 1;have a7:aP.cell? ⟨al,2,none⟩ = some (.int .i64 0):=(ak j.out 2).trans rfl;have a8:=an j.out 2;have a9:aP.cell? ⟨aL,0,none⟩ = some (.int .i64 aa):=(ak z.out 0).trans rfl;have ab:=an z.out 0;have am:aP.cell? ⟨aO,0,none⟩ = some (.int .i64 ee):=(ak a1.out 0).trans rfl;have ao:=an a1.out 0) | ((with_reducible refine ax (f:=83) rfl ?_);refine af.gl (some 44) Tryz.func83 #[.int .i64 (Go.bits .andNot .i64 bb aa)] ?_;(with_reducible refine (bL.calls k3 (Go.bits .andNot .i64 bb aa) fs _ A3.out).mono ?_);rintro e aR ⟨v1,rfl,ho,hb⟩;refine ⟨_,rfl,?_⟩;obtain ⟨Af,cf,ef⟩:=Kd.aY ho;subst ef;have b2:=ae.mk (Kd.au ho).2.2;clear ho;replace HB:=ae.mk (az HB.out hb);have m_:=ae.mk (Kd.ga aB.out hb);clear aB;have aB:=m_;clear m_;have m_:=ae.mk (bQ y.out hb);clear y;have y:=m_;clear m_;have m_:=ae.mk (bQ j.out hb);clear j;have j:=m_;clear m_;have m_:=ae.mk (bQ z.out hb);clear z;have z:=m_;clear m_;have m_:=ae.mk (bQ a1.out hb);clear a1;have a1:=m_;clear m_;have bv:=b2;clear b2;clear hb M Y X a0 a9 ab a3 a5 a7 a4 a6 a8 am ao;have M:aR.cell? ⟨ar,0,none⟩ = some ((.int .i64 ap)):=(ak y.out 0).trans rfl;have X:=an y.out 0;have Y:aR.cell? ⟨ar,1,none⟩ = some ((.slice (some aS) a2.length aw)):=(ak y.out 1).trans rfl;have a0:=an y.out 1;have a3:aR.cell? ⟨al,0,none⟩ = some (.int .i64 0):=(ak j.out 0).trans rfl;have a4:=an j.out 0;have a5:aR.cell? ⟨al,1,none⟩ = some (.int .i64 0):=(ak j.out 1).trans rfl;have a6:=an j.out 1;have a7:aR.cell? ⟨al,2,none⟩ = some (.int .i64 0):=(ak j.out 2).trans rfl;have a8:=an j.out 2;have a9:aR.cell? ⟨aL,0,none⟩ = some (.int .i64 aa):=(ak z.out 0).trans rfl;have ab:=an z.out 0;have am:aR.cell? ⟨aO,0,none⟩ = some (.int .i64 ee):=(ak a1.out 0).trans rfl;have ao:=an a1.out 0) | ((with_reducible refine ax (f:=159) rfl ?_);refine af.gl (some 46) Tryz.func159 #[.slice Af fs.length cf,.func (.func 168) #[] #[.pointer (some ⟨ar,0,none⟩),.pointer (some ⟨aL,0,none⟩),.pointer (some ⟨aO,0,none⟩)]] ?_;(with_reducible refine (cz.calls k3 _ _ fs _ (fun f=>cA.f k3 a2 aa ee f) true _ bv.out (cA.wm k3 ap (some aS) aw a2 aa ee ar aL aO _ y.out z.out a1.out (Kd.bG HR.out HB.out) HC.out) A4.out).mono ?_);rintro e b3 ⟨rfl,hb⟩;refine ⟨_,rfl,?_⟩;replace HB:=ae.mk (az HB.out hb);have m_:=ae.mk (Kd.ga aB.out hb);clear aB;have aB:=m_;clear m_;have m_:=ae.mk (bQ y.out hb);clear y;have y:=m_;clear m_;have m_:=ae.mk (bQ j.out hb);clear j;have j:=m_;clear m_;have m_:=ae.mk (bQ z.out hb);clear z;have z:=m_;clear m_;have m_:=ae.mk (bQ a1.out hb);clear a1;have a1:=m_;clear m_;clear hb M Y X a0 a9 ab a3 a5 a7 a4 a6 a8 am ao;have a3:b3.cell? ⟨al,0,none⟩ = some (.int .i64 0):=(ak j.out 0).trans rfl;have a4:=an j.out 0;have a5:b3.cell? ⟨al,1,none⟩ = some (.int .i64 0):=(ak j.out 1).trans rfl;have a6:=an j.out 1;have a7:b3.cell? ⟨al,2,none⟩ = some (.int .i64 0):=(ak j.out 2).trans rfl;have a8:=an j.out 2;have a9:b3.cell? ⟨aL,0,none⟩ = some (.int .i64 aa):=(ak z.out 0).trans rfl;have ab:=an z.out 0;have am:b3.cell? ⟨aO,0,none⟩ = some (.int .i64 ee):=(ak a1.out 0).trans rfl;have ao:=an a1.out 0))
         go_roundg k3
         case measure=>have:=ba.out;have:=bc.out;have:=ca.out;omega
         case rel=>exact ⟨(wrap64 (x3+1)),rfl,H',⟨by have:=ba.out;have:=bc.out;have:=ca.out;omega⟩,y,j,z,aB,HB⟩
        | false =>
         rw [if_neg (by decide)] at H
         simp only [Option.some.injEq,Prod.mk.injEq] at H
         obtain ⟨rfl,rfl,rfl,rfl⟩:=H
         have a9:wr.cell? ⟨aL,0,none⟩ = some (.int .i64 aa):=(ak z.out 0).trans rfl
         have ab:=an z.out 0
         have M:wr.cell? ⟨ar,0,none⟩ = some ((.int .i64 ap)):=(ak y.out 0).trans rfl
         have X:=an y.out 0
         have Y:wr.cell? ⟨ar,1,none⟩ = some ((.slice (some aS) a2.length aw)):=(ak y.out 1).trans rfl
         have a0:=an y.out 1
         have a3:wr.cell? ⟨al,0,none⟩ = some (.int .i64 0):=(ak j.out 0).trans rfl
         have a4:=an j.out 0
         have a5:wr.cell? ⟨al,1,none⟩ = some (.int .i64 0):=(ak j.out 1).trans rfl
         have a6:=an j.out 1
         have a7:wr.cell? ⟨al,2,none⟩ = some (.int .i64 0):=(ak j.out 2).trans rfl
         have a8:=an j.out 2
         go_wp2_with (first | ((with_reducible refine bJ (N:=9) rfl ?_);refine af.bx 9 #[.int .i64 0] 3 ?_;intro aO hg bm hbox hb;have cx:=ae.mk ((by rw [hg];exact aj HB.out):w.heap.size≤aO);have bo:=ae.mk hg;have bs:=ae.mk hb;have a1:=ae.mk hbox;clear hb hg hbox;have am:bm.cell? ⟨aO,0,none⟩ = some (.int .i64 0):=(ak a1.out 0).trans rfl;have ao:=an a1.out 0) | ((with_reducible refine fT (t:=3) (p:=9) rfl ?_);refine fq (t:=3) (p:=9) (v:=?vo3) (w1:=(bm.setCell ⟨aO,0,none⟩ (.int .i64 ee))) ?hg ?ho ?hn ?hr ?_;(case ho=>rfl);(case hg=>rfl);(case hn=>rfl);(case hr=>first | (go_simp;done) | (go_simp;rfl));intro aP hw;have hb:Below wr.heap.size wr aP:=(by rw [hw];exact dK bs.out (Nat.le_of_eq bo.out.symm));have m5:ae (aP.heap[aO]? = some (.cells #[.int .i64 ee] 3 (0,0))):=⟨by rw [hw];exact gG a1.out 0 _ rfl⟩;clear a1 hw am ao;have a1:=m5;clear m5;replace HB:=ae.mk (az HB.out hb);have m_:=ae.mk (Kd.ga aB.out hb);clear aB;have aB:=m_;clear m_;have m_:=ae.mk (bQ y.out hb);clear y;have y:=m_;clear m_;have m_:=ae.mk (bQ j.out hb);clear j;have j:=m_;clear m_;have m_:=ae.mk (bQ z.out hb);clear z;have z:=m_;clear m_;clear hb bs bo;have M:aP.cell? ⟨ar,0,none⟩ = some ((.int .i64 ap)):=(ak y.out 0).trans rfl;have X:=an y.out 0;have Y:aP.cell? ⟨ar,1,none⟩ = some ((.slice (some aS) a2.length aw)):=(ak y.out 1).trans rfl;have a0:=an y.out 1;have a3:aP.cell? ⟨al,0,none⟩ = some (.int .i64 0):=(ak j.out 0).trans rfl;have a4:=an j.out 0;have a5:aP.cell? ⟨al,1,none⟩ = some (.int .i64 0):=(ak j.out 1).trans rfl;have a6:=an j.out 1;have a7:aP.cell? ⟨al,2,none⟩ = some (.int .i64 0):=(ak j.out 2).trans rfl;have a8:=an j.out 2;have a9:aP.cell? ⟨aL,0,none⟩ = some (.int .i64 aa):=(ak z.out 0).trans rfl;have ab:=an z.out 0;have am:aP.cell? ⟨aO,0,none⟩ = some (.int .i64 ee):=(ak a1.out 0).trans rfl;have ao:=an a1.out 0) | ((with_reducible refine ax (f:=83) rfl ?_);refine af.gl (some 44) Tryz.func83 #[.int .i64 (Go.bits .andNot .i64 bb aa)] ?_;(with_reducible refine (bL.calls k3 (Go.bits .andNot .i64 bb aa) fs _ A3.out).mono ?_);rintro e aR ⟨v1,rfl,ho,hb⟩;refine ⟨_,rfl,?_⟩;obtain ⟨Af,cf,ef⟩:=Kd.aY ho;subst ef;have b2:=ae.mk (Kd.au ho).2.2;clear ho;replace HB:=ae.mk (az HB.out hb);have m_:=ae.mk (Kd.ga aB.out hb);clear aB;have aB:=m_;clear m_;have m_:=ae.mk (bQ y.out hb);clear y;have y:=m_;clear m_;have m_:=ae.mk (bQ j.out hb);clear j;have j:=m_;clear m_;have m_:=ae.mk (bQ z.out hb);clear z;have z:=m_;clear m_;have m_:=ae.mk (bQ a1.out hb);clear a1;have a1:=m_;clear m_;have bv:=b2;clear b2;clear hb M Y X a0 a9 ab a3 a5 a7 a4 a6 a8 am ao;have M:aR.cell? ⟨ar,0,none⟩ = some ((.int .i64 ap)):=(ak y.out 0).trans rfl;have X:=an y.out 0;have Y:aR.cell? ⟨ar,1,none⟩ = some ((.slice (some aS) a2.length aw)):=(ak y.out 1).trans rfl;have a0:=an y.out 1;have a3:aR.cell? ⟨al,0,none⟩ = some (.int .i64 0):=(ak j.out 0).trans rfl;have a4:=an j.out 0;have a5:aR.cell? ⟨al,1,none⟩ = some (.int .i64 0):=(ak j.out 1).trans rfl;have a6:=an j.out 1;have a7:aR.cell? ⟨al,2,none⟩ = some (.int .i64 0):=(ak j.out 2).trans rfl;have a8:=an j.out 2;have a9:aR.cell? ⟨aL,0,none⟩ = some (.int .i64 aa):=(ak z.out 0).trans rfl;have ab:=an z.out 0;have am:aR.cell? ⟨aO,0,none⟩ = some (.int .i64 ee):=(ak a1.out 0).trans rfl;have ao:=an a1.out 0) | ((with_reducible refine ax (f:=159) rfl ?_);refine af.gl (some 46) Tryz.func159 #[.slice Af fs.length cf,.func (.func 168) #[] #[.pointer (some ⟨ar,0,none⟩),.pointer (some ⟨aL,0,none⟩),.pointer (some ⟨aO,0,none⟩)]] ?_;(with_reducible refine (cz.calls k3 _ _ fs _ (fun f=>cA.f k3 a2 aa ee f) false _ bv.out (cA.wm k3 ap (some aS) aw a2 aa ee ar aL aO _ y.out z.out a1.out (Kd.bG HR.out HB.out) HC.out) A4.out).mono ?_);rintro e b3 ⟨rfl,hb⟩;refine ⟨_,rfl,?_⟩;replace HB:=ae.mk (az HB.out hb);have m_:=ae.mk (Kd.ga aB.out hb);clear aB;have aB:=m_;clear m_;have m_:=ae.mk (bQ y.out hb);clear y;have y:=m_;clear m_;have m_:=ae.mk (bQ j.out hb);clear j;have j:=m_;clear m_;have m_:=ae.mk (bQ z.out hb);clear z;have z:=m_;clear m_;have m_:=ae.mk (bQ a1.out hb);clear a1;have a1:=m_;clear m_;clear hb M Y X a0 a9 ab a3 a5 a7 a4 a6 a8 am ao;have a3:b3.cell? ⟨al,0,none⟩ = some (.int .i64 0):=(ak j.out 0).trans rfl;have a4:=an j.out 0;have a5:b3.cell? ⟨al,1,none⟩ = some (.int .i64 0):=(ak j.out 1).trans rfl;have a6:=an j.out 1;have a7:b3.cell? ⟨al,2,none⟩ = some (.int .i64 0):=(ak j.out 2).trans rfl;have a8:=an j.out 2;have a9:b3.cell? ⟨aL,0,none⟩ = some (.int .i64 aa):=(ak z.out 0).trans rfl;have ab:=an z.out 0;have am:b3.cell? ⟨aO,0,none⟩ = some (.int .i64 ee):=(ak a1.out 0).trans rfl;have ao:=an a1.out 0))
         refine bodyPost_ret (fB rfl _ _ al 89 #[.int .i64 aa,.int .i64 bb,.int .i64 ee] (0,0) _ rfl (by refine gG (cs:=#[.int .i64 aa,.int .i64 bb,.int .i64 0]) ?_ 2 _ rfl;refine gG (cs:=#[.int .i64 aa,.int .i64 0,.int .i64 0]) ?_ 1 _ rfl;refine gG (cs:=#[.int .i64 0,.int .i64 0,.int .i64 0]) ?_ 0 _ rfl;exact j.out) Tryz.underlying89 rfl (by kernel_rfl)) rfl ?_
         exact ⟨rfl,by repeat (first | exact HB.out | refine dK ?_ b4.out)⟩
def e6.f (k:Nat) (y:Int) (j:List Int):Option (Bool):=(aK.f k y j).bind fun z=>((cq.f k y j).bind fun t187=>(if t187 = true then (if (j.length:Int) > 0 then (some (!z.2.2.2)) else (some false)) else (some false)))
set_option maxHeartbeats 8000000 in
set_option maxRecDepth 100000 in
theorem e6.calls (k:Nat) (z:Int) (Y:Option Addr) (a0:Nat) (y:List Int) (r:Bool) (w:World) (a4:Kd.C (Kd.int .i64) w Y y.length y) (a5:y.length≤a0) (h:e6.f k z y = some r) :
  Calls Tryz.prog 120 #[.agg #[.int .i64 z,.slice Y y.length a0]] w fun e w'=>e = .returned (.bool r)∧Below w.heap.size w w':=by
 have dk:=Tryz.underlying30
 have dl:=Tryz.underlying89
 have a1:=ae.mk a4
 have a2:=ae.mk a5
 clear a4 a5
 have HB:=ae.mk (Below.refl w.heap.size w)
 unfold e6.f at h
 have H:=h
 clear h
 obtain ⟨⟨t182,t183,t184,t185⟩,A2,H⟩:=af.be H
 (try dsimp only at H)
 obtain ⟨t187,A3,H⟩:=af.be H
 (try dsimp only at H)
 by_cases c4:t187 = true
 ·subst c4
  replace H:(if (y.length:Int) > 0 then (some (!t185)) else (some false)) = some r:=by rw [if_pos rfl] at H;exact H
  by_cases c5:(y.length:Int) > 0
  ·rw [if_pos c5] at H
   have al:=decide_eq_true c5
   have am:decide (0 < y.length) = true:=decide_eq_true (by omega)
   clear c5
   obtain rfl:=Option.some.inj H
   go_enter Tryz.func120,Tryz.ntmps120
   go_wp2_with (first | ((with_reducible refine bJ (N:=1) rfl ?_);(try (refine eT (by rfl) ?_;dsimp only));refine fb ?hg (N:=1) ?hd (cs:=#[.int .i64 z,.slice Y y.length a0]) (t:=30) ?hr ?_;(case hd=>rfl);(case hg=>rfl);(case hr=>first | (go_simp;done) | (go_simp;rfl));intro a6 hg w6 hbox hb;have j:=ae.mk hbox;have a7:=af.gw hg HB;have a8:=af.gw hg HB;replace HB:=af.lb HB hb;clear hb hbox hg;obtain ⟨d3,d4,d5,d6⟩:=af.bR j.out) | (refine af.gl (some 7) Tryz.func149 #[.agg #[.int .i64 z,.slice Y y.length a0]] ?_;(with_reducible refine (aK.calls k z _ _ y t182 t183 t184 t185 _ ?side1 ?side2 A2.out).mono ?_);(case side1=>exact af.Cw (Kd.bG a1.out HB.out));(case side2=>exact a2.out);rintro e w8 ⟨rfl,hb⟩;refine ⟨_,rfl,?_⟩;replace j:=af.bb j hb;replace HB:=ae.mk (az af.L hb);(try clear hb);(try clear ao);(try clear hk);(try clear hi)) | ((with_reducible refine bJ (N:=3) rfl ?_);(try (refine eT (by rfl) ?_;dsimp only));refine fb ?hg (N:=3) ?hd (cs:=#[.int .i64 0,.int .i64 0,.int .i64 0]) (t:=89) ?hr ?_;(case hd=>rfl);(case hg=>rfl);(case hr=>first | (go_simp;done) | (go_simp;rfl));intro a9 hg w9 hbox hb;have a3:=ae.mk hbox;have aa:=af.gL (w:=w) hg af.L;have ab:=af.gL (w:=w) hg af.L;replace HB:=ae.mk (az af.L hb);have M:=af.nl hg j;have X:=af.ng hg j;replace j:=af.bb j hb;clear hb hbox hg;have d7:=X.out;have d8:=M.out;obtain ⟨ap,ar,aw,aB,aF,aL⟩:=af.o5 a3.out;obtain ⟨aO,aP,aR,aS⟩:=af.bR j.out) | (refine af.gl (some 14) Tryz.func150 #[.int .i64 z,.slice Y y.length a0] ?_;(with_reducible refine (cq.calls k z _ _ y true _ ?side1 ?side2 A3.out).mono ?_);(case side1=>exact Kd.bG a1.out af.L);(case side2=>exact a2.out);rintro e w' ⟨rfl,⟨nd,rfl⟩⟩;refine ⟨_,rfl,?_⟩))
   go_ret
   exact ⟨af.E,af.L⟩
  ·rw [if_neg c5] at H
   have al:decide (0 < (y.length:Int)) = false:=decide_eq_false c5
   have am:decide (0 < y.length) = false:=decide_eq_false (by omega)
   clear c5
   obtain rfl:=Option.some.inj H
   go_enter Tryz.func120,Tryz.ntmps120
   go_wp2_with (first | ((with_reducible refine bJ (N:=1) rfl ?_);(try (refine eT (by rfl) ?_;dsimp only));refine fb ?hg (N:=1) ?hd (cs:=#[.int .i64 z,.slice Y y.length a0]) (t:=30) ?hr ?_;(case hd=>rfl);(case hg=>rfl);(case hr=>first | (go_simp;done) | (go_simp;rfl));intro a6 hg dp hbox hb;have j:=ae.mk hbox;have a7:=af.gw hg HB;have a8:=af.gw hg HB;replace HB:=af.lb HB hb;clear hb hbox hg;obtain ⟨b0,b1,b2,b3⟩:=af.bR j.out) | (refine af.gl (some 7) Tryz.func149 #[.agg #[.int .i64 z,.slice Y y.length a0]] ?_;(with_reducible refine (aK.calls k z _ _ y t182 t183 t184 t185 _ ?side1 ?side2 A2.out).mono ?_);(case side1=>exact af.Cw (Kd.bG a1.out HB.out));(case side2=>exact a2.out);rintro e dq ⟨rfl,hb⟩;refine ⟨_,rfl,?_⟩;replace j:=af.bb j hb;replace HB:=ae.mk (az af.L hb);(try clear hb);(try clear ao);(try clear hk);(try clear hi)) | ((with_reducible refine bJ (N:=3) rfl ?_);(try (refine eT (by rfl) ?_;dsimp only));refine fb ?hg (N:=3) ?hd (cs:=#[.int .i64 0,.int .i64 0,.int .i64 0]) (t:=89) ?hr ?_;(case hd=>rfl);(case hg=>rfl);(case hr=>first | (go_simp;done) | (go_simp;rfl));intro a9 hg dt hbox hb;have a3:=ae.mk hbox;have aa:=af.gL (w:=w) hg af.L;have ab:=af.gL (w:=w) hg af.L;replace HB:=ae.mk (az af.L hb);have M:=af.nl hg j;have X:=af.ng hg j;replace j:=af.bb j hb;clear hb hbox hg;have d9:=X.out;have db:=M.out;obtain ⟨b4,ba,bc,bd,bi,bm⟩:=af.o5 a3.out;obtain ⟨bo,bs,bv,ca⟩:=af.bR j.out) | (refine af.gl (some 14) Tryz.func150 #[.int .i64 z,.slice Y y.length a0] ?_;(with_reducible refine (cq.calls k z _ _ y true _ ?side1 ?side2 A3.out).mono ?_);(case side1=>exact Kd.bG a1.out af.L);(case side2=>exact a2.out);rintro e w' ⟨rfl,⟨nd,rfl⟩⟩;refine ⟨_,rfl,?_⟩))
   go_ret
   exact ⟨af.E,af.L⟩
 ·replace c4:=Bool.eq_false_iff.mpr c4
  subst c4
  replace H:(some false) = some r:=by rw [if_neg (show ¬ (false = true) by decide)] at H;exact H
  obtain rfl:=Option.some.inj H
  go_enter Tryz.func120,Tryz.ntmps120
  go_wp2_with (first | ((with_reducible refine bJ (N:=1) rfl ?_);(try (refine eT (by rfl) ?_;dsimp only));refine fb ?hg (N:=1) ?hd (cs:=#[.int .i64 z,.slice Y y.length a0]) (t:=30) ?hr ?_;(case hd=>rfl);(case hg=>rfl);(case hr=>first | (go_simp;done) | (go_simp;rfl));intro a6 hg du hbox hb;have j:=ae.mk hbox;have a7:=af.gw hg HB;have a8:=af.gw hg HB;replace HB:=af.lb HB hb;clear hb hbox hg;obtain ⟨cb,cc,cd,ce⟩:=af.bR j.out) | (refine af.gl (some 7) Tryz.func149 #[.agg #[.int .i64 z,.slice Y y.length a0]] ?_;(with_reducible refine (aK.calls k z _ _ y t182 t183 t184 t185 _ ?side1 ?side2 A2.out).mono ?_);(case side1=>exact af.Cw (Kd.bG a1.out HB.out));(case side2=>exact a2.out);rintro e dv ⟨rfl,hb⟩;refine ⟨_,rfl,?_⟩;replace j:=af.bb j hb;replace HB:=ae.mk (az af.L hb);(try clear hb);(try clear ao);(try clear hk);(try clear hi)) | ((with_reducible refine bJ (N:=3) rfl ?_);(try (refine eT (by rfl) ?_;dsimp only));refine fb ?hg (N:=3) ?hd (cs:=#[.int .i64 0,.int .i64 0,.int .i64 0]) (t:=89) ?hr ?_;(case hd=>rfl);(case hg=>rfl);(case hr=>first | (go_simp;done) | (go_simp;rfl));intro a9 hg dC hbox hb;have a3:=ae.mk hbox;have aa:=af.gL (w:=w) hg af.L;have ab:=af.gL (w:=w) hg af.L;replace HB:=ae.mk (az af.L hb);have M:=af.nl hg j;have X:=af.ng hg j;replace j:=af.bb j hb;clear hb hbox hg;have dd:=X.out;have df:=M.out;obtain ⟨cf,ci,cp,cx,cy,cX⟩:=af.o5 a3.out;obtain ⟨cY,d0,d1,d2⟩:=af.bR j.out) | (refine af.gl (some 14) Tryz.func150 #[.int .i64 z,.slice Y y.length a0] ?_;(with_reducible refine (cq.calls k z _ _ y false _ ?side1 ?side2 A3.out).mono ?_);(case side1=>exact Kd.bG a1.out af.L);(case side2=>exact a2.out);rintro e w' ⟨rfl,⟨nd,rfl⟩⟩;refine ⟨_,rfl,?_⟩))
  go_ret
  exact ⟨af.E,af.L⟩
def e7.f (k:Nat) (y:Int) (j:List Int):Option (Int):=(e6.f k y j).bind fun z=>(if z = true then (if 0 < (j.length:Int) then ((eu.f (rd j 0)).bind fun M=>(some M)) else (none)) else (some (-1)))
set_option maxHeartbeats 8000000 in
set_option maxRecDepth 100000 in
theorem e7.calls (k:Nat) (M:Int) (X:Option Addr) (Y:Nat) (j:List Int) (r:Int) (w:World) (a1:Kd.C (Kd.int .i64) w X j.length j) (a2:j.length≤Y) (h:e7.f k M j = some r) :
  Calls Tryz.prog 93 #[.agg #[.int .i64 M,.slice X j.length Y]] w fun e w'=>e = .returned (.int .i64 r)∧Below w.heap.size w w':=by
 have b2:=Tryz.underlying30
 have a0:=ae.mk a1
 have a3:=ae.mk a2
 clear a1 a2
 have HB:=ae.mk (Below.refl w.heap.size w)
 unfold e7.f at h
 have H:=h
 clear h
 obtain ⟨aa,A2,H⟩:=af.be H
 (try dsimp only at H)
 by_cases c3:aa = true
 ·subst c3
  replace H:(if 0 < (j.length:Int) then ((eu.f (rd j 0)).bind fun a4=>(some a4)) else (none)) = some r:=by rw [if_pos rfl] at H;exact H
  obtain ⟨c4,H⟩:=af.ip H
  have b3:=decide_eq_true c4
  have b4:decide (0 < j.length) = true:=decide_eq_true (by omega)
  clear c4
  obtain ⟨a4,A5,H⟩:=af.be H
  (try dsimp only at H)
  obtain rfl:=Option.some.inj H
  go_enter Tryz.func93,Tryz.ntmps93
  go_wp2_with (first | (refine af.bx 1 #[.int .i64 M,.slice X j.length Y] 30 ?_;intro a7 hg w6 hbox hb;have y:=ae.mk hbox;have a8:=af.gw hg HB;have a9:=af.gw hg HB;replace HB:=af.lb HB hb;clear hb hbox hg;obtain ⟨ar,aw,aB,aF⟩:=af.bR y.out) | (refine af.gl (some 4) Tryz.func120 #[.agg #[.int .i64 M,.slice X j.length Y]] ?_;(with_reducible refine (e6.calls k M _ _ j true _ ?side1 ?side2 A2.out).mono ?_);(case side1=>exact af.Cw (Kd.bG a0.out HB.out));(case side2=>exact a3.out);rintro e w8 ⟨rfl,hb⟩;refine ⟨_,rfl,?_⟩;replace y:=af.bb y hb;replace HB:=af.lb HB hb;(try clear hb);(try clear aS);(try clear hk);(try clear hi);obtain ⟨aL,aO,aP,aR⟩:=af.bR y.out;have a5:0≤(0:Int):=(by omega);have a6:0 < (j.length:Int):=af.D;obtain ⟨b0,ab,z⟩:=Kd.dS a0.out 0 a5 a6;cases ab;have b1:(0 < j.length) = True:=eq_true (by omega);(try rw [show ((0:Int)).toNat = 0 from rfl] at z);(try rw [Addr.add_zero'] at z);replace z:=(HB.out.cell (World.block_lt_of_cell? w _ z)).trans z;replace a5:=eq_true a5;replace a6:=eq_true a6) | (refine af.gl (some 10) Tryz.func117 #[.int .i64 (rd j 0)] ?_;(with_reducible refine (eu.calls (rd j 0) a4 _ A5.out).mono ?_);rintro e w' ⟨rfl,⟨nd,rfl⟩⟩;refine ⟨_,rfl,?_⟩))
  go_ret
  exact ⟨af.E,af.L⟩
 ·replace c3:=Bool.eq_false_iff.mpr c3
  subst c3
  replace H:(some (-1)) = some r:=by rw [if_neg (show ¬ (false = true) by decide)] at H;exact H
  obtain rfl:=Option.some.inj H
  go_enter Tryz.func93,Tryz.ntmps93
  go_wp2_with (first | (refine af.bx 1 #[.int .i64 M,.slice X j.length Y] 30 ?_;intro a7 hg ba hbox hb;have y:=ae.mk hbox;have a8:=af.gw hg HB;have a9:=af.gw hg HB;replace HB:=af.lb HB hb;clear hb hbox hg;obtain ⟨al,am,ao,ap⟩:=af.bR y.out) | (refine af.gl (some 4) Tryz.func120 #[.agg #[.int .i64 M,.slice X j.length Y]] ?_;(with_reducible refine (e6.calls k M _ _ j false _ ?side1 ?side2 A2.out).mono ?_);(case side1=>exact af.Cw (Kd.bG a0.out HB.out));(case side2=>exact a3.out);rintro e bc ⟨rfl,hb⟩;refine ⟨_,rfl,?_⟩;replace y:=af.bb y hb;replace HB:=af.lb HB hb;(try clear hb);(try clear aS);(try clear hk);(try clear hi)))
  go_ret
  exact ⟨af.E,af.L⟩
def dI.l0:Nat→Int→Int→List Int→Int→Int→Option (Int)
 | 0,_,_,_,_,_=>none
 | k+1,X,Y,M,z,j=>if j < z then (if 0≤j then (if j < (M.length:Int) then ((eu.f (Go.bits .and .i64 X (rd M j))).bind fun y=>(dI.l0 k X (mx Y y) M z (wrap64 (j+1)))) else (none)) else (none)) else (some Y)
def dI.f (k:Nat) (y:Int) (j:List Int) (z:Int):Option (Int):=dI.l0 k z 0 j (j.length:Int) 0
set_option maxHeartbeats 8000000 in
set_option maxRecDepth 100000 in
theorem dI.calls (k:Nat) (a2:Int) (a3:Option Addr) (a4:Nat) (j:List Int) (a1:Int) (r:Int) (w:World) (a5:Kd.C (Kd.int .i64) w a3 j.length j) (a6:j.length≤a4) (h:dI.f k a2 j a1 = some r) :
  Calls Tryz.prog 102 #[.agg #[.int .i64 a2,.slice a3 j.length a4],.int .i64 a1] w fun e w'=>e = .returned (.int .i64 r)∧Below w.heap.size w w':=by
 have aS:=Tryz.underlying30
 have a8:=ae.mk a5
 have aL:=ae.mk a6
 clear a5 a6
 have HB:=ae.mk (Below.refl w.heap.size w)
 unfold dI.f at h
 have H:=h
 clear h
 have H':=ae.mk H
 clear H
 go_enter Tryz.func102,Tryz.ntmps102
 go_wp2_with (first | (refine af.bx 2 #[.int .i64 a2,.slice a3 j.length a4] 30 ?_;intro a7 hg w3 hbox hb;have M:=ae.mk hbox;have am:=af.gw hg HB;have ao:=af.gw hg HB;replace HB:=af.lb HB hb;clear hb hbox hg;obtain ⟨ap,ar,aw,aB⟩:=af.bR M.out))
 go_loopg [5,11] k (fun kq v5 v11 w'=>∃ (X:Int) (y:Int),v5 = .int .i64 X∧v11 = .int .i64 y∧ae (dI.l0 kq a1 X j (j.length:Int) y = some r)∧ae (kq≤k)∧ae (w'.heap[a7]? = some (.cells #[.int .i64 a2,(.slice a3 j.length a4)] 30 (0,0)))∧ae (Below w.heap.size w w'))
 case atStart=>exact ⟨(0),(0),af.F,af.F,H',⟨Nat.le_refl _⟩,⟨af.Bw M.out⟩,⟨af.Lw HB.out⟩⟩
 case round =>
  clear H'
  obtain ⟨X,y,rfl,rfl,HA,ab,M,HB⟩:=hrel
  cases gk with
  | zero=>exact absurd HA.out (by simp [dI.l0])
  | succ k1 =>
   have H:=HA.out
   clear HA
   simp only [dI.l0] at H
   by_cases c5:y < (j.length:Int)
   ·rw [if_pos c5] at H
    have al:=decide_eq_true c5
    clear c5
    obtain ⟨c6,H⟩:=af.ip H
    have b0:=decide_eq_true c6
    clear c6
    obtain ⟨c7,H⟩:=af.ip H
    have b1:=decide_eq_true c7
    clear c7
    obtain ⟨Y,A8,H⟩:=af.be H
    (try dsimp only at H)
    obtain ⟨a9,a0⟩:∃ j_:Int,(mx X Y) = j_:=⟨_,rfl⟩
    replace H:(dI.l0 k1 a1 a9 j (j.length:Int) (wrap64 (y+1))) = some r:=by first | (rw [a0] at H;exact H) | (simp only [a0] at H ⊢;exact H)
    (try rw [a0] at A8)
    have aO:(if X < Y then Y else X) = a9:=a0
    have H':=ae.mk H
    clear H
    obtain ⟨aF,aa,z,aP,aR⟩:=af.ai a8.out y
    cases aa
    try replace z:=(HB.out.cell (World.block_lt_of_cell? w _ z)).trans z
    go_wp2_with (first | (refine af.gl (some 19) Tryz.func117 #[.int .i64 (Go.bits .and .i64 a1 (rd j y))] ?_;(with_reducible refine (eu.calls (Go.bits .and .i64 a1 (rd j y)) Y _ A8.out).mono ?_);rintro e w' ⟨rfl,⟨nd,rfl⟩⟩;refine ⟨_,rfl,?_⟩))
    go_roundg k1
    case measure=>have:=ab.out;omega
    case rel=>exact ⟨(a9),(wrap64 (y+1)),(by first | rfl | (simp;done) | (simp only [← a0] <;> (first | rfl | simp)) | (simp [*];done)),af.F,H',⟨by have:=ab.out;omega⟩,⟨af.Bw M.out⟩,⟨af.Lw HB.out⟩⟩
   ·rw [if_neg c5] at H
    have al:decide (y < (j.length:Int)) = false:=decide_eq_false c5
    clear c5
    obtain rfl:=Option.some.inj H
    go_wp2
    go_ret
    exact ⟨af.E,af.L⟩
mutual
def bE.l0:Nat→Int→List Int→Int→Option (List Int)
 | 0,_,_,_=>none
 | k+1,X,M,Y=>if Y < X then (if 0≤(wrap64 ((M.length:Int)+1)) then (if (wrap64 ((M.length:Int)+1):Int).toNat≤35184372088832 then (bE.l1 k X Y (List.replicate (wrap64 ((M.length:Int)+1):Int).toNat 0) M (M.length:Int) 0) else (none)) else (none)) else (some M)
def bE.l1:Nat→Int→Int→List Int→List Int→Int→Int→Option (List Int)
 | 0,_,_,_,_,_,_=>none
 | k+1,X,Y,x5,z,a0,j=>if j < a0 then (if 0≤j then (if j < (z.length:Int) then (if 0≤(wrap64 (j+1)) then (if (wrap64 (j+1)) < (x5.length:Int) then ((some (x5.set ((wrap64 (j+1)):Int).toNat (wrap64 ((rd x5 (wrap64 (j+1)))+(rd z j))):List Int)).bind fun y=>(if j < (x5.length:Int) then (bE.l1 k X Y (y.set (j:Int).toNat (wrap64 ((rd y j) - (rd z j)))) z a0 (wrap64 (j+1))) else (none))) else (none)) else (none)) else (none)) else (none)) else (bE.l0 k X x5 (wrap64 (Y+1)))
end
def bE.f (k:Nat) (a0:Int):Option (List Int):=bE.l0 k a0 (([1]:List Int)) 0
theorem bE.di:∀ k,af.S3 bE.l0 k∧af.S6 bE.l1 k
 | 0=>by and_intros <;> (repeat intro _) <;> exact af.mz rfl
 | k+1=>by
  obtain ⟨j,y⟩:=bE.di k
  and_intros <;> (repeat intro _) <;> (first | unfold bE.l0 | unfold bE.l1) <;> exact ⟨af.mt⟩
theorem bE.mono:∀ a0 k,iN (bE.f k a0) (bE.f (k+1) a0):=by
 intro a0 k
 obtain ⟨j,y⟩:=bE.di k
 unfold bE.f
 exact af.mt
set_option maxHeartbeats 8000000 in
set_option maxRecDepth 100000 in
theorem bE.calls (k:Nat) (a0:Int) (r:List Int) (w:World) (h:bE.f k a0 = some r) :
  Calls Tryz.prog 116 #[.int .i64 a0] w fun e w'=>∃ d7:Value,e = .returned (d7)∧Kd.R (Kd.int .i64) 3 w' w.heap.size (fun _=>True) d7 r∧Below w.heap.size w w':=by
 have HB:=ae.mk (Below.refl w.heap.size w)
 unfold bE.f at h
 have H:=h
 clear h
 obtain ⟨b0,a9⟩:∃ y_:List Int,y_ = (([1]:List Int)):=⟨_,rfl⟩
 replace H:(bE.l0 k a0 b0 0) = some r:=by (try rw [a9]);exact af.Z
 have aF:=ae.mk a9
 clear a9
 have H':=ae.mk H
 clear H
 go_enter Tryz.func116,Tryz.ntmps116
 go_wp2_with (first | ((with_reducible refine bJ (N:=8) rfl ?_);refine Kd.iY (Kd.int .i64) _ 3 ?hg (N:=8) ?hd (xs:=([1]:List Int)) (inner:=[.int .i64 1]) (ok:=fun _=>True) (okp:=fun _=>True) ?hr ?hp (fun _ hk=>hk) trivial (Below.refl _ _) (Nat.le_refl _) (by simp) ?_;(case hd=>rfl);(case hg=>rfl);(case hr=>first | (go_simp;done) | (go_simp;rfl));(case hp=>exact (cE.one (show Kd.M (Kd.int .i64) _ _ _ 1 [.int .i64 1] from rfl) (cE.none _ _)));intro e1 w2 b1 hb cx ap;clear cx ap;(first | rw [← aF.out] at b1 | (simp only [Int.reduceToNat] at b1;rw [← aF.out] at b1));have bm:=ae.mk (Kd.b9 b1 (aj (af.Lw HB.out)));replace HB:=af.lb HB hb;clear hb b1))
 go_loopg [3,4] k (fun kq v3 v4 w'=>∃ (y:List Int) (a2:Int),v4 = .int .i64 a2∧ae (bE.l0 kq a0 y a2 = some r)∧ae (kq≤k)∧ae (Kd.R (Kd.int .i64) 3 w' w.heap.size (fun _=>True) v3 y)∧ae (Below w.heap.size w w'))
 case atStart=>exact ⟨(b0),(0),af.F,H',⟨Nat.le_refl _⟩,⟨af.Rw bm.out⟩,⟨af.Lw HB.out⟩⟩
 case round =>
  clear H'
  obtain ⟨y,a2,rfl,HA,bo,a6,HB⟩:=hrel
  cases gk with
  | zero=>exact absurd HA.out (by simp [bE.l0])
  | succ k1 =>
   have H:=HA.out
   clear HA
   simp only [bE.l0] at H
   by_cases c4:a2 < a0
   ·rw [if_pos c4] at H
    have d8:=decide_eq_true c4
    clear c4
    obtain ⟨aa,b2⟩:∃ j_:Int,(wrap64 ((y.length:Int)+1)) = j_:=⟨_,rfl⟩
    replace H:(if 0≤(aa) then (if (aa:Int).toNat≤35184372088832 then (bE.l1 k1 a0 a2 (List.replicate (aa:Int).toNat 0) y (y.length:Int) 0) else (none)) else (none)) = some r:=by first | (rw [b2] at H;exact H) | (simp only [b2] at H ⊢;exact H)
    have e2:(IntKind.i64.wrap ((y.length:Int)+1)) = aa:=(bw _).trans b2
    obtain ⟨c6,H⟩:=af.ip H
    have eo:=eq_true c6
    have eq:decide (0≤(aa)) = true:=decide_eq_true c6
    clear c6
    obtain ⟨c7,H⟩:=af.ip H
    have es:=eq_true c7
    have et:decide ((aa:Int).toNat≤35184372088832) = true:=decide_eq_true c7
    clear c7
    obtain ⟨b3,ab⟩:∃ y_:List Int,y_ = (List.replicate (aa:Int).toNat 0):=⟨_,rfl⟩
    replace H:(bE.l1 k1 a0 a2 b3 y (y.length:Int) 0) = some r:=by (try rw [ab]);exact af.Z
    have aL:=ae.mk ab
    clear ab
    have H':=ae.mk H
    clear H
    obtain ⟨d9,bs,e3⟩:=Kd.aY a6.out
    subst e3
    go_wp2_with (first | ((with_reducible refine bJ (N:=17) rfl ?_);refine Kd.lD (Kd.int .i64) _ 3 rfl (N:=17) rfl 28 _ _ rfl aa rfl rfl Tryz.underlying28 (.int .i64 0) 8 eJ rfl (by decide) (by omega) 0 (ok:=fun _=>True) (okp:=fun _=>True) rfl (fun _ hk=>hk) trivial (af.D) (Nat.le_trans (Nat.mul_le_mul_right _ (af.D:aa.toNat≤35184372088832)) (by omega)) (Below.refl _ _) (Nat.le_refl _) ?_;intro b4 w9 a7 hb cx ap;clear cx ap;(first | rw [← aL.out] at a7 | (simp only [Int.reduceToNat] at a7;rw [← aL.out] at a7));have bv:=ae.mk (Kd.b9 (Kd.dc a7 (Kd.cD (af.Rw a6.out))) (aj (af.Lw HB.out)));replace a6:=ae.mk (Kd.cm (af.Rw a6.out) (Kd.bF a7) hb);replace HB:=af.lb HB hb;clear hb a7))
    go_loopg [20] k1 (fun kq v20 w'=>∃ (z:List Int) (j:Int),v20 = .int .i64 j∧ae (bE.l1 kq a0 a2 z y (y.length:Int) j = some r)∧ae (kq≤k1)∧ae (Kd.R (Kd.int .i64) 3 w' w.heap.size (fun k_=>some k_≠((.slice d9 y.length bs):Value).ownBlock) b4 z)∧ae (Kd.R (Kd.int .i64) 3 w' w.heap.size (fun k_=>some k_≠(b4:Value).ownBlock) (.slice d9 y.length bs) y)∧ae (Below w.heap.size w w'))
    case atStart=>exact ⟨(b3),(0),af.F,H',⟨Nat.le_refl _⟩,⟨af.Rw (Kd.aX bv.out (fun _ hk=>hk.2))⟩,⟨af.Rw (Kd.aX a6.out (fun _ hk=>hk.2))⟩,⟨af.Lw HB.out⟩⟩
    case round =>
     clear H'
     obtain ⟨z,j,rfl,HA,ca,a1,a4,HB⟩:=hrel
     cases gk with
     | zero=>exact absurd HA.out (by simp [bE.l1])
     | succ k2 =>
      have H:=HA.out
      clear HA
      simp only [bE.l1] at H
      by_cases aR:j < (y.length:Int)
      ·rw [if_pos aR] at H
       have cy:=decide_eq_true aR
       clear aR
       obtain ⟨db,H⟩:=af.ip H
       have e4:=decide_eq_true db
       clear db
       obtain ⟨dd,H⟩:=af.ip H
       have e8:=decide_eq_true dd
       clear dd
       obtain ⟨X,al⟩:∃ j_:Int,(wrap64 (j+1)) = j_:=⟨_,rfl⟩
       replace H:(if 0≤(X) then (if (X) < (z.length:Int) then ((some (z.set ((X):Int).toNat (wrap64 ((rd z (X))+(rd y j))):List Int)).bind fun Y=>(if j < (z.length:Int) then (bE.l1 k2 a0 a2 (Y.set (j:Int).toNat (wrap64 ((rd Y j) - (rd y j)))) y (y.length:Int) X) else (none))) else (none)) else (none)) = some r:=by first | (rw [al] at H;exact H) | (simp only [al] at H ⊢;exact H)
       have dt:(IntKind.i64.wrap (j+1)) = X:=(bw _).trans al
       obtain ⟨df,H⟩:=af.ip H
       have ea:=decide_eq_true df
       clear df
       obtain ⟨dk,H⟩:=af.ip H
       have eb:=decide_eq_true dk
       clear dk
       obtain ⟨Y,am⟩:∃ y_:List Int,y_ = (z.set ((X):Int).toNat (wrap64 ((rd z (X))+(rd y j)))):=⟨_,rfl⟩
       replace H:(if j < (z.length:Int) then (bE.l1 k2 a0 a2 (Y.set (j:Int).toNat (wrap64 ((rd Y j) - (rd y j)))) y (y.length:Int) X) else (none)) = some r:=by (try rw [am]);exact af.Z
       have aO:=ae.mk am
       clear am
       obtain ⟨dl,H⟩:=af.ip H
       have ec:=decide_eq_true dl
       clear dl
       obtain ⟨ar,ao⟩:∃ y_:List Int,y_ = (Y.set (j:Int).toNat (wrap64 ((rd Y j) - (rd y j)))):=⟨_,rfl⟩
       replace H:(bE.l1 k2 a0 a2 ar y (y.length:Int) X) = some r:=by (try rw [ao]);exact af.Z
       have cb:=ae.mk ao
       clear ao
       have H':=ae.mk H
       clear H
       obtain ⟨aP,cX,d6,ed,ee⟩:=af.ai (Kd.au a4.out).2.2 j
       cases cX
       obtain ⟨ev,a8,dp⟩:=Kd.aY a1.out
       subst dp
       obtain ⟨du,cY,aS,ef,eg⟩:=af.ai (Kd.au a1.out).2.2 (X)
       cases cY
       have d0:0≤((X):Int):=af.D
       have d1:((X):Int) < ((z.length:Int):Int):=af.D
       obtain ⟨a3,ew,ce,cf,dq,ex,ci⟩:=Kd.jm a1.out (by omega)
       (first | cases ce | (injection ce with cc eh ej;(first | subst cc | (injection cc with cc;subst cc));subst ej;clear eh))
       have cp:=ae.mk cf
       have eQ:=ae.mk ci
       clear cf dq ci
       (first | simp only [add_plain] at aS | skip)
       obtain ⟨dv,dC⟩:=Kd.gH 0 a1.out ((X):Int) d0 d1
       replace d0:=eq_true d0
       replace d1:=eq_true d1
       have ba:=Kd.jV a1.out ((X):Int) (wrap64 ((rd z (X))+(rd y j)))
       go_wp2_with (first | ((with_reducible refine fT (t:=3) (p:=32) rfl ?_);refine fq (t:=3) (p:=32) (v:=?vo_w22) (w1:=(wr.setCell ⟨a3,((X):Int).toNat,none⟩ (.int .i64 (wrap64 ((rd z (X))+(rd y j)))))) ?hg ?ho ?hn ?hr ?_;(case ho=>rfl);(case hg=>rfl);(case hn=>rfl);(case hr=>first | (go_simp;done) | (go_simp;rfl));intro bc hw;have hg:wr.grownBy bc (some a3):=(by rw [hw];exact ba.2);have bd:Kd.R (Kd.int .i64) 3 bc w.heap.size (fun k_=>some k_≠(.slice (some aP) y.length bs:Value).ownBlock) (.slice (some ⟨a3,0,none⟩) z.length a8) Y:=(by rw [hw,aO.out];exact ba.1);clear ba;replace a1:=ae.mk bd;replace a4:=ae.mk (Kd.eK (v:=(.slice (some ⟨a3,0,none⟩) z.length a8)) (v1:=(.slice (some ⟨a3,0,none⟩) z.length a8)) (ok:=(fun _=>True)) (af.Rw (Kd.aX a4.out (fun _ hk=>⟨trivial,hk⟩))) hg (.inl rfl));replace HB:=ae.mk ((by rw [hw];exact dK (HB.out) cp.out:Below w.heap.size w bc));clear hg hw bd;have aw:0≤(j:Int):=af.D;have aB:j < (Y.length:Int):=(by have h_:(j:Int) < ((z.length:Int):Int):=af.D;first | (have e_:=(Kd.au a1.out).1;omega) | simpa only [aO.out,List.length_set] using h_);have dE:((j:Int) < ((z.length:Int):Int)) = True:=eq_true (af.D);obtain ⟨cd,d2,a5⟩:=Kd.dS (Kd.au a1.out).2.2 j aw aB;obtain rfl:(⟨a3,0,none⟩:Addr) = cd:=(by injection d2);(first | simp only [add_plain] at a5 | simp only [pE] at a5 | simp only [Addr.add,Nat.zero_add] at a5 | skip);replace aw:=eq_true aw;replace aB:=eq_true aB;have d3:0≤(j:Int):=af.D;have d4:(j:Int) < ((z.length:Int):Int):=af.D;obtain ⟨dT,e0⟩:=Kd.gH 0 a1.out (j:Int) d3 d4;replace d3:=eq_true d3;replace d4:=eq_true d4;obtain ⟨el,em⟩:=Kd.gH 0 a1.out (j:Int) (af.D) (af.D);have bi:=Kd.jV a1.out (j:Int) (wrap64 ((rd Y j) - (rd y j)))) | ((with_reducible refine fT (t:=3) (p:=39) rfl ?_);refine fq (t:=3) (p:=39) (v:=?vo_w24) (w1:=(bc.setCell ⟨a3,(j:Int).toNat,none⟩ (.int .i64 (wrap64 ((rd Y j) - (rd y j)))))) ?hg ?ho ?hn ?hr ?_;(case ho=>rfl);(case hg=>rfl);(case hn=>rfl);(case hr=>first | (go_simp;done) | (go_simp;rfl));intro d5 hw;have hg:bc.grownBy d5 (some a3):=(by rw [hw];exact bi.2);have bd:Kd.R (Kd.int .i64) 3 d5 w.heap.size (fun k_=>some k_≠(.slice (some aP) y.length bs:Value).ownBlock) (.slice (some ⟨a3,0,none⟩) z.length a8) ar:=(by rw [hw,cb.out];exact bi.1);clear bi;replace a1:=ae.mk bd;replace a4:=ae.mk (Kd.eK (v:=(.slice (some ⟨a3,0,none⟩) z.length a8)) (v1:=(.slice (some ⟨a3,0,none⟩) z.length a8)) (ok:=(fun _=>True)) (af.Rw a4.out) hg (.inl rfl));replace HB:=ae.mk ((by rw [hw];exact dK (HB.out) cp.out:Below w.heap.size w d5));clear hg hw bd))
       go_roundg k2
       case measure=>have:=bo.out;have:=ca.out;omega
       case rel=>exact ⟨(ar),(X),(by first | rfl | (simp;done) | (simp only [← al] <;> (first | rfl | simp)) | (simp [*];done)),H',⟨by have:=bo.out;have:=ca.out;omega⟩,⟨af.Rw a1.out⟩,⟨af.Rw (Kd.aX a4.out (fun _ hk=>hk.2))⟩,⟨af.Lw HB.out⟩⟩
      ·rw [if_neg aR] at H
       have cy:decide (j < (y.length:Int)) = false:=decide_eq_false aR
       clear aR
       have H':=ae.mk H
       clear H
       go_wp2
       go_roundg k2
       case measure=>have:=bo.out;have:=ca.out;omega
       case rel=>exact ⟨(z),(wrap64 (a2+1)),af.F,H',⟨by have:=bo.out;have:=ca.out;omega⟩,⟨af.Rw (Kd.aX a1.out (fun _ hk=>trivial))⟩,⟨af.Lw HB.out⟩⟩
   ·rw [if_neg c4] at H
    have d8:decide (a2 < a0) = false:=decide_eq_false c4
    clear c4
    obtain rfl:=Option.some.inj H
    go_wp2
    go_ret
    exact ⟨_,af.E,by (with_reducible repeat (first | apply Kd.cL | apply Kd.cM | apply Kd.bS));exact a6.out,af.L⟩
mutual
def bC.l0:Nat→Int→List (List Int)→Int→Int→List Int→Option ((List (List Int)))
 | 0,_,_,_,_,_=>none
 | k+1,x3,Y,x5,j,y=>(fN.f j).bind fun a3=>(if x5≤a3 then ((dI.f k j y x5).bind fun a0=>((eu.f x5).bind fun a4=>((bE.f k (wrap64 (a4 - a0))).bind fun a5=>((bE.f k (wrap64 (x3 - a0))).bind fun a1=>(bC.l1 k x3 Y x5 a5 a1 (a1.length:Int) 0 j y))))) else (some Y))
def bC.l1:Nat→Int→List (List Int)→Int→List Int→List Int→Int→Int→Int→List Int→Option ((List (List Int)))
 | 0,_,_,_,_,_,_,_,_,_=>none
 | k+1,x3,Y,x5,x7,X,a2,z,j,y=>if z < a2 then (if 0≤z then (if z < (X.length:Int) then (bC.l2 k x3 Y x5 x7 z (rd X z) X a2 z (x7.length:Int) 0 j y) else (none)) else (none)) else (bC.l0 k x3 Y (wrap64 (x5+1)) j y)
def bC.l2:Nat→Int→List (List Int)→Int→List Int→Int→Int→List Int→Int→Int→Int→Int→Int→List Int→Option ((List (List Int)))
 | 0,_,_,_,_,_,_,_,_,_,_,_,_,_=>none
 | k+1,x3,Y,x5,x7,x8,x9,X,a2,z,a6,M,j,y=>if M < a6 then (if 0≤M then (if M < (x7.length:Int) then (if 0≤x8 then (if x8 < (Y.length:Int) then (if M < ((cw Y x8).length:Int) then (bC.l2 k x3 (Y.set (x8:Int).toNat ((cw Y x8).set (M:Int).toNat (wrap64 ((rd (cw Y x8) M)+(wrap64 (x9 * (rd x7 M))))))) x5 x7 x8 x9 X a2 z a6 (wrap64 (M+1)) j y) else (none)) else (none)) else (none)) else (none)) else (none)) else (bC.l1 k x3 Y x5 x7 X a2 (wrap64 (z+1)) j y)
end
def bC.f (k:Nat) (y:Int) (z:List Int):Option ((List (List Int))):=(e7.f k y z).bind fun j=>(if j < 0 then (some ([]:List (List Int))) else ((cg.f k (wrap64 (j+1)) (wrap64 ((wrap64 (y - j))+1))).bind fun M=>(bC.l0 k j M 0 y z)))
set_option maxHeartbeats 8000000 in
set_option maxRecDepth 100000 in
theorem bC.calls (k:Nat) (Y:Int) (am:Option Addr) (ao:Nat) (a2:List Int) (r:List (List Int)) (w:World) (d7:Kd.C (Kd.int .i64) w am a2.length a2) (d8:a2.length≤ao) (h:bC.f k Y a2 = some r) :
  Calls Tryz.prog 51 #[.agg #[.int .i64 Y,.slice am a2.length ao]] w fun e w'=>∃ f4:Value,e = .returned (f4)∧Kd.S (Kd.slice 3 (Kd.int .i64)) 28 w' w.heap.size (fun _=>True) f4 r∧Below w.heap.size w w':=by
 have i8:=Tryz.underlying30
 have bs:=ae.mk d7
 have bv:=ae.mk d8
 clear d7 d8
 have HB:=ae.mk (Below.refl w.heap.size w)
 unfold bC.f at h
 have H:=h
 clear h
 obtain ⟨a3,A2,H⟩:=af.be H
 (try dsimp only at H)
 by_cases c3:a3 < 0
 ·rw [if_pos c3] at H
  have f5:=decide_eq_true c3
  clear c3
  obtain rfl:=Option.some.inj H
  go_enter Tryz.func51,Tryz.ntmps51
  go_wp2_with (first | (refine af.bx 1 #[.int .i64 Y,.slice am a2.length ao] 30 ?_;intro aw hg w4 hbox hb;have j:=ae.mk hbox;have e1:=af.gw hg HB;have e2:=af.gw hg HB;replace HB:=af.lb HB hb;clear hb hbox hg;obtain ⟨hl,hm,hq,ht⟩:=af.bR j.out) | (refine af.gl (some 13) Tryz.func93 #[.agg #[.int .i64 Y,.slice am a2.length ao]] ?_;(with_reducible refine (e7.calls k Y _ _ a2 a3 _ ?side1 ?side2 A2.out).mono ?_);(case side1=>exact af.Cw (Kd.bG bs.out HB.out));(case side2=>exact bv.out);rintro e w6 ⟨rfl,hb⟩;refine ⟨_,rfl,?_⟩;replace j:=af.bb j hb;replace HB:=af.lb HB hb;(try clear hb);(try clear d9);(try clear hk);(try clear hi)))
  go_ret
  exact ⟨_,af.E,by first | exact Kd.s8 _ _ _ _ _ | exact Kd.sr _ _ _ _ _ | exact Kd.sy _ _ _ _ _ | exact Kd.s4 _ _ _ _ _ | exact Kd.nx _ _ _ _ _,af.L⟩
 ·rw [if_neg c3] at H
  have f5:decide (a3 < 0) = false:=decide_eq_false c3
  clear c3
  obtain ⟨db,A7,H⟩:=af.be H
  (try dsimp only at H)
  have H':=ae.mk H
  clear H
  go_enter Tryz.func51,Tryz.ntmps51
  go_wp2_with (first | (refine af.bx 1 #[.int .i64 Y,.slice am a2.length ao] 30 ?_;intro aw hg w8 hbox hb;have j:=ae.mk hbox;have e1:=af.gw hg HB;have e2:=af.gw hg HB;replace HB:=af.lb HB hb;clear hb hbox hg;obtain ⟨hu,hx,hz,hA⟩:=af.bR j.out) | (refine af.gl (some 13) Tryz.func93 #[.agg #[.int .i64 Y,.slice am a2.length ao]] ?_;(with_reducible refine (e7.calls k Y _ _ a2 a3 _ ?side1 ?side2 A2.out).mono ?_);(case side1=>exact af.Cw (Kd.bG bs.out HB.out));(case side2=>exact bv.out);rintro e im ⟨rfl,hb⟩;refine ⟨_,rfl,?_⟩;replace j:=af.bb j hb;replace HB:=af.lb HB hb;(try clear hb);(try clear d9);(try clear hk);(try clear hi);obtain ⟨f6,f7,f8,f9⟩:=af.bR j.out) | (refine af.gl (some 23) Tryz.func114 #[.int .i64 (wrap64 (a3+1)),.int .i64 (wrap64 ((wrap64 (Y - a3))+1))] ?_;(with_reducible refine (cg.calls k (wrap64 (a3+1)) (wrap64 ((wrap64 (Y - a3))+1)) db _ A7.out).mono ?_);rintro e io ⟨ca,rfl,aP,hb⟩;refine ⟨_,rfl,?_⟩;have e3:=ae.mk (Kd.cT aP (aj (af.Lw HB.out)));replace j:=af.bb j hb;replace HB:=af.lb HB hb;(try clear hb);(try clear d9);(try clear hk);(try clear hi);(try clear aP)))
  go_loopg [5] k (fun kq v5 w'=>∃ (cp:List (List Int)) (a9:Int),v5 = .int .i64 a9∧ae (bC.l0 kq a3 cp a9 Y a2 = some r)∧ae (kq≤k)∧ae (Kd.S (Kd.slice 3 (Kd.int .i64)) 28 w' w.heap.size (fun _=>True) ca cp)∧ae (w'.heap[aw]? = some (.cells #[.int .i64 Y,(.slice am a2.length ao)] 30 (0,0)))∧ae (Below w.heap.size w w'))
  case atStart=>exact ⟨(db),(0),af.F,H',⟨Nat.le_refl _⟩,⟨af.Sw e3.out⟩,⟨af.Bw j.out⟩,⟨af.Lw HB.out⟩⟩
  case round =>
   clear H'
   obtain ⟨cp,a9,rfl,HA,cY,a0,j,HB⟩:=hrel
   cases gk with
   | zero=>exact absurd HA.out (by simp [bC.l0])
   | succ k1 =>
    have H:=HA.out
    clear HA
    simp only [bC.l0] at H
    obtain ⟨b4,fa,H⟩:=af.be H
    (try dsimp only at H)
    by_cases d0:a9≤b4
    ·rw [if_pos d0] at H
     have ej:=decide_eq_true d0
     clear d0
     obtain ⟨aR,hM,H⟩:=af.be H
     (try dsimp only at H)
     obtain ⟨cb,hO,H⟩:=af.be H
     (try dsimp only at H)
     obtain ⟨dd,hP,H⟩:=af.be H
     (try dsimp only at H)
     obtain ⟨a8,hR,H⟩:=af.be H
     (try dsimp only at H)
     have H':=ae.mk H
     clear H
     obtain ⟨fd,fi,fj,fl⟩:=af.bR j.out
     go_wp2_with (first | (refine af.gl (some 27) Tryz.func115 #[.int .i64 Y] ?_;(with_reducible refine (fN.calls Y b4 _ fa.out).mono ?_);rintro e w' ⟨rfl,⟨nd,rfl⟩⟩;refine ⟨_,rfl,?_⟩) | (refine af.gl (some 33) Tryz.func102 #[.agg #[.int .i64 Y,.slice am a2.length ao],.int .i64 a9] ?_;(with_reducible refine (dI.calls k1 Y _ _ a2 a9 aR _ ?side1 ?side2 hM.out).mono ?_);(case side1=>exact af.Cw (Kd.bG bs.out HB.out));(case side2=>exact bv.out);rintro e it ⟨rfl,hb⟩;refine ⟨_,rfl,?_⟩;replace a0:=ae.mk (Kd.dQ (af.Sw a0.out) hb);replace j:=af.bb j hb;replace HB:=af.lb HB hb;(try clear hb);(try clear d9);(try clear hk);(try clear hi)) | (refine af.gl (some 35) Tryz.func117 #[.int .i64 a9] ?_;(with_reducible refine (eu.calls a9 cb _ hO.out).mono ?_);rintro e w' ⟨rfl,⟨nd,rfl⟩⟩;refine ⟨_,rfl,?_⟩) | (refine af.gl (some 38) Tryz.func116 #[.int .i64 (wrap64 (cb - aR))] ?_;(with_reducible refine (bE.calls k1 (wrap64 (cb - aR)) dd _ hP.out).mono ?_);rintro e jp ⟨cc,rfl,aP,hb⟩;refine ⟨_,rfl,?_⟩;replace a0:=ae.mk (Kd.aA (af.Sw a0.out) (Kd.bF aP) hb);have aF:=ae.mk (Kd.b9 aP (aj (af.Lw HB.out)));replace j:=af.bb j hb;replace HB:=af.lb HB hb;(try clear hb);(try clear d9);(try clear hk);(try clear hi);(try clear aP)) | (refine af.gl (some 42) Tryz.func116 #[.int .i64 (wrap64 (a3 - aR))] ?_;(with_reducible refine (bE.calls k1 (wrap64 (a3 - aR)) a8 _ hR.out).mono ?_);rintro e k0 ⟨hT,rfl,aP,hb⟩;refine ⟨_,rfl,?_⟩;replace a0:=ae.mk (Kd.aA (af.Sw a0.out) (Kd.bF aP) hb);have cx:=ae.mk (Kd.b9 (Kd.dc aP (Kd.cD (af.Rw aF.out))) (aj (af.Lw HB.out)));replace aF:=ae.mk (Kd.cm (af.Rw aF.out) (Kd.bF aP) hb);replace j:=af.bb j hb;replace HB:=af.lb HB hb;(try clear hb);(try clear d9);(try clear hk);(try clear hi);(try clear aP);obtain ⟨df,aS,fp⟩:=Kd.aY cx.out;subst fp))
     go_loopg [44] k1 (fun kq v44 w'=>∃ (bm:List (List Int)) (al:List Int) (a5:List Int) (y:Int),v44 = .int .i64 y∧ae (bC.l1 kq a3 bm a9 al a5 (a8.length:Int) y Y a2 = some r)∧ae (kq≤k1)∧ae (Kd.S (Kd.slice 3 (Kd.int .i64)) 28 w' w.heap.size (fun k_=>some k_≠(cc:Value).ownBlock∧some k_≠((.slice df a8.length aS):Value).ownBlock) ca bm)∧ae (Kd.R (Kd.int .i64) 3 w' w.heap.size (fun k_=>some k_≠((.slice df a8.length aS):Value).ownBlock) cc al)∧ae (Kd.R (Kd.int .i64) 3 w' w.heap.size (fun k_=>some k_≠(cc:Value).ownBlock) (.slice df a8.length aS) a5)∧ae (w'.heap[aw]? = some (.cells #[.int .i64 Y,(.slice am a2.length ao)] 30 (0,0)))∧ae (Below w.heap.size w w'))
     case atStart=>exact ⟨(cp),(dd),(a8),(0),af.F,H',⟨Nat.le_refl _⟩,⟨af.Sw (Kd.dh a0.out (fun _ hk=>(by first | exact ⟨hk.1.2,hk.2⟩ | (simp_all;done))))⟩,⟨af.Rw (Kd.aX aF.out (fun _ hk=>hk.2))⟩,⟨af.Rw (Kd.aX cx.out (fun _ hk=>hk.2))⟩,⟨af.Bw j.out⟩,⟨af.Lw HB.out⟩⟩
     case round =>
      clear H'
      obtain ⟨bm,al,a5,y,rfl,HA,d1,a0,aa,a6,j,HB⟩:=hrel
      have z:=(Kd.au a6.out).1
      rw [z] at a6
      (try simp only [z])
      (try simp only [z] at j)
      (try simp only [z] at a0)
      (try simp only [z] at aa)
      cases gk with
      | zero=>exact absurd HA.out (by simp [bC.l1])
      | succ k2 =>
       have H:=HA.out
       clear HA
       simp only [bC.l1] at H
       by_cases d2:y < (a8.length:Int)
       ·rw [if_pos d2] at H
        have dk:=decide_eq_true d2
        clear d2
        obtain ⟨fs,H⟩:=af.ip H
        have hU:=decide_eq_true fs
        clear fs
        obtain ⟨ft,H⟩:=af.ip H
        have hV:=decide_eq_true ft
        clear ft
        have H':=ae.mk H
        clear H
        obtain ⟨aL,el,d3,hW,em⟩:=af.ai (Kd.au a6.out).2.2 y
        cases el
        obtain ⟨dl,cy,fw⟩:=Kd.aY aa.out
        subst fw
        go_wp2
        go_loopg [51] k2 (fun kq v51 w'=>∃ (a4:List (List Int)) (ap:List Int) (ar:List Int) (M:Int),v51 = .int .i64 M∧ae (bC.l2 kq a3 a4 a9 ap y (rd a5 y) ar (a8.length:Int) y (al.length:Int) M Y a2 = some r)∧ae (kq≤k2)∧ae (Kd.S (Kd.slice 3 (Kd.int .i64)) 28 w' w.heap.size (fun k_=>some k_≠((.slice dl al.length cy):Value).ownBlock∧some k_≠((.slice (some aL) a5.length aS):Value).ownBlock) ca a4)∧ae (Kd.R (Kd.int .i64) 3 w' w.heap.size (fun k_=>some k_≠((.slice (some aL) a5.length aS):Value).ownBlock) (.slice dl al.length cy) ap)∧ae (Kd.R (Kd.int .i64) 3 w' w.heap.size (fun k_=>some k_≠((.slice dl al.length cy):Value).ownBlock) (.slice (some aL) a5.length aS) ar)∧ae (w'.heap[aw]? = some (.cells #[.int .i64 Y,(.slice am a2.length ao)] 30 (0,0)))∧ae (Below w.heap.size w w'))
        case atStart=>exact ⟨(bm),(al),(a5),(0),af.F,H',⟨Nat.le_refl _⟩,⟨by (try simp only [z]);(with_reducible repeat (first | apply Kd.fE | apply Kd.fF | apply Kd.ez));exact a0.out⟩,⟨by (try simp only [z]);(with_reducible repeat (first | apply Kd.cL | apply Kd.cM | apply Kd.bS));exact aa.out⟩,⟨by (try simp only [z]);(with_reducible repeat (first | apply Kd.cL | apply Kd.cM | apply Kd.bS));exact a6.out⟩,⟨by (try simp only [z]);(with_reducible repeat (first | refine iv ?_ _ | refine dZ ?_ | refine gg ?_ _));exact j.out⟩,⟨af.Lw HB.out⟩⟩
        case round =>
         clear H'
         try clear q1
         try clear k4
         try clear k5
         try clear i9
         try clear d3
         try clear em
         obtain ⟨a4,ap,ar,M,rfl,HA,e4,a0,aa,a6,j,HB⟩:=hrel
         have a1:=(Kd.au aa.out).1
         rw [a1] at aa
         (try simp only [a1])
         (try simp only [a1] at j)
         (try simp only [a1] at a0)
         (try simp only [a1] at a6)
         have X:=(Kd.au a6.out).1
         rw [X] at a6
         (try simp only [X])
         (try simp only [X] at j)
         (try simp only [X] at a0)
         (try simp only [X] at aa)
         cases gk with
         | zero=>exact absurd HA.out (by simp [bC.l2])
         | succ k3 =>
          have H:=HA.out
          clear HA
          simp only [bC.l2] at H
          by_cases d4:M < (al.length:Int)
          ·rw [if_pos d4] at H
           have dp:=decide_eq_true d4
           clear d4
           obtain ⟨fx,H⟩:=af.ip H
           have hX:=decide_eq_true fx
           clear fx
           obtain ⟨fy,H⟩:=af.ip H
           have hY:=decide_eq_true fy
           clear fy
           obtain ⟨fX,H⟩:=af.ip H
           have hZ:=decide_eq_true fX
           clear fX
           obtain ⟨fY,H⟩:=af.ip H
           have i0:=decide_eq_true fY
           clear fY
           obtain ⟨g0,H⟩:=af.ip H
           have i1:=decide_eq_true g0
           clear g0
           obtain ⟨cd,ba⟩:∃ y_:List Int,y_ = ((cw a4 y).set (M:Int).toNat (wrap64 ((rd (cw a4 y) M)+(wrap64 ((rd a5 y) * (rd ap M)))))):=⟨_,rfl⟩
           replace H:(bC.l2 k3 a3 (a4.set (y:Int).toNat cd) a9 ap y (rd a5 y) ar (a8.length:Int) y (al.length:Int) (wrap64 (M+1)) Y a2) = some r:=by (try rw [ba]);exact af.Z
           have e8:=ae.mk ba
           clear ba
           obtain ⟨ce,bc⟩:∃ y_:List (List Int),y_ = (a4.set (y:Int).toNat cd):=⟨_,rfl⟩
           replace H:(bC.l2 k3 a3 ce a9 ap y (rd a5 y) ar (a8.length:Int) y (al.length:Int) (wrap64 (M+1)) Y a2) = some r:=by (try rw [bc]);exact af.Z
           have ea:=ae.mk bc
           clear bc
           have H':=ae.mk H
           clear H
           obtain ⟨eb,eo,f1,i2,i3⟩:=af.ai (Kd.au aa.out).2.2 M
           cases eo
           obtain ⟨ib,g1,g2⟩:=Kd.cP a0.out
           subst g2
           have bd:0≤(y:Int):=af.D
           have bi:y < (a4.length:Int):=af.D
           obtain ⟨ec,g3,dq,eq,b0,b1,b2⟩:=gM (Kd.aE a0.out).2.2 y bd bi
           cases eq
           obtain ⟨hC,dt,du,bo⟩:=Kd.nC a0.out [] y bd (by first | exact bi | exact af.D | (have e_:=(Kd.aE a0.out).1;omega))
           obtain ⟨f2,rfl,aB⟩:=du
           have ab:=bo 0 _ rfl
           rw [Nat.add_zero,show ((Kd.slice 3 (Kd.int .i64))).sz = 1 from rfl,Nat.mul_one] at ab
           replace ab:=Option.some.inj (ab.symm.trans b0)
           rw [ab] at aB
           have a7:=ae.mk (show Kd.R (Kd.int .i64) 3 _ _ _ _ (cw a4 y) from aB)
           clear ab aB
           have d5:=ae.mk b0
           clear bo dt
           have b3:=ae.mk b2
           have f3:=ae.mk b1
           clear b2 b1
           replace bd:=eq_true bd
           replace bi:=eq_true bi
           obtain ⟨hD,es,d6,i4,i5⟩:=af.ai (by repeat (first | (with_reducible exact b3.out) | (with_reducible refine Kd.fk ?_ _) | (with_reducible refine Kd.fm ?_ _) | (with_reducible refine Kd.fJ ?_) | exact b3.out)) M
           cases es
           have et:0≤(M:Int):=af.D
           have ev:(M:Int) < (((cw a4 y).length:Int):Int):=af.D
           obtain ⟨dv,ie,ef,eg,g4,ih,eh⟩:=Kd.jm a7.out (by omega)
           (first | cases ef | (injection ef with ed i6 i7;(first | subst ed | (injection ed with ed;subst ed));subst i7;clear i6))
           have g5:=ae.mk eg
           have ii:=ae.mk eh
           clear eg g4 eh
           (first | simp only [add_plain] at d6 | skip)
           obtain ⟨hE,hG⟩:=Kd.gH 0 a7.out (M:Int) et ev
           replace et:=eq_true et
           replace ev:=eq_true ev
           have g6:(y:Int) < (a4.length:Int):=(by have h_:(y:Int) < ((a4.length:Int):Int):=af.D;first | exact h_ | (have e_:=(Kd.aE a0.out).1;omega) | simpa only [List.length_set,List.length_set] using h_)
           obtain ⟨ew,il,ex,g7,dC,dE,dT⟩:=Kd.oF a0.out [] (y:Int) (af.D) g6
           obtain ⟨hH,rfl,aO⟩:=g7
           have cX:=dC 0 _ rfl
           rw [Nat.add_zero,show ((Kd.slice 3 (Kd.int .i64))).sz = 1 from rfl,Nat.mul_one] at cX
           replace cX:=Option.some.inj (cX.symm.trans d5.out)
           subst cX
           clear dC ex
           replace aO:=(show Kd.R (Kd.int .i64) 3 _ _ _ _ (cw a4 y) from aO)
           have e0:=Kd.jV aO (M:Int) (wrap64 ((rd (cw a4 y) M)+(wrap64 ((rd a5 y) * (rd ap M)))))
           go_wp2_with (first | ((with_reducible refine fT (t:=3) (p:=67) rfl ?_);refine fq (t:=3) (p:=67) (v:=?vo_w37) (w1:=(wr.setCell ⟨dv,(M:Int).toNat,none⟩ (.int .i64 (wrap64 ((rd (cw a4 y) M)+(wrap64 ((rd a5 y) * (rd ap M)))))))) ?hg ?ho ?hn ?hr ?_;(case ho=>rfl);(case hg=>rfl);(case hn=>rfl);(case hr=>first | (go_simp;done) | (go_simp;rfl));intro ee hw;have hg:wr.grownBy ee (some dv):=(by rw [hw];exact e0.2);have eQ:Kd.R (Kd.int .i64) 3 ee w.heap.size ew (.slice (some ⟨dv,0,none⟩) (cw a4 y).length dq) cd:=(by rw [hw,e8.out];exact e0.1);have g8:Kd.S (Kd.slice 3 (Kd.int .i64)) 28 ee w.heap.size (fun k_=>some k_≠(.slice (some eb) ap.length cy:Value).ownBlock∧some k_≠(.slice (some aL) ar.length aS:Value).ownBlock) (.slice (some ec) a4.length g1) ce:=(by rw [ea.out];exact dT hg (fun k_ e_=>by injection e_ with e_;subst e_;exact aO.1 _ rfl) (Kd.kC eQ));have f0:=Kd.aX eQ dE;clear e0 dT;have g9:=ae.mk g8;have gc:=ae.mk (Kd.oG (af.Rw aa.out) rfl hg ((a7.out.1 _ rfl).1.1));have go:=ae.mk (Kd.oG (af.Rw a6.out) rfl hg ((a7.out.1 _ rfl).1.2));have gs:=ae.mk (ep (g:=aw) (o:=.cells #[.int .i64 Y,.slice am a2.length ao] 30 (0,0)) (af.Bw j.out) hg (Kd.jr a7.out j.out (by decide)));have gt:=ae.mk ((by rw [hw];exact dK (HB.out) g5.out:Below w.heap.size w ee));have h0:=ae.mk f0;have h6:=ae.mk ((Kd.au f0).2.1);clear a0;clear aa;clear a6;clear j;clear HB;clear a7;have a0:=g9;have aa:=gc;have a6:=go;have j:=gs;have HB:=gt;have hI:=h0;have hL:=h6;clear g9 gc go gs gt h0 h6;clear hg hw g8 eQ f0 dE))
           (try simp only [← a1,← X])
           go_roundg k3
           case measure=>have:=cY.out;have:=d1.out;have:=e4.out;omega
           case rel=>exact ⟨(ce),(ap),(ar),(wrap64 (M+1)),af.F,H',⟨by have:=cY.out;have:=d1.out;have:=e4.out;omega⟩,⟨by (try simp only [z]);(try simp only [a1]);(try simp only [X]);(with_reducible repeat (first | apply Kd.fE | apply Kd.fF | apply Kd.ez));exact a0.out⟩,⟨by (try simp only [z]);(try simp only [a1]);(try simp only [X]);(with_reducible repeat (first | apply Kd.cL | apply Kd.cM | apply Kd.bS));exact aa.out⟩,⟨by (try simp only [z]);(try simp only [a1]);(try simp only [X]);(with_reducible repeat (first | apply Kd.cL | apply Kd.cM | apply Kd.bS));exact a6.out⟩,⟨by (try simp only [z]);(try simp only [a1]);(try simp only [X]);(with_reducible repeat (first | refine iv ?_ _ | refine dZ ?_ | refine gg ?_ _));exact j.out⟩,⟨af.Lw HB.out⟩⟩
          ·rw [if_neg d4] at H
           have dp:decide (M < (al.length:Int)) = false:=decide_eq_false d4
           have cf:=dp
           (try rw [z] at cf)
           (try rw [X] at cf)
           (try rw [a1] at cf)
           clear d4
           have H':=ae.mk H
           clear H
           go_wp2
           (try simp only [← z,← a1,← X])
           go_roundg k3
           case measure=>have:=cY.out;have:=d1.out;have:=e4.out;omega
           case rel=>exact ⟨(a4),(ap),(ar),(wrap64 (y+1)),af.F,H',⟨by have:=cY.out;have:=d1.out;have:=e4.out;omega⟩,⟨by (try simp only [z]);(try simp only [a1]);(try simp only [X]);(with_reducible repeat (first | apply Kd.fE | apply Kd.fF | apply Kd.ez));exact a0.out⟩,⟨by (try simp only [z]);(try simp only [a1]);(try simp only [X]);(with_reducible repeat (first | apply Kd.cL | apply Kd.cM | apply Kd.bS));exact aa.out⟩,⟨by (try simp only [z]);(try simp only [a1]);(try simp only [X]);(with_reducible repeat (first | apply Kd.cL | apply Kd.cM | apply Kd.bS));exact a6.out⟩,⟨by (try simp only [z]);(try simp only [a1]);(try simp only [X]);(with_reducible repeat (first | refine iv ?_ _ | refine dZ ?_ | refine gg ?_ _));exact j.out⟩,⟨af.Lw HB.out⟩⟩
       ·rw [if_neg d2] at H
        have dk:decide (y < (a8.length:Int)) = false:=decide_eq_false d2
        have ci:=dk
        (try rw [z] at ci)
        (try rw [X] at ci)
        (try rw [a1] at ci)
        clear d2
        have H':=ae.mk H
        clear H
        go_wp2
        (try simp only [← z])
        go_roundg k2
        case measure=>have:=cY.out;have:=d1.out;omega
        case rel=>exact ⟨(bm),(wrap64 (a9+1)),af.F,H',⟨by have:=cY.out;have:=d1.out;omega⟩,⟨by (try simp only [z]);(with_reducible repeat (first | apply Kd.fE | apply Kd.fF | apply Kd.ez));exact Kd.dh a0.out (fun _ hk=>trivial)⟩,⟨by (try simp only [z]);(with_reducible repeat (first | refine iv ?_ _ | refine dZ ?_ | refine gg ?_ _));exact j.out⟩,⟨af.Lw HB.out⟩⟩
    ·rw [if_neg d0] at H
     have ej:decide (a9≤b4) = false:=decide_eq_false d0
     clear d0
     obtain rfl:=Option.some.inj H
     obtain ⟨h7,h8,h9,hj⟩:=af.bR j.out
     go_wp2_with (first | (refine af.gl (some 27) Tryz.func115 #[.int .i64 Y] ?_;(with_reducible refine (fN.calls Y b4 _ fa.out).mono ?_);rintro e w' ⟨rfl,⟨nd,rfl⟩⟩;refine ⟨_,rfl,?_⟩))
     go_ret
     exact ⟨_,af.E,by (with_reducible repeat (first | apply Kd.fE | apply Kd.fF | apply Kd.ez));exact a0.out,af.L⟩
def cH.l0:Nat→Int→List Int→Int→List Int→Int→Int→Option (List Int×Int×Int)
 | 0,_,_,_,_,_,_=>none
 | k+1,Y,X,x6,y,z,M=>if x6 < Y then ((aM.f y z M 9).bind fun j=>(if X.length < 17592186044416 then (cH.l0 k Y (X ++ [wrap64 (j.1 - 3)]) (wrap64 (x6+1)) y j.2.1 j.2.2) else (none))) else (some (X,z,M))
def cH.f (k:Nat) (j:List Int) (y:Int) (z:Int) (M:Int):Option (List Int×Int×Int):=cH.l0 k M (([]:List Int)) 0 j y z
set_option maxHeartbeats 8000000 in
set_option maxRecDepth 100000 in
theorem cH.calls (k:Nat) (g:Nat) (z:List Int) (a6:Int) (a7:Int) (a1:Int) (r1:List Int) (r2:Int) (r3:Int) (w0 w:World) (hI:av w0 w g z a6 a7) (hB:Below w0.heap.size w0 w) (h:cH.f k z a6 a7 a1 = some (r1,r2,r3)) :
  Calls Tryz.prog 103 #[.pointer (some ⟨g,0,none⟩),.int .i64 a1] w fun e w'=>∃ aw:Value,e = .returned (aw)∧Kd.R (Kd.int .i64) 3 w' w.heap.size (fun _=>True) aw r1∧av w0 w' g z r2 r3∧Below w0.heap.size w0 w'∧aq w w' g none:=by
 have a9:=ae.mk hI
 have HK:=ae.mk (aq.refl w g none)
 have HL:=ae.mk hB.size
 clear hI
 have b3:=ae.mk hB.size
 have HB:=ae.mk hB
 clear hB
 unfold cH.f at h
 have H:=h
 clear h
 obtain ⟨aa,Y⟩:∃ y_:List Int,y_ = (([]:List Int)):=⟨_,rfl⟩
 replace H:(cH.l0 k a1 aa 0 z a6 a7) = some (r1,r2,r3):=by (try rw [Y]);exact af.Z
 have a8:=ae.mk Y
 clear Y
 have H':=ae.mk H
 clear H
 go_enter Tryz.func103,Tryz.ntmps103
 go_wp2_with (first | (refine af.lt (Kd.int .i64) 3 7 ?_;intro b0 w3 ab hb b1 ar;clear b1 ar;(first | rw [← a8.out] at ab | (simp only [Int.reduceToNat] at ab;rw [← a8.out] at ab));have am:=ae.mk (Kd.b9 ab (bj (w:=w) (g:=g) (row:=none) (af.K HK)));replace HK:=ae.mk (aq.trans (af.K HK) (aq.cW hb g none) (.inl rfl));replace HB:=ae.mk (az (af.J HB) hb);replace a9:=ae.mk (av.below af.I hb);clear hb ab))
 go_loopg [5,6] k (fun kq v5 v6 w'=>∃ (a3:List Int) (M:Int) (j:Int) (y:Int),v6 = .int .i64 M∧ae (cH.l0 kq a1 a3 M z j y = some (r1,r2,r3))∧ae (kq≤k)∧ae (Kd.R (Kd.int .i64) 3 w' w.heap.size (fun _=>True) v5 a3)∧ae (av w0 w' g z j y)∧ae (aq w w' g none)∧ae (Below w0.heap.size w0 w'))
 case atStart=>exact ⟨(aa),(0),(a6),(a7),af.F,H',⟨Nat.le_refl _⟩,⟨af.Rw am.out⟩,⟨af.I⟩,⟨af.K HK⟩,⟨af.J HB⟩⟩
 case round =>
  clear H'
  obtain ⟨a3,M,j,y,rfl,HA,aB,X,a9,HK,HB⟩:=hrel
  cases gk with
  | zero=>exact absurd HA.out (by simp [cH.l0])
  | succ k1 =>
   have H:=HA.out
   clear HA
   simp only [cH.l0] at H
   by_cases c5:M < a1
   ·rw [if_pos c5] at H
    have aF:=decide_eq_true c5
    clear c5
    obtain ⟨⟨a0,a4,a5⟩,A6,H⟩:=af.be H
    (try dsimp only at H)
    obtain ⟨c7,H⟩:=af.ip H
    have aL:=ae.mk c7
    clear c7
    obtain ⟨al,a2⟩:∃ y_:List Int,y_ = (a3 ++ [wrap64 (a0 - 3)]):=⟨_,rfl⟩
    replace H:(cH.l0 k1 a1 al (wrap64 (M+1)) z a4 a5) = some (r1,r2,r3):=by (try rw [a2]);exact af.Z
    have ao:=ae.mk a2
    clear a2
    have H':=ae.mk H
    clear H
    go_wp2_with (first | (refine af.gl (some 15) Tryz.func80 #[.pointer (some ⟨g,0,none⟩),.int .i64 9] ?_;(with_reducible refine (aM.calls g z j y 9 a0 a4 a5 w0 _ ?side1 ?side2 A6.out).mono ?_);(case side1=>exact af.I);(case side2=>exact af.J HB);rintro e w8 ⟨rfl,hi,hb,hk⟩;refine ⟨_,rfl,?_⟩;replace X:=ae.mk (Kd.aX (Kd.fR (av.apart (show av w0 _ g z j y from af.I) (af.Rw X.out) (by decide)) hk (fun _ h=>h.2)) (fun _ h=>h.1));replace HK:=ae.mk (aq.trans (af.K HK) hk (.inl rfl));replace HB:=ae.mk hb;replace a9:=ae.mk hi;(try clear hb);(try clear b4);(try clear hk);(try clear hi)) | ((with_reducible refine cB (b:=.append) (xs:=#[.tmp 13,.tmp 17]) rfl ?_);at_builtin;refine Kd.fg (Kd.int .i64) w.heap.size rfl (.tmp 13) (.tmp 17) 28 3 (.int .i64 0) 8 rfl Tryz.underlying28 eJ rfl (by decide) (by omega) u5 a3 (wrap64 (a0 - 3)) [.int .i64 (wrap64 (a0 - 3))] (fun _=>True) (fun _=>False) rfl rfl (by exact rfl) (fun _ hk=>hk.elim) (by exact fun _ _=>trivial) (by exact af.Rw X.out) (Below.refl _ _) (by exact bj (w:=w) (g:=g) (row:=none) (af.K HK)) (by have:=aL.out;omega) ?_;intro b2 w9 ho hb hg hat;rw [← ao.out] at ho;have aO:=ae.mk (av.grown af.I hg (av.hJ a9.out X.out (by decide)));have aP:=ae.mk (gu (af.J HB) HL.out hb);have aR:=ae.mk (aq.trans (af.K HK) (aq.ia hg g) (Kd.jF X.out));have aS:=ae.mk ho;clear a9;clear HB;clear HK;clear X;have a9:=aO;have HB:=aP;have HK:=aR;have ap:=aS;clear aO aP aR aS;clear ho hb hg hat))
    go_roundg k1
    case measure=>have:=aB.out;omega
    case rel=>exact ⟨(al),(wrap64 (M+1)),(a4),(a5),af.F,H',⟨by have:=aB.out;omega⟩,⟨af.Rw ap.out⟩,⟨af.I⟩,⟨af.K HK⟩,⟨af.J HB⟩⟩
   ·rw [if_neg c5] at H
    have aF:decide (M < a1) = false:=decide_eq_false c5
    clear c5
    simp only [Option.some.injEq,Prod.mk.injEq] at H
    obtain ⟨rfl,rfl,rfl⟩:=H
    go_wp2
    go_ret
    exact ⟨_,af.E,by (with_reducible repeat (first | apply Kd.cL | apply Kd.cM | apply Kd.bS));exact X.out,af.I,af.J HB,af.K HK⟩
def cu.l0:Nat→List (List Int)→Int→Int→List Int→Int→Int→Option ((List (List Int))×Int×Int)
 | 0,_,_,_,_,_,_=>none
 | k+1,Y,x4,x5,z,M,X=>if x5 < x4 then ((aM.f z M X 4).bind fun j=>((cH.f k z j.2.1 j.2.2 j.1).bind fun y=>(if Y.length < 5864062014805 then (cu.l0 k (Y ++ [y.1]) x4 (wrap64 (x5+1)) z y.2.1 y.2.2) else (none)))) else (some (Y,M,X))
def cu.f (k:Nat) (y:List Int) (z:Int) (M:Int):Option ((List (List Int))×Int×Int):=(aM.f y z M 4).bind fun j=>(cu.l0 k (([]:List (List Int))) j.1 0 y j.2.1 j.2.2)
set_option maxHeartbeats 8000000 in
set_option maxRecDepth 100000 in
theorem cu.calls (k:Nat) (g:Nat) (j:List Int) (a6:Int) (a7:Int) (r1:List (List Int)) (r2:Int) (r3:Int) (w0 w:World) (hI:av w0 w g j a6 a7) (hB:Below w0.heap.size w0 w) (h:cu.f k j a6 a7 = some (r1,r2,r3)) :
  Calls Tryz.prog 118 #[.pointer (some ⟨g,0,none⟩)] w fun e w'=>∃ bd:Value,e = .returned (bd)∧Kd.S (Kd.slice 3 (Kd.int .i64)) 28 w' w.heap.size (fun _=>True) bd r1∧av w0 w' g j r2 r3∧Below w0.heap.size w0 w'∧aq w w' g none:=by
 have a8:=ae.mk hI
 have HK:=ae.mk (aq.refl w g none)
 have HL:=ae.mk hB.size
 clear hI
 have cy:=ae.mk hB.size
 have HB:=ae.mk hB
 clear hB
 unfold cu.f at h
 have H:=h
 clear h
 obtain ⟨ar,a2⟩:∃ y_:List (List Int),y_ = (([]:List (List Int))):=⟨_,rfl⟩
 replace H:((aM.f j a6 a7 4).bind fun a3=>(cu.l0 k ar a3.1 0 j a3.2.1 a3.2.2)) = some (r1,r2,r3):=by (try rw [a2]);exact af.Z
 have ap:=ae.mk a2
 clear a2
 obtain ⟨⟨Y,aw,aB⟩,A2,H⟩:=af.be H
 (try dsimp only at H)
 have H':=ae.mk H
 clear H
 go_enter Tryz.func118,Tryz.ntmps118
 go_wp2_with (first | ((with_reducible refine bJ (N:=6) rfl ?_);refine Kd.mM (Kd.slice 3 (Kd.int .i64)) _ 28 ?hg (N:=6) ?hd (xs:=([]:List (List Int))) (inner:=[]) (ok:=fun _=>True) (okp:=fun _=>True) ?hr ?hp (fun _ hk=>hk) trivial (Below.refl _ _) (Nat.le_refl _) (by simp) ?_;(case hd=>rfl);(case hg=>rfl);(case hr=>first | (go_simp;done) | (go_simp;rfl));(case hp=>exact (cE.none _ _));intro ce w3 aR hb cf ba;clear cf ba;(first | rw [← ap.out] at aR | (simp only [Int.reduceToNat] at aR;rw [← ap.out] at aR));have a4:=ae.mk (Kd.cT aR (bj (w:=w) (g:=g) (row:=none) (af.K HK)));replace HK:=ae.mk (aq.trans (af.K HK) (aq.cW hb g none) (.inl rfl));replace HB:=ae.mk (az (af.J HB) hb);replace a8:=ae.mk (av.below af.I hb);clear hb aR) | (refine af.gl (some 8) Tryz.func80 #[.pointer (some ⟨g,0,none⟩),.int .i64 4] ?_;(with_reducible refine (aM.calls g j a6 a7 4 Y aw aB w0 _ ?side1 ?side2 A2.out).mono ?_);(case side1=>exact af.I);(case side2=>exact af.J HB);rintro e w5 ⟨rfl,hi,hb,hk⟩;refine ⟨_,rfl,?_⟩;replace a4:=ae.mk (Kd.dh (Kd.kL (av.k6 (show av w0 _ g j a6 a7 from af.I) (af.Sw a4.out) (by decide)) hk (fun _ h=>h.2)) (fun _ h=>h.1));replace HK:=ae.mk (aq.trans (af.K HK) hk (.inl rfl));replace HB:=ae.mk hb;replace a8:=ae.mk hi;(try clear hb);(try clear bi);(try clear hk);(try clear hi)))
 go_loopg [3,5] k (fun kq v3 v5 w'=>∃ (a9:List (List Int)) (a0:Int) (y:Int) (z:Int),v5 = .int .i64 a0∧ae (cu.l0 kq a9 Y a0 j y z = some (r1,r2,r3))∧ae (kq≤k)∧ae (Kd.S (Kd.slice 3 (Kd.int .i64)) 28 w' w.heap.size (fun _=>True) v3 a9)∧ae (av w0 w' g j y z)∧ae (aq w w' g none)∧ae (Below w0.heap.size w0 w'))
 case atStart=>exact ⟨(ar),(0),(aw),(aB),af.F,H',⟨Nat.le_refl _⟩,⟨af.Sw a4.out⟩,⟨af.I⟩,⟨af.K HK⟩,⟨af.J HB⟩⟩
 case round =>
  clear H'
  obtain ⟨a9,a0,y,z,rfl,HA,bm,M,a8,HK,HB⟩:=hrel
  cases gk with
  | zero=>exact absurd HA.out (by simp [cu.l0])
  | succ k1 =>
   have H:=HA.out
   clear HA
   simp only [cu.l0] at H
   by_cases c6:a0 < Y
   ·rw [if_pos c6] at H
    have bo:=decide_eq_true c6
    clear c6
    obtain ⟨⟨aa,ab,al⟩,A7,H⟩:=af.be H
    (try dsimp only at H)
    obtain ⟨⟨a1,am,ao⟩,A8,H⟩:=af.be H
    (try dsimp only at H)
    obtain ⟨c9,H⟩:=af.ip H
    have bs:=ae.mk c9
    clear c9
    obtain ⟨b0,a5⟩:∃ y_:List (List Int),y_ = (a9 ++ [a1]):=⟨_,rfl⟩
    replace H:(cu.l0 k1 b0 Y (wrap64 (a0+1)) j am ao) = some (r1,r2,r3):=by (try rw [a5]);exact af.Z
    have b1:=ae.mk a5
    clear a5
    have H':=ae.mk H
    clear H
    go_wp2_with (first | (refine af.gl (some 17) Tryz.func80 #[.pointer (some ⟨g,0,none⟩),.int .i64 4] ?_;(with_reducible refine (aM.calls g j y z 4 aa ab al w0 _ ?side1 ?side2 A7.out).mono ?_);(case side1=>exact af.I);(case side2=>exact af.J HB);rintro e cX ⟨rfl,hi,hb,hk⟩;refine ⟨_,rfl,?_⟩;replace M:=ae.mk (Kd.dh (Kd.kL (av.k6 (show av w0 _ g j y z from af.I) (af.Sw M.out) (by decide)) hk (fun _ h=>h.2)) (fun _ h=>h.1));replace HK:=ae.mk (aq.trans (af.K HK) hk (.inl rfl));replace HB:=ae.mk hb;replace a8:=ae.mk hi;(try clear hb);(try clear bi);(try clear hk);(try clear hi)) | (refine af.gl (some 18) Tryz.func103 #[.pointer (some ⟨g,0,none⟩),.int .i64 aa] ?_;(with_reducible refine (cH.calls k1 g j ab al aa a1 am ao w0 _ ?side1 ?side2 A8.out).mono ?_);(case side1=>exact af.I);(case side2=>exact af.J HB);rintro e cY ⟨ci,rfl,bc,hi,hb,hk⟩;refine ⟨_,rfl,?_⟩;replace M:=ae.mk (Kd.dh (Kd.lG (Kd.s9 (av.k6 (show av w0 _ g j ab al from af.I) (af.Sw M.out) (by decide)) hk) (Kd.bF bc)) (fun _ h_=>h_.1));have X:=ae.mk (Kd.b9 bc (bj (w:=w) (g:=g) (row:=none) (af.K HK)));replace HK:=ae.mk (aq.trans (af.K HK) hk (.inl rfl));replace HB:=ae.mk hb;replace a8:=ae.mk hi;(try clear hb);(try clear bi);(try clear hk);(try clear hi);(try clear bc);obtain ⟨b3,b4,bv⟩:=Kd.aY X.out;subst bv) | ((with_reducible refine cB (b:=.append) (xs:=#[.tmp 14,.tmp 19]) rfl ?_);at_builtin;refine Kd.j4 (Kd.slice 3 (Kd.int .i64)) w.heap.size rfl (.tmp 14) (.tmp 19) 57 28 (.slice none 0 0) 24 rfl Tryz.underlying57 jZ rfl (by decide) (by omega) u3 a9 a1 [.slice b3 a1.length b4] (fun _=>True) (fun k_=>some k_ = (.slice b3 a1.length b4:Value).ownBlock) rfl rfl ?aP (fun k_ cp=>((Kd.aX (ok':=fun k_=>((fun _=>True)) k_∧some k_≠(u3:Value).ownBlock) (Kd.fh (X.out) (Kd.gb M.out) (by decide)) (fun k_ hk=>⟨trivial,hk.2⟩))).1 k_ cp.symm) ?aF ?aO (Below.refl _ _) ?aS ?aL ?_;(case aP=>exact Kd.kC (Kd.aX (Kd.iF rfl (Kd.aX (ok':=fun k_=>((fun _=>True)) k_∧some k_≠(u3:Value).ownBlock) (Kd.fh (X.out) (Kd.gb M.out) (by decide)) (fun k_ hk=>⟨trivial,hk.2⟩))) (fun _ h_=>h_)));(case aF=>exact (fun _ _=>trivial));(case aO=>exact (af.Sw (Kd.dh M.out (fun k_ hk=>⟨trivial,fun e_=>hk.2 e_⟩))));(case aS=>exact (bj (w:=w) (g:=g) (row:=none) (af.K HK)));(case aL=>have:=bs.out;omega);intro cx d0 ho hb hg hat;rw [← b1.out] at ho;have ca:=ae.mk (av.grown af.I hg (av.ua a8.out M.out (by decide)));have cb:=ae.mk (gu (af.J HB) HL.out hb);have cc:=ae.mk (aq.trans (af.K HK) (aq.ia hg g) (Kd.tP M.out));have cd:=ae.mk ho;clear a8;clear HB;clear HK;clear M;clear X;have a8:=ca;have HB:=cb;have HK:=cc;have b2:=cd;clear ca cb cc cd;clear ho hb hg hat))
    go_roundg k1
    case measure=>have:=bm.out;omega
    case rel=>exact ⟨(b0),(wrap64 (a0+1)),(am),(ao),af.F,H',⟨by have:=bm.out;omega⟩,⟨af.Sw b2.out⟩,⟨af.I⟩,⟨af.K HK⟩,⟨af.J HB⟩⟩
   ·rw [if_neg c6] at H
    have bo:decide (a0 < Y) = false:=decide_eq_false c6
    clear c6
    simp only [Option.some.injEq,Prod.mk.injEq] at H
    obtain ⟨rfl,rfl,rfl⟩:=H
    go_wp2
    go_ret
    exact ⟨_,af.E,by (with_reducible repeat (first | apply Kd.fE | apply Kd.fF | apply Kd.ez));exact M.out,af.I,af.J HB,af.K HK⟩
def dB.f (k:Nat) (l0:List Int):Option ((List (List Int))×Int×Int):=(dr.f k l0).bind fun j=>((cu.f k j.1 j.2.1 j.2.2).bind fun y=>((aM.f j.1 y.2.1 y.2.2 9).bind fun z=>((aM.f j.1 z.2.1 z.2.2 9).bind fun M=>(some (y.1,wrap64 (z.1 - 4),wrap64 (M.1 - 4))))))
set_option maxHeartbeats 8000000 in
set_option maxRecDepth 100000 in
theorem dB.calls (k:Nat) (A0:Option Addr) (c0:Nat) (l0:List Int) (r1:List (List Int)) (r2:Int) (r3:Int) (w:World) (aa:Kd.C (Kd.int .u8) w A0 l0.length l0) (ab:l0.length≤c0) (h:dB.f k l0 = some (r1,r2,r3)) :
  Calls Tryz.prog 52 #[.slice A0 l0.length c0] w fun e w'=>∃ al:Value,e = .returned (.tuple #[al,.int .i64 r2,.int .i64 r3])∧Kd.S (Kd.slice 3 (Kd.int .i64)) 28 w' w.heap.size (fun _=>True) al r1∧Below w.heap.size w w':=by
 have ao:=ae.mk aa
 have ap:=ae.mk ab
 clear aa ab
 have HB:=ae.mk (Below.refl w.heap.size w)
 unfold dB.f at h
 have H:=h
 clear h
 obtain ⟨⟨z,a2,a3⟩,A2,H⟩:=af.be H
 (try dsimp only at H)
 obtain ⟨⟨a5,X,Y⟩,A3,H⟩:=af.be H
 (try dsimp only at H)
 obtain ⟨⟨a6,a0,a1⟩,A4,H⟩:=af.be H
 (try dsimp only at H)
 obtain ⟨⟨a7,a8,a9⟩,A5,H⟩:=af.be H
 (try dsimp only at H)
 simp only [Option.some.injEq,Prod.mk.injEq] at H
 obtain ⟨rfl,rfl,rfl⟩:=H
 go_enter Tryz.func52,Tryz.ntmps52
 go_wp2_with (first | (refine af.gl (some 9) Tryz.func74 #[.slice A0 l0.length c0] ?_;(with_reducible refine (dr.calls k _ _ l0 z a2 a3 w _ ?side1 ?side2 ?side3 A2.out).mono ?_);(case side1=>exact af.J HB);(case side2=>exact ao.out);(case side3=>exact ap.out);rintro e w6 ⟨j,rfl,hi,hb,a4⟩;refine ⟨_,rfl,?_⟩;replace HB:=ae.mk hb;have M:=ae.mk hi;(try clear hb);(try clear a4);(try clear hk);(try clear hi)) | (refine af.gl (some 11) Tryz.func118 #[.pointer (some ⟨j,0,none⟩)] ?_;(with_reducible refine (cu.calls k j z a2 a3 a5 X Y w _ ?side1 ?side2 A3.out).mono ?_);(case side1=>exact af.I);(case side2=>exact af.J HB);rintro e w7 ⟨ar,rfl,am,hi,hb,hk⟩;refine ⟨_,rfl,?_⟩;have y:=ae.mk (Kd.cT am (aj (af.J HB)));replace HB:=ae.mk hb;replace M:=ae.mk hi;(try clear hb);(try clear a4);(try clear hk);(try clear hi);(try clear am)) | (refine af.gl (some 13) Tryz.func80 #[.pointer (some ⟨j,0,none⟩),.int .i64 9] ?_;(with_reducible refine (aM.calls j z X Y 9 a6 a0 a1 w _ ?side1 ?side2 A4.out).mono ?_);(case side1=>exact af.I);(case side2=>exact af.J HB);rintro e w8 ⟨rfl,hi,hb,hk⟩;refine ⟨_,rfl,?_⟩;replace y:=ae.mk (Kd.dh (Kd.kL (av.k6 (show av w _ j z X Y from af.I) (af.Sw y.out) (by decide)) hk (fun _ h=>h.2)) (fun _ h=>h.1));replace HB:=ae.mk hb;replace M:=ae.mk hi;(try clear hb);(try clear a4);(try clear hk);(try clear hi)) | (refine af.gl (some 18) Tryz.func80 #[.pointer (some ⟨j,0,none⟩),.int .i64 9] ?_;(with_reducible refine (aM.calls j z a0 a1 9 a7 a8 a9 w _ ?side1 ?side2 A5.out).mono ?_);(case side1=>exact af.I);(case side2=>exact af.J HB);rintro e w9 ⟨rfl,hi,hb,hk⟩;refine ⟨_,rfl,?_⟩;replace y:=ae.mk (Kd.dh (Kd.kL (av.k6 (show av w _ j z a0 a1 from af.I) (af.Sw y.out) (by decide)) hk (fun _ h=>h.2)) (fun _ h=>h.1));replace HB:=ae.mk hb;replace M:=ae.mk hi;(try clear hb);(try clear a4);(try clear hk);(try clear hi)))
 go_ret3
 exact ⟨_,af.E,by (with_reducible repeat (first | apply Kd.fE | apply Kd.fF | apply Kd.ez));exact y.out,af.J HB⟩
def e9.f (k:Nat) (l0:List Int):Option ((List (List Int))×(List (List Int))):=(dr.f k l0).bind fun j=>((cu.f k j.1 j.2.1 j.2.2).bind fun y=>((cu.f k j.1 y.2.1 y.2.2).bind fun z=>(some (y.1,z.1))))
set_option maxHeartbeats 8000000 in
set_option maxRecDepth 100000 in
theorem e9.calls (k:Nat) (A0:Option Addr) (c0:Nat) (l0:List Int) (r1:List (List Int)) (r2:List (List Int)) (w:World) (ab:Kd.C (Kd.int .u8) w A0 l0.length l0) (al:l0.length≤c0) (h:e9.f k l0 = some (r1,r2)) :
  Calls Tryz.prog 53 #[.slice A0 l0.length c0] w fun e w'=>∃ a4 a5:Value,e = .returned (.tuple #[a4,a5])∧Kd.S (Kd.slice 3 (Kd.int .i64)) 28 w' w.heap.size (fun k_=>some k_≠(a5:Value).ownBlock) a4 r1∧Kd.S (Kd.slice 3 (Kd.int .i64)) 28 w' w.heap.size (fun k_=>some k_≠(a4:Value).ownBlock) a5 r2∧Below w.heap.size w w':=by
 have am:=ae.mk ab
 have ao:=ae.mk al
 clear ab al
 have HB:=ae.mk (Below.refl w.heap.size w)
 unfold e9.f at h
 have H:=h
 clear h
 obtain ⟨⟨z,a1,a2⟩,A2,H⟩:=af.be H
 (try dsimp only at H)
 obtain ⟨⟨a6,M,X⟩,A3,H⟩:=af.be H
 (try dsimp only at H)
 obtain ⟨⟨a7,a8,a9⟩,A4,H⟩:=af.be H
 (try dsimp only at H)
 simp only [Option.some.injEq,Prod.mk.injEq] at H
 obtain ⟨rfl,rfl⟩:=H
 go_enter Tryz.func53,Tryz.ntmps53
 go_wp2_with (first | (refine af.gl (some 7) Tryz.func74 #[.slice A0 l0.length c0] ?_;(with_reducible refine (dr.calls k _ _ l0 z a1 a2 w _ ?side1 ?side2 ?side3 A2.out).mono ?_);(case side1=>exact af.J HB);(case side2=>exact am.out);(case side3=>exact ao.out);rintro e w5 ⟨y,rfl,hi,hb,aa⟩;refine ⟨_,rfl,?_⟩;replace HB:=ae.mk hb;have Y:=ae.mk hi;(try clear hb);(try clear aa);(try clear hk);(try clear hi)) | (refine af.gl (some 9) Tryz.func118 #[.pointer (some ⟨y,0,none⟩)] ?_;(with_reducible refine (cu.calls k y z a1 a2 a6 M X w _ ?side1 ?side2 A3.out).mono ?_);(case side1=>exact af.I);(case side2=>exact af.J HB);rintro e w6 ⟨ap,rfl,a0,hi,hb,hk⟩;refine ⟨_,rfl,?_⟩;have j:=ae.mk (Kd.cT a0 (aj (af.J HB)));replace HB:=ae.mk hb;replace Y:=ae.mk hi;(try clear hb);(try clear aa);(try clear hk);(try clear hi);(try clear a0)) | (refine af.gl (some 12) Tryz.func118 #[.pointer (some ⟨y,0,none⟩)] ?_;(with_reducible refine (cu.calls k y z M X a7 a8 a9 w _ ?side1 ?side2 A4.out).mono ?_);(case side1=>exact af.I);(case side2=>exact af.J HB);rintro e w7 ⟨ar,rfl,a0,hi,hb,hk⟩;refine ⟨_,rfl,?_⟩;have a3:=ae.mk (Kd.cT (Kd.aG a0 (Kd.cF (af.Sw j.out))) (aj (af.J HB)));replace j:=ae.mk (Kd.dh (Kd.lG (Kd.s9 (av.k6 (show av w _ y z M X from af.I) (af.Sw j.out) (by decide)) hk) (Kd.bh a0)) (fun _ h_=>h_.1));replace HB:=ae.mk hb;replace Y:=ae.mk hi;(try clear hb);(try clear aa);(try clear hk);(try clear hi);(try clear a0)))
 go_ret2
 exact ⟨_,_,af.E,by (with_reducible repeat (first | apply Kd.fE | apply Kd.fF | apply Kd.ez));exact Kd.dh j.out (fun _ hk=>hk.2),by (with_reducible repeat (first | apply Kd.fE | apply Kd.fF | apply Kd.ez));exact Kd.dh a3.out (fun _ hk=>hk.2),af.J HB⟩
def dR.f (k:Nat) (l0:List Int):Option ((List (List Int))×Int×Int):=(dr.f k l0).bind fun j=>((cu.f k j.1 j.2.1 j.2.2).bind fun y=>((aM.f j.1 y.2.1 y.2.2 4).bind fun z=>((cK.f j.1 z.2.1 z.2.2 (([0,1,2,9]:List Int))).bind fun M=>(some (y.1,wrap64 (z.1 - 1),M.1)))))
set_option maxHeartbeats 8000000 in
set_option maxRecDepth 100000 in
theorem dR.calls (k:Nat) (A0:Option Addr) (c0:Nat) (l0:List Int) (r1:List (List Int)) (r2:Int) (r3:Int) (w:World) (aB:Kd.C (Kd.int .u8) w A0 l0.length l0) (aF:l0.length≤c0) (h:dR.f k l0 = some (r1,r2,r3)) :
  Calls Tryz.prog 54 #[.slice A0 l0.length c0] w fun e w'=>∃ aL:Value,e = .returned (.tuple #[aL,.int .i64 r2,.int .i64 r3])∧Kd.S (Kd.slice 3 (Kd.int .i64)) 28 w' w.heap.size (fun _=>True) aL r1∧Below w.heap.size w w':=by
 have b0:=ae.mk aB
 have b1:=ae.mk aF
 clear aB aF
 have HB:=ae.mk (Below.refl w.heap.size w)
 unfold dR.f at h
 have H:=h
 clear h
 obtain ⟨⟨z,a8,a9⟩,A2,H⟩:=af.be H
 (try dsimp only at H)
 obtain ⟨⟨aa,a4,a5⟩,A3,H⟩:=af.be H
 (try dsimp only at H)
 obtain ⟨⟨ab,a0,a1⟩,A4,H⟩:=af.be H
 (try dsimp only at H)
 obtain ⟨a6,a3⟩:∃ y_:List Int,y_ = (([0,1,2,9]:List Int)):=⟨_,rfl⟩
 replace H:((cK.f z a0 a1 a6).bind fun al=>(some (aa,wrap64 (ab - 1),al.1))) = some (r1,r2,r3):=by (try rw [a3]);exact af.Z
 have a7:=ae.mk a3
 clear a3
 obtain ⟨⟨ao,ap,ar⟩,A5,H⟩:=af.be H
 (try dsimp only at H)
 simp only [Option.some.injEq,Prod.mk.injEq] at H
 obtain ⟨rfl,rfl,rfl⟩:=H
 go_enter Tryz.func54,Tryz.ntmps54
 go_wp2_with (first | (refine af.gl (some 9) Tryz.func74 #[.slice A0 l0.length c0] ?_;(with_reducible refine (dr.calls k _ _ l0 z a8 a9 w _ ?side1 ?side2 ?side3 A2.out).mono ?_);(case side1=>exact af.J HB);(case side2=>exact b0.out);(case side3=>exact b1.out);rintro e w6 ⟨j,rfl,hi,hb,am⟩;refine ⟨_,rfl,?_⟩;replace HB:=ae.mk hb;have Y:=ae.mk hi;(try clear hb);(try clear am);(try clear hk);(try clear hi)) | (refine af.gl (some 11) Tryz.func118 #[.pointer (some ⟨j,0,none⟩)] ?_;(with_reducible refine (cu.calls k j z a8 a9 aa a4 a5 w _ ?side1 ?side2 A3.out).mono ?_);(case side1=>exact af.I);(case side2=>exact af.J HB);rintro e w7 ⟨b2,rfl,aO,hi,hb,hk⟩;refine ⟨_,rfl,?_⟩;have y:=ae.mk (Kd.cT aO (aj (af.J HB)));replace HB:=ae.mk hb;replace Y:=ae.mk hi;(try clear hb);(try clear am);(try clear hk);(try clear hi);(try clear aO)) | (refine af.gl (some 13) Tryz.func80 #[.pointer (some ⟨j,0,none⟩),.int .i64 4] ?_;(with_reducible refine (aM.calls j z a4 a5 4 ab a0 a1 w _ ?side1 ?side2 A4.out).mono ?_);(case side1=>exact af.I);(case side2=>exact af.J HB);rintro e w8 ⟨rfl,hi,hb,hk⟩;refine ⟨_,rfl,?_⟩;replace y:=ae.mk (Kd.dh (Kd.kL (av.k6 (show av w _ j z a4 a5 from af.I) (af.Sw y.out) (by decide)) hk (fun _ h=>h.2)) (fun _ h=>h.1));replace HB:=ae.mk hb;replace Y:=ae.mk hi;(try clear hb);(try clear am);(try clear hk);(try clear hi)) | ((with_reducible refine bJ (N:=18) rfl ?_);refine Kd.iY (Kd.int .i64) _ 3 ?hg (N:=18) ?hd (xs:=([0,1,2,9]:List Int)) (inner:=[.int .i64 0,.int .i64 1,.int .i64 2,.int .i64 9]) (ok:=fun _=>True) (okp:=fun _=>True) ?hr ?hp (fun _ hk=>hk) trivial (Below.refl _ _) (Nat.le_refl _) (by simp) ?_;(case hd=>rfl);(case hg=>rfl);(case hr=>first | (go_simp;done) | (go_simp;rfl));(case hp=>exact (cE.one (show Kd.M (Kd.int .i64) _ _ _ 0 [.int .i64 0] from rfl) (cE.one (show Kd.M (Kd.int .i64) _ _ _ 1 [.int .i64 1] from rfl) (cE.one (show Kd.M (Kd.int .i64) _ _ _ 2 [.int .i64 2] from rfl) (cE.one (show Kd.M (Kd.int .i64) _ _ _ 9 [.int .i64 9] from rfl) (cE.none _ _))))));intro b3 w9 a2 hb b4 aw;clear b4 aw;(first | rw [← a7.out] at a2 | (simp only [Int.reduceToNat] at a2;rw [← a7.out] at a2));replace y:=ae.mk (Kd.aA (af.Sw y.out) (Kd.bF a2) hb);have X:=ae.mk (Kd.b9 a2 (aj (af.J HB)));replace HB:=ae.mk (az (af.J HB) hb);replace Y:=ae.mk (av.below af.I hb);clear hb a2;obtain ⟨aP,aR,aS⟩:=Kd.aY X.out;subst aS) | (refine af.gl (some 19) Tryz.func119 #[.pointer (some ⟨j,0,none⟩),.slice aP a6.length aR] ?_;(with_reducible refine (cK.calls j z a0 a1 _ _ a6 ao ap ar w _ ?side1 ?side2 ?side3 ?side4 ?side5 A5.out).mono ?_);(case side1=>exact af.I);(case side2=>exact af.J HB);(case side3=>exact af.Cw ((Kd.au X.out).2.2));(case side4=>exact (Kd.au X.out).2.1);(case side5=>exact js (av.hJ Y.out X.out (by decide)));rintro e ba ⟨rfl,hi,hb,hk⟩;refine ⟨_,rfl,?_⟩;replace y:=ae.mk (Kd.dh (Kd.kL (av.k6 (show av w _ j z a0 a1 from af.I) (af.Sw y.out) (by decide)) hk (fun _ h=>h.2)) (fun _ h=>h.1));replace X:=ae.mk (Kd.aX (Kd.fR (av.apart (show av w _ j z a0 a1 from af.I) (af.Rw X.out) (by decide)) hk (fun _ h=>h.2)) (fun _ h=>h.1));replace HB:=ae.mk hb;replace Y:=ae.mk hi;(try clear hb);(try clear am);(try clear hk);(try clear hi)))
 go_ret3
 exact ⟨_,af.E,by (with_reducible repeat (first | apply Kd.fE | apply Kd.fF | apply Kd.ez));exact Kd.dh y.out (fun _ hk=>trivial),af.J HB⟩
mutual
def aT.l0:Nat→Int→Int→Int→Int→List (List Int)→Int→Int→Option (Int)
 | 0,_,_,_,_,_,_,_=>none
 | k+1,Y,x2,x7,x8,y,z,j=>if j < z then (if 0≤j then (if j < (y.length:Int) then (aT.l1 k Y x2 x7 x8 x8 y z j (cw y j) ((cw y j).length:Int) 0) else (none)) else (none)) else (some x7)
def aT.l1:Nat→Int→Int→Int→Int→Int→List (List Int)→Int→Int→List Int→Int→Int→Option (Int)
 | 0,_,_,_,_,_,_,_,_,_,_,_=>none
 | k+1,Y,x2,x7,x8,a0,y,z,j,X,a1,M=>if M < a1 then (if 0≤M then (if M < (X.length:Int) then (aT.l1 k Y x2 (wrap64 (x7+(wrap64 ((rd X M) * a0)))) x8 (wrap64 (a0 * x2)) y z j X a1 (wrap64 (M+1))) else (none)) else (none)) else (aT.l0 k Y x2 x7 (wrap64 (x8 * Y)) y z (wrap64 (j+1)))
end
def aT.f (k:Nat) (l0:List (List Int)) (j:Int) (a2:Int):Option (Int):=aT.l0 k j a2 0 1 l0 (l0.length:Int) 0
set_option maxHeartbeats 8000000 in
set_option maxRecDepth 100000 in
theorem aT.calls (k:Nat) (A0:Option Addr) (c0:Nat) (l0:List (List Int)) (a1:Int) (a2:Int) (r:Int) (w:World) (ao:Kd.C (Kd.slice 3 (Kd.int .i64)) w A0 l0.length l0) (ap:l0.length≤c0) (h:aT.f k l0 a1 a2 = some r) :
  Calls Tryz.prog 57 #[.slice A0 l0.length c0,.int .i64 a1,.int .i64 a2] w fun e w'=>e = .returned (.int .i64 r)∧cQ w w':=by
 have aP:=ae.mk ao
 have bc:=ae.mk ap
 clear ao ap
 unfold aT.f at h
 have H:=h
 clear h
 have H':=ae.mk H
 clear H
 go_enter Tryz.func57,Tryz.ntmps57
 go_wp2
 go_loopg [7,8,16] k (fun kq v7 v8 aR w'=>∃ (a5:Int) (M:Int) (j:Int),v7 = .int .i64 a5∧v8 = .int .i64 M∧aR = .int .i64 j∧ae (aT.l0 kq a1 a2 a5 M l0 (l0.length:Int) j = some r)∧ae (kq≤k)∧cQ w w')
 case atStart=>exact ⟨(0),(1),(0),af.F,af.F,af.F,H',⟨Nat.le_refl _⟩,af.G⟩
 case round =>
  clear H'
  obtain ⟨a5,M,j,rfl,rfl,rfl,HA,a8,⟨m1,rfl⟩⟩:=hrel
  cases gk with
  | zero=>exact absurd HA.out (by simp [aT.l0])
  | succ k1 =>
   have H:=HA.out
   clear HA
   simp only [aT.l0] at H
   by_cases c4:j < (l0.length:Int)
   ·rw [if_pos c4] at H
    have ar:=decide_eq_true c4
    clear c4
    obtain ⟨c5,H⟩:=af.ip H
    have b2:=decide_eq_true c5
    clear c5
    obtain ⟨c6,H⟩:=af.ip H
    have b3:=decide_eq_true c6
    clear c6
    have H':=ae.mk H
    clear H
    have a4:0≤(j:Int):=af.D
    have a0:j < (l0.length:Int):=af.D
    obtain ⟨aL,aw,aB,aa,a6,X,Y⟩:=gM aP.out j a4 a0
    cases aa
    have a7:=ae.mk Y
    have al:=ae.mk X
    clear Y X
    replace a4:=eq_true a4
    replace a0:=eq_true a0
    go_wp2
    go_loopg [7,11,23] k1 (fun kq v7 v11 aS w'=>∃ (a3:Int) (z:Int) (y:Int),v7 = .int .i64 a3∧v11 = .int .i64 z∧aS = .int .i64 y∧ae (aT.l1 kq a1 a2 a3 M z l0 (l0.length:Int) j (cw l0 j) ((cw l0 j).length:Int) y = some r)∧ae (kq≤k1)∧cQ w w')
    case atStart=>exact ⟨(a5),(M),(0),af.F,af.F,af.F,H',⟨Nat.le_refl _⟩,af.G⟩
    case round =>
     clear H'
     try clear q1
     try clear bd
     try clear a6
     try clear a0
     obtain ⟨a3,z,y,rfl,rfl,rfl,HA,a9,⟨m2,rfl⟩⟩:=hrel
     cases gk with
     | zero=>exact absurd HA.out (by simp [aT.l1])
     | succ k2 =>
      have H:=HA.out
      clear HA
      simp only [aT.l1] at H
      by_cases c7:y < ((cw l0 j).length:Int)
      ·rw [if_pos c7] at H
       have aF:=decide_eq_true c7
       clear c7
       obtain ⟨c8,H⟩:=af.ip H
       have b4:=decide_eq_true c8
       clear c8
       obtain ⟨c9,H⟩:=af.ip H
       have ba:=decide_eq_true c9
       clear c9
       have H':=ae.mk H
       clear H
       obtain ⟨aO,ab,am,b0,b1⟩:=af.ai a7.out y
       cases ab
       go_wp2
       go_roundg k2
       case measure=>have:=a8.out;have:=a9.out;omega
       case rel=>exact ⟨(wrap64 (a3+(wrap64 ((rd (cw l0 j) y) * z)))),(wrap64 (z * a2)),(wrap64 (y+1)),af.F,af.F,af.F,H',⟨by have:=a8.out;have:=a9.out;omega⟩,af.G⟩
      ·rw [if_neg c7] at H
       have aF:decide (y < ((cw l0 j).length:Int)) = false:=decide_eq_false c7
       clear c7
       have H':=ae.mk H
       clear H
       go_wp2
       go_roundg k2
       case measure=>have:=a8.out;have:=a9.out;omega
       case rel=>exact ⟨(a3),(wrap64 (M * a1)),(wrap64 (j+1)),af.F,af.F,af.F,H',⟨by have:=a8.out;have:=a9.out;omega⟩,af.G⟩
   ·rw [if_neg c4] at H
    have ar:decide (j < (l0.length:Int)) = false:=decide_eq_false c4
    clear c4
    obtain rfl:=Option.some.inj H
    go_wp2
    go_ret
    exact ⟨af.F,af.G⟩
end Go.Proofs.YtmpodackojmojaaGreat.Pr
end
