/- Lemmas and walks; no statement of a law is proved here. -/
import Derived.Test.YtaglmdebikglgaaGreatDoorX19
import Derived.Test.YtaglmdebikglgaaGreatDoorX24
import Derived.Test.YtaglmdebikglgaaGreatDoorRows
import Derived.ProofKit
import Derived.OpenShut
import Derived.ChangeOld
import Derived.ChangeSlices
import Derived.Below
import Derived.Deep.Slices
import Derived.Deep.Fields
import Derived.ChangeSame
set_option linter.unusedVariables false
set_option linter.unusedSimpArgs false
set_option maxRecDepth 100000
set_option maxHeartbeats 8000000
open Go.Lib
namespace Go.Proofs
open Go.RowKit Go.Proofs.Mp Go.Lib
structure TeS(w W:World)(cs cc ce:List Value):Prop where
 b:Below w.heap.size w W
 p:Bx W w.heap.size 26 cs
 c:Bx W (w.heap.size+1) 34 cc
 e:Bx W (w.heap.size+2) 32 ce
section
variable {w W W':World}{cs cc ce:List Value}
theorem TeS.below(h:TeS w W cs cc ce)(hb:Below W.heap.size W W'):TeS w W' cs cc ce:=by
 obtain⟨h1,h2,h3,h4⟩:=h;exact⟨h1.trans (hb.mono h1.size),h2.below hb,h3.below hb,h4.below hb⟩
theorem TeS.st(h:TeS w W cs cc ce){n:Nat}{c0 c1 c2:Value}(hx:Bx W n 26 [c0,c1,c2])(hn:w.heap.size+3≤n)(v0 v1 v2:Value):TeS w (st3 W n v0 v1 v2) cs cc ce:=by
 obtain⟨h1,h2,h3,h4⟩:=h;have oth:∀b t (cs:List Value),b≠n→Bx W b t cs→Bx (st3 W n v0 v1 v2) b t cs:=fun b t cs h hx=>((hx.other h _ _).other h _ _).other h _ _
 exact⟨hx.set3B h1 (by omega) v0 v1 v2,oth _ _ _ (by omega) h2,oth _ _ _ (by omega) h3,oth _ _ _ (by omega) h4⟩
end
theorem mQ(W:World){b g:Nat}(h:g≠b)(v0 v1 v2:Value):(st3 W b v0 v1 v2).heap[g]?=W.heap[g]?:=by
 unfold st3;rw[heap_setCell_other _ _ _ _ h,heap_setCell_other _ _ _ _ h,heap_setCell_other _ _ _ _ h]
theorem od(p:Pn)(m:Mem)(k lo la sc tol x y wd ht cols rows:Int)(w:World)(hW:PlW w p m)(hLR:LRw p)(hM:bT w) :
  Calls Tryz.prog 3 #[plV p m,.agg #[k,lo,la,sc,tol,x,y,wd,ht,cols,rows]] w (RetV w (.bool true)):=by
 have cM:=hid fun W h=>kp W h
 have cSm:=hid fun W (hb:Below w.heap.size w W)=>nZ p m W (hW.below hb)
 have cPl:=hid fun (hf:Few p) W (hb:Below w.heap.size w W)=>qF p m k lo la sc W ((hW.pl hf).below hb) hLR
 have cSi:=hid fun q mq W h1 h2=>jK q mq tol W h1 h2
 have cG:Hid (∀W,Calls Tryz.prog 8 #[.agg #[x,y,wd,ht,cols,rows]] W (aV W (SeOK ⟨x,y,wd,ht,cols,rows⟩))):=hid fun W=>dP ⟨x,y,wd,ht,cols,rows⟩ W
 have cAl:Hid (∀q mq W,PlR W q mq→CheckP q→SeOK ⟨x,y,wd,ht,cols,rows⟩→Calls Tryz.prog 9 #[plV q mq,.agg #[x,y,wd,ht,cols,rows]] W (qB W (allTo q ⟨x,y,wd,ht,cols,rows⟩ (cols*rows).toNat))):=hid fun q mq W h1 h2 h3=>kQ q mq ⟨x,y,wd,ht,cols,rows⟩ W h1 h2 h3
 have cMa:Hid (∀q v ok W,oN W v (allTo q ⟨x,y,wd,ht,cols,rows⟩ (cols*rows).toNat) ok→bT W→CheckP q→SeOK ⟨x,y,wd,ht,cols,rows⟩→Calls Tryz.prog 10 #[v,.agg #[x,y,wd,ht,cols,rows]] W (RetV W (.tuple #[.slice none 0 0,.int .i64 0]))):=hid fun q v ok W hv hM hC hS=>kF ⟨x,y,wd,ht,cols,rows⟩ v _ ok W hv hM (mI hC hS)
 have cBo:Hid (∀n W,ShOK ⟨x,y,wd,ht,cols,rows⟩ n→Calls Tryz.prog 11 #[.agg #[x,y,wd,ht,cols,rows],.int .i64 n] W (RetV W (.tuple #[bj (shBox ⟨x,y,wd,ht,cols,rows⟩ n),.int .i64 0]))):=hid fun n W h=>(ep ⟨x,y,wd,ht,cols,rows⟩ n W).mono (by
  rintro e w' ⟨h1|h1,hb⟩
  ·exact⟨h1.2,hb⟩
  ·exact absurd h h1.1)
 have cAg:Hid (∀q mq n (z:PtV) ok W,PlR W q mq→CheckP q→ShOK ⟨x,y,wd,ht,cols,rows⟩ n→bT W→RPt W z (partS q n (shBox ⟨x,y,wd,ht,cols,rows⟩ n).to) ok→Calls Tryz.prog 12 #[plV q mq,.agg #[z.1,z.2.1,z.2.2],bj (shBox ⟨x,y,wd,ht,cols,rows⟩ n),.agg #[x,y,wd,ht,cols,rows],.int .i64 n] W (RetV W (.bool true))):=hid fun q mq n z ok W h1 h2 h3 h4 h5=>lH q mq ⟨x,y,wd,ht,cols,rows⟩ n z ok W h1 h2 h3 h4 h5
 have HM:=hid hM;have hplV:plV p m=.agg #[.slice m.an p.nodes.length m.cn,.slice m.aa p.arcs.length m.ca,.slice m.af p.faces.length m.cf]:=rfl;rw[hplV]at cSm cPl ⊢;unfold prV at cPl;clear hW hplV hLR hM;generalize hl1:p.nodes.length=l1 at *;generalize hl2:p.arcs.length=l2 at *;generalize hl3:p.faces.length=l3 at *;clear hl1 hl2 hl3;obtain⟨an,aa,af,cn,ca,cf,mvs⟩:=m;dsimp only at *;have hx1:=((Bx.new (t:=26) (cs:=[.slice an l1 cn,.slice aa l2 ca,.slice af l3 cf]) w rfl).alloc (.cells #[k,lo,la,sc,tol,x,y,wd,ht,cols,rows] 34)).alloc (.cells #[x,y,wd,ht,cols,rows] 32);have hx2:=(Bx.newAt (b:=w.heap.size+1) (t:=34) (cs:=[.int .i64 k,.int .i64 lo,.int .i64 la,.int .i64 sc,.int .i64 tol,.int .i64 x,.int .i64 y,.int .i64 wd,.int .i64 ht,.int .i64 cols,.int .i64 rows]) (w.alloc (.cells #[.slice an l1 cn,.slice aa l2 ca,.slice af l3 cf] 26)) (by simp) rfl).alloc (.cells #[x,y,wd,ht,cols,rows] 32);have hx3:=Bx.newAt (b:=w.heap.size+2) (t:=32) (cs:=[.int .i64 x,.int .i64 y,.int .i64 wd,.int .i64 ht,.int .i64 cols,.int .i64 rows]) ((w.alloc (.cells #[.slice an l1 cn,.slice aa l2 ca,.slice af l3 cf] 26)).alloc (.cells #[k,lo,la,sc,tol,x,y,wd,ht,cols,rows] 34)) (by simp) rfl;have hxb:=(bwx w (.cells #[.slice an l1 cn,.slice aa l2 ca,.slice af l3 cf] 26) (.cells #[k,lo,la,sc,tol,x,y,wd,ht,cols,rows] 34)).alloc (by simp;omega) (.cells #[x,y,wd,ht,cols,rows] 32);have HS0:=hid (TeS.mk hxb hx1 hx2 hx3);have hy2:=Bx.newAt (b:=w.heap.size+1) (t:=34) (cs:=[.int .i64 k,.int .i64 lo,.int .i64 la,.int .i64 sc,.int .i64 tol,.int .i64 x,.int .i64 y,.int .i64 wd,.int .i64 ht,.int .i64 cols,.int .i64 rows]) (w.alloc (.cells #[.slice an l1 cn,.slice aa l2 ca,.slice af l3 cf] 26)) (by simp) rfl;have c0:=(hy2).cell 0;have c1:=(hy2).cell 1;have c2:=(hy2).cell 2;have c3:=(hy2).cell 3;have c4:=(hy2).cell 4;have c5:=(hy2).cell 5;have c6:=(hy2).cell 6;have c7:=(hy2).cell 7;have c8:=(hy2).cell 8;have c9:=(hy2).cell 9;have c10:=(hy2).cell 10;simp only[gz,gs]at c0 c1 c2 c3 c4 c5 c6 c7 c8 c9 c10;clear hx1 hx2 hx3 hxb hy2;have HSs:=hid (show w.heap.size+1+1=w.heap.size+2 from rfl);go_enter Tryz.func3,Tryz.ntmps3;go_upto_region 2 with fail;rw[HSs.out];clear c0 c1 c2 c3 c4 c5 c6 c7 c8 c9 c10;generalize ((w.alloc (.cells #[.slice an l1 cn,.slice aa l2 ca,.slice af l3 cf] 26)).alloc (.cells #[k,lo,la,sc,tol,x,y,wd,ht,cols,rows] 34)).alloc (.cells #[x,y,wd,ht,cols,rows] 32)=w0 at *;obtain⟨s,hs⟩:∃n,w.heap.size=n:=⟨_,rfl⟩;have HSZ:=hid hs;rw[hs];obtain⟨p0,p1,p2⟩:=HS0.out.p.c3;have e4:=(HS0.out.e).cell 4;have e5:=(HS0.out.e).cell 5;simp only[gz,gs]at e4 e5;rw[hs]at p0 p1 p2 e4 e5;clear hs;go_wp2_with fail;refine(cSm.out _ HS0.out.b).mono ?_;rintro e w1 ⟨b,rfl,hF,hb1⟩;have HS1:=hid (HS0.out.below hb1);clear p0 p1 p2 e4 e5 hb1 HS0 cSm;have e4:=(HS1.out.e).cell 4;have e5:=(HS1.out.e).cell 5;simp only[gz,gs]at e4 e5;rw[HSZ.out]at e4 e5;cases b
 ·clear hF
  go_wp2_with fail;refine(cM.out _ (HM.out.below HS1.out.b)).mono ?_;rintro e wz ⟨rfl,hbz⟩;have HZ:=hid ((HS1.out.b).trans (hbz.mono (HS1.out.b).size));clear hbz;go_wp2_with fail;go_ret;exact⟨rfl,HZ.out⟩
 have HF:=hid (hF rfl);clear hF
 by_cases h1:(6:Int)<cols
 ·go_wp2_with fail
  refine(cM.out _ (HM.out.below HS1.out.b)).mono ?_;rintro e wz ⟨rfl,hbz⟩;have HZ:=hid ((HS1.out.b).trans (hbz.mono (HS1.out.b).size));clear hbz;go_wp2_with fail;go_ret;exact⟨rfl,HZ.out⟩
 by_cases h2:(6:Int)<rows
 ·go_wp2_with fail
  refine(cM.out _ (HM.out.below HS1.out.b)).mono ?_;rintro e wz ⟨rfl,hbz⟩;have HZ:=hid ((HS1.out.b).trans (hbz.mono (HS1.out.b).size));clear hbz;go_wp2_with fail;go_ret;exact⟨rfl,HZ.out⟩
 have c0:=(HS1.out.c).cell 0;have c1:=(HS1.out.c).cell 1;have c2:=(HS1.out.c).cell 2;have c3:=(HS1.out.c).cell 3;simp only[gz,gs]at c0 c1 c2 c3;obtain⟨p0,p1,p2⟩:=HS1.out.p.c3;rw[HSZ.out]at c0 c1 c2 c3 p0 p1 p2;go_wp2_with fail;clear e4 e5 c0 c1 c2 c3 p0 p1 p2;refine(cPl.out HF.out _ HS1.out.b).mono ?_;rintro e w2 ⟨a1,a2,a3,n,rfl,⟨A1,n1,k1,rfl⟩,⟨A2,n2,k2,rfl⟩,⟨A3,n3,k3,rfl⟩,hb2,hq⟩;have hx2:=Bx.new (t:=26) (cs:=[.slice A1 n1 k1,.slice A2 n2 k2,.slice A3 n3 k3]) w2 rfl;have hw2:=bw1 w2 (.cells #[.slice A1 n1 k1,.slice A2 n2 k2,.slice A3 n3 k3] 26);have HS2:=hid ((HS1.out.below hb2).below hw2);have HN2:=hid (show w.heap.size+3≤w2.heap.size from by have:=(HS1.out.below hb2).e.lt;omega);have HQ:=hid hq;have HW2:=hid hw2;have HX2:=hid hx2;clear hb2 hq hw2 hx2 HS1 cPl;go_upto_region 5 with fail;generalize w2.alloc (.cells #[.slice A1 n1 k1,.slice A2 n2 k2,.slice A3 n3 k3] 26)=w3 at *;generalize hnq:w2.heap.size=nq at *;have HWQ:=hid hnq;clear hnq;obtain⟨y0,hy0⟩:∃y,(n==0)=y:=⟨_,rfl⟩;cases y0
 ·go_wp2_with fail
  refine(cM.out _ (HM.out.below HS2.out.b)).mono ?_;rintro e wz ⟨rfl,hbz⟩;have HZ:=hid ((HS2.out.b).trans (hbz.mono (HS2.out.b).size));clear hbz;go_wp2_with fail;go_ret;exact⟨rfl,HZ.out⟩
 obtain⟨rfl,q,mq,hpl,hC,hR,hL⟩:n=0∧∃q m,plV q m=.agg #[.slice A1 n1 k1,.slice A2 n2 k2,.slice A3 n3 k3]∧CheckP q∧PlR w2 q m∧LRw q:=by
  rcases HQ.out with h|h
  ·exact absurd (by simpa using hy0) h
  ·exact h
 have cSi2:=hid fun W (hb:Below w2.heap.size w2 W)=>cSi.out q mq W (hR.below hb) hL
 rw[hpl]at cSi2;clear hpl hC hR hL cSi HQ hy0;have c4:=(HS2.out.c).cell 4;simp only[gz,gs]at c4;obtain⟨q0,q1,q2⟩:=HX2.out.c3;rw[HSZ.out]at c4;go_wp2_with fail;refine(cSi2.out _ (HWQ.out.symm▸HW2.out)).mono ?_;rintro e w4 ⟨a1,a2,a3,n,rfl,⟨B1,n1,j1,rfl⟩,⟨B2,n2,j2,rfl⟩,⟨B3,n3,j3,rfl⟩,hb4,hq⟩;have hx4:=HX2.out.below hb4;have HS5:=hid ((HS2.out.below hb4).st hx4 HN2.out (.slice B1 n1 j1) (.slice B2 n2 j2) (.slice B3 n3 j3));have HX5:=hid (hx4.set3 (.slice B1 n1 j1) (.slice B2 n2 j2) (.slice B3 n3 j3))
 have HQ:=hid (show n≠0∨n=0∧∃q m,plV q m=.agg #[.slice B1 n1 j1,.slice B2 n2 j2,.slice B3 n3 j3]∧CheckP q∧PlR (st3 w4 nq (.slice B1 n1 j1) (.slice B2 n2 j2) (.slice B3 n3 j3)) q m from by
  rcases hq with h|⟨h,q,hC,hk⟩
  ·exact .inl h
  ·obtain⟨m,e1,e2⟩:=hk (st3 w4 nq (.slice B1 n1 j1) (.slice B2 n2 j2) (.slice B3 n3 j3)) (by simp[st3,World.setCell]) (fun g hg _=>mQ w4 (by have:=HX2.out.lt;omega) _ _ _)
   exact .inr ⟨h,q,m,e1,hC,e2⟩)
 clear c4 q0 q1 q2 hq;obtain⟨q0,q1,q2⟩:=hx4.c3;have f0:=hx4.frozen 0;have f1:=hx4.frozen 1;have f2:=hx4.frozen 2;have f4:=hx4.lt;clear hx4 hb4 HX2 HS2 cSi2 HN2 HWQ HW2;go_upto_region 8 with fail;change Code.wp _ _ _ _ (st3 w4 nq (.slice B1 n1 j1) (.slice B2 n2 j2) (.slice B3 n3 j3));clear q0 q1 q2 f0 f1 f2 f4;generalize st3 w4 nq (.slice B1 n1 j1) (.slice B2 n2 j2) (.slice B3 n3 j3)=w5 at *;obtain⟨y0,hy0⟩:∃y,(n==0)=y:=⟨_,rfl⟩;cases y0
 ·have hy1:(n != 0)=true:=by simp[bne,hy0]
  go_wp2_with fail;refine(cM.out _ (HM.out.below HS5.out.b)).mono ?_;rintro e wz ⟨rfl,hbz⟩;have HZ:=hid ((HS5.out.b).trans (hbz.mono (HS5.out.b).size));clear hbz;go_wp2_with fail;go_ret;exact⟨rfl,HZ.out⟩
 obtain⟨rfl,q,mq,hpl,hC,hR⟩:n=0∧∃q m,plV q m=.agg #[.slice B1 n1 j1,.slice B2 n2 j2,.slice B3 n3 j3]∧CheckP q∧PlR w5 q m:=by
  rcases HQ.out with h|h
  ·exact absurd (by simpa using hy0) h
  ·exact h
 clear HQ hy0;have HPL:=hid hpl;have HC:=hid hC;have HR:=hid hR;clear hpl hC hR;have e0:=(HS5.out.e).cell 0;have e1:=(HS5.out.e).cell 1;have e2:=(HS5.out.e).cell 2;have e3:=(HS5.out.e).cell 3;have e4:=(HS5.out.e).cell 4;have e5:=(HS5.out.e).cell 5;simp only[gz,gs]at e0 e1 e2 e3 e4 e5;rw[HSZ.out]at e0 e1 e2 e3 e4 e5;go_wp2_with fail;refine(cG.out _).mono ?_;rintro e w6 ⟨z,rfl,hz,hb6⟩;have HS6:=hid (HS5.out.below hb6);have HX6:=hid (HX5.out.below hb6);have HR6:=hid (HR.out.below hb6);clear e0 e1 e2 e3 e4 e5 hb6 HS5 HX5 HR cG;obtain⟨y0,hy0⟩:∃y,(z==0)=y:=⟨_,rfl⟩;cases y0
 ·have hy1:(z != 0)=true:=by simp[bne,hy0]
  go_wp2_with fail;refine(cM.out _ (HM.out.below HS6.out.b)).mono ?_;rintro e wz ⟨rfl,hbz⟩;have HZ:=hid ((HS6.out.b).trans (hbz.mono (HS6.out.b).size));clear hbz;go_wp2_with fail;go_ret;exact⟨rfl,HZ.out⟩
 obtain rfl:z=0:=by simpa using hy0
 have HSE:=hid (hz.1 rfl);clear hz hy0
 obtain⟨N,hN,hN2⟩:∃N:Nat,(N:Int)=cols*rows∧N≤256:=by
  have h1:=HSE.out.c;have h2:=HSE.out.r;rw[aI]at h1 h2;dsimp only at h1 h2;have h3:=Int.mul_nonneg (show 0≤cols by omega) (show 0≤rows by omega);have h4:=Int.mul_le_mul (show cols≤16 by omega) (show rows≤16 by omega) (show 0≤rows by omega) (by decide);exact⟨(cols*rows).toNat,by omega,by omega⟩
 have hwm:IntKind.i64.wrap (cols*rows)=(N:Int):=by rw[←hN];exact IntWalk.i64_in _ (by omega)
 have HNT:=hid (show(cols*rows).toNat=N by omega);have HSH:=hid (show ∀j:Nat,j<N→ShOK ⟨x,y,wd,ht,cols,rows⟩ ((j:Int)+1)from fun j hj=>⟨HSE.out,by omega,show(j:Int)+1≤cols*rows by omega⟩);rw[HNT.out]at cAl cMa;clear hN;have e0:=(HS6.out.e).cell 0;have e1:=(HS6.out.e).cell 1;have e2:=(HS6.out.e).cell 2;have e3:=(HS6.out.e).cell 3;have e4:=(HS6.out.e).cell 4;have e5:=(HS6.out.e).cell 5;simp only[gz,gs]at e0 e1 e2 e3 e4 e5;rw[HSZ.out]at e0 e1 e2 e3 e4 e5
 by_cases h6:(6:Int)<(N:Int)
 ·go_wp2_with fail
  refine(cM.out _ (HM.out.below HS6.out.b)).mono ?_;rintro e wz ⟨rfl,hbz⟩;have HZ:=hid ((HS6.out.b).trans (hbz.mono (HS6.out.b).size));clear hbz;go_wp2_with fail;go_ret;exact⟨rfl,HZ.out⟩
 obtain⟨q0,q1,q2⟩:=HX6.out.c3;have cA2:=hid (cAl.out q mq w6 HR6.out HC.out HSE.out);rw[HPL.out]at cA2;go_wp2_with fail;clear e0 e1 e2 e3 e4 e5 q0 q1 q2 h1 h2 h6 cAl;refine cA2.out.mono ?_;rintro e w7 ⟨v,rfl,hv,hb7⟩;have HS7:=hid (HS6.out.below hb7);have HX7:=hid (HX6.out.below hb7);have HR7:=hid (HR6.out.below hb7);have HV7:=hid hv;clear hv hb7 HS6 HX6 HR6 cA2;have HLN:=hid (show(allTo q ⟨x,y,wd,ht,cols,rows⟩ N).length=N from bK _ _ _);obtain⟨A,c,rfl,hG⟩:=fu HV7.out;have HG7:=hid hG;clear hG;rw[HLN.out]at HV7 ⊢;have e0:=(HS7.out.e).cell 0;have e1:=(HS7.out.e).cell 1;have e2:=(HS7.out.e).cell 2;have e3:=(HS7.out.e).cell 3;have e4:=(HS7.out.e).cell 4;have e5:=(HS7.out.e).cell 5;simp only[gz,gs]at e0 e1 e2 e3 e4 e5;rw[HSZ.out]at e0 e1 e2 e3 e4 e5;go_wp2_with fail;refine(cMa.out q _ _ _ HV7.out (HM.out.below HS7.out.b) HC.out HSE.out).mono ?_;rintro e w8 ⟨rfl,hb8⟩;have HS8:=hid (HS7.out.below hb8);have HX8:=hid (HX7.out.below hb8);have HR8:=hid (HR7.out.below hb8);have HC8:=hid hb8;clear e0 e1 e2 e3 e4 e5 hb8 HS7 HX7 HR7 HV7 cMa;have e4:=(HS8.out.e).cell 4;have e5:=(HS8.out.e).cell 5;simp only[gz,gs]at e4 e5;rw[HSZ.out]at e4 e5;go_wp2_with fail;clear e4 e5 hwm;go_loopw [12,13,14] (fun i _ _ wr=>∃j:Nat,j≤N∧i=.int .i64 j∧Hid (Below w8.heap.size w8 wr)) (fun i _ _ _=>N-(intOf i).toNat)
 case atStart=>exact⟨0,by omega,rfl,hid (Below.refl _ _)⟩
 case round=>
  obtain⟨j,hj,rfl,HB⟩:=hrel;have HSr:=hid (HS8.out.below HB.out)
  by_cases hlt:j<N
  ·have hli:(j:Int)<(N:Int):=by omega
   have HSJ:=hid (HSH.out j hlt);obtain⟨bl,off,z,rfl,hbl,hz,hcel⟩:=HG7.out j (by rw[HLN.out];exact hlt);rw[show(allTo q ⟨x,y,wd,ht,cols,rows⟩ N)[j]! = partS q ((j:Int)+1) (shBox ⟨x,y,wd,ht,cols,rows⟩ ((j:Int)+1)).to from by unfold allTo;rw[getElem!_pos _ _ (by simpa using hlt)];simp]at hz;have HCE:=hid hcel;have HZ:=hid hz;have cB2:=hid (cBo.out _ wr HSJ.out);have cA3:=hid fun (W:World) (hb:Below w8.heap.size w8 W)=>cAg.out q mq _ z _ W (HR8.out.below hb) HC.out HSJ.out (HM.out.below (HS8.out.below hb).b) (gS HZ.out (HC8.out.trans (hb.mono HC8.out.size)))
   rw[HPL.out]at cA3;obtain⟨hy0,⟨vs1,hq1,⟨A1,c1,e1,hq2⟩,hq3⟩,A2,c2,e2,hq4,hq5,hR2⟩:=hz;obtain⟨y0,y1,y2⟩:=z;dsimp only at e1 e2;subst e1 e2;generalize vs1.length=m1 at *;generalize (partS q ((j:Int)+1) (shBox ⟨x,y,wd,ht,cols,rows⟩ ((j:Int)+1)).to).nodes.length=m2 at *;clear hq1 hq2 hq3 hq4 hq5 hR2 hy0 hcel hbl;obtain⟨⟨x0,x1,x2,x3⟩,hbo⟩:∃b,shBox ⟨x,y,wd,ht,cols,rows⟩ ((j:Int)+1)=b:=⟨_,rfl⟩;rw[hbo]at cB2 cA3;unfold bj at cB2 cA3;dsimp only at cB2 cA3;clear hbo;have e0:=(HSr.out.e).cell 0;have e1:=(HSr.out.e).cell 1;have e2:=(HSr.out.e).cell 2;have e3:=(HSr.out.e).cell 3;have e4:=(HSr.out.e).cell 4;have e5:=(HSr.out.e).cell 5;simp only[gz,gs]at e0 e1 e2 e3 e4 e5;rw[HSZ.out]at e0 e1 e2 e3 e4 e5;go_wp2_with fail;refine cB2.out.mono ?_;rintro e w9 ⟨rfl,hb9⟩;have hx9:=Bx.new (t:=48) (cs:=[.int .i64 x0,.int .i64 x1,.int .i64 x2,.int .i64 x3]) w9 rfl;have hw9:=hb9.trans ((bw1 w9 (.cells #[x0,x1,x2,x3] 48)).mono hb9.size);have HB9:=hid (HB.out.trans (hw9.mono HB.out.size));have HX9:=hid hx9;clear e0 e1 e2 e3 e4 e5 hb9 hw9 hx9 HSr;go_upto_region 18 with fail;generalize w9.alloc (.cells #[x0,x1,x2,x3] 48)=wA at *;generalize w9.heap.size=nb at *;have HJL:=hid hlt;have HJ:=hid hj;have HS9:=hid (show ∀W,Below wA.heap.size wA W→Below w8.heap.size w8 W from fun W hb=>HB9.out.trans (hb.mono HB9.out.size));have HXQ:=hid (show ∀W,Below wA.heap.size wA W→_ from fun W hb=>(HX8.out.below (HS9.out W hb)).c3);have HXS:=hid (show ∀W,Below wA.heap.size wA W→Bx W (s+2) 32 [x,y,wd,ht,cols,rows] from fun W hb=>HSZ.out▸(HS8.out.below (HS9.out W hb)).e);have HXZ:=hid (show ∀W,Below wA.heap.size wA W→_ from fun W hb=>HCE.out W (HC8.out.trans ((HS9.out W hb).mono HC8.out.size)));have hwrap:IntKind.i64.wrap ((j:Int)+1)=(j:Int)+1:=IntWalk.i64_in _ (by omega);clear hj HCE HZ cB2;have hS1:(fun W:World=>Below wA.heap.size wA W) wA.drew:=(Below.refl _ _).drew;refine wp_region_held_drew (S:=(fun W:World=>Below wA.heap.size wA W)) (by kernel_rfl) hS1 (fun hHeld=>?_);clear hHeld;generalize hwd:wA.drew=wd at *;clear hwd;refine kk 0 rfl ?_;refine kk 1 rfl ?_;refine kk 2 rfl ?_;refine kf 3 HXQ.out rfl ?_;refine kk 4 rfl ?_;refine kk 5 rfl ?_;refine kk 6 rfl ?_;refine kf 7 HXZ.out rfl ?_;refine kf 8 (fun W h=>(HX9.out.below h).c4) rfl ?_;refine kf 9 (fun W h=>(HXS.out W h).c6) rfl ?_;refine kk 10 rfl ?_;refine kk 11 rfl ?_;refine kr 12 rfl fun K hK=>?_
   rw[if_pos (by kernel_rfl)];go_simp;go_at_call 12;refine(cA3.out _ (HS9.out _ hS1)).mono ?_;rintro e wB ⟨rfl,hbB⟩;have hS2:(fun W:World=>Below wA.heap.size wA W) wB:=Below.trans (B:=wA.heap.size) hS1 (hbB.mono hS1.size);clear hbB;go_wp2_with fail;refine hK.out _ _ hS2 (fun hHeld=>?_);clear hK hHeld K
   try simp only[Act.put,sa,sz,ss]
   refine kk 13 rfl ?_;refine kk 14 rfl ?_;refine wpAnyH_done (by kernel_rfl) ?_ _;have HBB:=hid (HS9.out _ hS2);clear hS1 hS2;have hj2:=HJ.out;go_wp2_with fail;go_roundw
   case rel=>exact⟨j+1,HJL.out,by go_num,HBB⟩
   case measure=>
    have:=HJL.out;simp[intOf];omega
  ·obtain rfl:N=j:=by omega
   have hge:¬((N:Int)<(N:Int)):=by omega
   go_wp2_with fail;refine(cM.out _ (HM.out.below HSr.out.b)).mono ?_;rintro e wz ⟨rfl,hbz⟩;have HZ:=hid ((HSr.out.b).trans (hbz.mono (HSr.out.b).size));clear hbz;go_wp2_with fail;go_ret;exact⟨rfl,HZ.out⟩
end Go.Proofs
namespace Go.Proofs
open Go.ChangeShapes Go.WideShapes Go.ChangeAt Go.RowKit Go.Deep Go.Proofs.Mp
def Mp.FlatI(P:Program)(t:TypeId)(k:Nat):Prop:=
 ∀{H:Type} {enc:TypeId×Value→H} {w:World} {base:Nat} {spare:Nat→Bool} {held:Bool} {fuel:Nat} {cs:List Value} {x:DataW H×List MemPlace},
  DataW.trod enc P w base spare held fuel t cs=some x→∃zs:List Int,zs.length=k∧cs=zs.map (Value.int .i64)∧∀z∈zs,(Lit.int .i64 z).wf=true
section
variable {P:Program}
theorem Mp.FlatI.int{t:TypeId}(ht:P.underlying t=some (.int .i64)):FlatI P t 1:=fun h=>by
 obtain⟨n,rfl,_,hw⟩:=DataW.trod_int ht h;exact⟨[n],rfl,rfl,by simpa using hw⟩
theorem Mp.FlatI.structN{t:TypeId}{fs:Array Field}(ht:P.underlying t=some (.struct fs))(ks:List Nat)(hl:ks.length=fs.size)(hC:P.cellsOf t=ks.sum)
  (ho:∀i f,fs[i]?=some f→f.offset=(ks.take i).sum∧P.cellsOf f.type=ks[i]!∧FlatI P f.type ks[i]!):FlatI P t ks.sum:=by
 intro H enc w base spare held fuel cs x h;obtain⟨ys,n,_,_,hlen,hys,hf⟩:=DataW.trod_struct ht h
 have key:∀i,i≤ks.length→∃zs:List Int,zs.length=(ks.take i).sum∧cs.take (ks.take i).sum=zs.map (Value.int .i64)∧∀z∈zs,(Lit.int .i64 z).wf=true:=by
  intro i
  induction i with
  | zero=>intro _;exact⟨[],rfl,by simp,by simp⟩
  | succ i ih=>
   intro hi;obtain⟨zs,h1,h2,h3⟩:=ih (by omega);have hi2:i<fs.size:=by omega
   obtain⟨e1,e2,e3⟩:=ho i fs[i] (Array.getElem?_eq_getElem hi2);have g:=hf i fs[i] (Array.getElem?_eq_getElem hi2);rw[List.getElem?_eq_getElem (by omega)]at g;obtain⟨us,k1,k2,k3⟩:=e3 g
   have es:(ks.take (i+1)).sum=(ks.take i).sum+ks[i]!:=by
    rw[List.take_succ_eq_append_getElem (by omega),List.sum_append,getElem!_pos ks i (by omega)];simp
   rw[e1,e2]at k2;refine⟨zs++us,by rw[List.length_append,es];omega,?_,fun z hz=>?_⟩
   ·rw[es,List.take_add,h2,k2,List.map_append]
   ·rcases List.mem_append.1 hz with h|h
    ·exact h3 z h
    ·exact k3 z h
 obtain⟨zs,h1,h2,h3⟩:=key ks.length (Nat.le_refl _);rw[List.take_length]at h1 h2;rw[List.take_of_length_le (by omega)]at h2;exact⟨zs,h1,h2,h3⟩
end
section
variable {H:Type}{enc:TypeId×Value→H}{P:Program}{w:World}{base:Nat}{spare:Nat→Bool}{held:Bool}
theorem Mp.open_rows{t e:TypeId}{k:Nat}{α:Type}[Inhabited α](ht:P.underlying t=some (.slice e))(hC:P.cellsOf e=k)(hk:0<k)(encA:α→List Value)(hlen:∀y,(encA y).length=k)(G:α→Prop)
  (hF:∀{fuel:Nat} {cs:List Value} {x:DataW H×List MemPlace},DataW.trod enc P w base spare held fuel e cs=some x→∃y:α,cs=encA y∧G y)
  {fuel:Nat}{cs:List Value}{x:DataW H×List MemPlace}(hf:DataW.trod enc P w base spare held fuel t cs=some x) :
  ∃(A:Option Addr) (cap:Nat) (xs:List α),cs=[.slice A xs.length cap]∧xs.length≤cap∧cap≤maxLen∧Rd k encA w A xs∧∀x∈xs,G x:=by
 rcases open_slice ht hf with⟨hcs,hx⟩|⟨a,len,cap,m,n,D,Pl,hcs,hb,hl,hm,hmm,hx,hi⟩
 ·exact⟨none,0,[],hcs,Nat.le_refl _,Nat.zero_le _,Rd.nil _,by simp⟩
 ·have hlm:len≤m:=by rw[hmm];split<;>omega
  have key:∀i,i<len→∃y:α,G y∧∀j v,(encA y)[j]?=some v→w.cell? (a.add (i*k+j))=some v:=by
   intro i hil;obtain⟨cs',hc,ht'⟩:=hi i (by omega);obtain⟨y,rfl,hy⟩:=hF ht';obtain⟨_,hcl,hat⟩:=World.cells?_some hc;refine⟨y,hy,fun j v hv=>?_⟩;have hj:j<k:=by have:=(List.getElem?_eq_some_iff.1 hv).1;rw[hlen]at this;exact this
   have:=hat j (by omega);rw[hC]at this;rw[Go.Deep.add_add]at this;rw[this];exact hv
  obtain⟨g,hg⟩:∃g:Nat→α,∀i,i<len→G (g i)∧∀j v,(encA (g i))[j]?=some v→w.cell? (a.add (i*k+j))=some v:=by
   refine⟨fun i=>if h:i<len then (key i h).choose else default,fun i h=>?_⟩;simp only[h,dif_pos];exact(key i h).choose_spec
  refine⟨some a,cap,(List.range len).map g,by simpa using hcs,by simpa using hl,hm,?_,?_⟩
  ·by_cases h0:len=0
   ·left;simp[h0]
   ·obtain⟨b,off,spot⟩:=a
    obtain⟨_,g0⟩:=hg 0 (by omega);have hc0:=g0 0 _ (List.getElem?_eq_getElem (by rw[hlen];omega));have hspot:spot=none:=by simpa [Addr.add] using World.cell?_spot hc0
    subst hspot
    have hadd:∀n,(⟨b,off,none⟩:Addr).add n=⟨b,off+n,none⟩:=fun n=>by
     unfold Addr.add;split
     ·simp_all
     ·rfl
    refine .inr ⟨b,off,rfl,?_,fun j hj i u hu=>?_⟩
    ·rw[hadd]at hc0
     exact World.block_lt_of_cell? w _ hc0
    ·simp only[List.length_map,List.length_range]at hj
     have e1:((List.range len).map g)[j]! = g j:=by
      rw[getElem!_pos _ _ (by simpa using hj)];simp
     obtain⟨_,gc⟩:=hg j hj;rw[e1]at hu;have:=gc i u hu;rw[hadd]at this;rw[Nat.add_assoc];exact this
  ·intro x hx
   obtain⟨i,hi,rfl⟩:=List.mem_map.1 hx;exact(hg i (List.mem_range.1 hi)).1
end
theorem Mp.flat3:FlatI Tryz.prog 3 1:=FlatI.int Tryz.underlying3
theorem Mp.flat30:FlatI Tryz.prog 30 2:=FlatI.structN Tryz.underlying30 [1,1] rfl (by kernel_rfl) (fun i f h=>by
 match i,h with
 | 0,h=>cases h;exact⟨rfl,by kernel_rfl,flat3⟩
 | 1,h=>cases h;exact⟨rfl,by kernel_rfl,flat3⟩)
theorem Mp.flat71:FlatI Tryz.prog 71 3:=FlatI.structN Tryz.underlying71 [1,2] rfl (by kernel_rfl) (fun i f h=>by
 match i,h with
 | 0,h=>cases h;exact⟨rfl,by kernel_rfl,flat3⟩
 | 1,h=>cases h;exact⟨rfl,by kernel_rfl,flat30⟩)
theorem Mp.flat28:FlatI Tryz.prog 28 4:=FlatI.structN Tryz.underlying28 [1,1,1,1] rfl (by kernel_rfl) (fun i f h=>by
 match i,h with
 | 0,h=>cases h;exact⟨rfl,by kernel_rfl,flat3⟩
 | 1,h=>cases h;exact⟨rfl,by kernel_rfl,flat3⟩
 | 2,h=>cases h;exact⟨rfl,by kernel_rfl,flat3⟩
 | 3,h=>cases h;exact⟨rfl,by kernel_rfl,flat3⟩)
theorem Mp.flat32:FlatI Tryz.prog 32 6:=FlatI.structN Tryz.underlying32 [2,1,1,1,1] rfl (by kernel_rfl) (fun i f h=>by
 match i,h with
 | 0,h=>cases h;exact⟨rfl,by kernel_rfl,flat30⟩
 | 1,h=>cases h;exact⟨rfl,by kernel_rfl,flat3⟩
 | 2,h=>cases h;exact⟨rfl,by kernel_rfl,flat3⟩
 | 3,h=>cases h;exact⟨rfl,by kernel_rfl,flat3⟩
 | 4,h=>cases h;exact⟨rfl,by kernel_rfl,flat3⟩)
theorem Mp.flat34:FlatI Tryz.prog 34 11:=FlatI.structN Tryz.underlying34 [4,1,6] rfl (by kernel_rfl) (fun i f h=>by
 match i,h with
 | 0,h=>cases h;exact⟨rfl,by kernel_rfl,flat28⟩
 | 1,h=>cases h;exact⟨rfl,by kernel_rfl,flat3⟩
 | 2,h=>cases h;exact⟨rfl,by kernel_rfl,flat32⟩)
section
variable {H:Type}{enc:TypeId×Value→H}{w:World}{base:Nat}{spare:Nat→Bool}{held:Bool}
theorem tM{fuel:Nat}{cs:List Value}{x:DataW H×List MemPlace}(h:DataW.trod enc Tryz.prog w base spare held fuel 30 cs=some x):∃y:Pt,cs=encR y∧True:=by
 obtain⟨zs,hl,rfl,_⟩:=Mp.flat30 h
 match zs,hl with
 | [a,b],_=>exact⟨(a,b),rfl,trivial⟩
theorem tR{fuel:Nat}{cs:List Value}{x:DataW H×List MemPlace}(h:DataW.trod enc Tryz.prog w base spare held fuel 71 cs=some x):∃y:Nd,cs=aQ y∧True:=by
 obtain⟨zs,hl,rfl,_⟩:=Mp.flat71 h
 match zs,hl with
 | [a,b,c],_=>exact⟨(a,b,c),rfl,trivial⟩
theorem td{fuel:Nat}{cs:List Value}{x:DataW H×List MemPlace}(h:DataW.trod enc Tryz.prog w base spare held fuel 3 cs=some x):∃y:Int,cs=Mp.encI y∧True:=by
 obtain⟨zs,hl,rfl,_⟩:=Mp.flat3 h
 match zs,hl with
 | [a],_=>exact⟨a,rfl,trivial⟩
theorem t8{fuel:Nat}{cs:List Value}{x:DataW H×List MemPlace}(h:DataW.trod enc Tryz.prog w base spare held fuel 58 cs=some x) :
  ∃y:Ar×Value,cs=encA y∧(SlP w y.2 y.1.via∧y.1.via.length≤9223372036854775807∧(Lit.int .i64 y.1.lf).wf=true∧(Lit.int .i64 y.1.rt).wf=true):=by
 obtain⟨ys,n,_,_,hlen,hys,hf⟩:=DataW.trod_struct Tryz.underlying58 h;have hs:ys.length=6:=hys;have hl:cs.length=6:=by rw[hlen];kernel_rfl
 have c3:Tryz.prog.cellsOf 3=1:=by kernel_rfl
 have c56:Tryz.prog.cellsOf 56=1:=by kernel_rfl
 have g0:DataW.trod enc Tryz.prog w base spare held n 3 ((cs.drop 0).take (Tryz.prog.cellsOf 3))=ys[0]?:=hf 0 _ rfl;have g1:DataW.trod enc Tryz.prog w base spare held n 3 ((cs.drop 1).take (Tryz.prog.cellsOf 3))=ys[1]?:=hf 1 _ rfl;have g2:DataW.trod enc Tryz.prog w base spare held n 3 ((cs.drop 2).take (Tryz.prog.cellsOf 3))=ys[2]?:=hf 2 _ rfl;have g3:DataW.trod enc Tryz.prog w base spare held n 56 ((cs.drop 3).take (Tryz.prog.cellsOf 56))=ys[3]?:=hf 3 _ rfl;have g4:DataW.trod enc Tryz.prog w base spare held n 3 ((cs.drop 4).take (Tryz.prog.cellsOf 3))=ys[4]?:=hf 4 _ rfl;have g5:DataW.trod enc Tryz.prog w base spare held n 3 ((cs.drop 5).take (Tryz.prog.cellsOf 3))=ys[5]?:=hf 5 _ rfl;rw[List.getElem?_eq_getElem (by omega)]at g0 g1 g2 g3 g4 g5;rw[c3]at g0 g1 g2 g4 g5;rw[c56]at g3
 match cs,hl with
 | [a,b,c,d,e,f],_=>
  obtain⟨n0,h0,_,_⟩:=DataW.trod_int Tryz.underlying3 g0;obtain⟨n1,h1,_,_⟩:=DataW.trod_int Tryz.underlying3 g1;obtain⟨n2,h2,_,_⟩:=DataW.trod_int Tryz.underlying3 g2;obtain⟨n4,h4,_,w4⟩:=DataW.trod_int Tryz.underlying3 g4;obtain⟨n5,h5,_,w5⟩:=DataW.trod_int Tryz.underlying3 g5;obtain⟨A,cap,zs,h3,hzc,hcm,hR,_⟩:=Mp.open_rows Tryz.underlying56 (by kernel_rfl) (show 0<2 by omega) encR encR_len (fun _=>True) (fun h=>tM h) g3;simp at h0 h1 h2 h3 h4 h5;subst h0 h1 h2 h3 h4 h5;refine⟨(⟨n0,n1,n2,zs,n4,n5⟩,.slice A zs.length cap),rfl,⟨A,cap,rfl,hR,hzc⟩,?_,w4,w5⟩
  show zs.length≤_
  unfold maxLen at hcm;omega
theorem nE{r:Reach}{b0:Nat}{v:Value}{d:DataW H}{p:List MemPlace}(hv:Value.okWide Tryz.prog w r b0 26 v)(h:DataW.Trod enc Tryz.prog w base spare held 26 v d p) :
  ∃(q:Pn) (m:Mem),v=plV q m∧PlW w q m∧LRw q:=by
 obtain⟨cs,rfl,_⟩:=okWide_struct Tryz.underlying26 hv;obtain⟨fuel,hf0⟩:=h;obtain⟨ys,n,_,_,hlen,hys,hf⟩:=DataW.trod_struct Tryz.underlying26 hf0;have hs:ys.length=3:=hys;obtain⟨l⟩:=cs;change l.length=_ at hlen;have hl:l.length=3:=by rw[hlen];kernel_rfl
 have g0:DataW.trod enc Tryz.prog w base spare held n 22 ((l.drop 0).take (Tryz.prog.cellsOf 22))=ys[0]?:=hf 0 _ rfl;have g1:DataW.trod enc Tryz.prog w base spare held n 23 ((l.drop 1).take (Tryz.prog.cellsOf 23))=ys[1]?:=hf 1 _ rfl;have g2:DataW.trod enc Tryz.prog w base spare held n 24 ((l.drop 2).take (Tryz.prog.cellsOf 24))=ys[2]?:=hf 2 _ rfl;rw[List.getElem?_eq_getElem (by omega)]at g0 g1 g2;rw[show Tryz.prog.cellsOf 22=1 by kernel_rfl]at g0;rw[show Tryz.prog.cellsOf 23=1 by kernel_rfl]at g1;rw[show Tryz.prog.cellsOf 24=1 by kernel_rfl]at g2
 match l,hl with
 | [a,b,c],_=>
  obtain⟨An,cn,ns,e0,k0,m0,hN,_⟩:=Mp.open_rows Tryz.underlying22 (by kernel_rfl) (show 0<3 by omega) aQ dE (fun _=>True) (fun h=>tR h) g0;obtain⟨Aa,ca,ars,e1,k1,m1,hA,hG⟩:=Mp.open_rows Tryz.underlying23 (by kernel_rfl) (show 0<6 by omega) encA fM (fun y=>SlP w y.2 y.1.via∧y.1.via.length≤9223372036854775807∧(Lit.int .i64 y.1.lf).wf=true∧(Lit.int .i64 y.1.rt).wf=true) (fun h=>t8 h) g1;obtain⟨Af,cf,fs,e2,k2,m2,hF,_⟩:=Mp.open_rows Tryz.underlying24 (by kernel_rfl) (show 0<1 by omega) Mp.encI (fun _=>rfl) (fun _=>True) (fun h=>td h) g2;simp at e0 e1 e2;subst e0 e1 e2;unfold maxLen at m0 m1 m2
  have hz0:∀l:List (Ar×Value),(l.map Prod.fst).zip (l.map Prod.snd)=l:=fun l=>by
   induction l with
   | nil=>rfl
   | cons y l ih=>simp[ih]
  have hz:=hz0 ars
  have hat:∀i,i<(ars.map Prod.fst).length→(ars.map Prod.fst)[i]! = ars[i]!.1∧(ars.map Prod.snd)[i]! = ars[i]!.2∧ars[i]!∈ars:=fun i hi=>by
   have hi:i<ars.length:=by simpa using hi
   exact⟨aN Prod.fst hi,aN Prod.snd hi,ak hi⟩
  refine⟨⟨ns,ars.map Prod.fst,fs⟩,⟨An,Aa,Af,cn,ca,cf,ars.map Prod.snd⟩,by unfold plV;simp,?_,?_⟩
  ·refine⟨hN,by dsimp only;rw[hz];exact hA,by simp,fun i hi=>?_,hF,k0,by simpa using k1,k2,by dsimp only;omega,by simp;omega,by dsimp only;omega,fun i hi=>?_⟩
   ·obtain⟨h1,h2,h3⟩:=hat i hi
    dsimp only;rw[h1,h2];exact(hG _ h3).1
   ·obtain⟨h1,h2,h3⟩:=hat i hi
    dsimp only;rw[h1];exact(hG _ h3).2.1
  ·rintro z (rfl|⟨i,hi,h|h⟩)
   ·decide
   ·obtain⟨h1,h2,h3⟩:=hat i hi
    rw[h];dsimp only;rw[h1];exact(hG _ h3).2.2.1
   ·obtain⟨h1,h2,h3⟩:=hat i hi
    rw[h];dsimp only;rw[h1];exact(hG _ h3).2.2.2
theorem pK{r:Reach}{b0:Nat}{v:Value}{d:DataW H}{p:List MemPlace}(hv:Value.okWide Tryz.prog w r b0 34 v)(h:DataW.Trod enc Tryz.prog w base spare held 34 v d p) :
  ∃a0 a1 a2 a3 a4 a5 a6 a7 a8 a9 a10:Int,v=.agg #[a0,a1,a2,a3,a4,a5,a6,a7,a8,a9,a10]:=by
 obtain⟨cs,rfl,_⟩:=okWide_struct Tryz.underlying34 hv;obtain⟨fuel,hf⟩:=h;obtain⟨zs,hl,he,_⟩:=Mp.flat34 hf
 match zs,hl with
 | [a0,a1,a2,a3,a4,a5,a6,a7,a8,a9,a10],_=>
  refine⟨a0,a1,a2,a3,a4,a5,a6,a7,a8,a9,a10,?_⟩
  congr 1
  exact Array.toList_inj.1 he
end
end Go.Proofs
