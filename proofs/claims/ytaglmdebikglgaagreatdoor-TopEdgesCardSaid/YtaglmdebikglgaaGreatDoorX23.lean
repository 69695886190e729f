/- Lemmas and walks; no statement of a law is proved here. -/
import Derived.Test.YtaglmdebikglgaaGreatDoorX17
import Derived.Test.YtaglmdebikglgaaGreatDoorX21
set_option linter.unusedVariables false
set_option linter.unusedSimpArgs false
set_option maxRecDepth 100000
set_option maxHeartbeats 8000000
open Go.Lib
namespace Go.Proofs
open Go.RowKit Go.Proofs.Mp Go.Lib Go.Proofs.Ed
def exTo(g:Eg)(f:Pt→Bool)(p:Pn)(k:Nat):List Cr:=(List.range k).flatMap fun j=>exS g f p.arcs[j]!.id (pth p j)
theorem dC(g:Eg)(f:Pt→Bool)(p:Pn)(k:Nat):exTo g f p (k+1)=exTo g f p k++exS g f p.arcs[k]!.id (pth p k):=by
 unfold exTo;rw[List.range_succ,List.flatMap_append];simp
def exR(g:Eg)(f:Pt→Bool)(l:List Pt)(j i:Nat):List Evt:=exF g.u g.s g.lo g.hi g.mt f (if j=0 then none else some l[j-1]!) ((l.take i).drop j) (l.drop i)
theorem rI{g:Eg}{f:Pt→Bool}{l:List Pt}{j:Nat}:exR g f l j l.length=[]:=by
 unfold exR;rw[List.drop_length];split<;>rfl
theorem th{g:Eg}{f:Pt→Bool}{l:List Pt}{j i:Nat}(hi:i<l.length)(hj:j≤i)(h:g.off l[i]! = 0):exR g f l j i=exR g f l j (i+1):=by
 unfold exR;rw[ew hi,exF_cons,if_pos ((g.off_sgn _).1.1 h)]
 congr 1
 rw[List.take_succ_eq_append_getElem hi,List.drop_append_of_le_length (by rw[List.length_take];omega),getElem!_pos l i hi]
def psg(g:Eg)(f:Pt→Bool)(l:List Pt)(j i:Nat):List Evt:=
 if 0<j∧g.off l[j-1]! = - g.off l[i]! then ev g.u g.lo g.hi f (if g.off l[i]! = 1 then 0 else 1) (if (l.take i).drop j=[] then [g.mt l[j-1]! l[i]!] else (l.take i).drop j) else []
theorem rH{g:Eg}{f:Pt→Bool}{l:List Pt}{j i:Nat}(hi:i<l.length)(hj:j≤i)(h:g.off l[i]!≠0)(hl:0<j→g.off l[j-1]!≠0):exR g f l j i=psg g f l j i++exR g f l (i+1) (i+1):=by
 have h1:=g.off_sgn l[i]!;have h2:=g.off_sgn l[j-1]!;have hr:(l.take (i+1)).drop (i+1)=[]:=by rw[List.drop_eq_nil_iff,List.length_take];omega
 unfold exR psg;rw[ew hi,exF_cons,if_neg (fun k=>h (h1.1.2 k)),hr,if_neg (Nat.succ_ne_zero i),Nat.add_sub_cancel]
 congr 1
 by_cases h0:j=0
 ·subst h0
  simp
 ·have hl:=hl (by omega)
  have hp:0<g.s l[i]!∨g.s l[i]!<0:=by have:=h1.1;omega
  have hq:0<g.s l[j-1]!∨g.s l[j-1]!<0:=by have:=h2.1;omega
  rw[if_neg h0];dsimp only
  by_cases ho:g.off l[j-1]! = - g.off l[i]!
  ·rw[if_pos (show 0<j∧_ from ⟨by omega,ho⟩)]
   rcases hp with hp|hp
   ·have e1:=h1.2.1.2 hp
    have e2:g.s l[j-1]!<0:=h2.2.2.1 (by rw[ho,e1]);rw[if_pos (.inr ⟨e2,hp⟩),if_pos hp,if_pos e1]
   ·have e1:=h1.2.2.2 hp
    have e2:0<g.s l[j-1]!:=h2.2.1.1 (by rw[ho,e1];rfl);rw[if_pos (.inl ⟨e2,hp⟩),if_neg (show ¬0<g.s l[i]! by omega),if_neg (show ¬g.off l[i]! = 1 by rw[e1];decide)]
  ·have hno:¬((0<g.s l[j-1]!∧g.s l[i]!<0)∨(g.s l[j-1]!<0∧0<g.s l[i]!)):=by
    rintro (⟨k1,k2⟩|⟨k1,k2⟩)
    ·exact ho (by rw[h2.2.1.2 k1,h1.2.2.2 k2];rfl)
    ·exact ho (by rw[h2.2.2.2 k1,h1.2.1.2 k2])
   rw[if_neg hno,if_neg (show ¬(0<j∧g.off l[j-1]! = - g.off l[i]!)from fun k=>ho k.2)]
theorem sq{U:Pt→Int}{lo hi o:Int}{nd:Pt→Bool}{r:List Pt}:(ev U lo hi nd o r).length≤1:=by
 unfold ev;split
 ·exact Nat.le_refl _
 ·exact Nat.zero_le _
theorem tZ(g:Eg)(f:Pt→Bool)(arc:Int)(l:List Pt):exS g f arc l=(exR g f l 0 0).map (toC arc):=rfl
theorem qY(g:Eg)(f:Pt→Bool)(l:List Pt)(j i:Nat):(psg g f l j i).length≤1:=by
 unfold psg;split
 ·exact sq
 ·exact Nat.zero_le _
theorem il(a b:Int):cmpI a b=0∨cmpI a b=1∨cmpI a b=-1:=by
 unfold cmpI;split
 ·exact .inr (.inr rfl)
 ·split
  ·exact .inr (.inl rfl)
  ·exact .inl rfl
theorem iL(g:Eg)(q:Pt):g.off q=0∨g.off q=1∨g.off q=-1:=by
 unfold Eg.off;split
 ·exact il _ _
 ·exact il _ _
theorem pL{b:Bo}{s:Int}(hs:s=1∨s=2∨s=3∨s=4){p q:Pt}(h0:(mkEg b s).off q≠0)(h:(mkEg b s).off p=- (mkEg b s).off q):(mkEg b s).ok p q:=by
 have h1:=(mkEg b s).off_sgn p;have h2:=(mkEg b s).off_sgn q;obtain⟨x0,y0,x1,y1⟩:=b
 have key:((mkEg ⟨x0,y0,x1,y1⟩ s).s p<0∧0<(mkEg ⟨x0,y0,x1,y1⟩ s).s q)∨(0<(mkEg ⟨x0,y0,x1,y1⟩ s).s p∧(mkEg ⟨x0,y0,x1,y1⟩ s).s q<0):=by
  have:=iL (mkEg ⟨x0,y0,x1,y1⟩ s) q
  rcases this with e|e|e
  ·exact absurd e h0
  ·exact .inl ⟨h1.2.2.1 (by rw[h,e]),h2.2.1.1 e⟩
  ·exact .inr ⟨h1.2.1.1 (by rw[h,e];rfl),h2.2.2.1 e⟩
 clear h1 h2 h h0
 rcases hs with rfl|rfl|rfl|rfl<;>simp[mkEg,Eg.s,Eg.x,Eg.ok]at key ⊢<;>omega
theorem oh{w5 wx w':World}{r vb:Option Nat}(h:w5.grownBy wx r)(hv:vb=r∨∃j,vb=some j∧w5.heap.size≤j)(hg:wx.grownBy w' vb):w5.grownBy w' r:=by
 rcases hv with rfl|⟨j,rfl,hj⟩
 ·exact World.grownBy.trans h hg
 ·exact⟨hg.os.trans h.os,hg.tape.trans h.tape,hg.output.trans h.output,Nat.le_trans h.size hg.size,fun k hk hne=>(hg.block k (Nat.lt_of_lt_of_le hk h.size) (by simp;omega)).trans (h.block k hk hne)⟩
theorem qu{a b:Pt}{x:Int}(ha:Nr a)(hb:Nr b)(hne:a.1≠b.1)(h1:min a.1 b.1≤x)(h2:x≤max a.1 b.1) : -70368746274817≤atX a b x∧atX a b x≤70368746274817:=by
 have hx:atX a b x=a.2+rS ((b.2-a.2)*(x-a.1)) (b.1-a.1):=by
  unfold atX rS;rw[if_neg hne,if_neg (by omega)]
 unfold Nr at ha hb;have m1:=aF (a:=b.2-a.2) (b:=x-a.1) (n:=4194304) (m:=4194304) (by omega) (by omega) (by omega) (by omega) (by omega);have m2:=jR (a:=(b.2-a.2)*(x-a.1)) (b:=b.1-a.1) (by omega) (by omega) (by omega);omega
theorem tT{g:Eg}{P Q:Pt}(hP:Nr P)(hQ:Nr Q)(h:g.ok P Q):wfP (g.mt P Q):=by
 unfold Eg.ok at h;unfold Eg.mt;have n1:=hP;have n2:=hQ;unfold Nr at n1 n2;split
 ·rename_i hu
  rw[if_pos hu]at h;have:=qu hP hQ h.1 h.2.1 h.2.2;exact⟨bz (by dsimp only;omega) (by dsimp only;omega),bz (by dsimp only;omega) (by dsimp only;omega)⟩
 ·rename_i hu
  rw[if_neg hu]at h;have:=qu (a:=(P.2,P.1)) (b:=(Q.2,Q.1)) (by unfold Nr;dsimp only;omega) (by unfold Nr;dsimp only;omega) h.1 h.2.1 h.2.2;exact⟨bz (by unfold atY;dsimp only;omega) (by unfold atY;dsimp only;omega),bz (by dsimp only;omega) (by dsimp only;omega)⟩
theorem s6{w:World}{gp:Nat}{l:List Pt}(h:RdR w (some ⟨gp,0,none⟩) l)(j i:Nat):RdR w (some ⟨gp,j*2,none⟩) ((l.take i).drop j):=by
 rcases h with rfl|⟨b,off,e,hb,hc⟩
 ·exact .inl (by simp)
 ·injection e with e
  injection e with e1 e2;subst e1 e2;refine .inr ⟨gp,j*2,rfl,hb,fun q hq u v hv=>?_⟩;rw[List.length_drop,List.length_take]at hq
  have e2:((l.take i).drop j)[q]! = l[j+q]!:=by
   rw[getElem!_pos _ q (by rw[List.length_drop,List.length_take];omega),getElem!_pos l (j+q) (by omega)];simp
  rw[e2]at hv;have:=hc (j+q) (by omega) u v hv;rw[←this]
  congr 2
  omega
theorem gx(p:Pn)(m:Mem)(se:Se)(n s:Int)(w:World)(hR:PlR w p m)(hC:CheckP p)(hS:ShOK se n)(hs:s=1∨s=2∨s=3∨s=4) :
  Calls Tryz.prog 29 #[plV p m,seV se,n,s] w (i8 w (exTo (mkEg (shBox se n) s) (ndAt p.nodes) p p.arcs.length)):=by
 have HR:=hid hR;have cZ:=hid fun W (hb:Below w.heap.size w W)=>eZ p m W (hR.below hb)
 have cB:=hid fun W=>(show Calls Tryz.prog 11 #[seV se,n] W (RetV W (.tuple #[bj (shBox se n),.int .i64 0])) from(ep se n W).mono (by
  rintro e w' ⟨h|h,hb⟩
  ·exact⟨h.2,hb⟩
  ·exact absurd hS h.1))
 have cM:=hid fun W=>gw (shBox se n) s W hs
 have cP:=hid fun W (hb:Below w.heap.size w W)=>iX m.an m.cn p.nodes W (hR.below hb).nd hR.few.n (fun k hk=>hC.pre.ok.nr k hk)
 have cPa:=hid fun id W (hb:Below w.heap.size w W)=>bJ p m id W (hR.below hb)
 have HCk:=hid hC;have HSh:=hid hS;have HMT:=hid fun P Q W h1 h2 h3 h4=>rL (mkEg (shBox se n) s) P Q W h1 h2 (pL hs h3 h4)
 have HA:=hid fun (k:Nat) (hk:k<p.arcs.length) W hb=>hR.arc (W:=W) hb hk
 have hal:=hC.l2;have HPL:=hid (eF hR.few);have HOKE:=hid (show ∀P Q,(mkEg (shBox se n) s).off Q≠0→(mkEg (shBox se n) s).off P=- (mkEg (shBox se n) s).off Q→(mkEg (shBox se n) s).ok P Q from fun P Q h1 h2=>pL hs h1 h2);clear hR hC hS hs;have hplV:plV p m=.agg #[.slice m.an p.nodes.length m.cn,.slice m.aa p.arcs.length m.ca,.slice m.af p.faces.length m.cf]:=rfl;rw[hplV]at cZ cPa ⊢;clear hplV HR;obtain⟨an,aa,af,cn,ca,cf,vs⟩:=m;dsimp only at *;generalize shBox se n=bo at *;generalize mkEg bo s=g at *;obtain⟨px,py,wd,ht,cols,rows⟩:=se;unfold seV at *;obtain⟨x0,yy0,x1,yy1⟩:=bo;unfold bj at cM cB;unfold egE at cM;dsimp only at cB cM ⊢;have ha:=Bx.new (t:=26) (cs:=[.slice an p.nodes.length cn,.slice aa p.arcs.length ca,.slice af p.faces.length cf]) w rfl;have hb:=Bx.newAt (b:=w.heap.size+1) (t:=32) (cs:=[.int .i64 px,.int .i64 py,.int .i64 wd,.int .i64 ht,.int .i64 cols,.int .i64 rows]) (w.alloc (.cells #[.slice an p.nodes.length cn,.slice aa p.arcs.length ca,.slice af p.faces.length cf] 26)) (by simp) rfl;have ha2:=ha.alloc (.cells #[px,py,wd,ht,cols,rows] 32);have hw:=(bw1 w (.cells #[.slice an p.nodes.length cn,.slice aa p.arcs.length ca,.slice af p.faces.length cf] 26)).trans ((bw1 (w.alloc (.cells #[.slice an p.nodes.length cn,.slice aa p.arcs.length ca,.slice af p.faces.length cf] 26)) (.cells #[px,py,wd,ht,cols,rows] 32)).mono (bw1 _ _).size);go_enter Tryz.func29,Tryz.ntmps29;go_upto_region 1 with fail;generalize (w.alloc (.cells #[.slice an p.nodes.length cn,.slice aa p.arcs.length ca,.slice af p.faces.length cf] 26)).alloc (.cells #[px,py,wd,ht,cols,rows] 32)=w0 at *;generalize w.heap.size+1=n32 at *;have k0:=ha2.cell 0;have k1:=ha2.cell 1;have k2:=ha2.cell 2;simp only[gz,gs]at k0 k1 k2;go_wp2_with fail;refine(cZ.out _ hw).mono ?_;rintro e w2 ⟨z,rfl,hz,hb2⟩;obtain rfl:z=0:=hz.2 HCk.out;have ha3:=ha2.below hb2;have hb3:=hb.below hb2;have hw3:=hw.trans (hb2.mono hw.size);clear ha ha2 hb hb2 hw hz k0 k1 k2 cZ;have k0:=hb3.cell 0;have k1:=hb3.cell 1;have k2:=hb3.cell 2;have k3:=hb3.cell 3;have k4:=hb3.cell 4;have k5:=hb3.cell 5;simp only[gz,gs]at k0 k1 k2 k3 k4 k5;go_wp2_with fail;refine(cB.out _).mono ?_;rintro e w4 ⟨rfl,hb4⟩;have ha4:=(ha3.below hb4).alloc (.cells #[x0,yy0,x1,yy1] 48);have hx4:=Bx.new (t:=48) (cs:=[.int .i64 x0,.int .i64 yy0,.int .i64 x1,.int .i64 yy1]) w4 rfl;have hw4:=hw3.trans ((hb4.trans ((bw1 w4 (.cells #[x0,yy0,x1,yy1] 48)).mono hb4.size)).mono hw3.size);clear ha3 hb3 hb4 hw3 k0 k1 k2 k3 k4 k5 cB;go_upto_region 5 with fail;generalize w4.alloc (.cells #[x0,yy0,x1,yy1] 48)=w5 at *;generalize w4.heap.size=n48 at *;have k0:=hx4.cell 0;have k1:=hx4.cell 1;have k2:=hx4.cell 2;have k3:=hx4.cell 3;simp only[gz,gs]at k0 k1 k2 k3;go_wp2_with fail;refine(cM.out _).mono ?_;rintro e w6 ⟨rfl,hb6⟩;have ha6:=(ha4.below hb6).alloc (.cells #[g.side,.bool g.up,g.line,g.lo,g.hi] 91);have hg6:=Bx.new (t:=91) (cs:=jC g) (c:=#[.int .i64 g.side,.bool g.up,.int .i64 g.line,.int .i64 g.lo,.int .i64 g.hi]) w6 rfl;have hw6:=hw4.trans ((hb6.trans ((bw1 w6 (.cells #[g.side,.bool g.up,g.line,g.lo,g.hi] 91)).mono hb6.size)).mono hw4.size);clear ha4 hx4 hb6 hw4 k0 k1 k2 k3 cM;go_upto_region 10 with fail;generalize w6.alloc (.cells #[g.side,.bool g.up,g.line,g.lo,g.hi] 91)=w7 at *;generalize w6.heap.size=nG at *;have k0:=ha6.cell 0;simp only[gz,gs]at k0;go_wp2_with fail;refine(cP.out _ hw6).mono ?_;rintro e w1 ⟨B,rfl,hBw,hMp,hb7⟩;have ha1:=ha6.below hb7;have hg1:=hg6.below hb7;have HW1:=hid (hw6.trans (hb7.mono hw6.size))
 have HPB:=hid (show ∀W,Below w1.heap.size w1 W→W.cell? ⟨w.heap.size,0,none⟩=some (.slice an p.nodes.length cn)∧W.cell? ⟨w.heap.size,1,none⟩=some (.slice aa p.arcs.length ca)∧W.cell? ⟨w.heap.size,2,none⟩=some (.slice af p.faces.length cf)from fun W h=>by
  have h2:=ha1.below h
  exact⟨h2.cell 0,h2.cell 1,h2.cell 2⟩)
 have HG:=hid (show ∀W,Below w1.heap.size w1 W→W.cell? ⟨nG,0,none⟩=some (.int .i64 g.side)∧W.cell? ⟨nG,1,none⟩=some (.bool g.up)∧W.cell? ⟨nG,2,none⟩=some (.int .i64 g.line)∧W.cell? ⟨nG,3,none⟩=some (.int .i64 g.lo)∧W.cell? ⟨nG,4,none⟩=some (.int .i64 g.hi)from fun W h=>by
  have h2:=hg1.below h
  exact⟨h2.cell 0,h2.cell 1,h2.cell 2,h2.cell 3,h2.cell 4⟩)
 have HM:=hid (show ∀W,Below w1.heap.size w1 W→cJ W B p.nodes.length (ndAt p.nodes)from fun W h=>hMp.below h);generalize ndAt p.nodes=f at *;obtain⟨_,k1,_⟩:=HPB.out w1 (Below.refl _ _);clear ha1 ha6 hg1 hg6 hMp hb7 hw6 hBw k0 cP;have HS1:=hid (dC g f p);have HS0:=hid (show exTo g f p 0=[] from rfl);have HTN:=hid (show ∀k,k=p.arcs.length→exTo g f p p.arcs.length=exTo g f p k from fun k h=>by rw[h]);generalize exTo g f p p.arcs.length=T at *;generalize exTo g f p=TT at *;go_wp2_with fail;go_loopw [8,51] (fun v i wr=>∃k:Nat,k≤p.arcs.length∧i=.int .i64 k∧Own 65 3 bc wr w1.heap.size v (TT k)∧Below w1.heap.size w1 wr∧Hid ((TT k).length≤k*200000)) (fun _ i _=>p.arcs.length-(intOf i).toNat)
 case atStart=>exact⟨0,by omega,rfl,by rw[HS0.out];exact Own.nil _ _,Below.refl _ _,hid (by rw[HS0.out];simp)⟩
 case round=>
  obtain⟨k,hk,rfl,hown,hbr,HTL⟩:=hrel
  by_cases hlt:k<p.arcs.length
  ·have hli:(k:Int)<(p.arcs.length:Int):=by omega
   obtain⟨b,off,A,c,rfl,hbl,a0,a1,a2,a3,a4,a5,_,_,_⟩:=HA.out k hlt wr (HW1.out.trans (hbr.mono HW1.out.size));have HSK:=hid (HS1.out k);have hpk:=HCk.out.pre.path hlt;rw[←HCk.out.pre.pth hlt]at hpk;have HNP:=hid (show ∀j,j<(pth p k).length→Nr (pth p k)[j]! from fun j hj=>HCk.out.pre.ok.pr k hlt j hj);have hpl:=HPL.out k;have cPk:=hid (cPa.out p.arcs[k]!.id);rw[hpk]at cPk;have hpne:pth p k≠[]:=fF hpk;generalize p.arcs[k]! = ar at *;obtain⟨arc,afr,ad,av,al,art⟩:=ar;dsimp only at a0 a1 a2 a3 a4 a5 HSK cPk;generalize pth p k=path at *;obtain⟨X0,hX0⟩:∃z,TT k=z:=⟨_,rfl⟩;rw[hX0]at hown HTL HSK;clear hX0 hpk;have hA:=Bx.new (t:=58) (cs:=[.int .i64 arc,.int .i64 afr,.int .i64 ad,.slice A av.length c,.int .i64 al,.int .i64 art]) wr rfl;have hwA:=bw1 wr (.cells #[arc,afr,ad,.slice A av.length c,al,art] 58);have hownA:=hown.alloc (.cells #[arc,afr,ad,.slice A av.length c,al,art] 58);have hbA:=hbr.trans (hwA.mono hbr.size);have HLV:=hid (show ∀j,u8.ownBlock=some j→j<wr.heap.size from fun j e=>(World.ownsRow.lt hown j e).2);clear hown hbr hwA;go_upto_region 14 with fail;generalize wr.alloc (.cells #[arc,afr,ad,.slice A av.length c,al,art] 58)=w4 at *;generalize wr.heap.size=nA at *;clear a0 a1 a2 a3 a4 a5;obtain⟨q0,q1,q2⟩:=HPB.out w4 hbA;have a0:=hA.cell 0;simp only[gz]at a0;have HB4:=hid (HW1.out.trans (hbA.mono HW1.out.size));go_wp2_with fail;refine(cPk.out _ HB4.out).mono ?_;rintro e w5 ⟨vp,rfl,hO5,hb5⟩;obtain⟨gp,cp,rfl,hgp1,hgp2⟩:=aG hO5 hpne;have hA5:=hA.below hb5;have hown5:=hownA.below hb5;have hb15:=hbA.trans (hb5.mono hbA.size);have hnA:=hA.lt
   have hcpm:path.length≤cp:=by
    rcases hO5.2 with⟨e1,_⟩|⟨g',cap',cur,e1,_,_,h3,_⟩
    ·cases e1
    ·injection e1 with _ _ e3
     omega
   have hRP:=Own.rd encR_len hO5;clear hA hownA hbA hb5 hO5 a0 q0 q1 q2 cPk HB4;obtain⟨r5,hr5⟩:∃z,u8.ownBlock=z:=⟨_,rfl⟩;have HR5:=hid hr5;rw[hr5]at HLV
   have HS5:=hid (show ∀W,w5.grownBy W r5→Below w1.heap.size w1 W∧Below w.heap.size w W∧Bx W nA 58 [arc,afr,ad,.slice A av.length c,al,art]∧RdR W (some ⟨gp,0,none⟩) path∧gp<W.heap.size from fun W h=>by
    have hne:∀q,nA≤q→r5≠some q:=fun q hq e=>by have:=HLV.out q e;omega
    have hB1:Below w1.heap.size w1 W:=hb15.grown h hb15.size (fun j hj=>by rw[←HR5.out]at hj;exact(World.ownsRow.lt hown5 j hj).1)
    exact⟨hB1,HW1.out.trans (hB1.mono HW1.out.size),hA5.grown h (hne _ (Nat.le_refl _)),hRP.keepB h.size (h.block gp hgp2 (fun e=>hne gp (by omega) e.symm)),Nat.lt_of_lt_of_le hgp2 h.size⟩)
   have HT0:=hid (show TT (k+1)=X0++(exR g f path 0 0).map (toC arc)from by rw[HSK.out,tZ]);have HGA:=hid (show(∀q,nA≤q→r5≠some q)∧nA≤gp∧gp<w5.heap.size∧nA<w5.heap.size from ⟨fun q hq e=>by have:=HLV.out q e;omega,by omega,hgp2,hA5.lt⟩);have HO5:=hid hown5;clear hA5 hb15 hRP hown5 hr5 hpne hgp1 hgp2 hnA HLV;go_wp2_with fail
   go_loopw [8,18,64] (fun v la i wq=>∃(j i':Nat) (X:List Cr),j≤i'∧i'≤path.length∧la=.int .i64 ((j:Int)-1)∧i=.int .i64 i'∧Own 65 3 bc wq w1.heap.size v X∧w5.grownBy wq r5∧Hid (v.ownBlock=r5∨∃q,v.ownBlock=some q∧w5.heap.size≤q) ∧
    Hid (TT (k+1)=X++(exR g f path j i').map (toC arc)∧X.length≤X0.length+i'∧(0<j→g.off path[j-1]!≠0))) (fun _ _ i _=>path.length-(intOf i).toNat)
   case atStart=>exact⟨0,0,X0,Nat.le_refl _,Nat.zero_le _,rfl,rfl,HO5.out,World.grownBy.refl _ _,hid (.inl HR5.out),hid ⟨HT0.out,by omega,fun h=>absurd h (Nat.lt_irrefl _)⟩⟩
   case round=>
    obtain⟨j,i,X,hji,hi,rfl,rfl,hX,hgq,HV,HT⟩:=hrel
    by_cases hlt2:i<path.length
    ·have hli2:(i:Int)<(path.length:Int):=by omega
     generalize wr=wq at *;obtain⟨hB1,hBw,hAq,hRq,hgpq⟩:=HS5.out _ hgq;obtain⟨b',o',e,_,q0,q1⟩:=RdR.get hRq (Below.refl _ _) hlt2;injection e with e;injection e with e1 e2;subst e1 e2;simp only[Nat.zero_add]at q0 q1;have cOq:=hid fun W=>jr g path[i]! W
     have HNq:=hid (HNP.out i hlt2);have HON:=hid (show g.off path[i]! = 0→exR g f path j i=exR g f path j (i+1)from fun h=>th hlt2 hji h);have HOF:=hid (show g.off path[i]!≠0→exR g f path j i=psg g f path j i++exR g f path (i+1) (i+1)from fun h=>rH hlt2 hji h HT.out.2.2);have HPS:=hid (show psg g f path j i=if 0<j∧g.off path[j-1]! = - g.off path[i]! then ev g.u g.lo g.hi f (if g.off path[i]! = 1 then 0 else 1) (if (path.take i).drop j=[] then [g.mt path[j-1]! path[i]!] else (path.take i).drop j) else [] from rfl);have HPL1:=hid (qY g f path j i);have HMT2:=hid fun P W h1 h3 h4=>HMT.out P path[i]! W h1 HNq.out h3 h4
     have HMW:=hid (show ∀P,Nr P→g.ok P path[i]!→wfP (g.mt P path[i]!)from fun P h1 h2=>tT h1 HNq.out h2);have HOK:=hid fun P (h1:g.off path[i]!≠0) (h2:g.off P=- g.off path[i]!)=>HOKE.out P path[i]! h1 h2
     obtain⟨q,hq⟩:∃z,path[i]! = z:=⟨_,rfl⟩;have H3:=hid (iL g q);obtain⟨go,hgo⟩:∃z,g.off q=z:=⟨_,rfl⟩;have HGO:=hid (show g.off path[i]! = go from by rw[hq,hgo]);rw[hq]at q0 q1 cOq HON HOF HPS HMT2 HMW HOK;rw[hgo]at cOq HON HOF HPS H3 HMT2 HOK;obtain⟨qx,qy⟩:=q;unfold ae at cOq;dsimp only at cOq q0 q1;clear hq hgo HNq;have hQ:=Bx.new (t:=30) (cs:=[.int .i64 qx,.int .i64 qy]) wq rfl;have hwQ:=bw1 wq (.cells #[qx,qy] 30);have hB17:=hB1.trans (hwQ.mono hB1.size);have hX7:=hX.alloc (.cells #[qx,qy] 30);have hg7:=bR hgq (aD hwQ);clear hB1 hBw hAq hRq hgpq hX hgq hwQ;go_upto_region 19 with fail;generalize wq.alloc (.cells #[qx,qy] 30)=w7 at *;generalize wq.heap.size=nQ at *;clear q0 q1;obtain⟨r0,r1,r2,r3,r4⟩:=HG.out w7 hB17;have q0:=hQ.cell 0;have q1:=hQ.cell 1;simp only[gz,gs]at q0 q1;go_wp2_with fail;refine(cOq.out _).mono ?_;rintro e w8 ⟨rfl,hb8⟩;have hQ8:=hQ.below hb8;have hX8:=hX7.below hb8;have hg8:=bR hg7 (aD hb8);clear hQ hX7 hg7 hb8 hB17 r0 r1 r2 r3 r4 q0 q1 cOq
     by_cases hgz:go=0
     ·subst hgz
      have HH:=hid (HON.out rfl);have HX8:=hid (And.intro hX8 hg8);clear hQ8 hX8 hg8;go_wp2_with fail;go_roundw
      case rel=>exact⟨j,i+1,X,by omega,by omega,rfl,by go_num,HX8.out.1,HX8.out.2,HV,hid ⟨by rw[HT.out.1,HH.out],by have:=HT.out.2.1;omega,HT.out.2.2⟩⟩
      case measure=>simp[intOf];omega
     have hgzb:(go==0)=false:=by simp[hgz]
     have HH:=hid (HOF.out hgz)
     have HG8:=hid (show ∀W,Below w8.heap.size w8 W→W.cell? ⟨nG,0,none⟩=some (.int .i64 g.side)∧W.cell? ⟨nG,1,none⟩=some (.bool g.up)∧W.cell? ⟨nG,2,none⟩=some (.int .i64 g.line)∧W.cell? ⟨nG,3,none⟩=some (.int .i64 g.lo)∧W.cell? ⟨nG,4,none⟩=some (.int .i64 g.hi)from fun W h=>by
      have h1:=(HS5.out _ hg8).1
      exact HG.out W (h1.trans (h.mono h1.size)))
     have HS8:=hid (show ∀W,Below w8.heap.size w8 W→Own 65 3 bc W w1.heap.size u8 X∧w5.grownBy W r5∧Bx W nQ 30 [qx,qy] from fun W h=>⟨hX8.below h,bR hg8 (aD h),hQ8.below h⟩)
     have HRR:=hid (show ∀W,Below w8.heap.size w8 W→RdR W (some ⟨gp,0,none⟩) path∧Below w1.heap.size w1 W∧Below w.heap.size w W from fun W h=>by
      have h2:=HS5.out _ (bR hg8 (aD h))
      exact⟨h2.2.2.2.1,h2.1,h2.2.1⟩)
     have HLAST:=hid (show g.off path[i+1-1]!≠0 from by rw[Nat.add_sub_cancel,HGO.out];exact hgz);have FIN:=hid (show psg g f path j i=[]→∀W,Below w8.heap.size w8 W→∃X',TT (k+1)=X'++(exR g f path (i+1) (i+1)).map (toC arc)∧X'=X from fun h W _=>⟨X,by rw[HT.out.1,HH.out,h];rfl,rfl⟩);clear hQ8 hX8 hg8 HON HOF;go_upto_region 21 with fail
     match j,hji,HT,HPS,HPL1,HH,FIN with
     | 0,hji,HT,HPS,HPL1,HH,FIN=>
      have HN:=hid (show TT (k+1)=X++(exR g f path (i+1) (i+1)).map (toC arc)from by rw[HT.out.1,HH.out,HPS.out,if_neg (by omega)];rfl);rw[show((0:Nat):Int)-1=-1 from rfl];have hS1:(fun W:World=>Below w8.heap.size w8 W) w8.drew:=(Below.refl _ _).drew;refine wp_region_held_drew (S:=(fun W:World=>Below w8.heap.size w8 W)) (by kernel_rfl) hS1 (fun hHeld=>?_);clear hHeld;generalize hwd:w8.drew=wd at *;clear hwd;refine kk 0 rfl ?_;refine kk 1 rfl ?_;refine kk 2 rfl ?_;refine ku 3 rfl ?_;refine ku 4 rfl ?_;refine ku 5 rfl ?_;refine ku 6 rfl ?_;refine ku 7 rfl ?_;refine ku 8 rfl ?_;refine ku 9 rfl ?_;refine ku 10 rfl ?_;refine ku 11 rfl ?_;refine kk 12 rfl ?_;refine wpAnyH_done (by kernel_rfl) ?_ _;have HZ:=hid (HS8.out _ hS1);clear hS1;go_wp2_with fail;go_roundw
      case rel=>exact⟨i+1,i+1,X,Nat.le_refl _,by omega,by go_num,by go_num,HZ.out.1,HZ.out.2.1,HV,hid ⟨HN.out,by have:=HT.out.2.1;omega,fun _=>HLAST.out⟩⟩
      case measure=>simp[intOf];omega
     | j+1,hji,HT,HPS,HPL1,HH,FIN=>
      rw[show((j+1:Nat):Int)-1=(j:Int) by omega];have hj1:(0:Int)≤(j:Int):=by omega
      have hj2:(j:Int)<(path.length:Int):=by omega
      have cOj:=hid fun W=>jr g path[j]! W
      have HPJ:=hid (show ∀W,Below w8.heap.size w8 W→W.cell? ⟨gp,j*2,none⟩=some (.int .i64 path[j]!.1)∧W.cell? ⟨gp,j*2+1,none⟩=some (.int .i64 path[j]!.2)from fun W h=>by
       obtain⟨b',o',e,_,q0,q1⟩:=RdR.get (HRR.out W h).1 (Below.refl _ _) (show j<path.length by omega);injection e with e;injection e with e1 e2;subst e1 e2;simp only[Nat.zero_add]at q0 q1
       exact⟨q0,q1⟩)
      have hng:=IntWalk.i64_in (-go) (by have:=H3.out;omega);obtain⟨gl,hgl⟩:∃z,g.off path[j]! = z:=⟨_,rfl⟩;have HGL:=hid hgl;rw[hgl]at cOj;clear hgl;have HMT3:=hid fun W (h:gl=- go)=>HMT2.out path[j]! W (HNP.out j (by omega)) hgz (by rw[HGL.out];exact h)
      have HMW3:=hid (show gl=- go→wfP (g.mt path[j]! (qx,qy))from fun h=>HMW.out _ (HNP.out j (by omega)) (HOK.out path[j]! hgz (by rw[HGL.out];exact h)))
      have HPS2:=hid (show psg g f path (j+1) i=if gl=- go then ev g.u g.lo g.hi f (if go=1 then 0 else 1) (if (path.take i).drop (j+1)=[] then [g.mt path[j]! (qx,qy)] else (path.take i).drop (j+1)) else [] from by
       rw[HPS.out,show j+1-1=j from rfl,HGL.out]
       by_cases h:gl=-go
       ·rw[if_pos h,if_pos ⟨by omega,h⟩]
       ·rw[if_neg h,if_neg (fun k=>h k.2)])
      clear HPS HMT2 HMW HOK;obtain⟨⟨jx,jy⟩,hpj⟩:∃z,path[j]! = z:=⟨_,rfl⟩;rw[hpj]at cOj HPJ HMT3 HMW3 HPS2;unfold ae at cOj HMT3;dsimp only at cOj HPJ;clear hpj;have hS1:(fun W:World=>Below w8.heap.size w8 W) w8.drew:=(Below.refl _ _).drew;refine wp_region_held_drew (S:=(fun W:World=>Below w8.heap.size w8 W)) (by kernel_rfl) hS1 (fun hHeld=>?_);clear hHeld;generalize hwd:w8.drew=wd at *;clear hwd;refine kk 0 rfl ?_;refine kk 1 rfl ?_;refine kk 2 rfl ?_;refine kf 3 HG8.out rfl ?_;refine kk 4 rfl ?_;refine kk 5 rfl ?_;refine kk 6 rfl ?_;refine kf 7 HPJ.out rfl ?_;refine kk 9 rfl ?_;refine kk 10 rfl ?_;refine kr 8 rfl fun K hK=>?_
      go_simp;go_at_call 69;refine(cOj.out _).mono ?_;rintro e Wrb1 ⟨rfl,hbWrb1⟩;have hSWrb1:=hS1.trans (hbWrb1.mono hS1.size)
      try clear hS1
      clear hbWrb1;go_wp2_with fail;refine hK.out _ _ hSWrb1 (fun hHeld=>?_);clear hK hHeld K
      try simp only[Act.put,sa,sz,ss]
      refine kk 11 rfl ?_;refine kk 12 rfl ?_;refine wpAnyH_done (by kernel_rfl) ?_ _;have HZ:=hid hSWrb1;clear hSWrb1;generalize Wrb1=w9 at *
      by_cases hge:gl=- go
      rotate_left
      ·have hgeb:(gl==- go)=false:=by simp[hge]
       have HN:=hid (show TT (k+1)=X++(exR g f path (i+1) (i+1)).map (toC arc)from by rw[HT.out.1,HH.out,HPS2.out,if_neg hge];rfl);have HZ2:=hid (HS8.out _ HZ.out);go_wp2_with fail;go_roundw
       case rel=>exact⟨i+1,i+1,X,Nat.le_refl _,by omega,by go_num,by go_num,HZ2.out.1,HZ2.out.2.1,HV,hid ⟨HN.out,by have:=HT.out.2.1;omega,fun _=>HLAST.out⟩⟩
       case measure=>simp[intOf];omega
      have hgeb:(gl==- go)=true:=by simp[hge]
      have HPS3:=hid (HPS2.out.trans (if_pos hge));have HMT4:=hid fun W=>HMT3.out W hge
      have HMW4:=hid (HMW3.out hge);clear HPS2 HMT3 HMW3 cOj hge;have z1:(0:Int)≤(j:Int)+1:=by omega
      have z2:(j:Int)+1≤(i:Int):=by omega
      have z3:(i:Int)≤(cp:Int):=by omega
      have z4:=IntWalk.i64_in ((j:Int)+1) (by omega);go_upto_region 23 with fail;rw[hgeb];clear hgeb;obtain⟨rn,hrn⟩:∃z,i-(j+1)=z:=⟨_,rfl⟩;obtain⟨run,hrun⟩:∃z,(path.take i).drop (j+1)=z:=⟨_,rfl⟩;have hrl:run.length=rn:=by rw[←hrun,List.length_drop,List.length_take];omega
      have HRD:=hid (show ∀W,Below w8.heap.size w8 W→RdR W (some ⟨gp,(j+1)*2,none⟩) run from fun W h=>by rw[←hrun];exact s6 (HRR.out W h).1 (j+1) i)
      have HRM:=hid (show ∀P∈run,Nr P from fun P hP=>by
       rw[←hrun]at hP;have h1:=List.mem_of_mem_take (List.mem_of_mem_drop hP);obtain⟨k,hk,e⟩:=aw h1
       rw[←e];exact HNP.out k hk)
      rw[hrun]at HPS3;rw[hrn];obtain⟨run2,hrun2⟩:∃z,(if run=[] then [g.mt (jx,jy) (qx,qy)] else run)=z:=⟨_,rfl⟩;rw[hrun2]at HPS3;obtain⟨⟨mx,my⟩,hmxy⟩:∃z,g.mt (jx,jy) (qx,qy)=z:=⟨_,rfl⟩;rw[hmxy]at hrun2 HMT4 HMW4;unfold egE at HMT4;dsimp only at HMT4;have HR2:=hid hrun2
      have HRW:=hid (show ∀P∈run2,wfP P from fun P hP=>by
       rw[←hrun2]at hP;split at hP
       ·rw[List.mem_singleton.1 hP];exact HMW4.out
       ·exact jb (HRM.out P hP))
      have HRL2:=hid (show run2.length≤1000000 from by
       rw[←hrun2];split
       ·simp
       ·omega)
      have HVG:=hid (show u8.ownBlock≠some gp from fun e=>by
       rcases HV.out with h|⟨q,h,hq⟩
       ·exact HGA.out.1 gp HGA.out.2.1 (h▸e)
       ·rw[h]at e
        have e:q=gp:=(by injection e);have:=HGA.out.2.2.1
        omega)
      have HVW:=hid (show ∀q,u8.ownBlock=some q→q<w9.heap.size from fun q e=>(World.ownsRow.lt (HS8.out _ HZ.out).1 q e).2);clear hrn hrun hrun2 hmxy z1 z2 z3 z4;go_upto_if 94 with fail;go_cut [22] from 93 to 102 (fun v22 wx=>∃Ar cr,v22=.slice Ar run2.length cr∧RdR wx Ar run2∧Below w8.heap.size w8 wx∧Hid (∀a,Ar=some a→u8.ownBlock≠some a.block)∧Hid (∀q,u8.ownBlock=some q→q<wx.heap.size))
      case first=>
       by_cases h0:rn=0
       rotate_left
       ·have h0b:((rn:Int)==0)=false:=by simp[h0]
        obtain rfl:run2=run:=by
         rw[←HR2.out,if_neg (fun e=>by subst e;exact h0 (by simpa using hrl.symm))]
        clear HR2;go_wp2_with fail;go_meet;exact⟨_,_,by rw[hrl],HRD.out _ HZ.out,HZ.out,hid (fun a e=>by injection e with e;rw[←e];exact HVG.out),HVW⟩
       ·obtain rfl:run=[]:=List.length_eq_zero_iff.1 (by omega)
        obtain rfl:run2=[(mx,my)]:=by rw[←HR2.out,if_pos rfl]
        have h0b:((rn:Int)==0)=true:=by simp[h0]
        clear HR2 hrl h0;go_upto_region 24 with fail;have hS1:(fun W:World=>Below w9.heap.size w9 W) w9.drew:=(Below.refl _ _).drew;refine wp_region_held_drew (S:=(fun W:World=>Below w9.heap.size w9 W)) (by kernel_rfl) hS1 (fun hHeld=>?_);clear hHeld;generalize hwd:w9.drew=wd at *;clear hwd;refine kf 0 (fun W h=>HG8.out W (HZ.out.trans (h.mono HZ.out.size))) rfl ?_;refine kk 1 rfl ?_;refine kk 2 rfl ?_;refine kk 3 rfl ?_;refine kf 4 (fun W h=>HPJ.out W (HZ.out.trans (h.mono HZ.out.size))) rfl ?_;refine kk 5 (hy:=by intro W hSw;have d0:=(HS8.out W (HZ.out.trans (hSw.mono HZ.out.size))).2.2.cell 0;have d1:=(HS8.out W (HZ.out.trans (hSw.mono HZ.out.size))).2.2.cell 1;simp only[gz,gs]at d0 d1;clear hSw;go_simp;try with_reducible rfl) rfl ?_
        refine kr 6 rfl fun K hK=>?_
        go_simp;go_at_call 70;refine(HMT4.out _).mono ?_;rintro e Wrc1 ⟨rfl,hbWrc1⟩;have hSWrc1:=hS1.trans (hbWrc1.mono hS1.size)
        try clear hS1
        clear hbWrc1;go_wp2_with fail;refine hK.out _ _ hSWrc1 (fun hHeld=>?_);clear hK hHeld K
        try simp only[Act.put,sa,sz,ss]
        refine kr 7 rfl fun K hK=>?_
        go_simp;have hlit:=jm Wrc1 (mx,my) (base:=w9.heap.size) hSWrc1.size;have hSWrc2:=hSWrc1.alloc hSWrc1.size (.cells #[mx,my] 30);refine hK.out _ _ hSWrc2 (fun hHeld=>?_);clear hK hHeld K
        try clear hSWrc1
        try simp only[Act.put,sa,sz,ss]
        generalize (Wrc1.alloc (.cells #[mx,my] 30))=Wrc2 at hlit hSWrc2 ⊢;generalize Value.slice (some ⟨Wrc1.heap.size,0,none⟩) 1 1=vlit at hlit ⊢;refine kk 8 rfl ?_;refine wpAnyH_done (by kernel_rfl) ?_ _;have HLI:=hid hlit;have HBL:=hid (HZ.out.trans (hSWrc2.mono HZ.out.size));have HLW:=hid hSWrc2.size;obtain⟨A9,c9,rfl⟩:=Own.slice hlit;clear hlit hSWrc2;go_wp2_with fail;go_meet
        exact⟨A9,c9,rfl,Own.rd encR_len HLI.out,HBL.out,hid (fun a e=>fun e2=>by
         subst e;have h1:=HVW.out _ e2
         rcases HLI.out.2 with⟨h,_⟩|⟨g',cap',cur,h,h2,_⟩
         ·cases h
         ·injection h with h
          injection h with h;subst h;dsimp only at h1
          omega),hid (fun q e=>Nat.lt_of_lt_of_le (HVW.out q e) HLW.out)⟩
      case rest=>
       obtain⟨Ar,cr,rfl,hRr,hb10,HAR,HVX⟩:=hcut;generalize wc=w10 at *;have HB10:=hid hb10;have HRr:=hid hRr;obtain⟨r0,r1,r2,r3,r4⟩:=HG8.out w10 hb10;have cO:=hid (jq g f Ar cr run2 B p.nodes.length w10 hRr (by have:=HRL2.out;omega) (HM.out w10 (HRR.out w10 hb10).2.1) HRW.out);unfold egE at cO;clear hb10 hRr HRD HMT4 HMW4 HZ;go_wp2_with fail;refine cO.out.mono ?_;rintro e w11 ⟨rfl,hb11⟩;have HB11:=hid (HB10.out.trans (hb11.mono HB10.out.size));have HRr11:=hid (HRr.out.below hb11);have HVY:=hid (show ∀q,u8.ownBlock=some q→q<w11.heap.size from fun q e=>Nat.lt_of_lt_of_le (HVX.out q e) hb11.size);obtain⟨oo,hoo⟩:∃z,(if go=1 then 0 else 1:Int)=z:=⟨_,rfl⟩;rw[hoo]at HPS3;have HCR:=hid (show(psg g f path (j+1) i).map (toC arc)=if openB g f run2=true then [(g.u run2[run2.length-1]!,arc,oo)] else [] from by rw[HPS3.out];exact(lR g f arc oo run2).symm);have HO0:=hid (show openB g f run2=true→run2≠[] from fun h e=>by subst e;cases h);generalize openB g f run2=ob at *;clear r0 r1 r2 r3 r4 hb11 cO;go_upto_if 106 with fail;obtain⟨hX11,hg11,_⟩:=HS8.out _ HB11.out;have HG11:=hid hg11;cases ob
       ·have HN:=hid (show TT (k+1)=X++(exR g f path (i+1) (i+1)).map (toC arc)from by rw[HT.out.1,HH.out,List.map_append,HCR.out];rfl)
        clear hg11;go_wp2_with fail;go_roundw
        case rel=>exact⟨i+1,i+1,X,Nat.le_refl _,by omega,by go_num,by go_num,hX11,HG11.out,HV,hid ⟨HN.out,by have:=HT.out.2.1;omega,fun _=>HLAST.out⟩⟩
        case measure=>simp[intOf];omega
       ·have h0:=HO0.out rfl
        have hru:=List.length_pos_iff.2 h0;obtain⟨m,hm'⟩:∃m,run2.length=m+1:=⟨run2.length-1,by omega⟩;have hRd:=HRr11.out;obtain⟨br,of,rfl,hbr2,_,_⟩:=RdR.get hRd (Below.refl _ _) hru;have hrv:∀q,u8.ownBlock=some q→q≠br:=fun q e h=>HAR.out _ rfl (h▸e)
        have HST:=hid (show ∀W,w11.grownBy W u8.ownBlock→w5.grownBy W r5 from fun W h=>oh hg11 HV.out h)
        have HLD:=hid (show ∀W,w11.grownBy W u8.ownBlock→W.cell? ⟨br,of+m*2,none⟩=some (.int .i64 run2[m]!.1)∧W.cell? ⟨br,of+m*2+1,none⟩=some (.int .i64 run2[m]!.2)from fun W h=>by
         obtain⟨b',o',e,_,q0,q1⟩:=RdR.get (hRd.keepB h.size (h.block br hbr2 (fun e=>hrv br e.symm rfl))) (Below.refl _ _) (show m<run2.length by omega);injection e with e;injection e with e1 e2;subst e1 e2
         exact⟨q0,q1⟩)
        have hlast:run2[run2.length-1]! = run2[m]!:=by rw[hm'];rfl
        have hR0:(psg g f path (j+1) i).map (toC arc)=[(g.u run2[run2.length-1]!,arc,oo)]:=HCR.out;obtain⟨pl,hpl⟩:∃z,run2[m]! = z:=⟨_,rfl⟩;rw[hpl]at HLD;rw[hlast,hpl]at hR0;have cL:=hid fun W=>fN g pl W
        unfold egE at cL;obtain⟨plx,ply⟩:=pl;unfold ae at cL;dsimp only at HLD cL;have hw1:(run2.length:Int)-1=(m:Int):=by omega
        have hw2:=IntWalk.i64_in ((run2.length:Int)-1) (by have:=HRL2.out;omega);rw[hw1]at hw2;have hw3:(m:Int)<(run2.length:Int):=by omega
        have hw4:(0:Int)≤(m:Int):=by omega
        obtain⟨uu,huu⟩:∃z,g.u (plx,ply)=z:=⟨_,rfl⟩;rw[huu]at cL hR0;have hd1:=IntWalk.i64_in (1-go) (by have:=H3.out;omega)
        have hd2:(1-go).tdiv 2=oo:=by
         rw[←hoo]
         rcases H3.out with h|h|h
         ·exact absurd h hgz
         ·subst h;rfl
         ·subst h;rfl
        have hd3:=IntWalk.i64_in oo (by rw[←hoo];split<;>omega)
        have HN:=hid (show TT (k+1)=(X++[(uu,arc,oo)])++(exR g f path (i+1) (i+1)).map (toC arc)from by rw[HT.out.1,HH.out,List.map_append,hR0,List.append_assoc]);have hN:X.length+1≤1000000000000:=by have:=HT.out.2.1;have:=HTL.out;omega
        have HXN:=hid hN;clear hpl hlast hm' huu h0 hru hR0 hoo hRd hbr2 hrv hg11;go_upto_region 26 with fail;have hS1:(fun W:World=>w11.grownBy W u8.ownBlock) w11.drew:=bR (World.grownBy.refl w11 _) (aD (Below.refl _ _).drew);refine wp_region_held_drew (S:=(fun W:World=>w11.grownBy W u8.ownBlock)) (by kernel_rfl) hS1 (fun hHeld=>?_);clear hHeld;have hown:Own 65 3 bc w11.drew w1.heap.size u8 X:=hX11;clear hX11;generalize hwd:w11.drew=wd at *;clear hwd;refine kk 0 rfl ?_;refine kf 1 (fun W h=>HG.out W (HS5.out W (HST.out W h)).1) rfl ?_;refine kk 2 rfl ?_;refine kk 3 rfl ?_;refine kk 4 rfl ?_;refine kk 5 rfl ?_;refine kk 6 rfl ?_;refine kf 7 HLD.out rfl ?_;refine kk 9 rfl ?_;refine kk 10 (hy:=by intro W hSw;have d0:=(HS5.out W (HST.out W hSw)).2.2.1.cell 0;simp only[gz]at d0;clear hSw;go_simp;try with_reducible rfl) rfl ?_
        refine kk 11 rfl ?_;refine kk 12 rfl ?_;refine kk 13 rfl ?_;refine kr 8 rfl fun K hK=>?_
        go_simp;go_at_call 37;refine(cL.out _).mono ?_;rintro e Wrd1 ⟨rfl,hbWrd1⟩;replace hown:=hown.below hbWrd1;have hSWrd1:=bR hS1 (aD hbWrd1)
        try clear hS1
        clear hbWrd1;go_wp2_with fail;refine hK.out _ _ hSWrd1 (fun hHeld=>?_);clear hK hHeld K
        try simp only[Act.put,sa,sz,ss]
        refine kk 14 rfl ?_;refine kr 15 rfl fun K hK=>?_
        go_simp;have hSl15rd:=bR hSWrd1 (World.grownBy_alloc Wrd1 (.cells #[uu,arc,oo] 65) none);refine hK.out _ _ hSl15rd (fun hHeld=>?_);clear hK hHeld K
        try simp only[Act.put,sa,sz,ss]
        refine kr 16 rfl fun K hK=>?_
        have hbz:=(HS5.out _ (HST.out _ hSWrd1)).1.size;refine wp_step rfl (Tryz.wpX hown (uu,arc,oo) _ _ rfl rfl rfl hN hbz ?_);intro v9 Wrd2 hO9 hg9 hl9;have hSWrd2:(fun W:World=>w11.grownBy W u8.ownBlock) Wrd2:=p8 hSWrd1 hg9;have HP9:=hid hSWrd1.size;clear hSWrd1 hown;refine hK.out _ _ hSWrd2 (fun hHeld=>?_);clear hK hHeld K
        try simp only[Act.put,sa,sz,ss]
        refine kk 17 rfl ?_;refine wpAnyH_done (by kernel_rfl) ?_ _;have HO9:=hid hO9;have HS9:=hid (HST.out _ hSWrd2)
        have HV9:=hid (show v9.ownBlock=r5∨∃q,v9.ownBlock=some q∧w5.heap.size≤q from by
         rcases hl9 with h|⟨q,h,hq⟩
         ·rw[h];exact HV.out
         ·exact .inr ⟨q,h,by have:=HP9.out;have:=HG11.out.size;omega⟩)
        clear hO9 hg9 hl9 hSWrd2;go_wp2_with fail;go_roundw
        case rel=>exact⟨i+1,i+1,_,Nat.le_refl _,by omega,by go_num,by go_num,HO9.out,HS9.out,HV9,hid ⟨HN.out,by have:=HT.out.2.1;rw[List.length_append,List.length_singleton];omega,fun _=>HLAST.out⟩⟩
        case measure=>simp[intOf];omega
    ·obtain rfl:i=path.length:=by omega
     have hge:¬(path.length:Int)<(path.length:Int):=by omega
     have HXX:=hid (show TT (k+1)=X from by rw[HT.out.1,rI];simp);have HXL:=hid (show(TT (k+1)).length≤(k+1)*200000 from by rw[HXX.out];have:=HT.out.2.1;have:=HTL.out;omega);have HBX:=hid (HS5.out _ hgq).1;clear hgq;go_wp2_with fail;go_roundw
     case rel=>exact⟨k+1,by omega,by go_num,by rw[HXX.out];exact hX,HBX.out,HXL⟩
     case measure=>simp[intOf];omega
  ·obtain rfl:k=p.arcs.length:=by omega
   have hge:¬(p.arcs.length:Int)<(p.arcs.length:Int):=by omega
   have HB:=hid (HW1.out.trans (hbr.mono HW1.out.size));have hso:=ie _ wr w1.heap.size _ hown (by have:=HTL.out;omega);have HLT:=hid (World.ownsRow.lt hown);rw[←HTN.out _ rfl]at hso;clear hown hbr;go_wp2_with fail;refine hso.mono ?_;rintro e w9 ⟨rfl,L,hp,hs,ho,hg⟩;have HO:=hid (ho.mono HW1.out.size);have HPS:=hid (And.intro hp hs);have HB9:=hid (HB.out.grown hg (by have:=HB.out.size;exact this) (fun j hj=>by have:=HLT.out j hj;have:=HW1.out.size;omega));clear ho hp hs hg;go_wp2_with fail;go_ret2;exact⟨_,L,rfl,HPS.out.1,HPS.out.2,HO.out,HB9.out⟩
end Go.Proofs
