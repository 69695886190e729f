/- Lemmas and walks; no statement of a law is proved here. -/
import Derived.Test.YtaglmdebikglgaaGreatDoorX18
set_option linter.unusedVariables false
set_option linter.unusedSimpArgs false
set_option maxRecDepth 100000
set_option maxHeartbeats 8000000
open Go.Lib
namespace Go.Proofs
open Go.RowKit Go.Proofs.Mp Go.Lib
theorem rz(L:List AV)(p:Pn)(h:∀y∈L,y.1.via.length≤100000∧eO p y.1.lf∧eO p y.1.rt){N:List Nd}{F:List Int}(hp:LRw p):(∀i,i<(L.map Prod.fst).length→((L.map Prod.fst)[i]!).via.length≤100000)∧LRw (pnO N L F):=by
 have e:∀i,i<(L.map Prod.fst).length→((L.map Prod.fst)[i]!).via.length≤100000∧eO p ((L.map Prod.fst)[i]!).lf∧eO p ((L.map Prod.fst)[i]!).rt:=fun i hi=>by
  have hi:i<L.length:=by simpa using hi
  rw[aN Prod.fst hi];exact h _ (ak hi)
 refine⟨fun i hi=>(e i hi).1,fun z hz=>?_⟩
 rcases hz with rfl|⟨i,hi,h1|h1⟩
 ·exact hp 0 (.inl rfl)
 ·subst h1;exact hp _ (e i hi).2.1
 ·subst h1;exact hp _ (e i hi).2.2
theorem qF(p:Pn)(m:Mem)(k lo la sc:Int)(w:World)(hR:PlR w p m)(hLR:LRw p):Calls Tryz.prog 6 #[plV p m,prV k lo la sc] w (sw w):=by
 have cK:=hid fun W (hb:Below w.heap.size w W)=>gR p m W (hR.below hb) hLR
 have cP:=hid fun W=>jV k lo la sc W
 have cF:=hid fun W (hb:Below w.heap.size w W)=>mF m.af m.cf p.faces W (by have:=hR.few.f;omega) (hR.fc.below hb)
 have cS:=hid fun v l W hl h=>mO k lo la sc v l W hl h
 have cT:=hid fun v l a b c d W hl h=>qD v l a b c d W hl h
 have cE:=hid fun q mq W (hb:Below w.heap.size w W) hQ hLQ=>oR p q m mq W (hR.below hb) hLR hQ hLQ
 have HND:=hid fun (j:Nat) (hj:j<p.nodes.length) W hb=>hR.node (W:=W) hb hj
 have HAR:=hid fun (j:Nat) (hj:j<p.arcs.length) W hb=>hR.arc (W:=W) hb hj
 have HFew:=hid hR.few;have HLR:=hid hLR;have hplV:plV p m=.agg #[.slice m.an p.nodes.length m.cn,.slice m.aa p.arcs.length m.ca,.slice m.af p.faces.length m.cf]:=rfl;rw[hplV]at cK cE ⊢;clear hR hplV hLR;obtain⟨an,aa,af,cn,ca,cf,mvs⟩:=m;dsimp only at *;unfold prV at *
 have hA0:PwA w (((w.alloc (.cells #[.slice an p.nodes.length cn,.slice aa p.arcs.length ca,.slice af p.faces.length cf] 26)).alloc (.cells #[k,lo,la,sc] 28)).alloc (.cells #[.slice none 0 0,.slice none 0 0,.slice none 0 0] 26)) w.heap.size [.slice an p.nodes.length cn,.slice aa p.arcs.length ca,.slice af p.faces.length cf] [.int .i64 k,.int .i64 lo,.int .i64 la,.int .i64 sc]:=
  ⟨rfl,((bw1 _ _).alloc (by simp) _).alloc (by simp;omega) _,((Bx.new w rfl).alloc _).alloc _,(Bx.newAt _ (by simp) rfl).alloc _,Bx.newAt _ (by simp) rfl⟩
 have HA0:=hid hA0;clear hA0;obtain⟨s,hs⟩:∃n,w.heap.size=n:=⟨_,rfl⟩;have HSz:=hid hs;rw[hs]at HA0 HND HAR cK cF cE;go_enter Tryz.func6,Tryz.ntmps6;go_upto_region 1 with fail;rw[show s+1+1=s+2 from rfl];clear hs;generalize ((w.alloc (.cells #[.slice an p.nodes.length cn,.slice aa p.arcs.length ca,.slice af p.faces.length cf] 26)).alloc (.cells #[k,lo,la,sc] 28)).alloc (.cells #[.slice none 0 0,.slice none 0 0,.slice none 0 0] 26)=w0 at *;obtain⟨x0,x1,x2⟩:=HA0.out.p.c3;go_wp2_with fail;refine(cK.out _ HA0.out.b).mono ?_;rintro e w1 ⟨n,rfl,hCk,hb1⟩;have HA1:=hid (HA0.out.below hb1);clear x0 x1 x2 hb1 HA0;obtain⟨y0,hy0⟩:∃y,(n==0)=y:=⟨_,rfl⟩;cases y0
 ·have HNE:=hid (show n≠0 by simpa using hy0)
  obtain⟨z0,z1,z2⟩:=(HA1.out).o.c3;have g0:=(HA1.out).o.frozen 0;have g1:=(HA1.out).o.frozen 1;have g2:=(HA1.out).o.frozen 2;have g4:=(HA1.out).o.lt;go_wp2_with fail;rw[ac z0,ac z1,ac z2];refine bodyPost_ret (v:=.tuple #[.agg #[.slice none 0 0,.slice none 0 0,.slice none 0 0],.int .i64 n]) (by simp[results,Tryz.results6,go_sem,z0,z1,z2]) rfl ?_;exact(HA1.out).fail HNE.out
 obtain rfl:n=0:=by simpa using hy0
 clear hy0;have HC:=hid (hCk rfl);clear hCk;obtain⟨x0,x1,x2,x3⟩:=HA1.out.r.c4;go_wp2_with fail;refine(cP.out _).mono ?_;rintro e w2 ⟨n,rfl,hb2⟩;have HA2:=hid (HA1.out.below hb2);clear x0 x1 x2 x3 hb2 HA1;obtain⟨y0,hy0⟩:∃y,(n==0)=y:=⟨_,rfl⟩;cases y0
 ·have HNE:=hid (show n≠0 by simpa using hy0)
  obtain⟨z0,z1,z2⟩:=(HA2.out).o.c3;have g0:=(HA2.out).o.frozen 0;have g1:=(HA2.out).o.frozen 1;have g2:=(HA2.out).o.frozen 2;have g4:=(HA2.out).o.lt;go_wp2_with fail;rw[ac z0,ac z1,ac z2];refine bodyPost_ret (v:=.tuple #[.agg #[.slice none 0 0,.slice none 0 0,.slice none 0 0],.int .i64 n]) (by simp[results,Tryz.results6,go_sem,z0,z1,z2]) rfl ?_;exact(HA2.out).fail HNE.out
 obtain rfl:n=0:=by simpa using hy0
 clear hy0;obtain⟨x0,x1,x2⟩:=HA2.out.p.c3;go_wp2_with fail;refine(cF.out _ HA2.out.b).mono ?_;rintro e w3 ⟨vf,rfl,hoF,hb3⟩;obtain⟨Af,cg,rfl⟩:=Own.slice hoF;have HS3:=hid (PwS.start (HA2.out.below hb3) hoF HA2.out.o.lt hb3.size);clear x0 x1 x2 hoF hb3 HA2;have hmm:=@run_makeMap Tryz.prog;go_upto_region 9 with fail;clear hmm;generalize (w3.alloc (.cells #[.slice none 0 0,.slice none 0 0,.slice Af p.faces.length cg] 26)).alloc (.map #[] 0)=w4 at *;generalize w3.heap.size=nq at *;obtain⟨x0,x1,x2⟩:=HS3.out.k.a.p.c3;go_wp2_with fail;clear x0 x1 x2;have HIDN:=hid (show ∀j,j<p.nodes.length→(Lit.int .i64 p.nodes[j]!.1).wf=true from fun j hj=>HC.out.pre.idw ⟨p.nodes[j]!.2,ak hj⟩);have HIDA:=hid (show ∀j,j<p.arcs.length→(Lit.int .i64 p.arcs[j]!.frm).wf=true∧(Lit.int .i64 p.arcs[j]!.dst).wf=true from fun j hj=>⟨HC.out.pre.idw (HC.out.pre.ends hj).1,HC.out.pre.idw (HC.out.pre.ends hj).2⟩);have HLV:=hid (show ∀j,j<p.arcs.length→p.arcs[j]!.via.length≤64∧eO p p.arcs[j]!.lf∧eO p p.arcs[j]!.rt from fun j hj=>⟨HC.out.lv j hj,.inr ⟨j,hj,.inl rfl⟩,.inr ⟨j,hj,.inr rfl⟩⟩);have hnl:=HC.out.l1;have hal:=HC.out.l2;go_loopw [5,9,10,11,36] (fun ee _ _ _ i wr=>∃(j:Nat) (vn:Value) (N:List Nd) (f:Int→Option Value),j≤p.nodes.length∧i=.int .i64 j∧ee=.int .i64 0∧Hid (N.length=j)∧Hid (PwS w wr s nq [.slice an p.nodes.length cn,.slice aa p.arcs.length ca,.slice af p.faces.length cf] [.int .i64 k,.int .i64 lo,.int .i64 la,.int .i64 sc] vn (.slice none 0 0) (.slice Af p.faces.length cg) N [] p.faces f j)) (fun _ _ _ _ i _=>p.nodes.length-(intOf i).toNat)
 case atStart=>exact⟨0,_,[],_,by omega,rfl,rfl,hid rfl,HS3⟩
 case round=>
  clear HS3;obtain⟨j,vn,N,f,hj,rfl,rfl,HNL,HS⟩:=hrel
  by_cases hlt:j<p.nodes.length
  ·have hli:(j:Int)<(p.nodes.length:Int):=by omega
   obtain⟨b,off,rfl,hbl,c0,c1,c2⟩:=HND.out j hlt wr HS.out.k.a.b;have hidw:=HIDN.out j hlt;generalize p.nodes[j]! = nd at *;obtain⟨ni,nx,ny⟩:=nd;dsimp only at c0 c1 c2 hidw;have HJL:=hid hlt;have hB:=Bx.new (t:=71) (cs:=[.int .i64 ni,.int .i64 nx,.int .i64 ny]) wr rfl;have HS4:=hid (HS.out.below (bw1 wr (.cells #[ni,nx,ny] 71)));have HNB:=hid (And.intro HS.out.k.z (show ∀g,vn.ownBlock=some g→g<wr.heap.size from fun g e=>(HS.out.d.lt 0 g e).2));clear HS hlt;go_upto_region 12 with fail;clear c0 c1 c2;generalize wr.alloc (.cells #[ni,nx,ny] 71)=w5 at *;generalize wr.heap.size=nb at *;have hsp:=qO w5 nx ny;have hwp:=bw1 w5 (.cells #[nx,ny] 30);obtain⟨x0,x1,x2,x3⟩:=HS4.out.k.a.r.c4;obtain⟨c0,c1,c2⟩:=hB.c3;have HBX:=hid hB;have HSP:=hid hsp;have HWP:=hid hwp;clear hsp hwp hB;go_wp2_with fail;refine(cS.out _ _ _ (by simp) HSP.out).mono ?_;rintro e w6 ⟨v,l,n,rfl,hO,hll,hb6⟩;obtain⟨Av,cv,rfl⟩:=Own.slice hO;have hb7:=HWP.out.trans (hb6.mono HWP.out.size);have HS6:=hid (HS4.out.below hb7);have HB6:=hid (HBX.out.below hb7);have HO6:=hid hO;have HZ6:=hid (show nb<(w5.alloc (.cells #[nx,ny] 30)).heap.size from Nat.lt_of_lt_of_le HBX.out.lt HWP.out.size);clear x0 x1 x2 x3 c0 c1 c2 hb6 hb7 HS4 HBX HSP HWP hO;obtain⟨y0,hy0⟩:∃y,(n==0)=y:=⟨_,rfl⟩;cases y0
   ·have HNE:=hid (show n≠0 by simpa using hy0)
    obtain⟨z0,z1,z2⟩:=(HS6.out.k.a).o.c3;have g0:=(HS6.out.k.a).o.frozen 0;have g1:=(HS6.out.k.a).o.frozen 1;have g2:=(HS6.out.k.a).o.frozen 2;have g4:=(HS6.out.k.a).o.lt;go_wp2_with fail;rw[ac z0,ac z1,ac z2];refine bodyPost_ret (v:=.tuple #[.agg #[.slice none 0 0,.slice none 0 0,.slice none 0 0],.int .i64 n]) (by simp[results,Tryz.results6,go_sem,z0,z1,z2]) rfl ?_;exact(HS6.out.k.a).fail HNE.out
   obtain rfl:n=0:=by simpa using hy0
   clear hy0;have hl1:=hll rfl
   obtain⟨⟨u,t⟩,rfl⟩:∃q:Pt,l=[q]:=by
    match l,hl1 with
    | [q],_=>exact⟨q,rfl⟩
   clear hll hl1;obtain⟨b2,o2,rfl,hbl2,hcc⟩:=Rd.get (Own.rd encR_len HO6.out) (Below.refl _ _) (j:=0) (by simp);have d0:=hcc 0 (by simp) 0 _ rfl;have d1:=hcc 0 (by simp) 1 _ rfl;have hb2:=(World.ownsRow.lt HO6.out b2 rfl).1;clear hcc;simp only[Nat.zero_mul,Nat.add_zero]at d0 d1;change w6.cell? ⟨b2,o2,none⟩=some (.int .i64 u)at d0;change w6.cell? ⟨b2,o2+1,none⟩=some (.int .i64 t)at d1;have HPQ:=hid (show Pq nb b2 o2 ni u t w6 from ⟨HB6.out.c3.1,d0,d1,HB6.out.lt,hbl2⟩);have HNE:=hid (show nq+2≤nb∧nb<b2 from by have:=HNB.out.1;have:=HZ6.out;exact⟨by omega,by omega⟩);have hN:N.length+1≤1000000000:=by have:=HNL.out;omega
   have HLN:=hid (show(N++[(ni,u,t)]).length=j+1 by simp[HNL.out]);have HNR:=hid (show ∀g,nb≤g→vn.ownBlock≠some g from fun g h e=>by have:=HNB.out.2 g e;omega);have HID1:=hid hidw;have hj1:j≤256:=by omega
   obtain⟨A2,c2,rfl⟩:=Own.slice HS6.out.d.nd;clear d0 d1 hbl2 hb2 HB6 HZ6 HO6 HNB hidw;go_upto_region 15 with fail;have hS1:=HPQ.out.below (Below.refl _ _).drew;have HS7:=hid (HS6.out.below (Below.refl _ _).drew);clear HS6 HPQ;refine wp_region_held_drew (S:=Pq nb b2 o2 ni u t) (by kernel_rfl) hS1 (fun hHeld=>?_);clear hHeld;generalize w6.drew=wd at *;refine kk 0 rfl ?_;refine kk 1 rfl ?_;refine kf 2 (fun W h=>h.1) rfl ?_;refine kk 3 rfl ?_;refine kk 4 rfl ?_;refine kf 5 (fun W h=>And.intro (h.2.1) (h.2.2.1)) rfl ?_;refine kr 6 rfl fun K hK=>?_
   refine wp_step rfl (MapV.wpStore HS7.out.m _ _ _ rfl Tryz.underlying69 Tryz.underlying3 rfl ni (.agg #[u,t]) rfl rfl HID1.out (M:=j+1) (.inr (Nat.le_refl _)) (by unfold maxLen;omega) ?_);intro w7 hM7 hg7;have HS8:=hid (HS7.out.mark hM7 hg7);have hS2:=hS1.grown hg7 (fun e=>by injection e;have:=HNE.out;omega) (fun e=>by injection e;have:=HNE.out;omega);clear hM7 hg7 HS7 hS1;have HPQ:=hid hS2;refine hK.out _ _ hS2 (fun hHeld=>?_);clear hK hHeld K
   try simp only[Act.put,sa,sz,ss]
   refine wpAnyH_done (by kernel_rfl) ?_ _;clear hS2;go_upto_region 16 with fail;have hS1:=HPQ.out.below (Below.refl _ _).drew;have HS9:=hid (HS8.out.below (Below.refl _ _).drew);clear HS8 HPQ;refine wp_region_held_drew (S:=Pq nb b2 o2 ni u t) (by kernel_rfl) hS1 (fun hHeld=>?_);clear hHeld;generalize w7.drew=wd at *;refine kk 0 rfl ?_;refine kk 2 rfl ?_;refine kf 3 (fun W h=>h.1) rfl ?_;refine kk 4 rfl ?_;refine kk 5 rfl ?_;refine kf 6 (fun W h=>And.intro (h.2.1) (h.2.2.1)) rfl ?_;refine kk 7 rfl ?_;have hS2:=hS1.below (bw1 wd (.cells #[ni,u,t] 71));refine wpAnyH_ready (rs:=[1,8]) (by kernel_rfl) (by simp) ?_;refine AllReadyH.cons (o:=⟨some 59,_,_,_,_,_⟩) rfl (fun K hK=>?_) ?_
   ·obtain⟨q0,_,_⟩:=HS9.out.q.c3
    go_simp;clear q0;refine hK.out _ _ hS1 (fun hHeld=>?_);clear hK hHeld K
    try simp only[Act.put,sa,sz,ss]
    refine kr 8 rfl fun K hK=>?_
    go_simp;refine hK.out _ _ hS2 (fun hHeld=>?_);clear hK hHeld K
    try simp only[Act.put,sa,sz,ss]
    refine kr 9 rfl fun K hK=>?_
    refine wp_step rfl (Tryz.wpNd HS9.out.d.nd (ni,u,t) _ _ rfl rfl rfl hN HS9.out.k.z ?_);intro v9 w9 hO9 hg9 hl9;have hS3:=hS1.grown hg9 (fun e=>HNR.out nb (Nat.le_refl _) e) (fun e=>HNR.out b2 (by have:=HNE.out;omega) e);obtain⟨A9,c9,rfl⟩:=Own.slice hO9;have hz9:=HS9.out.node hO9 hg9 hl9;rw[show(N++[(ni,u,t)]).length=N.length+1 by simp]at hz9 ⊢;have hS4:=hS3.cell (q:=nq) (by have:=HNE.out;omega) (by have:=HNE.out;omega) 0 (.slice A9 (N.length+1) c9);obtain⟨k0,k1,k2⟩:=hz9.1.c3;have k3:=hz9.1.frozen 0;have k4:=hz9.1.lt;have HSA:=hid hz9.2;clear hO9 hg9 hl9 hz9 HS9;refine hK.out _ _ hS3 (fun hHeld=>?_);clear hK hHeld K
    try simp only[Act.put,sa,sz,ss]
    refine kk 10 rfl ?_;refine kr 11 rfl fun K hK=>?_
    go_simp;clear k0 k1 k2 k3 k4;refine hK.out _ _ hS4 (fun hHeld=>?_);clear hK hHeld K
    try simp only[Act.put,sa,sz,ss]
    refine wpAnyH_done (by kernel_rfl) ?_ _;clear hS1 hS2 hS3 hS4;generalize w9.setCell ⟨nq,0,none⟩ (.slice A9 (N.length+1) c9)=wz at *;go_wp2_with fail;go_roundw
    case rel=>exact⟨j+1,_,_,_,HJL.out,by go_num,rfl,HLN,HSA⟩
    case measure=>simp[intOf];omega
   refine AllReadyH.cons (o:=⟨some 66,_,_,_,_,_⟩) rfl (fun K hK=>?_) AllReadyH.nil
   ·go_simp
    refine hK.out _ _ hS2 (fun hHeld=>?_);clear hK hHeld K
    try simp only[Act.put,sa,sz,ss]
    refine kr 1 rfl fun K hK=>?_
    obtain⟨q0,_,_⟩:=(HS9.out.q.alloc (.cells #[ni,u,t] 71)).c3;go_simp;clear q0;refine hK.out _ _ hS2 (fun hHeld=>?_);clear hK hHeld K
    try simp only[Act.put,sa,sz,ss]
    refine kr 9 rfl fun K hK=>?_
    refine wp_step rfl (Tryz.wpNd HS9.out.d.nd (ni,u,t) _ _ rfl rfl rfl hN HS9.out.k.z ?_);intro v9 w9 hO9 hg9 hl9;have hS3:=hS1.grown hg9 (fun e=>HNR.out nb (Nat.le_refl _) e) (fun e=>HNR.out b2 (by have:=HNE.out;omega) e);obtain⟨A9,c9,rfl⟩:=Own.slice hO9;have hz9:=HS9.out.node hO9 hg9 hl9;rw[show(N++[(ni,u,t)]).length=N.length+1 by simp]at hz9 ⊢;have hS4:=hS3.cell (q:=nq) (by have:=HNE.out;omega) (by have:=HNE.out;omega) 0 (.slice A9 (N.length+1) c9);obtain⟨k0,k1,k2⟩:=hz9.1.c3;have k3:=hz9.1.frozen 0;have k4:=hz9.1.lt;have HSA:=hid hz9.2;clear hO9 hg9 hl9 hz9 HS9;refine hK.out _ _ hS3 (fun hHeld=>?_);clear hK hHeld K
    try simp only[Act.put,sa,sz,ss]
    refine kk 10 rfl ?_;refine kr 11 rfl fun K hK=>?_
    go_simp;clear k0 k1 k2 k3 k4;refine hK.out _ _ hS4 (fun hHeld=>?_);clear hK hHeld K
    try simp only[Act.put,sa,sz,ss]
    refine wpAnyH_done (by kernel_rfl) ?_ _;clear hS1 hS2 hS3 hS4;generalize w9.setCell ⟨nq,0,none⟩ (.slice A9 (N.length+1) c9)=wz at *;go_wp2_with fail;go_roundw
    case rel=>exact⟨j+1,_,_,_,HJL.out,by go_num,rfl,HLN,HSA⟩
    case measure=>simp[intOf];omega
  ·obtain rfl:p.nodes.length=j:=by omega
   have hge:¬((p.nodes.length:Int)<(p.nodes.length:Int)):=by omega
   clear hlt hj;obtain⟨A2,c2,rfl⟩:=Own.slice HS.out.d.nd;obtain⟨x0,x1,x2⟩:=HS.out.k.a.p.c3;go_wp2_with fail;clear x0 x1 x2;go_loopw [5,13,14,15,73] (fun ee _ _ _ i wr=>∃(j:Nat) (va:Value) (L:List AV),j≤p.arcs.length∧i=.int .i64 j∧ee=.int .i64 0∧Hid (L.length=j)∧Hid (∀y∈L,y.1.via.length≤100000∧eO p y.1.lf∧eO p y.1.rt)∧Hid (PwS w wr s nq [.slice an p.nodes.length cn,.slice aa p.arcs.length ca,.slice af p.faces.length cf] [.int .i64 k,.int .i64 lo,.int .i64 la,.int .i64 sc] (.slice A2 N.length c2) va (.slice Af p.faces.length cg) N L p.faces f p.nodes.length)) (fun _ _ _ _ i _=>p.arcs.length-(intOf i).toNat)
   case atStart=>exact⟨0,_,[],by omega,rfl,rfl,hid rfl,hid (fun y hy=>by cases hy),HS⟩
   case round=>
    clear HS;obtain⟨j,va,L,hj,rfl,rfl,HLL,HLW,HS⟩:=hrel
    by_cases hlt:j<p.arcs.length
    ·have hli:(j:Int)<(p.arcs.length:Int):=by omega
     obtain⟨b,off,A,c,rfl,hbl,a0,a1,a2,a3,a4,a5,hvr,hvc,_⟩:=HAR.out j hlt wr HS.out.k.a.b;have hidw:=HIDA.out j hlt;have HLVj:=hid (HLV.out j hlt);have HJL:=hid hlt;generalize p.arcs[j]! = ar at *;obtain⟨ri,rf,rd,rv,rl,rr⟩:=ar;dsimp only at a0 a1 a2 a3 a4 a5 hvr hidw HLVj hvc;have HID2:=hid hidw;have hB:=Bx.new (t:=58) (cs:=[.int .i64 ri,.int .i64 rf,.int .i64 rd,.slice A rv.length c,.int .i64 rl,.int .i64 rr]) wr rfl;have hwA:=bw1 wr (.cells #[ri,rf,rd,.slice A rv.length c,rl,rr] 58);have HS4:=hid (HS.out.below hwA);have HSP:=hid (show SlP _ (.slice A rv.length c) rv from ⟨A,c,rfl,hvr.below hwA,hvc⟩);have HNB:=hid (And.intro HS.out.k.z (show ∀i g,bN (.slice A2 N.length c2) va (.slice none 0 0) L i=some g→g<wr.heap.size from fun i g e=>(HS.out.d.lt i g e).2));clear HS hlt hvr hwA hidw hvc;go_upto_region 21 with fail;clear a0 a1 a2 a3 a4 a5;generalize wr.alloc (.cells #[ri,rf,rd,.slice A rv.length c,rl,rr] 58)=w5 at *;generalize wr.heap.size=nb at *;obtain⟨x0,x1,x2,x3⟩:=HS4.out.k.a.r.c4;obtain⟨_,_,_,a3,_,_⟩:=hB.c6;have HBX:=hid hB;have HLB:=hid hB.lt;clear hB;go_wp2_with fail;refine(cS.out _ _ _ (by have:=HLVj.out.1;omega) HSP.out).mono ?_;rintro e w6 ⟨v,l,n,rfl,hO,hll,hb6⟩;obtain⟨Av,cv,rfl⟩:=Own.slice hO;have HS6:=hid (HS4.out.below hb6);have HB6:=hid (HBX.out.below hb6);have HSP6:=hid (rk hO);clear x0 x1 x2 x3 a3 hO HS4 HBX HSP;have HZ6:=hid hb6.size;clear hb6;obtain⟨y0,hy0⟩:∃y,(n==0)=y:=⟨_,rfl⟩;cases y0
     ·have HNE:=hid (show n≠0 by simpa using hy0)
      obtain⟨z0,z1,z2⟩:=(HS6.out.k.a).o.c3;have g0:=(HS6.out.k.a).o.frozen 0;have g1:=(HS6.out.k.a).o.frozen 1;have g2:=(HS6.out.k.a).o.frozen 2;have g4:=(HS6.out.k.a).o.lt;go_wp2_with fail;rw[ac z0,ac z1,ac z2];refine bodyPost_ret (v:=.tuple #[.agg #[.slice none 0 0,.slice none 0 0,.slice none 0 0],.int .i64 n]) (by simp[results,Tryz.results6,go_sem,z0,z1,z2]) rfl ?_;exact(HS6.out.k.a).fail HNE.out
     obtain rfl:n=0:=by simpa using hy0
     clear hy0;have HLL1:=hid (hll rfl);clear hll;obtain⟨x1,y1,hv1⟩:=HS6.out.v rf;obtain⟨x2,y2,hv2⟩:=HS6.out.v rd;have hm:=HS6.out.m;obtain⟨_,a1,a2,_,_,_⟩:=HB6.out.c6;obtain⟨hw1,hw2⟩:=HID2.out;go_wp2_with (at_lookup;first|(refine MapV.look hm rfl _ _ rfl Tryz.underlying69 Tryz.underlying3 (Tryz.zeroValue30 _) rfl rf rfl hw1 hv1 ?_)|(refine MapV.look hm rfl _ _ rfl Tryz.underlying69 Tryz.underlying3 (Tryz.zeroValue30 _) rfl rd rfl hw2 hv2 ?_))
     clear a1 a2 hm hv1 hv2;refine(cT.out _ l x1 y1 x2 y2 _ (by have:=HLL1.out;have:=HLVj.out.1;omega) HSP6.out).mono ?_;rintro e w7 ⟨v2,l2,rfl,hO2,hl2,hb7⟩;obtain⟨A3,c3,rfl⟩:=Own.slice hO2;have hB7:=HB6.out.below hb7;obtain⟨z0,z1,z2,z3,z4,z5⟩:=hB7.c6;have q3:=hB7.frozen 3;have q4:=hB7.lt;have hsz:nb<w6.heap.size:=Nat.lt_of_lt_of_le HLB.out HZ6.out;have HS8:=hid ((HS6.out.below hb7).cell HNB.out.1 HNB.out.2 3 (.slice A3 l2.length c3));have HB8:=hid (hB7.set 3 (.slice A3 l2.length c3))
     have HV8:=hid (show Own 30 2 encR (w7.setCell ⟨nb,3,none⟩ (.slice A3 l2.length c3)) w6.heap.size (.slice A3 l2.length c3) l2 from World.ownsRow.kept hO2 (aj _ _ _) (by
      rcases hb:(Value.slice A3 l2.length c3).ownBlock with _|j
      ·exact .inl rfl
      ·refine .inr fun e=>?_
       have e:j=nb:=Option.some.inj e;have:=(World.ownsRow.lt hO2 j hb).1
       omega))
     have HNS:=hid hsz;have HL2:=hid (show l2.length≤100000 by have:=HLL1.out;have:=HLVj.out.1;omega);have HSZ:=hid (show w6.heap.size≤(w7.setCell ⟨nb,3,none⟩ (.slice A3 l2.length c3)).heap.size from by have:=hb7.size;simpa [World.setCell] using this)
     clear hO2 hl2 hb7 hB7 hsz HSP6 HB6 HS6;obtain⟨A4,c4,rfl⟩:=Own.slice HS8.out.d.ar;go_upto_region 25 with fail;clear z0 z1 z2 z3 z4 z5 q3 q4;generalize w7.setCell ⟨nb,3,none⟩ (.slice A3 l2.length c3)=w8 at *;obtain⟨z0,z1,z2,z3,z4,z5⟩:=HB8.out.c6;change w8.cell? ⟨nb,3,none⟩=some (.slice A3 l2.length c3)at z3;obtain⟨x0,x1',x2'⟩:=HS8.out.q.c3;have hN:L.length+1≤1000000000:=by have:=HLL.out;omega
     have hbs:=HS8.out.k.z;have hown:=HS8.out.d.ar
     have hfr:∀g,(Value.slice A3 l2.length c3).ownBlock=some g→∀i,bN (.slice A2 N.length c2) (.slice A4 L.length c4) (.slice none 0 0) L i≠some g:=fun g e i e2=>by
      have h1:=(World.ownsRow.lt HV8.out g e).1;have h2:=HNB.out.2 i g e2;have h3:=HNS.out;omega
     have hv8:Own 30 2 encR w8 (nq+2) (.slice A3 l2.length c3) l2:=HV8.out.mono (by have:=HNB.out.1;have:=HNS.out;omega);have HFR:=hid (And.intro hv8 hfr);clear hv8 hfr;go_wp2_with (at_builtin;refine wpList_plain rfl fun K' hK'=>Tryz.wpAr hown (⟨ri,rf,rd,l2,rl,rr⟩,.slice A3 l2.length c3) rfl _ _ rfl rfl rfl hN hbs ?_;intro v9 w9 hO9 hg9 hl9;refine hK' _ _ ?_;obtain⟨A9,c9,rfl⟩:=Own.slice hO9;clear hK';have hx9:=(HS8.out.arc (y:=(⟨ri,rf,rd,l2,rl,rr⟩,.slice A3 l2.length c3)) HFR.out.1 HFR.out.2 hO9 hg9 hl9).1;obtain⟨f0,f1,f2⟩:=hx9.c3;have f3:=hx9.frozen 1;have f4:=hx9.lt);have hz9:=(HS8.out.arc (y:=(⟨ri,rf,rd,l2,rl,rr⟩,.slice A3 l2.length c3)) HFR.out.1 HFR.out.2 hO9 hg9 hl9).2;rw[show(L++[((⟨ri,rf,rd,l2,rl,rr⟩:Ar),Value.slice A3 l2.length c3)]).length=L.length+1 by simp]at hz9;have HS9:=hid hz9;clear hz9;have hlen:(L++[((⟨ri,rf,rd,l2,rl,rr⟩:Ar),Value.slice A3 l2.length c3)]).length=j+1:=by simp[HLL.out]
     have HLW2:=hid (show ∀y∈L++[((⟨ri,rf,rd,l2,rl,rr⟩:Ar),Value.slice A3 l2.length c3)],y.1.via.length≤100000∧eO p y.1.lf∧eO p y.1.rt from fun y hy=>by
      rcases List.mem_append.1 hy with hy|hy
      ·exact HLW.out y hy
      ·rw[List.mem_singleton.1 hy]
       exact⟨HL2.out,HLVj.out.2⟩)
     go_roundw
     case rel=>exact⟨j+1,_,_,HJL.out,by go_num,rfl,hid hlen,HLW2,HS9⟩
     case measure=>simp[intOf];omega
    ·obtain rfl:p.arcs.length=j:=by omega
     have hge:¬((p.arcs.length:Int)<(p.arcs.length:Int)):=by omega
     clear hlt hj;obtain⟨A4,c4,rfl⟩:=Own.slice HS.out.d.ar;have HLF:=hid (rz L p HLW.out (N:=N) (F:=p.faces) HLR.out);have hfew:Few (pnO N L p.faces):=⟨by have:=HNL.out;have:=HFew.out.n;dsimp only;omega,by have:=HLL.out;have:=HFew.out.a;simp only[List.length_map];omega,HFew.out.f,HLF.out.1⟩;have HFQ:=hid hfew;clear hfew
     obtain⟨mq,hmq,hQ⟩:∃mq:Mem,plV (pnO N L p.faces) mq=.agg #[.slice A2 N.length c2,.slice A4 L.length c4,.slice Af p.faces.length cg]∧PlR wr (pnO N L p.faces) mq:=by
      obtain⟨m,_,h1,h2⟩:=HS.out.whole.done.pl HFQ.out;exact⟨m,h1,h2⟩
     have cQ:=hid (gR (pnO N L p.faces) mq wr hQ HLF.out.2);have cAl:=hid fun W (hb:Below wr.heap.size wr W)=>cE.out (pnO N L p.faces) mq W (HS.out.k.a.b.trans (hb.mono (by have:=HS.out.k.z;have:=HS.out.k.h;omega))) (hQ.below hb) HLF.out.2
     rw[hmq]at cQ cAl;clear hQ hmq;obtain⟨q0,q1,q2⟩:=HS.out.q.c3;go_wp2_with fail;refine cQ.out.mono ?_;rintro e w5 ⟨n,rfl,hCk,hb5⟩;have HS5:=hid (HS.out.below hb5);have HB5:=hid hb5;clear q0 q1 q2 hb5 HS cQ;obtain⟨y0,hy0⟩:∃y,(n==0)=y:=⟨_,rfl⟩;cases y0
     ·have HNE:=hid (show n≠0 by simpa using hy0)
      obtain⟨z0,z1,z2⟩:=(HS5.out.k.a).o.c3;have g0:=(HS5.out.k.a).o.frozen 0;have g1:=(HS5.out.k.a).o.frozen 1;have g2:=(HS5.out.k.a).o.frozen 2;have g4:=(HS5.out.k.a).o.lt;go_wp2_with fail;rw[ac z0,ac z1,ac z2];refine bodyPost_ret (v:=.tuple #[.agg #[.slice none 0 0,.slice none 0 0,.slice none 0 0],.int .i64 n]) (by simp[results,Tryz.results6,go_sem,z0,z1,z2]) rfl ?_;exact(HS5.out.k.a).fail HNE.out
     obtain rfl:n=0:=by simpa using hy0
     clear hy0;have HCQ:=hid (hCk rfl);clear hCk;obtain⟨x0,x1,x2⟩:=HS5.out.k.a.p.c3;obtain⟨q0,q1,q2⟩:=HS5.out.q.c3;go_wp2_with fail;refine(cAl.out _ HB5.out).mono ?_;rintro e w6 ⟨b,rfl,hb6⟩;have HS6:=hid (HS5.out.below hb6);clear x0 x1 x2 q0 q1 q2 hb6 HS5 cAl;cases b
     ·have HNE:=hid (show(12:Int)≠0 by decide)
      obtain⟨z0,z1,z2⟩:=(HS6.out.k.a).o.c3;have g0:=(HS6.out.k.a).o.frozen 0;have g1:=(HS6.out.k.a).o.frozen 1;have g2:=(HS6.out.k.a).o.frozen 2;have g4:=(HS6.out.k.a).o.lt;go_wp2_with fail;rw[ac z0,ac z1,ac z2];refine bodyPost_ret (v:=.tuple #[.agg #[.slice none 0 0,.slice none 0 0,.slice none 0 0],.int .i64 12]) (by simp[results,Tryz.results6,go_sem,z0,z1,z2]) rfl ?_;exact(HS6.out.k.a).fail HNE.out
     have h3:=HS6.out.k.a.o.set3 (.slice A2 N.length c2) (.slice A4 L.length c4) (.slice Af p.faces.length cg);have hB3:=HS6.out.k.a.o.set3B HS6.out.k.a.b (by omega) (.slice A2 N.length c2) (.slice A4 L.length c4) (.slice Af p.faces.length cg);have hW3:=((HS6.out.whole.cell (q:=s+2) (o:=0) (by omega) (.slice A2 N.length c2)).cell (q:=s+2) (o:=1) (by omega) (.slice A4 L.length c4)).cell (q:=s+2) (o:=2) (by omega) (.slice Af p.faces.length cg);have H3:=hid (And.intro h3 (And.intro hB3 hW3));clear h3 hB3 hW3;obtain⟨q0,q1,q2⟩:=HS6.out.q.c3;obtain⟨z0,z1,z2⟩:=HS6.out.k.a.o.c3;have g0:=HS6.out.k.a.o.frozen 0;have g1:=HS6.out.k.a.o.frozen 1;have g2:=HS6.out.k.a.o.frozen 2;have g4:=HS6.out.k.a.o.lt;go_wp2_with fail;change bodyPost _ _ _ _ _ (st3 w6 (s+2) (.slice A2 N.length c2) (.slice A4 L.length c4) (.slice Af p.faces.length cg));change Hid (Bx (st3 w6 (s+2) _ _ _) _ _ _∧Below _ _ (st3 w6 (s+2) _ _ _)∧Bld (st3 w6 (s+2) (.slice A2 N.length c2) (.slice A4 L.length c4) (.slice Af p.faces.length cg)) _ _ _ _ _ _ _)at H3;generalize st3 w6 (s+2) (.slice A2 N.length c2) (.slice A4 L.length c4) (.slice Af p.faces.length cg)=w7 at *;clear q0 q1 q2 z0 z1 z2 g0 g1 g2 g4;obtain⟨r0,r1,r2⟩:=H3.out.1.c3;refine bodyPost_ret (v:=.tuple #[.agg #[.slice A2 N.length c2,.slice A4 L.length c4,.slice Af p.faces.length cg],.int .i64 0]) (by simp[results,Tryz.results6,go_sem,r0,r1,r2]) rfl ?_;obtain⟨m,_,h1,h2⟩:=H3.out.2.2.done.pl HFQ.out;exact⟨_,_,_,0,rfl,⟨_,_,_,rfl⟩,⟨_,_,_,rfl⟩,⟨_,_,_,rfl⟩,HSz.out▸H3.out.2.1,.inr ⟨rfl,_,m,h1,HCQ.out,h2,HLF.out.2⟩⟩
end Go.Proofs
