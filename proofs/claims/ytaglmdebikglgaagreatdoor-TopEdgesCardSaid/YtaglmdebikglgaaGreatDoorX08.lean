/- Lemmas and walks; no statement of a law is proved here. -/
import Derived.Test.YtaglmdebikglgaaGreatDoorX03
set_option linter.unusedVariables false
set_option linter.unusedSimpArgs false
set_option maxRecDepth 100000
set_option maxHeartbeats 8000000
open Go.Lib
namespace Go.Proofs
open Go.RowKit Go.Proofs.Mp Go.Lib
structure gk(p:Pn):Prop where
 nr:∀k,k<p.nodes.length→Nr p.nodes[k]!.2
 pr:∀k,k<p.arcs.length→∀j,j<(pth p k).length→Nr (pth p k)[j]!
 wn:∀k,k<p.nodes.length→(Lit.int .i64 p.nodes[k]!.1).wf=true
 wa:∀k,k<p.arcs.length→(Lit.int .i64 p.arcs[k]!.frm).wf=true∧(Lit.int .i64 p.arcs[k]!.dst).wf=true
 ids:∀i j,i<p.arcs.length→j<p.arcs.length→p.arcs[i]!.id=p.arcs[j]!.id→i=j
def kU(p:Pn)(P:Prop):Prop:=(¬eB p∧¬P)∨(eB p∧∃L:List (Nat×Nat),L.Perm (ah p p.arcs.length)∧L.Pairwise (fun a b=>segWst p a≤segWst p b)∧(P↔RowsOK p L))
theorem bP{w w3 wr:World}{B M:Nat}(h:Below B w w3)(hg:w3.grownBy wr (some M))(hM:B≤M)(hs:B≤w3.heap.size):Below B w wr:=
 h.trans ⟨hg.os,hg.tape,hg.output,hg.size,fun k hk=>hg.block k (by omega) (fun e=>by injection e with e;omega)⟩
theorem kw{w w1 w2:World}{r:Option Nat}(h:w.grownBy w1 r)(k:w1.grownBy w2 none):w.grownBy w2 r:=World.grownBy.trans h ⟨k.os,k.tape,k.output,k.size,fun n h1 h2=>k.block n h1 (by simp)⟩
theorem iP{w w1 w2:World}{r:Option Nat}(h:w.grownBy w1 r)(k:w1.grownBy w2 r):w.grownBy w2 r:=World.grownBy.trans h k
def uj(p:Pn)(w:World)(en:Ending)(w':World):Prop:=∃P,kU p P∧cX w P en w'
theorem lz{p:Pn}{w4 w5 W:World}{base:Nat}{A:Option Addr}{c:Nat}{bs:List Nat}{L:List (Nat×Nat)}{i:Nat}
  (hs:SgM p w4 base (.slice A L.length c) p.arcs.length bs)(hf:Few p)(hp:L.Perm (ah p p.arcs.length))(ho:Own 177 2 bS w5 base (.slice A L.length c) (toB bs L))(hg:w4.grownBy w5 (Value.slice A L.length c).ownBlock)(hi:i<L.length)(hb:Below w5.heap.size w5 W) :
  ∃g,A=some ⟨g,0,none⟩∧g<w5.heap.size∧W.cell? ⟨g,i*2,none⟩=some (.pointer (some ⟨bs[L[i]!.1]!,0,none⟩))∧W.cell? ⟨g,i*2+1,none⟩=some (.int .i64 L[i]!.2)∧cU W bs[L[i]!.1]! p.arcs[L[i]!.1]! (pth p L[i]!.1) ∧
   L[i]!.2+1<(pth p L[i]!.1).length∧(pth p L[i]!.1).length≤1000000000∧L[i]!.1<p.arcs.length∧L.length≤c∧c≤maxLen:=by
 have hn0:toB bs L≠[]:=fun e=>by have:=congrArg List.length e;rw[dc]at this;simp at this;subst this;simp at hi
 obtain⟨g,cap,hv,hg1,hg2⟩:=aG ho hn0;injection hv with hA _ hc;subst hA hc;have hl:(toB bs L).length=L.length:=dc _ _;have ho2:=ho;rw[←hl]at ho2;obtain⟨cur,_,_,hc1,hc2,_,_⟩:=bW ho2;have hm:L[i]!∈ah p p.arcs.length:=hp.mem_iff.1 (by rw[getElem!_pos L i hi];exact List.getElem_mem hi);obtain⟨hm1,hm2⟩:=bE hm;obtain⟨b',off,e,_,hcell⟩:=Rd.get (Own.rd eL ho2) hb (j:=i) (by rw[hl];exact hi);injection e with e;injection e with e1 e2;subst e1 e2;have c0:=hcell i (by rw[hl];exact hi) 0 _ (by rw[ft hi];rfl);have c1:=hcell i (by rw[hl];exact hi) 1 _ (by rw[ft hi];rfl);simp only[Nat.zero_add,Nat.add_zero]at c0 c1;refine⟨g,rfl,hg2,c0,c1,(((hs.ln _ hm1).grown hg (fun x hx _=>hx) (fun x hx _=>trivial):cU w5 _ _ _).below hb),hm2,?_,hm1,by omega,hc2⟩;have:=eF hf L[i]!.1;omega
theorem jS(p:Pn)(m:Mem)(w:World)(hR:PlR w p m)(hO:gk p):Calls Tryz.prog 62 #[plV p m] w (uj p w):=by
 have HN:=hid fun (k:Nat) (hk:k<p.nodes.length) W hb=>hR.node (W:=W) hb hk
 have hfw:=hR.few;have hfn:=hR.few.n;have hfa:=hR.few.a;have hcn:=hR.cn;have cS:=hid fun W (hb:Below w.heap.size w W)=>iu p m W (hR.below hb)
 have HNO:=hid (show eB p→False→True from fun _ _=>trivial);have HNN:=hid fun k (hk:k<p.nodes.length)=>(show Nr p.nodes[k]!.2∧(Lit.int .i64 p.nodes[k]!.1).wf=true from ⟨hO.nr k hk,hO.wn k hk⟩)
 have HWN:=hid hO;have HPL0:Hid (plV p m=.agg #[.slice m.an p.nodes.length m.cn,.slice m.aa p.arcs.length m.ca,.slice m.af p.faces.length m.cf]):=hid rfl;unfold plV at cS ⊢;clear hR hO;obtain⟨nodes,hnodes⟩:∃z,p.nodes=z:=⟨_,rfl⟩;have HND:=hid hnodes;obtain⟨an,aa,af,cn,ca,cf,vs⟩:=m;rw[hnodes]at HN HNN hfn hcn cS ⊢;clear hnodes HPL0;obtain⟨aln,hal⟩:∃z,p.arcs.length=z:=⟨_,rfl⟩;have HAL:=hid hal;rw[hal]at cS hfa ⊢;clear hal;generalize p.faces.length=fln at *;dsimp only at *;have hn:=Bx.new (t:=26) (cs:=[.slice an nodes.length cn,.slice aa aln ca,.slice af fln cf]) w rfl;have hb0:=bw1 w (.cells #[.slice an nodes.length cn,.slice aa aln ca,.slice af fln cf] 26);go_enter Tryz.func62,Tryz.ntmps62;go_upto_region 1 with fail;generalize w.alloc (.cells #[.slice an nodes.length cn,.slice aa aln ca,.slice af fln cf] 26)=w1 at *;have k0:=hn.cell 0;have k1:=hn.cell 1;have k2:=hn.cell 2;simp only[gz,gs]at k0 k1 k2;go_wp2_with fail;refine(cS.out _ hb0).mono ?_;rintro e w2 ⟨hS,hb2⟩
 rcases hS with⟨hSn,rfl⟩|⟨hSo,v,bs,rfl,hM⟩
 ·have HP:Hid (kU p False):=hid (Or.inl ⟨hSn,id⟩)
  have HB:=hid (hb0.trans (hb2.mono hb0.size));go_wp2_with fail;go_ret;exact⟨_,HP.out,cX.no id HB.out⟩
 have HSO:=hid hSo;clear hSo cS k0 k1 k2;have hb2s:=hb2.size;have HW1:=hid hn.lt;have hn2:=hn.below hb2;have hb02:=hb0.trans (hb2.mono hb0.size);have hM2:=MapV.made (P:=Tryz.prog) (k:=3) w2;have hn3:=hn2.alloc (.map #[] 0);have hbm:=bw1 w2 (.map #[] 0);have HSG:=hid fun W (hb:Below w2.heap.size w2 W)=>(⟨hM.len,hM.own.below hb,fun k hk=>(hM.ln k hk).below hb⟩:SgM p W w1.heap.size v p.arcs.length bs)
 have H23:=hid hbm;have HLB:=hid hM.len;have HVB:=hid hM.own.slice;have HBN:Hid (w.heap.size<w2.heap.size):=hid (by have:=hn.lt;omega);have hmm:=@run_makeMap Tryz.prog;clear hb2 hM hn hn2 hb0;go_upto_region 5 with fail;clear hmm;have hb3:=hb02.trans (hbm.mono hb02.size);generalize w2.alloc (.map #[] 0)=w3 at *;have HMN:=hid (show w2.heap.size<w3.heap.size from hM2.lt);have HWM:=hid (show w.heap.size≤w2.heap.size from hb02.size);generalize hM9:w2.heap.size=M at *;have HM9:=hid hM9;clear hM9;have k0:=hn3.cell 0;simp only[gz,gs]at k0;go_wp2_with fail;go_loopw [27] (fun i wr=>∃k:Nat,k≤nodes.length∧i=.int .i64 k∧Hid (MapV Tryz.prog 3 wr M k (gC (gOf (nodes.take k))))∧Hid (w3.grownBy wr (some M))) (fun i _=>nodes.length-(intOf i).toNat)
 case atStart=>exact⟨0,by omega,rfl,hid (hM2.congr fun x=>rfl),hid (World.grownBy.refl _ _)⟩
 case round=>
  obtain⟨k,hk,rfl,HMK,HGK⟩:=hrel
  by_cases hlt:k<nodes.length
  ·have hli:(k:Int)<(nodes.length:Int):=by omega
   have hbk:=hid (bP hb3 HGK.out HWM.out hb3.size);obtain⟨b,off,rfl,hbl,c0,c1,c2⟩:=HN.out k hlt wr hbk.out;have hwk:=(HNN.out k hlt).2;have HGS:=hid (show gC (gOf (nodes.take (k+1)))=setV (gC (gOf (nodes.take k))) nodes[k]!.1 (ae nodes[k]!.2)from by rw[qa hlt,pR]);obtain⟨⟨ni,nx,ny⟩,hnk⟩:∃z,nodes[k]! = z:=⟨_,rfl⟩;rw[hnk]at c0 c1 c2 hwk HGS;dsimp only at c0 c1 c2 hwk HGS;clear hnk;have hxn:=Bx.new (t:=71) (cs:=[.int .i64 ni,.int .i64 nx,.int .i64 ny]) wr rfl;have hMa:=HMK.out.below (bw1 wr (.cells #[ni,nx,ny] 71));have HGA:=hid (kw HGK.out (aD (bw1 wr (.cells #[ni,nx,ny] 71))));go_upto_region 8 with fail;generalize wr.alloc (.cells #[ni,nx,ny] 71)=wa at *;generalize wr.heap.size=nb at *;have x0:=hxn.cell 0;have x1:=hxn.cell 1;have x2:=hxn.cell 2;simp only[gz,gs]at x0 x1 x2;go_wp2_with (at_mapUpdate;refine MapV.store hMa rfl _ _ _ rfl Tryz.underlying69 Tryz.underlying3 rfl ni (ae (nx,ny)) rfl rfl hwk (M:=k+1) (.inr (Nat.le_refl _)) (by unfold maxLen;omega) ?_;intro w5 hM5 hg5);go_roundw
   case rel=>exact⟨k+1,by omega,by go_num,hid (hM5.congr fun x=>by rw[HGS.out]),hid (iP HGA.out hg5)⟩
   case measure=>simp[intOf];omega
  ·obtain rfl:k=nodes.length:=by omega
   have hge:¬((nodes.length:Int)<(nodes.length:Int)):=by omega
   rw[List.take_length]at HMK;generalize hwx:wr=w4 at *;have HB4:=hid (bP hb3 HGK.out HWM.out hb3.size);have HB24:=hid (bP H23.out HGK.out (Nat.le_refl _) (Nat.le_of_lt HMN.out));have hn4:=(hn3.below (Below.refl _ _)).grown HGK.out (fun e=>by injection e with e;have:=HBN.out;omega);have hs4:=HSG.out w4 HB24.out;have hsrt:=pj p w4 w1.heap.size v p.arcs.length bs hs4 hfw (by rw[HAL.out];exact hfa);have hmap4:=HMK.out;have hrl:=World.ownsRow.lt (HSG.out w2 (Below.refl _ _)).own;rw[HM9.out]at hrl;obtain⟨A,c,rfl⟩:=HVB.out;clear HSG H23 HMN hb3 hb02 hM2 hn3 HMK HGK k0 HB24 hbm hwx;go_wp2_with fail;refine hsrt.mono ?_;rintro e w5 ⟨rfl,L,hLp,hLs,hLo,hLg⟩;have hmap5:=hmap4.kept hLg (fun e=>by have:=(hrl _ e.symm).2;omega);have hn5:=hn4.grown hLg (fun e=>by have:=(hrl _ e).1;have:=HW1.out;omega);have hb5:Below w.heap.size w w5:=HB4.out.trans ⟨hLg.os,hLg.tape,hLg.output,hLg.size,fun k hk=>hLg.block k (by have:=HB4.out.size;omega) (fun e=>by have:=(hrl _ e.symm).1;have:=HW1.out;omega)⟩;have hlen:(toB bs (ah p p.arcs.length)).length=L.length:=by rw[dc,hLp.length_eq]
   rw[hlen]at hLo hLg hs4 ⊢
   have hlm:L.length≤10000200000:=by
    have h1:=fA hfw p.arcs.length;have:p.arcs.length*100002≤100000*100002:=Nat.mul_le_mul_right _ (by rw[HAL.out];exact hfa);rw[hLp.length_eq];omega
   have HF:=hid fun (i:Nat) (hi:i<L.length) W (hb:Below w5.heap.size w5 W)=>lz hs4 hfw hLp hLo hLg hi hb
   have HC:=hid fun (i j:Nat) (hi:i<L.length) (hj:j<L.length) W (hb:Below w5.heap.size w5 W)=>(show Calls Tryz.prog 100 #[sgV bs[L[i]!.1]! L[i]!.2,sgV bs[L[j]!.1]! L[j]!.2,.map (some M)] W (RetV W (.bool (compS p L[i]! L[j]!)))from by
    obtain⟨_,_,_,_,_,h1,h2,h3,h4,_⟩:=HF.out i hi W hb;obtain⟨_,_,_,_,_,g1,g2,g3,g4,_⟩:=HF.out j hj W hb;have hM5:=hmap5.below hb;rw[←HND.out]at hM5;refine gB _ _ _ _ _ _ _ _ M _ _ W h1 g1 h2 g2 h3 g3 (HWN.out.pr _ h4) (HWN.out.pr _ g4) hM5 (fun id q h=>?_) (HWN.out.wa _ h4) (fun e=>?_)
    ·obtain⟨k,hk,e⟩:=List.mem_iff_getElem.1 (rF h)
     have:=HWN.out.nr k hk;rw[getElem!_pos _ k hk,e]at this;exact this
    ·have e:=HWN.out.ids _ _ h4 g4 e
     rw[e]
     exact⟨rfl,rfl,rfl⟩)
   have HPP:Hid (kU p (RowsOK p L)):=hid (Or.inr ⟨HSO.out,L,hLp,hLs,Iff.rfl⟩);have HOK:Hid ((∀i,i<L.length→lr p L i∧lq p L[i]!)→RowsOK p L):=hid id
   have H1:=hid (show ∀i j:Nat,i<j→j<L.length→segWst p L[j]!≤segEst p L[i]!→compS p L[i]! L[j]! = false→¬RowsOK p L from fun i j h1 h2 h3 h4 h=>by
    have:=(h i (by omega)).1 j h1 h2 h3;rw[this]at h4
    cases h4)
   have H2:=hid (show ∀i k:Nat,i<L.length→k<nodes.length→badNode p L[i]! nodes[k]! = true→¬RowsOK p L from fun i k h1 h2 h4 h=>by
    have:=(h i h1).2 k (by rw[HND.out];exact h2);rw[HND.out,h4]at this
    cases this)
   have HBK:=hid (show ∀i j:Nat,i<j→j<L.length→¬segWst p L[j]!≤segEst p L[i]!→(∀q:Nat,i<q→q<j→compS p L[i]! L[q]! = true)→lr p L i from fun i j h1 h2 h3 h4 q hq1 hq2 hq3=>by
    by_cases e:q<j
    ·exact h4 q hq1 e
    ·exfalso
     by_cases e2:q=j
     ·subst e2;exact h3 hq3
     ·have:=List.pairwise_iff_getElem.1 hLs j q h2 hq2 (by omega)
      rw[getElem!_pos _ q hq2]at hq3;rw[getElem!_pos _ j h2]at h3
      omega)
   have HRA:=hid (show ∀i:Nat,(∀q:Nat,i<q→q<L.length→compS p L[i]! L[q]! = true)→lr p L i from fun i h q h1 h2 _=>h q h1 h2);have HRN:=hid (show ∀i:Nat,(∀k:Nat,k<nodes.length→badNode p L[i]! nodes[k]! = false)→lq p L[i]! from fun i h k hk=>by rw[HND.out]at hk ⊢;exact h k hk);clear hLp hLs hLo hLg hmap5 hmap4 hs4 hsrt hrl hn4 HB4 HW1 HM9 HLB;generalize RowsOK p L=R at *;go_wp2_with fail;go_loopw [41] (fun i wr=>∃k:Nat,k≤L.length∧i=.int .i64 k∧Hid (∀i,i<k→lr p L i∧lq p L[i]!)∧Below w5.heap.size w5 wr) (fun i _=>L.length-(intOf i).toNat)
   case atStart=>exact⟨0,by omega,rfl,hid (fun i hi=>absurd hi (Nat.not_lt_zero _)),Below.refl _ _⟩
   case round=>
    obtain⟨k,hk,rfl,HDN,hbr⟩:=hrel;have HBR:=hid hbr;have hsz:=hbr.size;have HBW:=hid (hb5.trans (hbr.mono hb5.size))
    by_cases hlt:k<L.length
    rotate_left
    ·obtain rfl:k=L.length:=by omega
     have hge:¬((L.length:Int)<(L.length:Int)):=by omega
     have HP:=hid (HOK.out HDN.out);go_wp2_with fail;go_ret;exact⟨_,HPP.out,cX.yes HP.out HBW.out⟩
    have hli:(k:Int)<(L.length:Int):=by omega
    obtain⟨g,rfl,hgl,c0,c1,hline,hs1,hs2,hs3,hcl,hcm⟩:=HF.out k hlt wr HBR.out;obtain⟨b1,hb1⟩:∃z,bs[L[k]!.1]! = z:=⟨_,rfl⟩;obtain⟨s1,hs1'⟩:∃z,L[k]!.2=z:=⟨_,rfl⟩;have HB1:=hid hb1;have HS1:=hid hs1';rw[hb1]at c0;rw[hs1']at c1;have hxs:=Bx.new (t:=177) (cs:=[.pointer (some ⟨b1,0,none⟩),.int .i64 s1]) wr rfl;have hba:=hbr.trans ((bw1 wr (.cells #[.pointer (some ⟨b1,0,none⟩),s1] 177)).mono hsz);have HSL:=hid (And.intro hs1 hs2);have hn6:=(hn5.below hbr).alloc (.cells #[.pointer (some ⟨b1,0,none⟩),s1] 177);clear hbr hline hs1 hs2 hb1 hs1';go_upto_region 14 with fail;generalize wr.alloc (.cells #[.pointer (some ⟨b1,0,none⟩),s1] 177)=wa at *;generalize wr.heap.size=nS at *;have HBA:=hid hba;have hsa:=hba.size;have hk1:(0:Int)≤(k:Int)+1:=by omega
    have hk2:(k:Int)+1≤(L.length:Int):=by omega
    have hk3:(k:Int)+1≤(c:Int):=by omega
    clear c0 c1;go_upto_block 4 with fail;obtain⟨AS,hAS⟩:∃z,(if c=k+1 then some (⟨g,0,none⟩:Addr) else some ⟨g,(k+1)*2,none⟩)=z:=⟨_,rfl⟩;have HAS:Hid (k+1<L.length→AS=some ⟨g,(k+1)*2,none⟩):=hid fun h=>by rw[←hAS,if_neg (by omega)]
    rw[hAS];obtain⟨n',hn'⟩:∃z,L.length-(k+1)=z:=⟨_,rfl⟩;rw[hn'];obtain⟨c',hc'⟩:∃z,c-(k+1)=z:=⟨_,rfl⟩;rw[hc'];have hnc:n'≤c':=by omega
    have HN':=hid hn';have hnm:n'≤10000200000:=by omega
    have hln:k+1+n'=L.length:=by omega
    clear hAS hn' hc' hk1 hk2 hk3 hsz;go_cut [11] from 51 to 65 (fun v11 wx=>Hid (lr p L k)∧Below wa.heap.size wa wx)
    case first=>
     go_wp2_with fail;go_loopw [51] (fun i wq=>∃j:Nat,j≤n'∧i=.int .i64 j∧Hid (∀q:Nat,k<q→q<k+1+j→compS p L[k]! L[q]! = true)∧Below wa.heap.size wa wq) (fun i _=>n'-(intOf i).toNat)
     case atStart=>exact⟨0,by omega,rfl,hid (fun q h1 h2=>by omega),Below.refl _ _⟩
     case round=>
      obtain⟨j,hj,rfl,HJ,hbq⟩:=hrel;have HBQ:=hid hbq;have hsq:=hbq.size
      by_cases hlj:j<n'
      rotate_left
      ·obtain rfl:j=n':=by omega
       have hge:¬((j:Int)<(j:Int)):=by omega
       have HQ:=hid (HRA.out k fun q h1 h2=>HJ.out q h1 (by omega));clear hbq;go_wp2_with fail;go_meet;exact⟨HQ,HBQ.out⟩
      have hlji:(j:Int)<(n':Int):=by omega
      obtain rfl:=HAS.out (by omega);have HBQ5:=hid (HBA.out.trans (hbq.mono hsa));obtain⟨g',hge,_,d0,d1,_,ht1,ht2,_⟩:=HF.out (k+1+j) (by omega) wr HBQ5.out;injection hge with hge;injection hge with hge;subst hge;rw[Nat.add_mul (k+1) j 2]at d0 d1;obtain⟨b2,hb2⟩:∃z,bs[L[k+1+j]!.1]! = z:=⟨_,rfl⟩;obtain⟨s2,hs2⟩:∃z,L[k+1+j]!.2=z:=⟨_,rfl⟩;rw[hb2]at d0;rw[hs2]at d1;have hxt:=Bx.new (t:=177) (cs:=[.pointer (some ⟨b2,0,none⟩),.int .i64 s2]) wr rfl;have hxs2:=(hxs.below hbq).alloc (.cells #[.pointer (some ⟨b2,0,none⟩),s2] 177);have hbb:=hbq.trans ((bw1 wr (.cells #[.pointer (some ⟨b2,0,none⟩),s2] 177)).mono hsq);clear hbq hsq;go_upto_region 17 with fail;generalize wr.alloc (.cells #[.pointer (some ⟨b2,0,none⟩),s2] 177)=wb at *;generalize wr.heap.size=nT at *;have HBB:=hid hbb;have HB5:=hid (HBA.out.trans (hbb.mono hsa));have HBWB:=hid (hb5.trans (HB5.out.mono hb5.size))
      have cW:=hid fun (W:World) (hb:Below wb.heap.size wb W)=>(show Calls Tryz.prog 98 #[.agg #[.pointer (some ⟨b2,0,none⟩),s2]] W (RetV W (.int .i64 (segWst p L[k+1+j]!)))from by
       obtain⟨_,_,_,_,_,h1,h2,h3,_⟩:=HF.out (k+1+j) (by omega) W (HB5.out.trans (hb.mono HB5.out.size));have:Calls Tryz.prog 98 #[sgV bs[L[k+1+j]!.1]! L[k+1+j]!.2] W (RetV W (.int .i64 (segWst p L[k+1+j]!))):=pi _ _ _ _ W h1 h2 h3;rw[hb2,hs2]at this
       exact this)
      have cE:=hid fun (W:World) (hb:Below wb.heap.size wb W)=>(show Calls Tryz.prog 99 #[.agg #[.pointer (some ⟨b1,0,none⟩),s1]] W (RetV W (.int .i64 (segEst p L[k]!)))from by
       obtain⟨_,_,_,_,_,h1,h2,h3,_⟩:=HF.out k hlt W (HB5.out.trans (hb.mono HB5.out.size));have:Calls Tryz.prog 99 #[sgV bs[L[k]!.1]! L[k]!.2] W (RetV W (.int .i64 (segEst p L[k]!))):=pk _ _ _ _ W h1 h2 h3;rw[HB1.out,HS1.out]at this
       exact this)
      have cC:=hid fun (W:World) (hb:Below wb.heap.size wb W)=>(show Calls Tryz.prog 100 #[.agg #[.pointer (some ⟨b1,0,none⟩),s1],.agg #[.pointer (some ⟨b2,0,none⟩),s2],.map (some M)] W (RetV W (.bool (compS p L[k]! L[k+1+j]!)))from by
       have:=HC.out k (k+1+j) hlt (by omega) W (HB5.out.trans (hb.mono HB5.out.size));rw[HB1.out,HS1.out,hb2,hs2]at this
       exact this)
      have HCC:=hid fun (W:World) (hb:Below wb.heap.size wb W)=>(show W.cell? ⟨nS,0,none⟩=some (.pointer (some ⟨b1,0,none⟩))∧W.cell? ⟨nS,1,none⟩=some (.int .i64 s1)∧W.cell? ⟨nT,0,none⟩=some (.pointer (some ⟨b2,0,none⟩))∧W.cell? ⟨nT,1,none⟩=some (.int .i64 s2) from
       ⟨(hxs2.below hb).cell 0,(hxs2.below hb).cell 1,(hxt.below hb).cell 0,(hxt.below hb).cell 1⟩)
      have H1J:=hid (H1.out k (k+1+j) (by omega) (by omega));have HBKJ:=hid (HBK.out k (k+1+j) (by omega) (by omega))
      have HJ2:=hid (show compS p L[k]! L[k+1+j]! = true→∀q:Nat,k<q→q<k+1+(j+1)→compS p L[k]! L[q]! = true from fun h q h1 h2=>by
       by_cases e:q=k+1+j
       ·rw[e];exact h
       ·exact HJ.out q h1 (by omega))
      clear d0 d1 ht1 ht2 hb2 hs2 hbb hxt hxs2;generalize segWst p L[k+1+j]! = we at *;generalize segEst p L[k]! = ea at *;generalize compS p L[k]! L[k+1+j]! = cb at *;have hS8:(fun W:World=>Below wb.heap.size wb W) wb.drew:=(Below.refl _ _).drew;refine wp_region_held_drew (S:=fun W:World=>Below wb.heap.size wb W) (by kernel_rfl) hS8 (fun hHeld=>?_);clear hHeld;generalize hwd:wb.drew=wbd at *;clear hwd;refine kf 0 HCC.out rfl ?_;refine kf 2 HCC.out rfl ?_;refine kr 1 rfl fun K hK=>?_
      go_simp;go_at_call 98;refine(cW.out _ hS8).mono ?_;rintro e Wra1 ⟨rfl,hbWra1⟩;have hSWra1:=hS8.trans (hbWra1.mono hS8.size)
      try clear hS8
      clear hbWra1;go_wp2_with fail;refine hK.out _ _ hSWra1 (fun hHeld=>?_);clear hK hHeld K
      try simp only[Act.put,sa,sz,ss]
      refine kr 3 rfl fun K hK=>?_
      go_simp;go_at_call 99;refine(cE.out _ hSWra1).mono ?_;rintro e Wra2 ⟨rfl,hbWra2⟩;have hSWra2:=hSWra1.trans (hbWra2.mono hSWra1.size)
      try clear hSWra1
      clear hbWra2;go_wp2_with fail;refine hK.out _ _ hSWra2 (fun hHeld=>?_);clear hK hHeld K
      try simp only[Act.put,sa,sz,ss]
      refine kk 4 rfl ?_;refine wpAnyH_done (by kernel_rfl) ?_ _;have HBE:=hid hSWra2;clear hSWra2;generalize Wra2=we9 at *;have HBE0:=hid (HBB.out.trans (HBE.out.mono HBB.out.size))
      by_cases hwe:ea<we
      ·have HQ:=hid (HBKJ.out (by omega) HJ.out)
       go_wp2_with fail;go_meet;exact⟨HQ,HBE0.out⟩
      obtain⟨r0,r1,r2,r3⟩:=HCC.out we9 HBE.out;go_wp2_with fail;refine(cC.out _ HBE.out).mono ?_;rintro e w8 ⟨rfl,hb8⟩;have HB80:=hid (HBE0.out.trans (hb8.mono HBE0.out.size));have HB8W:=hid (HBWB.out.trans ((HBE.out.trans (hb8.mono HBE.out.size)).mono HBWB.out.size));clear hb8 r0 r1 r2 r3;cases cb
      ·have HP:=hid (H1J.out (by omega) rfl)
       go_wp2_with fail;go_ret;exact⟨_,HPP.out,cX.no HP.out HB8W.out⟩
      ·have HQ:=hid (HJ2.out rfl)
       go_wp2_with fail;go_roundw
       case rel=>exact⟨j+1,by omega,by go_num,HQ,HB80.out⟩
       case measure=>simp[intOf];omega
    case rest=>
     obtain⟨HRW,hbx⟩:=hcut;generalize wc=w8 at *;have hn8:=hn6.below hbx;have k0:=hn8.cell 0;simp only[gz,gs]at k0;have hs8:=hxs.below hbx;have HB85:=hid (HBA.out.trans (hbx.mono hsa));have HB8W:=hid (hb5.trans (HB85.out.mono hb5.size));have hl8:=hn8.lt;clear hbx hxs hn6 HAS HN' hnc hnm hln hba HBA;go_wp2_with fail;go_loopw [69] (fun i wq=>∃j:Nat,j≤nodes.length∧i=.int .i64 j∧Hid (∀q:Nat,q<j→badNode p L[k]! nodes[q]! = false)∧Below w8.heap.size w8 wq) (fun i _=>nodes.length-(intOf i).toNat)
     case atStart=>exact⟨0,by omega,rfl,hid (fun q h=>absurd h (Nat.not_lt_zero _)),Below.refl _ _⟩
     case round=>
      obtain⟨j,hj,rfl,HJ,hbq⟩:=hrel;have HBQ:=hid hbq;have hsq:=hbq.size
      by_cases hlj:j<nodes.length
      rotate_left
      ·obtain rfl:j=nodes.length:=by omega
       have hge:¬((nodes.length:Int)<(nodes.length:Int)):=by omega
       have HQ:=hid (HRN.out k fun q h=>HJ.out q h);have HBQ5:=hid (HB85.out.trans (hbq.mono HB85.out.size))
       have HDN2:=hid (show ∀i:Nat,i<k+1→lr p L i∧lq p L[i]! from fun i hi=>by
        by_cases e:i=k
        ·subst e;exact⟨HRW.out,HQ.out⟩
        ·exact HDN.out i (by omega))
       clear hbq;go_wp2_with fail;go_roundw
       case rel=>exact⟨k+1,by omega,by go_num,HDN2,HBQ5.out⟩
       case measure=>simp[intOf];omega
      have hlji:(j:Int)<(nodes.length:Int):=by omega
      have HBQ5:=hid (HB85.out.trans (hbq.mono HB85.out.size));have HBQW:=hid (HB8W.out.trans (hbq.mono HB8W.out.size));obtain⟨b,off,rfl,hbl,c0,c1,c2⟩:=HN.out j hlj wr HBQW.out;have hnr:=(HNN.out j hlj).1;have H2J:=hid (H2.out k j hlt hlj)
      have HJ2:=hid (show badNode p L[k]! nodes[j]! = false→∀q:Nat,q<j+1→badNode p L[k]! nodes[q]! = false from fun h q h1=>by
       by_cases e:q=j
       ·rw[e];exact h
       ·exact HJ.out q (by omega))
      obtain⟨⟨ni,nx,ny⟩,hnk⟩:∃z,nodes[j]! = z:=⟨_,rfl⟩;rw[hnk]at c0 c1 c2 hnr H2J HJ2;dsimp only at c0 c1 c2 hnr;have hff:=HF.out k hlt wr HBQ5.out;replace hff:=(show cU wr bs[L[k]!.1]! p.arcs[L[k]!.1]! (pth p L[k]!.1)∧L[k]!.2+1<(pth p L[k]!.1).length∧(pth p L[k]!.1).length≤1000000000∧L[k]!.1<p.arcs.length from by obtain⟨_,_,_,_,_,h1,h2,h3,h4,_⟩:=hff;exact⟨h1,h2,h3,h4⟩);obtain⟨hl1,hl2,hl3,hl4⟩:=hff;have hpr:=HWN.out.pr _ hl4;obtain⟨A1,hA1⟩:∃z,p.arcs[L[k]!.1]! = z:=⟨_,rfl⟩;obtain⟨l1,hl1'⟩:∃z,pth p L[k]!.1=z:=⟨_,rfl⟩;have HBD:=hid (show badNode p L[k]! (ni,nx,ny)=(onB l1[s1]! l1[s1+1]! (nx,ny)&&!(decide (s1=0)&&A1.frm==ni)&&!(decide (s1+2=l1.length)&&A1.dst==ni))from by rw[←hA1,←hl1',←HS1.out];rfl);rw[HB1.out,hA1,hl1']at hl1;rw[HS1.out,hl1']at hl2;rw[hl1']at hl3 hpr;obtain⟨⟨ax,ay⟩,hpa⟩:∃z,l1[s1]! = z:=⟨_,rfl⟩;obtain⟨⟨bx,by_⟩,hpb⟩:∃z,l1[s1+1]! = z:=⟨_,rfl⟩;have na:=hpr s1 (by omega);have nb:=hpr (s1+1) hl2;rw[hpa]at na HBD;rw[hpb]at nb HBD;have hxn:=Bx.new (t:=71) (cs:=[.int .i64 ni,.int .i64 nx,.int .i64 ny]) wr rfl;have hxs3:=(hs8.below hbq).alloc (.cells #[ni,nx,ny] 71);have hbn:=hbq.trans ((bw1 wr (.cells #[ni,nx,ny] 71)).mono hsq);have hl2n:=hl1.below (bw1 wr (.cells #[ni,nx,ny] 71));clear hbq hsq hnk hl1 hA1 hl1' hl4 hpr;go_upto_region 24 with fail;generalize wr.alloc (.cells #[ni,nx,ny] 71)=wb at *;generalize wr.heap.size=nN at *;have k1:=hxs3.cell 0;have k2:=hxs3.cell 1;simp only[gz,gs]at k1 k2
      have cE:=hid fun (W:World) (hb:Below wb.heap.size wb W)=>(show Calls Tryz.prog 101 #[.agg #[.pointer (some ⟨b1,0,none⟩),s1]] W (RetV W (.tuple #[.agg #[ax,ay],.agg #[bx,by_]]))from by
       have:=gK b1 s1 A1 l1 W (hl2n.below hb) hl2 hl3
       rwa [hpa,hpb]at this)
      clear hpa hpb c0 c1 c2;go_wp2_with fail;refine(cE.out _ (Below.refl _ _)).mono ?_;rintro e w9 ⟨rfl,hb9⟩;have hxs4:=((hxs3.below hb9).alloc (.cells #[ax,ay] 30)).alloc (.cells #[bx,by_] 30);have hxn4:=((hxn.below hb9).alloc (.cells #[ax,ay] 30)).alloc (.cells #[bx,by_] 30);have hxa4:=(Bx.new (t:=30) (cs:=[.int .i64 ax,.int .i64 ay]) w9 rfl).alloc (.cells #[bx,by_] 30);have hxb4:=Bx.newAt (b:=w9.heap.size+1) (t:=30) (cs:=[.int .i64 bx,.int .i64 by_]) (w9.alloc (.cells #[ax,ay] 30)) (by simp) rfl;have hbs:=hb9.trans (((bw1 w9 (.cells #[ax,ay] 30)).trans ((bw1 _ (.cells #[bx,by_] 30)).mono (bw1 w9 (.cells #[ax,ay] 30)).size)).mono hb9.size);have hbn4:=hbn.trans (hbs.mono hbn.size);have hl4n:=hl2n.below hbs;clear hb9 hbs hxs3 hxn hbn hl2n k1 k2 cE;go_upto_region 25 with fail;generalize (w9.alloc (.cells #[ax,ay] 30)).alloc (.cells #[bx,by_] 30)=wb4 at *;generalize w9.heap.size+1=nB at *;generalize w9.heap.size=nA at *;have HBB:=hid hbn4;have HBWB:=hid (HB8W.out.trans (hbn4.mono HB8W.out.size))
      have HCC:=hid fun (W:World) (hb:Below wb4.heap.size wb4 W)=>(show W.cell? ⟨nS,0,none⟩=some (.pointer (some ⟨b1,0,none⟩))∧W.cell? ⟨nS,1,none⟩=some (.int .i64 s1)∧W.cell? ⟨nN,0,none⟩=some (.int .i64 ni)∧W.cell? ⟨nN,1,none⟩=some (.int .i64 nx)∧W.cell? ⟨nN,2,none⟩=some (.int .i64 ny)∧W.cell? ⟨nA,0,none⟩=some (.int .i64 ax)∧W.cell? ⟨nA,1,none⟩=some (.int .i64 ay)∧W.cell? ⟨nB,0,none⟩=some (.int .i64 bx)∧W.cell? ⟨nB,1,none⟩=some (.int .i64 by_)∧W.cell? ⟨b1,1,none⟩=some (.int .i64 A1.frm)∧W.cell? ⟨b1,2,none⟩=some (.int .i64 A1.dst)from by
       obtain⟨_,_,_,_,_,m1,m2,_⟩:=(hl4n.below hb).cells (Below.refl _ _)
       exact⟨(hxs4.below hb).cell 0,(hxs4.below hb).cell 1,(hxn4.below hb).cell 0,(hxn4.below hb).cell 1,(hxn4.below hb).cell 2,(hxa4.below hb).cell 0,(hxa4.below hb).cell 1,(hxb4.below hb).cell 0,(hxb4.below hb).cell 1,m1,m2⟩)
      have cO:=hid fun W=>(show Calls Tryz.prog 102 #[.agg #[ax,ay],.agg #[bx,by_],.agg #[nx,ny]] W (RetV W (.bool (onB (ax,ay) (bx,by_) (nx,ny))))from bG (ax,ay) (bx,by_) (nx,ny) W na nb hnr)
      have cF:=hid fun W=>(show Calls Tryz.prog 103 #[.agg #[.pointer (some ⟨b1,0,none⟩),s1]] W (RetV W (.bool (decide (s1=0))))from iE b1 s1 W (by omega))
      have cL:=hid fun (W:World) (hb:Below wb4.heap.size wb4 W)=>(show Calls Tryz.prog 104 #[.agg #[.pointer (some ⟨b1,0,none⟩),s1]] W (RetV W (.bool (decide (s1+2=l1.length))))from jM b1 s1 A1 l1 W (hl4n.below hb) hl3 (by omega))
      generalize badNode p L[k]! (ni,nx,ny)=bd at *;generalize onB (ax,ay) (bx,by_) (nx,ny)=on at *;generalize decide (s1=0)=fs at *;generalize decide (s1+2=l1.length)=ls at *;clear hbn4 hl4n hxs4 hxn4 hxa4 hxb4 hl2 hl3 na nb hnr hs8;have hS8:(fun W:World=>Below wb4.heap.size wb4 W) wb4.drew:=(Below.refl _ _).drew;cases on
      ·refine wp_region_held_drew (S:=fun W:World=>Below wb4.heap.size wb4 W) (by kernel_rfl) hS8 (fun hHeld=>?_)
       clear hHeld;generalize hwd:wb4.drew=wbd at *;clear hwd;refine kf 0 HCC.out rfl ?_;refine kf 1 HCC.out rfl ?_;refine kk 2 rfl ?_;refine kf 3 HCC.out rfl ?_;refine kr 4 rfl fun K hK=>?_
       go_simp;go_at_call 102;refine(cO.out _).mono ?_;rintro e Wrb1 ⟨rfl,hbWrb1⟩;have hSWrb1:=hS8.trans (hbWrb1.mono hS8.size)
       try clear hS8
       clear hbWrb1;go_wp2_with fail;refine hK.out _ _ hSWrb1 (fun hHeld=>?_);clear hK hHeld K
       try simp only[Act.put,sa,sz,ss]
       refine kk 5 rfl ?_;refine ku 6 rfl ?_;refine ku 7 rfl ?_;refine ku 8 rfl ?_;refine ku 9 rfl ?_;refine ku 10 rfl ?_;refine ku 11 rfl ?_;refine ku 12 rfl ?_;refine ku 13 rfl ?_;refine ku 14 rfl ?_;refine ku 15 rfl ?_;refine ku 16 rfl ?_;refine ku 17 rfl ?_;refine ku 18 rfl ?_;refine ku 19 rfl ?_;refine kk 20 rfl ?_;refine kk 21 rfl ?_;refine ku 22 rfl ?_;refine ku 23 rfl ?_;refine ku 24 rfl ?_;refine ku 25 rfl ?_;refine ku 26 rfl ?_;refine ku 27 rfl ?_;refine ku 28 rfl ?_;refine ku 29 rfl ?_;refine ku 30 rfl ?_;refine ku 31 rfl ?_;refine ku 32 rfl ?_;refine ku 33 rfl ?_;refine ku 34 rfl ?_;refine ku 35 rfl ?_;refine kk 36 rfl ?_;refine wpAnyH_done (by kernel_rfl) ?_ _;have HQ:=hid (HJ2.out (by rw[HBD.out];rfl));have HBZ:=hid (HBB.out.trans (hSWrb1.mono HBB.out.size));go_wp2_with fail;go_roundw
       case rel=>exact⟨j+1,by omega,by go_num,HQ,HBZ.out⟩
       case measure=>simp[intOf];omega
      rw[Bool.true_and]at HBD;cases fs
      ·rw[Bool.false_and]at HBD
       cases ls
       ·refine wp_region_held_drew (S:=fun W:World=>Below wb4.heap.size wb4 W) (by kernel_rfl) hS8 (fun hHeld=>?_)
        clear hHeld;generalize hwd:wb4.drew=wbd at *;clear hwd;refine kf 0 HCC.out rfl ?_;refine kf 1 HCC.out rfl ?_;refine kk 2 rfl ?_;refine kf 3 HCC.out rfl ?_;refine kr 4 rfl fun K hK=>?_
        go_simp;go_at_call 102;refine(cO.out _).mono ?_;rintro e Wrc1 ⟨rfl,hbWrc1⟩;have hSWrc1:=hS8.trans (hbWrc1.mono hS8.size)
        try clear hS8
        clear hbWrc1;go_wp2_with fail;refine hK.out _ _ hSWrc1 (fun hHeld=>?_);clear hK hHeld K
        try simp only[Act.put,sa,sz,ss]
        refine kk 5 rfl ?_;refine kf 6 HCC.out rfl ?_;refine kr 7 rfl fun K hK=>?_
        go_simp;go_at_call 103;refine(cF.out _).mono ?_;rintro e Wrc2 ⟨rfl,hbWrc2⟩;have hSWrc2:=hSWrc1.trans (hbWrc2.mono hSWrc1.size)
        try clear hSWrc1
        clear hbWrc2;go_wp2_with fail;refine hK.out _ _ hSWrc2 (fun hHeld=>?_);clear hK hHeld K
        try simp only[Act.put,sa,sz,ss]
        refine kk 8 rfl ?_;refine ku 9 rfl ?_;refine ku 10 rfl ?_;refine ku 11 rfl ?_;refine ku 12 rfl ?_;refine ku 13 rfl ?_;refine ku 14 rfl ?_;refine ku 15 rfl ?_;refine ku 16 rfl ?_;refine ku 17 rfl ?_;refine kk 18 rfl ?_;refine kk 19 rfl ?_;refine kk 20 rfl ?_;refine kk 21 rfl ?_;refine kf 22 HCC.out rfl ?_;refine kr 23 rfl fun K hK=>?_
        go_simp;go_at_call 104;refine(cL.out _ hSWrc2).mono ?_;rintro e Wrc3 ⟨rfl,hbWrc3⟩;have hSWrc3:=hSWrc2.trans (hbWrc3.mono hSWrc2.size)
        try clear hSWrc2
        clear hbWrc3;go_wp2_with fail;refine hK.out _ _ hSWrc3 (fun hHeld=>?_);clear hK hHeld K
        try simp only[Act.put,sa,sz,ss]
        refine kk 24 rfl ?_;refine ku 25 rfl ?_;refine ku 26 rfl ?_;refine ku 27 rfl ?_;refine ku 28 rfl ?_;refine ku 29 rfl ?_;refine ku 30 rfl ?_;refine ku 31 rfl ?_;refine ku 32 rfl ?_;refine ku 33 rfl ?_;refine kk 34 rfl ?_;refine kk 35 rfl ?_;refine kk 36 rfl ?_;refine wpAnyH_done (by kernel_rfl) ?_ _;have HP:=hid (H2J.out (by rw[HBD.out];rfl));have HBZ:=hid (HBWB.out.trans (hSWrc3.mono HBWB.out.size));go_wp2_with fail;go_ret;exact⟨_,HPP.out,cX.no HP.out HBZ.out⟩
       ·obtain⟨db,hdb⟩:∃z,(A1.dst==ni)=z:=⟨_,rfl⟩
        refine wp_region_held_drew (S:=fun W:World=>Below wb4.heap.size wb4 W) (by kernel_rfl) hS8 (fun hHeld=>?_);clear hHeld;generalize hwd:wb4.drew=wbd at *;clear hwd;refine kf 0 HCC.out rfl ?_;refine kf 1 HCC.out rfl ?_;refine kk 2 rfl ?_;refine kf 3 HCC.out rfl ?_;refine kr 4 rfl fun K hK=>?_
        go_simp;go_at_call 102;refine(cO.out _).mono ?_;rintro e Wrd1 ⟨rfl,hbWrd1⟩;have hSWrd1:=hS8.trans (hbWrd1.mono hS8.size)
        try clear hS8
        clear hbWrd1;go_wp2_with fail;refine hK.out _ _ hSWrd1 (fun hHeld=>?_);clear hK hHeld K
        try simp only[Act.put,sa,sz,ss]
        refine kk 5 rfl ?_;refine kf 6 HCC.out rfl ?_;refine kr 7 rfl fun K hK=>?_
        go_simp;go_at_call 103;refine(cF.out _).mono ?_;rintro e Wrd2 ⟨rfl,hbWrd2⟩;have hSWrd2:=hSWrd1.trans (hbWrd2.mono hSWrd1.size)
        try clear hSWrd1
        clear hbWrd2;go_wp2_with fail;refine hK.out _ _ hSWrd2 (fun hHeld=>?_);clear hK hHeld K
        try simp only[Act.put,sa,sz,ss]
        refine kk 8 rfl ?_;refine ku 9 rfl ?_;refine ku 10 rfl ?_;refine ku 11 rfl ?_;refine ku 12 rfl ?_;refine ku 13 rfl ?_;refine ku 14 rfl ?_;refine ku 15 rfl ?_;refine ku 16 rfl ?_;refine ku 17 rfl ?_;refine kk 18 rfl ?_;refine kk 19 rfl ?_;refine kk 20 rfl ?_;refine kk 21 rfl ?_;refine kf 22 HCC.out rfl ?_;refine kr 23 rfl fun K hK=>?_
        go_simp;go_at_call 104;refine(cL.out _ hSWrd2).mono ?_;rintro e Wrd3 ⟨rfl,hbWrd3⟩;have hSWrd3:=hSWrd2.trans (hbWrd3.mono hSWrd2.size)
        try clear hSWrd2
        clear hbWrd3;go_wp2_with fail;refine hK.out _ _ hSWrd3 (fun hHeld=>?_);clear hK hHeld K
        try simp only[Act.put,sa,sz,ss]
        refine kk 24 rfl ?_;refine kk 25 rfl ?_;refine kf 26 HCC.out rfl ?_;refine kk 27 rfl ?_;refine kk 28 rfl ?_;refine kk 29 rfl ?_;refine kf 30 HCC.out rfl ?_;refine kk 31 rfl ?_;refine kf 32 HCC.out rfl ?_;refine kk 33 rfl ?_;refine kk 34 rfl ?_;refine kk 35 rfl ?_;refine kk 36 rfl ?_;refine wpAnyH_done (by kernel_rfl) ?_ _;cases db
        ·have HP:=hid (H2J.out (by rw[HBD.out,hdb];rfl))
         have HBZ:=hid (HBWB.out.trans (hSWrd3.mono HBWB.out.size));go_wp2_with fail;go_ret;exact⟨_,HPP.out,cX.no HP.out HBZ.out⟩
        ·have HQ:=hid (HJ2.out (by rw[HBD.out,hdb];rfl))
         have HBZ:=hid (HBB.out.trans (hSWrd3.mono HBB.out.size));go_wp2_with fail;go_roundw
         case rel=>exact⟨j+1,by omega,by go_num,HQ,HBZ.out⟩
         case measure=>simp[intOf];omega
      ·obtain⟨fb,hfb⟩:∃z,(A1.frm==ni)=z:=⟨_,rfl⟩
       cases fb
       ·cases ls
        ·refine wp_region_held_drew (S:=fun W:World=>Below wb4.heap.size wb4 W) (by kernel_rfl) hS8 (fun hHeld=>?_)
         clear hHeld;generalize hwd:wb4.drew=wbd at *;clear hwd;refine kf 0 HCC.out rfl ?_;refine kf 1 HCC.out rfl ?_;refine kk 2 rfl ?_;refine kf 3 HCC.out rfl ?_;refine kr 4 rfl fun K hK=>?_
         go_simp;go_at_call 102;refine(cO.out _).mono ?_;rintro e Wre1 ⟨rfl,hbWre1⟩;have hSWre1:=hS8.trans (hbWre1.mono hS8.size)
         try clear hS8
         clear hbWre1;go_wp2_with fail;refine hK.out _ _ hSWre1 (fun hHeld=>?_);clear hK hHeld K
         try simp only[Act.put,sa,sz,ss]
         refine kk 5 rfl ?_;refine kf 6 HCC.out rfl ?_;refine kr 7 rfl fun K hK=>?_
         go_simp;go_at_call 103;refine(cF.out _).mono ?_;rintro e Wre2 ⟨rfl,hbWre2⟩;have hSWre2:=hSWre1.trans (hbWre2.mono hSWre1.size)
         try clear hSWre1
         clear hbWre2;go_wp2_with fail;refine hK.out _ _ hSWre2 (fun hHeld=>?_);clear hK hHeld K
         try simp only[Act.put,sa,sz,ss]
         refine kk 8 rfl ?_;refine kk 9 rfl ?_;refine kf 10 HCC.out rfl ?_;refine kk 11 rfl ?_;refine kk 12 rfl ?_;refine kk 13 rfl ?_;refine kf 14 HCC.out rfl ?_;refine kk 15 rfl ?_;refine kf 16 HCC.out rfl ?_;refine kk 17 rfl ?_;refine kk 18 rfl ?_;refine kk 19 rfl ?_;refine kk 20 rfl ?_;refine kk 21 rfl ?_;refine kf 22 HCC.out rfl ?_;refine kr 23 rfl fun K hK=>?_
         go_simp;go_at_call 104;refine(cL.out _ hSWre2).mono ?_;rintro e Wre3 ⟨rfl,hbWre3⟩;have hSWre3:=hSWre2.trans (hbWre3.mono hSWre2.size)
         try clear hSWre2
         clear hbWre3;go_wp2_with fail;refine hK.out _ _ hSWre3 (fun hHeld=>?_);clear hK hHeld K
         try simp only[Act.put,sa,sz,ss]
         refine kk 24 rfl ?_;refine ku 25 rfl ?_;refine ku 26 rfl ?_;refine ku 27 rfl ?_;refine ku 28 rfl ?_;refine ku 29 rfl ?_;refine ku 30 rfl ?_;refine ku 31 rfl ?_;refine ku 32 rfl ?_;refine ku 33 rfl ?_;refine kk 34 rfl ?_;refine kk 35 rfl ?_;refine kk 36 rfl ?_;refine wpAnyH_done (by kernel_rfl) ?_ _;have HP:=hid (H2J.out (by rw[HBD.out,hfb];rfl));have HBZ:=hid (HBWB.out.trans (hSWre3.mono HBWB.out.size));go_wp2_with fail;go_ret;exact⟨_,HPP.out,cX.no HP.out HBZ.out⟩
        ·obtain⟨db,hdb⟩:∃z,(A1.dst==ni)=z:=⟨_,rfl⟩
         refine wp_region_held_drew (S:=fun W:World=>Below wb4.heap.size wb4 W) (by kernel_rfl) hS8 (fun hHeld=>?_);clear hHeld;generalize hwd:wb4.drew=wbd at *;clear hwd;refine kf 0 HCC.out rfl ?_;refine kf 1 HCC.out rfl ?_;refine kk 2 rfl ?_;refine kf 3 HCC.out rfl ?_;refine kr 4 rfl fun K hK=>?_
         go_simp;go_at_call 102;refine(cO.out _).mono ?_;rintro e Wrf1 ⟨rfl,hbWrf1⟩;have hSWrf1:=hS8.trans (hbWrf1.mono hS8.size)
         try clear hS8
         clear hbWrf1;go_wp2_with fail;refine hK.out _ _ hSWrf1 (fun hHeld=>?_);clear hK hHeld K
         try simp only[Act.put,sa,sz,ss]
         refine kk 5 rfl ?_;refine kf 6 HCC.out rfl ?_;refine kr 7 rfl fun K hK=>?_
         go_simp;go_at_call 103;refine(cF.out _).mono ?_;rintro e Wrf2 ⟨rfl,hbWrf2⟩;have hSWrf2:=hSWrf1.trans (hbWrf2.mono hSWrf1.size)
         try clear hSWrf1
         clear hbWrf2;go_wp2_with fail;refine hK.out _ _ hSWrf2 (fun hHeld=>?_);clear hK hHeld K
         try simp only[Act.put,sa,sz,ss]
         refine kk 8 rfl ?_;refine kk 9 rfl ?_;refine kf 10 HCC.out rfl ?_;refine kk 11 rfl ?_;refine kk 12 rfl ?_;refine kk 13 rfl ?_;refine kf 14 HCC.out rfl ?_;refine kk 15 rfl ?_;refine kf 16 HCC.out rfl ?_;refine kk 17 rfl ?_;refine kk 18 rfl ?_;refine kk 19 rfl ?_;refine kk 20 rfl ?_;refine kk 21 rfl ?_;refine kf 22 HCC.out rfl ?_;refine kr 23 rfl fun K hK=>?_
         go_simp;go_at_call 104;refine(cL.out _ hSWrf2).mono ?_;rintro e Wrf3 ⟨rfl,hbWrf3⟩;have hSWrf3:=hSWrf2.trans (hbWrf3.mono hSWrf2.size)
         try clear hSWrf2
         clear hbWrf3;go_wp2_with fail;refine hK.out _ _ hSWrf3 (fun hHeld=>?_);clear hK hHeld K
         try simp only[Act.put,sa,sz,ss]
         refine kk 24 rfl ?_;refine kk 25 rfl ?_;refine kf 26 HCC.out rfl ?_;refine kk 27 rfl ?_;refine kk 28 rfl ?_;refine kk 29 rfl ?_;refine kf 30 HCC.out rfl ?_;refine kk 31 rfl ?_;refine kf 32 HCC.out rfl ?_;refine kk 33 rfl ?_;refine kk 34 rfl ?_;refine kk 35 rfl ?_;refine kk 36 rfl ?_;refine wpAnyH_done (by kernel_rfl) ?_ _;cases db
         ·have HP:=hid (H2J.out (by rw[HBD.out,hfb,hdb];rfl))
          have HBZ:=hid (HBWB.out.trans (hSWrf3.mono HBWB.out.size));go_wp2_with fail;go_ret;exact⟨_,HPP.out,cX.no HP.out HBZ.out⟩
         ·have HQ:=hid (HJ2.out (by rw[HBD.out,hfb,hdb];rfl))
          have HBZ:=hid (HBB.out.trans (hSWrf3.mono HBB.out.size));go_wp2_with fail;go_roundw
          case rel=>exact⟨j+1,by omega,by go_num,HQ,HBZ.out⟩
          case measure=>simp[intOf];omega
       ·refine wp_region_held_drew (S:=fun W:World=>Below wb4.heap.size wb4 W) (by kernel_rfl) hS8 (fun hHeld=>?_)
        clear hHeld;generalize hwd:wb4.drew=wbd at *;clear hwd;refine kf 0 HCC.out rfl ?_;refine kf 1 HCC.out rfl ?_;refine kk 2 rfl ?_;refine kf 3 HCC.out rfl ?_;refine kr 4 rfl fun K hK=>?_
        go_simp;go_at_call 102;refine(cO.out _).mono ?_;rintro e Wrg1 ⟨rfl,hbWrg1⟩;have hSWrg1:=hS8.trans (hbWrg1.mono hS8.size)
        try clear hS8
        clear hbWrg1;go_wp2_with fail;refine hK.out _ _ hSWrg1 (fun hHeld=>?_);clear hK hHeld K
        try simp only[Act.put,sa,sz,ss]
        refine kk 5 rfl ?_;refine kf 6 HCC.out rfl ?_;refine kr 7 rfl fun K hK=>?_
        go_simp;go_at_call 103;refine(cF.out _).mono ?_;rintro e Wrg2 ⟨rfl,hbWrg2⟩;have hSWrg2:=hSWrg1.trans (hbWrg2.mono hSWrg1.size)
        try clear hSWrg1
        clear hbWrg2;go_wp2_with fail;refine hK.out _ _ hSWrg2 (fun hHeld=>?_);clear hK hHeld K
        try simp only[Act.put,sa,sz,ss]
        refine kk 8 rfl ?_;refine kk 9 rfl ?_;refine kf 10 HCC.out rfl ?_;refine kk 11 rfl ?_;refine kk 12 rfl ?_;refine kk 13 rfl ?_;refine kf 14 HCC.out rfl ?_;refine kk 15 rfl ?_;refine kf 16 HCC.out rfl ?_;refine kk 17 rfl ?_;refine kk 18 rfl ?_;refine kk 19 rfl ?_;refine kk 20 rfl ?_;refine kk 21 rfl ?_;refine ku 22 rfl ?_;refine ku 23 rfl ?_;refine ku 24 rfl ?_;refine ku 25 rfl ?_;refine ku 26 rfl ?_;refine ku 27 rfl ?_;refine ku 28 rfl ?_;refine ku 29 rfl ?_;refine ku 30 rfl ?_;refine ku 31 rfl ?_;refine ku 32 rfl ?_;refine ku 33 rfl ?_;refine ku 34 rfl ?_;refine ku 35 rfl ?_;refine kk 36 rfl ?_;refine wpAnyH_done (by kernel_rfl) ?_ _;have HQ:=hid (HJ2.out (by rw[HBD.out,hfb];rfl));have HBZ:=hid (HBB.out.trans (hSWrg2.mono HBB.out.size));go_wp2_with fail;go_roundw
        case rel=>exact⟨j+1,by omega,by go_num,HQ,HBZ.out⟩
        case measure=>simp[intOf];omega
end Go.Proofs
