/- Lemmas and walks; no statement of a law is proved here. -/
import Derived.Test.YtaglmdebikglgaaGreatDoorX13
set_option linter.unusedVariables false
set_option linter.unusedSimpArgs false
set_option maxRecDepth 100000
set_option maxHeartbeats 8000000
open Go.Lib
namespace Go.Proofs
open Go.RowKit Go.Proofs.Mp Go.Lib
theorem qs{p:Pn}(hC:CheckP p){k:Nat}(hk:k<p.arcs.length):∀j,j<(pth p k).length→Nr (pth p k)[j]!:=fun j hj=>hC.pre.ok.pr k hk j hj
theorem pZ{d:Int}(h : -1073741824≤d∧d≤1073741824):(Lit.int .i64 (max d (-d))).wf=true:=by
 refine bz ?_ ?_
 ·rcases Int.le_total d (-d)with k|k
  ·rw[Int.max_eq_right k];omega
  ·rw[Int.max_eq_left k];omega
 ·rcases Int.le_total d (-d)with k|k
  ·rw[Int.max_eq_right k];omega
  ·rw[Int.max_eq_left k];omega
theorem jP(p:Pn)(w0 w:World)(B N nA nO nD:Nat)(f:Int→Option Value)(v:Value)(l:List Int)(q:Pt)(a b:Bool)(hC:CheckP p)(hM:PaM p w0 B N f)(hl:SlI w0 v l)(hd:∀x∈l,x∈dS p)(h:EnM w0 w nA nO nD q a b)(hq:Nr q)(hlen:l.length≤1000000) :
  Calls Tryz.prog 219 #[.map (some B),v,.func (.func 220) #[] #[.pointer (some ⟨nA,0,none⟩),.pointer (some ⟨nO,0,none⟩),.pointer (some ⟨nD,0,none⟩)]] w (sI w0 nA nO nD q):=by
 obtain⟨A,c,rfl,hr,hc⟩:=hl;have HM:=hid hM;have HRL:=hid hr;have HCk:=hid hC;have HD:=hid hd;have hq:=hid hq;have HEM0:=hid h;clear hM hr hC hd h;go_enter Tryz.func219,Tryz.ntmps219;go_wp2_with fail;go_loopw [7,8,9,12] (fun _ _ _ i wr=>∃(k:Nat) (a b:Bool),k≤l.length∧i=.int .i64 k∧Hid (EnM w0 wr nA nO nD q a b)) (fun _ _ _ i _=>l.length-(intOf i).toNat)
 case atStart=>exact⟨0,a,b,by omega,rfl,HEM0⟩
 case round=>
  clear HEM0;obtain⟨k,a,b,hk,rfl,HEM⟩:=hrel
  by_cases hlt:k<l.length
  ·have hli:(k:Int)<(l.length:Int):=by omega
   obtain⟨b1,o1,rfl,hb1,d0⟩:=RdI.get HRL.out HEM.out.hb hlt;have HDW:=hid (su HCk.out (HD.out _ (ak hlt)));generalize l[k]! = d at *;have hwk:=pZ HDW.out;have hwn:IntKind.i64.wrap (-d)=-d:=IntWalk.i64_in _ (by have:=HDW.out;omega);have hMp:=(HM.out.below HEM.out.hb).mp
   obtain⟨u,path,hu,hsl,hNp,hpl⟩:∃(u:Value) (path:List Pt),(f (max d (-d))).getD (.slice none 0 0)=u∧SlP w0 u path∧(∀j,j<path.length→Nr path[j]!)∧path.length≤100:=by
    cases e:f (max d (-d)) with
    | none=>exact⟨_,[],rfl,⟨none,0,rfl,.inl rfl,Nat.le_refl _⟩,(fun j hj=>absurd hj (Nat.not_lt_zero _)),by simp⟩
    | some x=>
     obtain⟨⟨q,hq,h1⟩,_,_⟩:=HM.out.vl _ _ e;exact⟨x,_,rfl,h1,qs HCk.out hq,by rw[HCk.out.pre.plen hq];have:=HCk.out.lv q hq;omega⟩
   have HU:=hid hu;have HNP:=hid hNp;have HPL:=hid hpl;obtain⟨A2,c2,rfl,hr2,_⟩:=hsl;have HR2:=hid hr2;clear hu hNp hpl hr2;go_wp2_with (at_lookup;refine MapV.look hMp rfl _ _ rfl Tryz.underlying104 Tryz.underlying3 (Tryz.zeroValue56 _) rfl (max d (-d)) rfl hwk HU.out ?_);clear d0 hMp hwk hwn;go_loopw [9] (fun i wr=>∃(j:Nat) (a b:Bool),1≤j∧j≤path.length+1∧i=.int .i64 j∧Hid (EnM w0 wr nA nO nD q a b)) (fun i _=>path.length+1-(intOf i).toNat)
   case atStart=>exact⟨1,a,b,Nat.le_refl _,by omega,rfl,HEM⟩
   case round=>
    clear HEM;obtain⟨j,a,b,hj1,hj2,rfl,HEM⟩:=hrel
    by_cases hlj:j<path.length
    ·have hlj2:(j:Int)<(path.length:Int):=by omega
     obtain⟨b2,o2,rfl,_,_,_⟩:=RdR.get HR2.out (Below.refl _ _) hlj;obtain⟨i0,hi0⟩:∃i0,j=i0+1:=⟨j-1,by omega⟩
     have HPP:=hid (show ∀W,Below w0.heap.size w0 W→(W.cell? ⟨b2,o2+(j-1)*2,none⟩=some (.int .i64 path[j-1]!.1)∧W.cell? ⟨b2,o2+(j-1)*2+1,none⟩=some (.int .i64 path[j-1]!.2))∧(W.cell? ⟨b2,o2+j*2,none⟩=some (.int .i64 path[j]!.1)∧W.cell? ⟨b2,o2+j*2+1,none⟩=some (.int .i64 path[j]!.2))from fun W hb=>by
      have g:∀q,q<path.length→W.cell? ⟨b2,o2+q*2,none⟩=some (.int .i64 path[q]!.1)∧W.cell? ⟨b2,o2+q*2+1,none⟩=some (.int .i64 path[q]!.2):=fun q hq=>by
       obtain⟨b',o',e,_,d0,d1⟩:=RdR.get HR2.out hb hq;injection e with e;injection e with e1 e2;subst e1 e2;exact⟨d0,d1⟩
      exact⟨g (j-1) (by omega),g j hlj⟩)
     have HNx:=hid (show Nr path[j-1]!∧Nr path[j]! from ⟨HNP.out _ (by omega),HNP.out _ hlj⟩);clear hi0;have hjb:j≤101:=by have:=HPL.out;omega
     have j1:((j:Int)-1).toNat=j-1:=by omega
     have j2:(1:Int)≤(j:Int):=by omega
     have j3:(j:Int)-1<(path.length:Int):=by omega
     have j4:IntKind.i64.wrap ((j:Int)-1)=(j:Int)-1:=IntWalk.i64_in _ (by omega);generalize path[j-1]! = x at *;generalize path[j]! = y at *;obtain⟨xx,xy⟩:=x;obtain⟨yx,yy⟩:=y;dsimp only at HPP;go_wp2_with fail;have hS1:(fun W:World=>Below w0.heap.size w0 W) wr.drew:=HEM.out.hb.drew;have HEw:=hid (HEM.out.below (Below.refl _ _).drew);refine wp_region_held_drew (S:=(fun W:World=>Below w0.heap.size w0 W)) (by kernel_rfl) hS1 (fun hHeld=>?_);clear hHeld;generalize hwd:wr.drew=wd at *;clear hwd;refine kk 0 rfl ?_;refine kk 1 rfl ?_;refine kk 2 rfl ?_;refine kk 3 rfl ?_;refine kk 4 rfl ?_;refine kf 5 (fun W h=>(HPP.out W h).1) rfl ?_;refine kk 6 rfl ?_;refine kk 7 rfl ?_;refine kk 8 rfl ?_;refine kf 9 (fun W h=>(HPP.out W h).2) rfl ?_;refine kr 10 rfl fun K hK=>?_
     go_simp;go_at_call 220;refine(qU w0 wd nA nO nD q _ _ _ _ HEw.out hq.out HNx.out.1 HNx.out.2).mono ?_;rintro e Wra1 ⟨rfl,a2,b2,he2⟩;have hS2:(fun W:World=>Below w0.heap.size w0 W) Wra1:=he2.hb;have HE2:=hid he2;clear he2 hS1;go_wp2_with fail;refine hK.out _ _ hS2 (fun hHeld=>?_);clear hK hHeld K
     try simp only[Act.put,sa,sz,ss]
     refine wpAnyH_done (by kernel_rfl) ?_ _;clear hS2;go_wp2_with fail;go_roundw
     case rel=>exact⟨j+1,a2,b2,by omega,by omega,by go_num,HE2⟩
     case measure=>simp[intOf];omega
    ·have hge:¬((j:Int)<(path.length:Int)):=by omega
     go_wp2_with fail;go_roundw
     case rel=>exact⟨k+1,a,b,by omega,by go_num,HEM⟩
     case measure=>simp[intOf];omega
  ·obtain rfl:l.length=k:=by omega
   have hge:¬((l.length:Int)<(l.length:Int)):=by omega
   go_wp2_with fail;refine bodyPost_end (v:=.tuple #[]) (by simp[results,Tryz.results219,go_sem]) rfl ?_;exact⟨rfl,_,_,HEM.out⟩
theorem jQ(p:Pn)(w:World)(B N:Nat)(f:Int→Option Value)(v:Value)(l:List Int)(q:Pt)(hC:CheckP p)(hM:PaM p w B N f)(hl:SlI w v l)(hd:∀x∈l,x∈dS p)(hq:Nr q)(hlen:l.length≤1000000) :
  Calls Tryz.prog 176 #[.map (some B),v,ae q] w (bQ w):=by
 have cS:=hid fun W nA nO nD a b h=>jP p w W B N nA nO nD f v l q a b hC hM hl hd h hq hlen
 have hst:EnM w (((w.alloc (.cells #[q.1,q.2] 30)).alloc (.cells #[.bool false] 4)).alloc (.cells #[.bool false] 4)) w.heap.size (w.heap.size+1) (w.heap.size+1+1) q false false:=
  ⟨((Bx.newAt w rfl rfl).alloc _).alloc _,(Bx.newAt _ (by simp) rfl).alloc _,Bx.newAt _ (by simp) rfl,((bw1 w _).alloc (bw1 w _).size _).alloc (by simp;omega) _,⟨by omega,by omega,by omega,by omega,by omega,by omega⟩⟩
 have HST:=hid hst;clear hC hM hl hd hq hlen hst;obtain⟨qx,qy⟩:=q;unfold ae;dsimp only at *;go_enter Tryz.func176,Tryz.ntmps176;go_upto_region 2 with fail;generalize ((w.alloc (.cells #[qx,qy] 30)).alloc (.cells #[.bool false] 4)).alloc (.cells #[.bool false] 4)=w1 at *;go_wp2_with fail;refine(cS.out _ _ _ _ _ _ HST.out).mono ?_;rintro e w2 ⟨rfl,a,b,he⟩;have e0:=he.bo.c1;have e1:=he.bd.c1;have HB:=hid he.hb;clear he;cases b
 all_goals
  go_wp2_with fail;go_ret;exact⟨_,rfl,HB.out⟩
abbrev AT:=Int×Value×Value×Value
def bh(y:AT):List Value:=[.int .i64 y.1,y.2.1,y.2.2.1,y.2.2.2]
theorem bO(y:AT):(bh y).length=4:=rfl
structure ArR(p:Pn)(w:World)(v:Value)(ys:List AT):Prop where
 sl:∃A c,v=.slice A ys.length c∧Rd 4 bh w A ys∧ys.length≤c
 ou:∀y∈ys,∃l,SlI w y.2.1 l∧(∀x∈l,x∈dS p)∧l.length≤513
theorem rd4{w W:World}{A:Option Addr}{ys:List AT}(h:Rd 4 bh w A ys)(hb:Below w.heap.size w W){i:Nat}(hi:i<ys.length) :
  ∃b off,A=some ⟨b,off,none⟩∧b<w.heap.size∧∀j,j<ys.length→W.cell? ⟨b,off+j*4,none⟩=some (.int .i64 ys[j]!.1)∧W.cell? ⟨b,off+j*4+1,none⟩=some ys[j]!.2.1∧W.cell? ⟨b,off+j*4+2,none⟩=some ys[j]!.2.2.1∧W.cell? ⟨b,off+j*4+3,none⟩=some ys[j]!.2.2.2:=by
 obtain⟨b,off,e,hl,hc⟩:=h.get hb hi;exact⟨b,off,e,hl,fun j hj=>⟨hc j hj 0 _ rfl,hc j hj 1 _ rfl,hc j hj 2 _ rfl,hc j hj 3 _ rfl⟩⟩
def un(w:World)(n:Nat)(e:Ending)(w':World):Prop:=∃k:Nat,e=.returned (.int .i64 k)∧(k=0∨k<n)∧Below w.heap.size w w'
theorem mj(p:Pn)(w:World)(B N:Nat)(f:Int→Option Value)(v:Value)(ys:List AT)(q:Pt)(hC:CheckP p)(hM:PaM p w B N f)(hA:ArR p w v ys)(hq:Nr q)(hlen:ys.length≤2000000) :
  Calls Tryz.prog 122 #[.map (some B),v,ae q] w (un w ys.length):=by
 obtain⟨⟨A,c,rfl,hr,hc⟩,hou⟩:=hA;have cE:=hid fun W (hb:Below w.heap.size w W) v l h1 h2 h3=>jQ p W B N f v l q hC (hM.below hb) h1 h2 hq h3
 have HR:=hid hr;have HOU:=hid hou;have HQ1:=hid (Bx.new (t:=30) (cs:=[.int .i64 q.1,.int .i64 q.2]) w rfl);have HW1:=hid (bw1 w (.cells #[q.1,q.2] 30));clear hC hM hr hou hq;obtain⟨qx,qy⟩:=q;unfold ae at *;dsimp only at *;go_enter Tryz.func122,Tryz.ntmps122;go_upto_region 1 with fail;generalize w.alloc (.cells #[qx,qy] 30)=w1 at *;go_wp2_with fail;go_loopw [7,8] (fun b i wr=>∃k j:Nat,1≤k∧k≤ys.length+1∧i=.int .i64 k∧b=.int .i64 j∧(j=0∨j<ys.length)∧Hid (Below w1.heap.size w1 wr)) (fun _ i _=>ys.length+1-(intOf i).toNat)
 case atStart=>exact⟨1,0,Nat.le_refl _,by omega,rfl,rfl,.inl rfl,hid (Below.refl _ _)⟩
 case round=>
  obtain⟨k,j,hk1,hk2,rfl,rfl,hj,HB⟩:=hrel;have HBW:=hid (HW1.out.trans (HB.out.mono HW1.out.size))
  by_cases hlt:k<ys.length
  ·have hli:(k:Int)<(ys.length:Int):=by omega
   obtain⟨ab,ao,rfl,_,_⟩:=rd4 HR.out (Below.refl _ _) hlt
   have HCL:=hid (show ∀W,Below wr.heap.size wr W→∀j,j<ys.length→W.cell? ⟨ab,ao+j*4,none⟩=some (.int .i64 ys[j]!.1)∧W.cell? ⟨ab,ao+j*4+1,none⟩=some ys[j]!.2.1 from fun W hb j hj=>by
    obtain⟨b',o',e,_,h⟩:=rd4 HR.out (HBW.out.trans (hb.mono HBW.out.size)) hj;injection e with e;injection e with e1 e2;subst e1 e2
    exact⟨(h j hj).1,(h j hj).2.1⟩)
   have HQR:=hid (show ∀W,Below wr.heap.size wr W→Bx W w.heap.size 30 [qx,qy] from fun W hb=>(HQ1.out.below HB.out).below hb);obtain⟨ol,ho1,ho2,ho3⟩:=HOU.out _ (ak hlt);obtain⟨Ao,co,eo,hro,hco⟩:=ho1;have HO:=hid (show SlI w (.slice Ao ol.length co) ol from ⟨Ao,co,rfl,hro,hco⟩);have HO2:=hid (And.intro ho2 ho3);have hj0:j<ys.length:=by omega
   obtain⟨tk',htk⟩:∃z,ys[k]!.1=z:=⟨_,rfl⟩;obtain⟨tj,htj⟩:∃z,ys[j]!.1=z:=⟨_,rfl⟩
   have HC1:=hid (show ∀W,Below wr.heap.size wr W→W.cell? ⟨ab,ao+k*4,none⟩=some (.int .i64 tk')∧W.cell? ⟨ab,ao+k*4+1,none⟩=some (.slice Ao ol.length co)∧W.cell? ⟨ab,ao+j*4,none⟩=some (.int .i64 tj)from fun W hb=>by
    have h1:=HCL.out W hb k hlt;have h2:=HCL.out W hb j hj0;rw[htk,eo]at h1;rw[htj]at h2
    exact⟨h1.1,h1.2,h2.1⟩)
   have hjl:(j:Int)<(ys.length:Int):=by omega
   clear HCL ho2 ho3 eo hro hco htk htj;obtain⟨y1,g1⟩:∃y,((j:Int)==0)=y:=⟨_,rfl⟩;obtain⟨y2,g2⟩:∃y,decide (tk'<tj)=y:=⟨_,rfl⟩;have HJ:=hid hj;have hkb:k+1≤2000001:=by omega
   have HKB:=hid (show k+1≤ys.length+1∧1≤k+1 from ⟨by omega,by omega⟩);clear hj hk1 hk2;cases y1
   ·cases y2
    ·go_wp2_with fail
     have hS1:(fun W:World=>Below wr.heap.size wr W) wr.drew:=(Below.refl _ _).drew;refine wp_region_held_drew (S:=(fun W:World=>Below wr.heap.size wr W)) (by kernel_rfl) hS1 (fun hHeld=>?_);clear hHeld;generalize hwd:wr.drew=wd at *;clear hwd;refine kk 0 rfl ?_;refine kk 1 rfl ?_;refine kk 2 rfl ?_;refine kk 3 rfl ?_;refine kk 4 rfl ?_;refine kk 5 rfl ?_;refine kk 6 rfl ?_;refine kf 7 (fun W h=>(HC1.out W h).1) rfl ?_;refine kk 8 rfl ?_;refine kk 9 rfl ?_;refine kk 10 rfl ?_;refine kk 11 rfl ?_;refine kf 12 (fun W h=>(HC1.out W h).2.2) rfl ?_;refine kk 13 rfl ?_;refine kk 14 rfl ?_;refine kk 15 rfl ?_;refine ku 16 rfl ?_;refine ku 17 rfl ?_;refine ku 18 rfl ?_;refine ku 19 rfl ?_;refine ku 20 rfl ?_;refine ku 21 rfl ?_;refine ku 22 rfl ?_;refine ku 23 rfl ?_;refine kk 24 rfl ?_;refine wpAnyH_done (by kernel_rfl) ?_ _;have HZ:=hid (HB.out.trans (hS1.mono HB.out.size));clear hS1;go_wp2_with fail;go_roundw
     case rel=>exact⟨k+1,j,HKB.out.2,HKB.out.1,by go_num,rfl,HJ.out,HZ⟩
     case measure=>simp[intOf];omega
    ·go_wp2_with fail
     have hS1:(fun W:World=>Below wr.heap.size wr W) wr.drew:=(Below.refl _ _).drew;refine wp_region_held_drew (S:=(fun W:World=>Below wr.heap.size wr W)) (by kernel_rfl) hS1 (fun hHeld=>?_);clear hHeld;generalize hwd:wr.drew=wd at *;clear hwd;refine kk 0 rfl ?_;refine kk 1 rfl ?_;refine kk 2 rfl ?_;refine kk 3 rfl ?_;refine kk 4 rfl ?_;refine kk 5 rfl ?_;refine kk 6 rfl ?_;refine kf 7 (fun W h=>(HC1.out W h).1) rfl ?_;refine kk 8 rfl ?_;refine kk 9 rfl ?_;refine kk 10 rfl ?_;refine kk 11 rfl ?_;refine kf 12 (fun W h=>(HC1.out W h).2.2) rfl ?_;refine kk 13 rfl ?_;refine kk 14 rfl ?_;refine kk 15 rfl ?_;refine kk 16 rfl ?_;refine kk 17 rfl ?_;refine kk 18 rfl ?_;refine kk 19 rfl ?_;refine kk 20 rfl ?_;refine kf 21 (fun W h=>(HC1.out W h).2.1) rfl ?_;refine kf 22 (fun W h=>(HQR.out W h).c2) rfl ?_;refine kr 23 rfl fun K hK=>?_
     go_simp;go_at_call 176;refine(cE.out _ (HBW.out.trans (hS1.mono HBW.out.size)) _ ol (HO.out.below (HBW.out.trans (hS1.mono HBW.out.size))) HO2.out.1 (by have:=HO2.out.2;omega)).mono ?_;rintro e Wry1 ⟨bb,rfl,hbb⟩;have hS2:(fun W:World=>Below wr.heap.size wr W) Wry1:=Below.trans (B:=wr.heap.size) hS1 (hbb.mono hS1.size);clear hbb hS1;go_wp2_with fail;refine hK.out _ _ hS2 (fun hHeld=>?_);clear hK hHeld K
     try simp only[Act.put,sa,sz,ss]
     refine kk 24 rfl ?_;refine wpAnyH_done (by kernel_rfl) ?_ _;have HZ:=hid (HB.out.trans (hS2.mono HB.out.size));clear hS2;cases bb
     ·go_wp2_with fail
      go_roundw
      case rel=>exact⟨k+1,j,HKB.out.2,HKB.out.1,by go_num,rfl,HJ.out,HZ⟩
      case measure=>simp[intOf];omega
     ·go_wp2_with fail
      go_roundw
      case rel=>exact⟨k+1,k,HKB.out.2,HKB.out.1,by go_num,rfl,.inr hlt,HZ⟩
      case measure=>simp[intOf];omega
   ·go_wp2_with fail
    have hS1:(fun W:World=>Below wr.heap.size wr W) wr.drew:=(Below.refl _ _).drew;refine wp_region_held_drew (S:=(fun W:World=>Below wr.heap.size wr W)) (by kernel_rfl) hS1 (fun hHeld=>?_);clear hHeld;generalize hwd:wr.drew=wd at *;clear hwd;refine kk 0 rfl ?_;refine kk 1 rfl ?_;refine kk 2 rfl ?_;refine ku 3 rfl ?_;refine ku 4 rfl ?_;refine ku 5 rfl ?_;refine ku 6 rfl ?_;refine ku 7 rfl ?_;refine ku 8 rfl ?_;refine ku 9 rfl ?_;refine ku 10 rfl ?_;refine ku 11 rfl ?_;refine ku 12 rfl ?_;refine ku 13 rfl ?_;refine kk 14 rfl ?_;refine kk 15 rfl ?_;refine kk 16 rfl ?_;refine kk 17 rfl ?_;refine kk 18 rfl ?_;refine kk 19 rfl ?_;refine kk 20 rfl ?_;refine kf 21 (fun W h=>(HC1.out W h).2.1) rfl ?_;refine kf 22 (fun W h=>(HQR.out W h).c2) rfl ?_;refine kr 23 rfl fun K hK=>?_
    go_simp;go_at_call 176;refine(cE.out _ (HBW.out.trans (hS1.mono HBW.out.size)) _ ol (HO.out.below (HBW.out.trans (hS1.mono HBW.out.size))) HO2.out.1 (by have:=HO2.out.2;omega)).mono ?_;rintro e Wrx1 ⟨bb,rfl,hbb⟩;have hS2:(fun W:World=>Below wr.heap.size wr W) Wrx1:=Below.trans (B:=wr.heap.size) hS1 (hbb.mono hS1.size);clear hbb hS1;go_wp2_with fail;refine hK.out _ _ hS2 (fun hHeld=>?_);clear hK hHeld K
    try simp only[Act.put,sa,sz,ss]
    refine kk 24 rfl ?_;refine wpAnyH_done (by kernel_rfl) ?_ _;have HZ:=hid (HB.out.trans (hS2.mono HB.out.size));clear hS2;cases bb
    ·go_wp2_with fail
     go_roundw
     case rel=>exact⟨k+1,j,HKB.out.2,HKB.out.1,by go_num,rfl,HJ.out,HZ⟩
     case measure=>simp[intOf];omega
    ·go_wp2_with fail
     go_roundw
     case rel=>exact⟨k+1,k,HKB.out.2,HKB.out.1,by go_num,rfl,.inr hlt,HZ⟩
     case measure=>simp[intOf];omega
  ·have hge:¬((k:Int)<(ys.length:Int)):=by omega
   go_wp2_with fail;go_ret;exact⟨j,rfl,hj,HBW.out⟩
end Go.Proofs
namespace Go.Proofs
open Go.RowKit Go.Proofs.Mp Go.Lib
theorem kB{α:Type}{k:Nat}{enc:α→List Value}(hk:∀x,(enc x).length=k){y:α}{q:Nat}{u:Value}(hq:q<k):∀{xs:List α} {i:Nat} (hi:i<xs.length),enc y=(enc xs[i]).set q u→(xs.set i y).flatMap enc=(xs.flatMap enc).set (i*k+q) u
 | x::l,0,hi,h=>by
  simp only[sz,List.flatMap_cons,Nat.zero_mul,Nat.zero_add];rw[List.set_append_left _ _ (by rw[hk];exact hq)];rw[h];rfl
 | x::l,i+1,hi,h=>by
  simp only[ss,List.flatMap_cons];rw[kB hk hq (xs:=l) (i:=i) (by simpa using hi) h,List.set_append_right _ _ (by rw[hk,Nat.add_mul];omega),hk]
  congr 2
  rw[Nat.add_mul];omega
theorem pI{α:Type}[Inhabited α]{e:TypeId}{k:Nat}{enc:α→List Value}{w:World}{base g cap:Nat}{xs:List α}(hk:∀x,(enc x).length=k)(h:Own e k enc w base (.slice (some ⟨g,0,none⟩) xs.length cap) xs){i q:Nat}{y:α}{u:Value}(hi:i<xs.length)(hq:q<k)(hy:enc y=(enc xs[i]!).set q u) :
  Own e k enc (w.setCell ⟨g,i*k+q,none⟩ u) base (.slice (some ⟨g,0,none⟩) xs.length cap) (xs.set i y):=by
 rw[getElem!_pos xs i hi]at hy;have:=(World.ownsRow.stored h (i*k+q) u).1;unfold Own;rw[kB hk hq hi hy,List.length_set];exact this
theorem aO{α:Type}{e:TypeId}{k:Nat}{enc:α→List Value}{w w':World}{base:Nat}{v:Value}{xs:List α}{row:Option Nat}(h:Own e k enc w base v xs)(hg:w.grownBy w' row)(hr:∀g,v.ownBlock=some g→row≠some g):Own e k enc w' base v xs:=
 World.ownsRow.kept h hg (by
  cases e:v.ownBlock with
  | none=>exact .inl rfl
  | some g=>exact .inr fun e2=>hr g e e2.symm)
inductive DI where
 | l|r|el (i:Nat)(b:Bool)
def gtA(y:AT):Bool→Value
 | false=>y.2.2.1
 | true=>y.2.2.2
def stA(y:AT)(v:Value):Bool→AT
 | false=>(y.1,y.2.1,v,y.2.2.2)
 | true=>(y.1,y.2.1,y.2.2.1,v)
def dvF(vl vr:Value)(Y:List AT):DI→Option Nat
 | .l=>vl.ownBlock
 | .r=>vr.ownBlock
 | .el i b=>(Y[i]?.map fun y=>(gtA y b).ownBlock).getD none
def si(f:DI→Option Nat):Prop:=∀i j g,i≠j→f i=some g→f j≠some g
theorem si.turn{f f':DI→Option Nat}(h:si f)(c:DI)(ho:∀i,i≠c→f' i=f i)(hc:f' c=f c∨∀g,f' c=some g→∀i,i≠c→f i≠some g):si f':=by
 intro i j g hij hi hj
 by_cases e1:i=c
 ·subst e1
  rw[ho j (fun e=>hij e.symm)]at hj
  rcases hc with hc|hc
  ·exact h i j g hij (hc▸hi) hj
  ·exact hc g hi j (fun e=>hij e.symm) hj
 ·rw[ho i e1]at hi
  by_cases e2:j=c
  ·subst e2
   rcases hc with hc|hc
   ·exact h i j g hij hi (hc▸hj)
   ·exact hc g hj i e1 hi
  ·rw[ho j e2]at hj
   exact h i j g hij hi hj
def EP(n:Nat)(P:Value→Prop)(B:Nat)(w:World)(v:Value):Bool→Prop
 | false=>∃I:List Value,Own 24 1 dj w B v I∧(∀u∈I,P u)∧I.length≤n
 | true=>∃A:List Int,Own 3 1 Mp.encI w B v A∧A.length≤n
section
variable {n n':Nat}{P:Value→Prop}{B:Nat}{w w':World}{v vl vr:Value}{Y:List AT}{R:List Value}
theorem EP.lt:∀{b:Bool},EP n P B w v b→∀g,v.ownBlock=some g→B≤g∧g<w.heap.size
 | false,⟨_,h,_⟩,g,e=>World.ownsRow.lt h g e
 | true,⟨_,h,_⟩,g,e=>World.ownsRow.lt h g e
theorem EP.keep:∀{b:Bool},EP n P B w v b→∀{row},w.grownBy w' row→(∀g,v.ownBlock=some g→row≠some g)→EP n P B w' v b
 | false,⟨I,h,h2⟩,_,hg,hr=>⟨I,aO h hg hr,h2⟩
 | true,⟨I,h,h2⟩,_,hg,hr=>⟨I,aO h hg hr,h2⟩
theorem EP.nil:∀{b:Bool},EP n P B w (.slice none 0 0) b
 | false=>⟨[],Own.nil _ _,by simp,by simp⟩
 | true=>⟨[],Own.nil _ _,by simp⟩
theorem EP.mono(h:n≤n'):∀{b:Bool},EP n P B w v b→EP n' P B w v b
 | false,⟨I,h1,h2,h3⟩=>⟨I,h1,h2,by omega⟩
 | true,⟨I,h1,h2⟩=>⟨I,h1,by omega⟩
theorem EP.slice:∀{b:Bool},EP n P B w v b→∃A m c,v=.slice A m c
 | false,⟨I,h,_⟩=>by obtain⟨A,c,e⟩:=Own.slice h;exact⟨A,_,c,e⟩
 | true,⟨I,h,_⟩=>by obtain⟨A,c,e⟩:=Own.slice h;exact⟨A,_,c,e⟩
theorem p7(y:AT)(v:Value):∀b,gtA (stA y v b) b=v
 | false=>rfl
 | true=>rfl
theorem mw(y:AT)(v:Value):∀{b c:Bool},b≠c→gtA (stA y v b) c=gtA y c
 | false,true,_=>rfl
 | true,false,_=>rfl
 | false,false,h=>absurd rfl h
 | true,true,h=>absurd rfl h
structure Dv(n:Nat)(P:Value→Prop)(w:World)(B:Nat)(vl vr:Value)(Y:List AT)(R:List Value):Prop where
 l:Own 158 4 bh w B vl Y
 r:Own 24 1 dj w B vr R
 el:∀y∈Y,∀b,EP n P B w (gtA y b) b
 inj:si (dvF vl vr Y)
theorem be{i:Nat}(h:i<Y.length)(b:Bool):dvF vl vr Y (.el i b)=(gtA Y[i]! b).ownBlock:=by
 show(Y[i]?.map fun y=>(gtA y b).ownBlock).getD none=_
 rw[List.getElem?_eq_getElem h,getElem!_pos Y i h];rfl
theorem eu{i:Nat}(h:Y.length≤i)(b:Bool):dvF vl vr Y (.el i b)=none:=by
 show(Y[i]?.map fun y=>(gtA y b).ownBlock).getD none=_
 rw[List.getElem?_eq_none h];rfl
theorem Dv.lt(h:Dv n P w B vl vr Y R):∀i g,dvF vl vr Y i=some g→B≤g∧g<w.heap.size
 | .l,g,e=>World.ownsRow.lt h.l g e
 | .r,g,e=>World.ownsRow.lt h.r g e
 | .el i b,g,e=>by
  rcases Nat.lt_or_ge i Y.length with k|k
  ·rw[be k]at e
   exact(h.el _ (ak k) b).lt g e
  ·rw[eu k]at e;cases e
theorem Dv.keep(h:Dv n P w B vl vr Y R){row:Option Nat}(hg:w.grownBy w' row)(hr:∀i g,dvF vl vr Y i=some g→row≠some g):Dv n P w' B vl vr Y R:=
 ⟨aO h.l hg (hr .l),aO h.r hg (hr .r),fun y hy b=>by
  obtain⟨j,hj,rfl⟩:=aw hy
  exact(h.el _ hy b).keep hg fun g e=>hr (.el j b) g (by rw[be hj];exact e),h.inj⟩
theorem Dv.below(h:Dv n P w B vl vr Y R)(hb:Below w.heap.size w w'):Dv n P w' B vl vr Y R:=h.keep (aD hb) (fun _ _ _ e=>by cases e)
theorem Dv.mono(h:Dv n P w B vl vr Y R)(hn:n≤n'):Dv n' P w B vl vr Y R:=⟨h.l,h.r,fun y hy b=>(h.el y hy b).mono hn,h.inj⟩
theorem Dv.area(h:Dv n P w B vl vr Y R){vl':Value}{t:Int}{o:Value}(ho:Own 158 4 bh w' B vl' (Y++[(t,o,.slice none 0 0,.slice none 0 0)]))(hg:w.grownBy w' vl.ownBlock)
  (hl:vl'.ownBlock=vl.ownBlock∨∃j,vl'.ownBlock=some j∧w.heap.size≤j):Dv n P w' B vl' vr (Y++[(t,o,.slice none 0 0,.slice none 0 0)]) R:=by
 have ne:∀i,i≠.l→∀g,dvF vl vr Y i=some g→vl.ownBlock≠some g:=fun i hi g e e2=>h.inj i .l g hi e e2
 refine⟨ho,aO h.r hg (ne .r (by intro e;cases e)),fun y hy b=>?_,h.inj.turn .l (fun i hi=>?_) ?_⟩
 ·rcases List.mem_append.1 hy with hy|hy
  ·obtain⟨j,hj,rfl⟩:=aw hy
   exact(h.el _ hy b).keep hg fun g e=>ne (.el j b) (by intro e;cases e) g (by rw[be hj];exact e)
  ·rw[List.mem_singleton.1 hy]
   cases b<;>exact EP.nil
 ·match i,hi with
  | .r,_=>rfl
  | .el i b,_=>
   rcases Nat.lt_or_ge i Y.length with k|k
   ·rw[be k,be (by simp;omega),gApp1 k]
   ·rw[eu (Y:=Y) k]
    rcases Nat.lt_or_ge i (Y.length+1)with k2|k2
    ·rw[be (by simpa using k2),gApp2 k,show i-Y.length=0 by omega]
     cases b<;>rfl
    ·rw[eu (by simpa using k2)]
 ·rcases hl with hl|⟨j,hl,hj⟩
  ·exact .inl hl
  ·refine .inr fun g e i _ e2=>?_
   have e:vl'.ownBlock=some g:=e;rw[hl]at e;have:j=g:=by injection e
   have:=(h.lt i g e2).2;omega
theorem Dv.rest(h:Dv n P w B vl vr Y R){vr':Value}{R':List Value}(ho:Own 24 1 dj w' B vr' R')(hg:w.grownBy w' vr.ownBlock)
  (hl:vr'.ownBlock=vr.ownBlock∨∃j,vr'.ownBlock=some j∧w.heap.size≤j):Dv n P w' B vl vr' Y R':=by
 have ne:∀i,i≠.r→∀g,dvF vl vr Y i=some g→vr.ownBlock≠some g:=fun i hi g e e2=>h.inj i .r g hi e e2
 refine⟨aO h.l hg (ne .l (by intro e;cases e)),ho,fun y hy b=>?_,h.inj.turn .r (fun i hi=>?_) ?_⟩
 ·obtain⟨j,hj,rfl⟩:=aw hy
  exact(h.el _ hy b).keep hg fun g e=>ne (.el j b) (by intro e;cases e) g (by rw[be hj];exact e)
 ·match i,hi with
  | .l,_=>rfl
  | .el i b,_=>rfl
 ·rcases hl with hl|⟨j,hl,hj⟩
  ·exact .inl hl
  ·refine .inr fun g e i _ e2=>?_
   have e:vr'.ownBlock=some g:=e;rw[hl]at e;have:j=g:=by injection e
   have:=(h.lt i g e2).2;omega
theorem rK(y:AT)(v:Value):∀b:Bool,bh (stA y v b)=(bh y).set (2+b.toNat) v
 | false=>rfl
 | true=>rfl
theorem fz{l:List AT}{i j:Nat}{y:AT}(hj:j<l.length):(l.set i y)[j]! = if i=j then y else l[j]!:=by
 by_cases e:i=j
 ·subst e
  rw[if_pos rfl];simp[getElem!_def,List.getElem?_set_self hj]
 ·rw[if_neg e]
  simp[getElem!_def,List.getElem?_set_ne e]
theorem Dv.put{g c:Nat}(h:Dv n P w B (.slice (some ⟨g,0,none⟩) Y.length c) vr Y R){i:Nat}(hi:i<Y.length){b:Bool}{v':Value}(hn:n≤n')(he:EP n' P B w' v' b)(hg:w.grownBy w' (gtA Y[i]! b).ownBlock)
  (hl:v'.ownBlock=(gtA Y[i]! b).ownBlock∨∃j,v'.ownBlock=some j∧w.heap.size≤j):Dv n' P (w'.setCell ⟨g,i*4+(2+b.toNat),none⟩ v') B (.slice (some ⟨g,0,none⟩) Y.length c) vr (Y.set i (stA Y[i]! v' b)) R:=by
 have eb:dvF (.slice (some ⟨g,0,none⟩) Y.length c) vr Y (.el i b)=(gtA Y[i]! b).ownBlock:=be hi b;have ne:∀q,q≠.el i b→∀x,dvF (.slice (some ⟨g,0,none⟩) Y.length c) vr Y q=some x→(gtA Y[i]! b).ownBlock≠some x:=fun q hq x e e2=>h.inj q (.el i b) x hq e (by rw[eb];exact e2)
 have neg:∀q,q≠.l→∀x,dvF (.slice (some ⟨g,0,none⟩) Y.length c) vr Y q=some x→some g≠some x:=fun q hq x e e2=>h.inj q .l x hq e e2
 have gs:=aj w' ⟨g,i*4+(2+b.toNat),none⟩ v';have hl1:Own 158 4 bh w' B (.slice (some ⟨g,0,none⟩) Y.length c) Y:=aO h.l hg (ne .l (by intro e;cases e))
 have hgv:∀x,v'.ownBlock=some x→some g≠some x:=fun x e e2=>by
  rcases hl with hl|⟨j,hl,hj⟩
  ·exact ne .l (by intro e;cases e) g rfl (by rw[←hl,e,←e2])
  ·have:=(h.lt .l g rfl).2
   rw[hl]at e;have e:j=x:=by injection e
   have e2:g=x:=by injection e2
   omega
 refine⟨pI bO hl1 hi (by cases b<;>decide) (rK _ _ _),aO (aO h.r hg (ne .r (by intro e;cases e))) gs (neg .r (by intro e;cases e)),fun y hy b2=>?_,h.inj.turn (.el i b) (fun q hq=>?_) ?_⟩
 ·obtain⟨j,hj,rfl⟩:=aw hy
  rw[List.length_set]at hj;rw[fz hj]
  have old:(DI.el j b2)≠.el i b→EP n' P B (w'.setCell ⟨g,i*4+(2+b.toNat),none⟩ v') (gtA Y[j]! b2) b2:=fun hq=>
   (((h.el _ (ak hj) b2).keep hg fun x e=>ne (.el j b2) hq x (by rw[be hj];exact e)).keep gs fun x e=>neg (.el j b2) (by intro e;cases e) x (by rw[be hj];exact e)).mono hn
  by_cases ei:i=j
  ·subst ei
   rw[if_pos rfl]
   by_cases e2:b=b2
   ·subst e2
    rw[p7];exact he.keep gs hgv
   ·rw[mw _ _ e2]
    exact old (fun e=>e2 (by injection e with _ e;exact e.symm))
  ·rw[if_neg ei]
   exact old (fun e=>ei (by injection e with e _;exact e.symm))
 ·match q,hq with
  | .l,_=>rfl
  | .r,_=>rfl
  | .el j b2,hq=>
   rcases Nat.lt_or_ge j Y.length with k|k
   ·rw[be k,be (by simpa using k),fz k]
    by_cases ei:i=j
    ·subst ei
     rw[if_pos rfl,mw _ _ (fun e=>hq (by rw[e]))]
    ·rw[if_neg ei]
   ·rw[eu (Y:=Y) k,eu (by simpa using k)]
 ·rw[be (by simpa using hi),fz hi,if_pos rfl,p7,eb]
  rcases hl with hl|⟨j,hl,hj⟩
  ·exact .inl hl
  ·refine .inr fun x e q _ e2=>?_
   rw[hl]at e;have:j=x:=by injection e
   have:=(h.lt q x e2).2;omega
end
end Go.Proofs
namespace Go.Proofs
open Go.RowKit Go.Proofs.Mp Go.Lib
def Cy(p:Pn)(w:World)(v:Value):Prop:=∃d r,SlI w v (d::r)∧cm p d∧(∀x∈d::r,x∈dS p)∧(d::r).length≤513
theorem Cy.below{p:Pn}{w w':World}{v:Value}(h:Cy p w v)(hb:Below w.heap.size w w'):Cy p w' v:=by
 obtain⟨d,r,h1,h2⟩:=h;exact⟨d,r,h1.below hb,h2⟩
theorem SlI.lit{w:World}{v:Value}{l:List Int}(h:SlI w v l):∃A n c,v=.slice A n c:=by
 obtain⟨A,c,e,_⟩:=h;exact⟨A,_,c,e⟩
theorem Cy.lit{p:Pn}{w:World}{v:Value}(h:Cy p w v):∃A n c,v=.slice A n c:=by
 obtain⟨d,r,h1,h2⟩:=h;exact h1.lit
structure SlY(p:Pn)(w:World)(v:Value)(I:List Value):Prop where
 sl:∃A c,v=.slice A I.length c∧Rd 1 dj w A I∧I.length≤c
 cy:∀u∈I,Cy p w u
 le:I.length≤2000000
theorem SlY.below{p:Pn}{w w':World}{v:Value}{I:List Value}(h:SlY p w v I)(hb:Below w.heap.size w w'):SlY p w' v I:=by
 obtain⟨A,c,e,h1,h2⟩:=h.sl;exact⟨⟨A,c,e,h1.below hb,h2⟩,fun u hu=>(h.cy u hu).below hb,h.le⟩
theorem tK{p:Pn}{w:World}{v:Value}{L:List (List Int)}(h:SlC w v L)(hL:∀c∈L,(∃d r,c=d::r∧cm p d)∧(∀x∈c,x∈dS p)∧c.length≤513)(hn:L.length≤1000000):∃I,SlY p w v I∧I.length≤1000000:=by
 obtain⟨vs,h1,⟨A,c,e,h2,_,h3⟩,h4⟩:=h;refine⟨vs,⟨⟨A,c,e,h3,h2.1⟩,fun u hu=>?_,by omega⟩,by omega⟩;obtain⟨j,hj,rfl⟩:=aw hu;obtain⟨⟨d,r,e1,e2⟩,e3,e4⟩:=hL _ (ak (show j<L.length by omega));obtain⟨A,c,f1,f2,_,f3⟩:=h4 j (by omega);rw[e1]at f1 f2 f3 e3 e4;exact⟨d,r,⟨A,c,f1,f3,f2.1⟩,e2,e3,e4⟩
structure ArQ(p:Pn)(w:World)(v:Value)(Y:List AT):Prop where
 sl:∃A c,v=.slice A Y.length c∧Rd 4 bh w A Y∧Y.length≤c
 len:0<Y.length∧Y.length≤1000001
 z:Y[0]!.2.1=.slice none 0 0
 ou:∀i,i<Y.length→0<i→Cy p w Y[i]!.2.1
 el:∀y∈Y,(∃I,SlY p w y.2.2.1 I)∧∃l,SlI w y.2.2.2 l∧l.length≤2000000
theorem ArQ.below{p:Pn}{w w':World}{v:Value}{Y:List AT}(h:ArQ p w v Y)(hb:Below w.heap.size w w'):ArQ p w' v Y:=by
 obtain⟨A,c,e,h1,h2⟩:=h.sl;refine⟨⟨A,c,e,h1.below hb,h2⟩,h.len,h.z,fun i h1 h2=>(h.ou i h1 h2).below hb,fun y hy=>?_⟩;obtain⟨⟨I,h1⟩,l,h2,h3⟩:=h.el y hy;exact⟨⟨I,h1.below hb⟩,l,h2.below hb,h3⟩
def HdY(p:Pn)(w:World)(Y:List AT):Prop:=0<Y.length∧Y[0]!.2.1=.slice none 0 0∧∀i,i<Y.length→0<i→Cy p w Y[i]!.2.1
theorem HdY.app{p:Pn}{w:World}{Y:List AT}(h:HdY p w Y){y:AT}(hy:Cy p w y.2.1):HdY p w (Y++[y]):=by
 obtain⟨h1,h2,h3⟩:=h;refine⟨by simp,by rw[gApp1 h1];exact h2,fun i hi h0=>?_⟩
 rcases Nat.lt_or_ge i Y.length with k|k
 ·rw[gApp1 k];exact h3 i k h0
 ·rw[gApp2 k,show i-Y.length=0 by simp at hi;omega];exact hy
theorem sX(y:AT)(v:Value):∀b,(stA y v b).2.1=y.2.1
 | false=>rfl
 | true=>rfl
theorem HdY.st{p:Pn}{w:World}{Y:List AT}(h:HdY p w Y){i:Nat}(v:Value)(b:Bool):HdY p w (Y.set i (stA Y[i]! v b)):=by
 obtain⟨h1,h2,h3⟩:=h
 have key:∀j,j<Y.length→(Y.set i (stA Y[i]! v b))[j]!.2.1=Y[j]!.2.1:=fun j hj=>by
  rw[fz hj]
  by_cases e:i=j
  ·subst e;rw[if_pos rfl,sX]
  ·rw[if_neg e]
 refine⟨by simpa using h1,by rw[key 0 h1];exact h2,fun j hj h0=>?_⟩;have hj:j<Y.length:=by simpa using hj
 rw[key j hj];exact h3 j hj h0
structure DvS(p:Pn)(w wr:World)(cs:List Value)(n K:Nat)(vl vr:Value)(Y:List AT)(R:List Value):Prop where
 dv:Dv n (Cy p w) wr (w.heap.size+1) vl vr Y R
 pb:Bx wr w.heap.size 26 cs
 hb:Below w.heap.size w wr
 hd:HdY p w Y
 rs:∀u∈R,Cy p w u
 ln:Y.length≤K+1∧R.length≤K
section
variable {p:Pn}{w wr w':World}{cs:List Value}{n K:Nat}{vl vr:Value}{Y:List AT}{R:List Value}
theorem DvS.below(h:DvS p w wr cs n K vl vr Y R)(hb:Below wr.heap.size wr w'):DvS p w w' cs n K vl vr Y R:=
 ⟨h.dv.below hb,h.pb.below hb,h.hb.trans (hb.mono h.hb.size),h.hd,h.rs,h.ln⟩
theorem DvS.area(h:DvS p w wr cs n K vl vr Y R){vl':Value}{t:Int}{o:Value}(ho:Own 158 4 bh w' (w.heap.size+1) vl' (Y++[(t,o,.slice none 0 0,.slice none 0 0)]))(hg:wr.grownBy w' vl.ownBlock)
  (hl:vl'.ownBlock=vl.ownBlock∨∃j,vl'.ownBlock=some j∧wr.heap.size≤j)(hc:Cy p w o):DvS p w w' cs n (K+1) vl' vr (Y++[(t,o,.slice none 0 0,.slice none 0 0)]) R:=by
 have hlt:=fun g e=>(h.dv.lt .l g e).1
 exact⟨h.dv.area ho hg hl,h.pb.grown hg (fun e=>by have:=hlt _ e;omega),h.hb.grown hg h.hb.size (fun j e=>by have:=hlt _ e;omega),h.hd.app hc,h.rs,by simp;exact⟨h.ln.1,by have:=h.ln.2;omega⟩⟩
theorem DvS.rest(h:DvS p w wr cs n K vl vr Y R){vr' o:Value}(ho:Own 24 1 dj w' (w.heap.size+1) vr' (R++[o]))(hg:wr.grownBy w' vr.ownBlock)
  (hl:vr'.ownBlock=vr.ownBlock∨∃j,vr'.ownBlock=some j∧wr.heap.size≤j)(hc:Cy p w o):DvS p w w' cs n (K+1) vl vr' Y (R++[o]):=by
 have hlt:=fun g e=>(h.dv.lt .r g e).1
 refine⟨h.dv.rest ho hg hl,h.pb.grown hg (fun e=>by have:=hlt _ e;omega),h.hb.grown hg h.hb.size (fun j e=>by have:=hlt _ e;omega),h.hd,fun u hu=>?_,⟨by have:=h.ln.1;omega,by simp;exact h.ln.2⟩⟩
 rcases List.mem_append.1 hu with k|k
 ·exact h.rs u k
 ·rw[List.mem_singleton.1 k];exact hc
theorem DvS.put{g c n':Nat}(h:DvS p w wr cs n K (.slice (some ⟨g,0,none⟩) Y.length c) vr Y R){i:Nat}(hi:i<Y.length){b:Bool}{v':Value}(hn:n≤n')(he:EP n' (Cy p w) (w.heap.size+1) w' v' b)(hg:wr.grownBy w' (gtA Y[i]! b).ownBlock)
  (hl:v'.ownBlock=(gtA Y[i]! b).ownBlock∨∃j,v'.ownBlock=some j∧wr.heap.size≤j):DvS p w (w'.setCell ⟨g,i*4+(2+b.toNat),none⟩ v') cs n' K (.slice (some ⟨g,0,none⟩) Y.length c) vr (Y.set i (stA Y[i]! v' b)) R:=by
 have hlt:=fun x e=>(h.dv.lt (.el i b) x (by rw[be hi];exact e)).1
 have hgl:=(h.dv.lt .l g rfl).1;refine⟨h.dv.put hi hn he hg hl,(h.pb.grown hg (fun e=>by have:=hlt _ e;omega)).other (by omega) _ _,(h.hb.grown hg h.hb.size (fun j e=>by have:=hlt _ e;omega)).setCell (p:=⟨g,i*4+(2+b.toNat),none⟩) (by show w.heap.size≤g;omega) _,h.hd.st _ _,h.rs,by rw[List.length_set];exact h.ln⟩
theorem DvS.fld{g c ny:Nat}(h:DvS p w wr cs n K (.slice (some ⟨g,0,none⟩) ny c) vr Y R)(hny:Y.length=ny){i:Nat}(hi:i<ny)(b:Bool):∃A m c,gtA Y[i]! b=.slice A m c∧∀W row,wr.grownBy W row→(row=none∨row=(Value.slice A m c).ownBlock) →
  W.cell? ⟨g,i*4+(2+b.toNat),none⟩=some (.slice A m c)∧W.frozen? ⟨g,i*4+(2+b.toNat),none⟩=false∧g<W.heap.size:=by
 subst hny;obtain⟨A,m,c2,e⟩:=(h.dv.el _ (ak hi) b).slice;refine⟨A,m,c2,e,fun W row hg hr=>?_⟩
 have h2:=aO h.dv.l hg (fun x ex e2=>by
  rcases hr with hr|hr
  ·rw[hr]at e2;cases e2
  ·exact h.dv.inj (.el i b) .l x (by intro e;cases e) (by rw[be hi,e,←hr];exact e2) ex)
 have hq:2+b.toNat<4:=by cases b<;>decide
 refine⟨?_,World.ownsRow.frozenAt h2 _,(World.ownsRow.lt h2 g rfl).2⟩;obtain⟨b',o',e2,_,hc⟩:=Rd.get (Own.rd bO h2) (Below.refl _ _) hi;injection e2 with e2;injection e2 with e3 e4;subst e3 e4;have:=hc i hi (2+b.toNat) (gtA Y[i]! b) (by cases b<;>rfl)
 rw[e,Nat.zero_add]at this;exact this
theorem DvS.putI{g c ny ci m:Nat}(h:DvS p w wr cs n K (.slice (some ⟨g,0,none⟩) ny c) vr Y R)(hny:Y.length=ny){i:Nat}(hi:i<ny){A:Option Addr}{x v':Value}{I:List Value}(e:gtA Y[i]! false=.slice A m ci)
  (ho:Own 24 1 dj w' (w.heap.size+1) v' (I++[x]))(hI:∀u∈I,Cy p w u)(hx:Cy p w x)(hn:I.length≤n)(hg:wr.grownBy w' (Value.slice A m ci).ownBlock)(hl:v'.ownBlock=(Value.slice A m ci).ownBlock∨∃j,v'.ownBlock=some j∧wr.heap.size≤j) :
  ∃Y',Y'.length=ny∧DvS p w (w'.setCell ⟨g,i*4+2,none⟩ v') cs (n+1) K (.slice (some ⟨g,0,none⟩) ny c) vr Y' R:=by
 subst hny;rw[←e]at hg hl
 exact⟨_,List.length_set ..,h.put (b:=false) (n':=n+1) hi (by omega) ⟨_,ho,fun u hu=>by
  rcases List.mem_append.1 hu with k|k
  ·exact hI u k
  ·rw[List.mem_singleton.1 k];exact hx,by simp;omega⟩ hg hl⟩
theorem DvS.putA{g c ny ci m:Nat}(h:DvS p w wr cs n K (.slice (some ⟨g,0,none⟩) ny c) vr Y R)(hny:Y.length=ny){i:Nat}(hi:i<ny){A:Option Addr}{x:Int}{v':Value}{I:List Int}(e:gtA Y[i]! true=.slice A m ci)
  (ho:Own 3 1 Mp.encI w' (w.heap.size+1) v' (I++[x]))(hn:I.length≤n)(hg:wr.grownBy w' (Value.slice A m ci).ownBlock)(hl:v'.ownBlock=(Value.slice A m ci).ownBlock∨∃j,v'.ownBlock=some j∧wr.heap.size≤j) :
  ∃Y',Y'.length=ny∧DvS p w (w'.setCell ⟨g,i*4+3,none⟩ v') cs (n+1) K (.slice (some ⟨g,0,none⟩) ny c) vr Y' R:=by
 subst hny;rw[←e]at hg hl;exact⟨_,List.length_set ..,h.put (b:=true) (n':=n+1) hi (by omega) ⟨_,ho,by simp;omega⟩ hg hl⟩
theorem DvS.arR(h:DvS p w wr cs n K vl vr Y R):ArR p wr vl Y:=by
 obtain⟨A,c,e⟩:=Own.slice h.dv.l;have h2:=h.dv.l;subst e;refine⟨⟨A,c,rfl,Own.rd bO h2,?_⟩,fun y hy=>?_⟩
 ·rcases h2.2 with⟨e,e2⟩|⟨g,cap,cur,e,_,_,h3,_⟩
  ·injection e;omega
  ·injection e with _ _ e;omega
 ·obtain⟨j,hj,rfl⟩:=aw hy
  rcases Nat.eq_zero_or_pos j with rfl|h0
  ·rw[h.hd.2.1]
   exact⟨[],⟨none,0,rfl,.inl rfl,Nat.le_refl _⟩,by simp,by simp⟩
  ·obtain⟨d,r,h1,_,h3,h4⟩:=(h.hd.2.2 j hj h0).below h.hb
   exact⟨_,h1,h3,h4⟩
theorem DvS.done(h:DvS p w wr cs n K vl vr Y R)(hK:K≤1000000)(hn:n≤2000000):ArQ p wr vl Y:=by
 refine⟨h.arR.sl,⟨h.hd.1,by have:=h.ln.1;omega⟩,h.hd.2.1,fun i h1 h2=>(h.hd.2.2 i h1 h2).below h.hb,fun y hy=>⟨?_,?_⟩⟩
 ·obtain⟨I,h1,h2,h3⟩:=h.dv.el y hy false
  obtain⟨A,c,e⟩:=Own.slice h1;have h4:=h1;replace e:y.2.2.1=.slice A I.length c:=e;unfold gtA at h1 h4;dsimp only at h1 h4;rw[e]at h1 h4 ⊢;refine⟨I,⟨A,c,rfl,Own.rd dD h1,?_⟩,fun u hu=>(h2 u hu).below h.hb,by omega⟩
  rcases h4.2 with⟨e,e2⟩|⟨g,cap,cur,e,_,_,h3,_⟩
  ·injection e;omega
  ·injection e with _ _ e;omega
 ·obtain⟨I,h1,h3⟩:=h.dv.el y hy true
  obtain⟨A,c,e⟩:=Own.slice h1;have h4:=h1;replace e:y.2.2.2=.slice A I.length c:=e;unfold gtA at h1 h4;dsimp only at h1 h4;rw[e]at h1 h4 ⊢;refine⟨I,⟨A,c,rfl,Own.rd encI_len h1,?_⟩,by omega⟩
  rcases h4.2 with⟨e,e2⟩|⟨g,cap,cur,e,_,_,h3,_⟩
  ·injection e;omega
  ·injection e with _ _ e;omega
end
theorem Tryz.infoAT:(Tryz.prog.info? 158).map (fun i=>(i.zero,i.size,i.bytes))=some (some (.agg #[.int .i64 0,.slice none 0 0,.slice none 0 0,.slice none 0 0]),4,80):=by kernel_rfl
theorem Tryz.wpAT{w:World}{base:Nat}{v:Value}{xs:List AT}{o:Oper}{a:Act}{K:Act→World→Prop}{Q:Exit→Act→World→Prop}
  (hown:Own 158 4 bh w base v xs)(t:Int)(A B C:Option Addr)(n1 n2 n3 c1 c2 c3:Nat)(s x:Operand)
  (ho:o.op=.call { callee:=.builtin .append,args:=#[s,x],argTypes:=#[102,102] })(hs:a.eval s=v)(hx:a.eval x=.slice (some ⟨w.heap.size,0,none⟩) 1 1)
  (hN:xs.length+1≤1000000000)(hbase:base≤w.heap.size)
  (h:∀v' w',Own 158 4 bh w' base v' (xs++[(t,.slice A n1 c1,.slice B n2 c2,.slice C n3 c3)])→w.grownBy w' v.ownBlock→(v'.ownBlock=v.ownBlock∨∃j,v'.ownBlock=some j∧w.heap.size≤j)→K (a.put o.dst v') w') :
  o.wp Tryz.prog a (w.alloc (.cells #[t,.slice A n1 c1,.slice B n2 c2,.slice C n3 c3] 158)) K Q:=by
 obtain⟨i0,hi0,hz0,hz1,hz2⟩:=Mp.info_parts Tryz.infoAT
 exact Own.wpAt 102 i0 _ 80 Tryz.underlying102 hi0 hz0 hz1 hz2 rfl (by decide) (by decide) bO (t,.slice A n1 c1,.slice B n2 c2,.slice C n3 c3) (by
  intro u hu;simp only[bh,List.mem_cons,List.not_mem_nil,or_false]at hu
  rcases hu with rfl|rfl|rfl|rfl<;>rfl) s x ho hown hs hx (by omega) hbase h
def ut(p:Pn)(w:World)(e:Ending)(w':World):Prop:=∃v Y,e=.returned v∧ArQ p w' v Y∧Below w.heap.size w w'
theorem mX(p:Pn)(m:Mem)(v:Value)(vs:List Value)(w:World)(B N:Nat)(f:Int→Option Value)(hR:PlR w p m)(hC:CheckP p)(hV:SlY p w v vs)(hvl:vs.length≤1000000)(hM:PaM p w B N f)(hall:∀k,k<p.arcs.length→(f p.arcs[k]!.id).isSome=true) :
  Calls Tryz.prog 78 #[plV p m,v,.map (some B)] w (ut p w):=by
 have HND:=Lib.hid fun (k:Nat) (hk:k<p.nodes.length) W hb=>hR.node (W:=W) hb hk
 have cDg:=Lib.hid fun id W (hb:Below w.heap.size w W)=>m6 p m id W (hR.below hb)
 have cTw:=Lib.hid fun u d r W (hb:Below w.heap.size w W) (h:SlI W u (d::r))=>oO p m u (d::r) W (hR.below hb) hC h
 have HCk:=Lib.hid hC;have HM:=Lib.hid hM;have HALL:=Lib.hid hall;have HV:=Lib.hid hV;have hplV:plV p m=.agg #[.slice m.an p.nodes.length m.cn,.slice m.aa p.arcs.length m.ca,.slice m.af p.faces.length m.cf]:=rfl;rw[hplV]at cDg cTw ⊢;have hnl:=hC.l1;obtain⟨Av,cv,rfl,hrv,_⟩:=hV.sl;clear hR hplV hC hM hall hV;obtain⟨an,aa,af,cn,ca,cf,mvs⟩:=m;dsimp only at *;have ha:=Bx.new (t:=26) (cs:=[.slice an p.nodes.length cn,.slice aa p.arcs.length ca,.slice af p.faces.length cf]) w rfl;have HW1:=Lib.hid (bw1 w (.cells #[.slice an p.nodes.length cn,.slice aa p.arcs.length ca,.slice af p.faces.length cf] 26));have HRV:=Lib.hid hrv;clear hrv;go_enter Tryz.func78,Tryz.ntmps78;go_upto_region 1 with fail;generalize w.alloc (.cells #[.slice an p.nodes.length cn,.slice aa p.arcs.length ca,.slice af p.faces.length cf] 26)=w1 at *;obtain⟨n0,hn0⟩:∃n,w.heap.size=n:=⟨_,rfl⟩
 have hst:DvS p w (w1.alloc (.cells #[.int .i64 0,.slice none 0 0,.slice none 0 0,.slice none 0 0] 158)) [.slice an p.nodes.length cn,.slice aa p.arcs.length ca,.slice af p.faces.length cf] 0 0 (.slice (some ⟨w1.heap.size,0,none⟩) 1 1) (.slice none 0 0) [(0,.slice none 0 0,.slice none 0 0,.slice none 0 0)] []:=by
  refine⟨⟨World.ownsRow_lit w1 _ 1 (by have:=ha.lt;omega) (by decide) rfl,Own.nil _ _,fun y hy b=>?_,fun i j g hij hi hj=>?_⟩,ha.alloc _,HW1.out.alloc HW1.out.size _,⟨by decide,rfl,fun i h1 h2=>by simp at h1;omega⟩,by simp,by simp⟩
  ·rw[List.mem_singleton.1 hy]
   cases b<;>exact EP.nil
  ·have key:∀i,dvF (.slice (some ⟨w1.heap.size,0,none⟩) 1 1) (.slice none 0 0) [(0,.slice none 0 0,.slice none 0 0,.slice none 0 0)] i=some g→i=.l:=fun i e=>by
    match i with
    | .l=>rfl
    | .r=>cases e
    | .el 0 false=>cases e
    | .el 0 true=>cases e
    | .el (i+1) b=>cases e
   exact hij ((key i hi).trans (key j hj).symm)
 rw[hn0]at ha ⊢;have HN0:=Lib.hid hn0;have HST:=Lib.hid hst;clear ha hn0 hst;go_upto_region 2 with fail;generalize w1.alloc (.cells #[.int .i64 0,.slice none 0 0,.slice none 0 0,.slice none 0 0] 158)=w2 at *;generalize w1.heap.size=ng at *;go_wp2_with fail;go_loopw [7,8,10,11,23] (fun vl vr _ _ i wr=>∃(k:Nat) (Y:List AT) (R:List Value),k≤vs.length∧i=.int .i64 k∧Hid (DvS p w wr [.slice an p.nodes.length cn,.slice aa p.arcs.length ca,.slice af p.faces.length cf] 0 k vl vr Y R)) (fun _ _ _ _ i _=>vs.length-(intOf i).toNat)
 case atStart=>exact⟨0,_,_,by omega,rfl,HST⟩
 case round=>
  clear HST;obtain⟨k,Y,R,hk,rfl,HD⟩:=hrel
  by_cases hlt:k<vs.length
  ·have hli:(k:Int)<(vs.length:Int):=by omega
   obtain⟨b1,o1,rfl,hb1,d0⟩:=Rd.get HRV.out HD.out.hb hlt;have d0:=d0 k hlt 0 _ rfl;simp only[Nat.mul_one,Nat.add_zero]at d0;have HCY:=Lib.hid (HV.out.cy _ (ak hlt));generalize vs[k]! = u at *;obtain⟨d,r,hu1,hu2⟩:=HCY.out;obtain⟨Au,cu,rfl,hu3,hu4⟩:=hu1;have HU:=Lib.hid (SlI.below (w:=w) (w':=wr) (l:=d::r) (v:=.slice Au (d::r).length cu) ⟨Au,cu,rfl,hu3,hu4⟩ HD.out.hb);obtain⟨p0,p1,p2⟩:=(HN0.out▸HD.out.pb:Bx wr n0 26 _).c3;clear hu2 hu3 hu4;generalize (d::r).length=ln at *;obtain⟨Al,cl,rfl⟩:=Own.slice HD.out.dv.l;obtain⟨Ar,cr,rfl⟩:=Own.slice HD.out.dv.r;go_wp2_with fail;refine(cTw.out _ d r wr HD.out.hb HU.out).mono ?_;rintro e w4 ⟨z,rfl,hb4⟩;have HD4:=Lib.hid (HD.out.below hb4);have hol:=HD4.out.dv.l;have hor:=HD4.out.dv.r;have hbs:w.heap.size+1≤w4.heap.size:=by have:=HD4.out.pb.lt;omega
   have hN1:Y.length+1≤1000000000:=by have:=HD.out.ln.1;omega
   have hN2:R.length+1≤1000000000:=by have:=HD.out.ln.2;omega
   have HKL:=Lib.hid hlt;clear d0 p0 p1 p2 hb4 HD HU;obtain⟨y,hy⟩:∃y,decide (0<z)=y:=⟨_,rfl⟩;cases y
   ·go_wp2_with (at_builtin;refine wpList_plain rfl fun K' hK'=>Tryz.wpV hor (.slice Au ln cu) rfl _ _ rfl rfl rfl hN2 hbs ?_;intro v9 w9 hO9 hg9 hl9;refine hK' _ _ ?_;clear hK')
    have HZ:=Lib.hid (HD4.out.rest hO9 hg9 hl9 HCY.out);clear hO9 hg9 hl9;go_wp2_with fail;go_roundw
    case rel=>exact⟨k+1,_,_,HKL.out,by go_num,HZ⟩
    case measure=>simp[intOf];omega
   ·go_wp2_with (at_builtin;refine wpList_plain rfl fun K' hK'=>Tryz.wpAT hol z Au none none ln 0 0 cu 0 0 _ _ rfl rfl rfl hN1 hbs ?_;intro v9 w9 hO9 hg9 hl9;refine hK' _ _ ?_;clear hK')
    have HZ:=Lib.hid (HD4.out.area hO9 hg9 hl9 HCY.out);clear hO9 hg9 hl9;go_wp2_with fail;go_roundw
    case rel=>exact⟨k+1,_,_,HKL.out,by go_num,HZ⟩
    case measure=>simp[intOf];omega
  ·obtain⟨g,cl,rfl,_,_⟩:=aG HD.out.dv.l (fun e=>by have:=HD.out.hd.1;rw[e]at this;cases this)
   obtain⟨Ar,cr,rfl⟩:=Own.slice HD.out.dv.r;have hkv:k≤1000000:=by omega
   have HD:=Lib.hid (show DvS p w wr _ 0 vs.length _ _ Y R from ⟨HD.out.dv,HD.out.pb,HD.out.hb,HD.out.hd,HD.out.rs,by have:=HD.out.ln;omega⟩);obtain⟨ny,hny⟩:∃n,Y.length=n:=⟨_,rfl⟩;have HNY:=Lib.hid (show Y.length=ny∧ny≤1000001 from ⟨hny,by have:=HD.out.ln;omega⟩);have hRl:R.length≤1000000:=by have:=HD.out.ln;omega
   rw[hny]at HD ⊢;clear hny;go_wp2_with fail;clear hlt hk;go_loopw [13,14,15,45] (fun _ _ _ i wr=>∃(k:Nat) (Y:List AT),k≤R.length∧i=.int .i64 k∧Hid (DvS p w wr [.slice an p.nodes.length cn,.slice aa p.arcs.length ca,.slice af p.faces.length cf] k vs.length (.slice (some ⟨g,0,none⟩) ny cl) (.slice Ar R.length cr) Y R)∧Hid (Y.length=ny∧ny≤1000001)) (fun _ _ _ i _=>R.length-(intOf i).toNat)
   case atStart=>exact⟨0,_,by omega,rfl,HD,HNY⟩
   case round=>
    clear HD HNY;obtain⟨k,Y,hk,rfl,HD,HNY⟩:=hrel
    by_cases hlt:k<R.length
    ·have hli:(k:Int)<(R.length:Int):=by omega
     obtain⟨b2,o2,rfl,hb2,d0⟩:=Rd.get (Own.rd dD HD.out.dv.r) (Below.refl _ _) hlt;have d0:=d0 k hlt 0 _ rfl;simp only[Nat.mul_one,Nat.add_zero]at d0;have HCY:=Lib.hid (HD.out.rs _ (ak hlt));generalize R[k]! = u at *;obtain⟨d,r,hu1,hu2⟩:=HCY.out;obtain⟨Au,cu,rfl,hu3,hu4⟩:=hu1;have hu5:=hu3.below HD.out.hb;obtain⟨b3,o3,rfl,_,d1⟩:=RdI.get hu3 HD.out.hb (show 0<(d::r).length by simp)
     have HCW:=Lib.hid (show ∀W,Below wr.heap.size wr W→W.cell? ⟨b3,o3,none⟩=some (.int .i64 d)from fun W hb=>by
      obtain⟨b',o',e,_,d1⟩:=RdI.get hu5 hb (show 0<(d::r).length by simp);injection e with e;injection e with e1 e2;subst e1 e2
      exact d1)
     have hdw:=bI HCk.out hu2.1;have hwk:=pZ (d:=d) ⟨hdw.1,hdw.2.1⟩;have hwn:IntKind.i64.wrap (-d)=-d:=IntWalk.i64_in _ (by omega)
     obtain⟨u,path,hu,hsl,hNp,hpl⟩:∃(u:Value) (path:List Pt),f (max d (-d))=some u∧SlP w u path∧Nr path[0]!∧0<path.length:=by
      obtain⟨j,hj,e⟩:=hu2.1;have hid:=bI HCk.out ⟨j,hj,.inl rfl⟩
      have e2:max d (-d)=p.arcs[j]!.id:=by
       have h0:0<p.arcs[j]!.id:=by
        have:=HCk.out.ba j (by simpa using hj);rw[aN Ar.id hj]at this;unfold badN at this;simp only[Bool.or_eq_false_iff,decide_eq_false_iff_not]at this;omega
       rcases e with e|e
       ·rw[e,Int.max_eq_left (by omega)]
       ·rw[e,Int.max_eq_right (by omega)];omega
      obtain⟨x,hx⟩:=Option.isSome_iff_exists.1 (HALL.out j hj);rw[←e2]at hx;obtain⟨⟨q,hq,h1⟩,_,_⟩:=HM.out.vl _ _ hx;have hql:0<(pth p q).length:=by rw[HCk.out.pre.plen hq];omega
      exact⟨x,_,hx,h1,qs HCk.out hq 0 hql,hql⟩
     obtain⟨A4,c4,rfl,hr4,_⟩:=hsl;obtain⟨b4,o4,rfl,_,_,_⟩:=RdR.get hr4 HD.out.hb hpl
     have HPW:=Lib.hid (show ∀W,Below w.heap.size w W→W.cell? ⟨b4,o4,none⟩=some (.int .i64 path[0]!.1)∧W.cell? ⟨b4,o4+1,none⟩=some (.int .i64 path[0]!.2)from fun W hb=>by
      obtain⟨b',o',e,_,d2,d3⟩:=RdR.get hr4 hb hpl;injection e with e;injection e with e1 e2;subst e1 e2;simp only[Nat.zero_mul,Nat.add_zero]at d2 d3
      exact⟨d2,d3⟩)
     have HNQ:=Lib.hid hNp;clear hr4 hNp;obtain⟨ny2,hny2⟩:∃n,path.length=n:=⟨_,rfl⟩;have hlp:0<(d::r).length:=by simp
     clear hu2 hu3 hu4 hu5 hdw;generalize (d::r).length=ln at *;generalize path[0]! = q at *;obtain⟨qx,qy⟩:=q;have HV2:=Lib.hid (show ∀W,Below wr.heap.size wr W→MapV Tryz.prog 3 W B N f from fun W hb=>(HM.out.below (HD.out.hb.trans (hb.mono HD.out.hb.size))).mp);have hvx:(f (max d (-d))).getD (.slice none 0 0)=.slice (some ⟨b4,o4,none⟩) path.length c4:=by rw[hu];rfl
     go_wp2_with fail;have hS1:(fun W:World=>Below wr.heap.size wr W) wr.drew:=(Below.refl _ _).drew;refine wp_region_held_drew (S:=(fun W:World=>Below wr.heap.size wr W)) (by kernel_rfl) hS1 (fun hHeld=>?_);clear hHeld;generalize hwd:wr.drew=wd at *;clear hwd;refine kk 0 rfl ?_;refine kk 1 rfl ?_;refine kk 2 rfl ?_;refine kf 3 HCW.out rfl ?_;refine kk 4 rfl ?_;refine kk 5 rfl ?_;refine kf 6 HCW.out rfl ?_;refine kk 7 rfl ?_;refine kk 8 rfl ?_;refine kk 9 (hy:=by intro W hSw;exact MapV.exec (HV2.out W hSw) _ _ rfl Tryz.underlying104 Tryz.underlying3 (Tryz.zeroValue56 _) rfl (max d (-d)) rfl hwk hvx) rfl ?_;refine kk 10 rfl ?_;refine wpAnyH_done (by kernel_rfl) ?_ _;have HD5:=Lib.hid (HD.out.below hS1);clear hS1;clear d0 d1 HD hwk hwn hvx hu;obtain⟨d2,d3⟩:=HPW.out wd HD5.out.hb;go_wp2_with fail;have hAr:=HD5.out.arR;refine(mj p wd B N f _ Y (qx,qy) HCk.out (HM.out.below HD5.out.hb) hAr HNQ.out (by have:=HNY.out;omega)).mono ?_;rintro e w6 ⟨ix,rfl,hix,hb6⟩
     have hix:ix<ny:=by
      have h0:=HD5.out.hd.1;rw[HNY.out.1]at h0 hix;omega
     have HD6:=Lib.hid (HD5.out.below hb6);obtain⟨Ai,mi,ci,ei,hfld⟩:=HD6.out.fld HNY.out.1 hix false;obtain⟨I,hIo,hIc,hIn⟩:=HD6.out.dv.el _ (ak (show ix<Y.length by rw[HNY.out.1];exact hix)) false;rw[ei]at hIo;obtain⟨d0,d1,_⟩:=hfld w6 none (World.grownBy.refl _ _) (.inl rfl);replace d0:w6.cell? ⟨g,ix*4+2,none⟩=some (.slice Ai mi ci):=d0;have HFL:=Lib.hid (show ∀W,w6.grownBy W (Value.slice Ai mi ci).ownBlock→W.cell? ⟨g,ix*4+2,none⟩=some (.slice Ai mi ci)∧W.frozen? ⟨g,ix*4+2,none⟩=false∧g<W.heap.size from fun W h=>hfld W _ h (.inr rfl));have hbs:w.heap.size+1≤w6.heap.size:=by have:=HD6.out.pb.lt;omega
     have hN2:I.length+1≤1000000000:=by have:=HD6.out.ln.2;omega
     have hixl:(ix:Int)<(ny:Int):=by omega
     have HPUT:=Lib.hid (show ∀w9 v9,Own 24 1 dj w9 (w.heap.size+1) v9 (I++[.slice (some ⟨b3,o3,none⟩) ln cu])→w6.grownBy w9 (Value.slice Ai mi ci).ownBlock→(v9.ownBlock=(Value.slice Ai mi ci).ownBlock∨∃j,v9.ownBlock=some j∧w6.heap.size≤j)→_ from fun w9 v9 h1 h2 h3=>HD6.out.putI HNY.out.1 hix ei h1 hIc HCY.out hIn h2 h3);have HKL:=Lib.hid hlt;clear d2 d3 hb6 hAr hfld ei hIc hIn HD5;go_wp2_with (at_builtin;refine wpList_plain rfl fun K' hK'=>Tryz.wpV hIo (.slice (some ⟨b3,o3,none⟩) ln cu) rfl _ _ rfl rfl rfl hN2 hbs ?_;intro v9 w9 hO9 hg9 hl9;refine hK' _ _ ?_;clear hK';have HZ:=Lib.hid (HPUT.out w9 v9 hO9 hg9 hl9);obtain⟨A9,c9,rfl⟩:=Own.slice hO9;obtain⟨f0,f1,f2⟩:=HFL.out w9 hg9;clear hO9 hg9 hl9 d0 d1);obtain⟨Y',hY',hZ⟩:=HZ.out;rw[show(I++[Value.slice (some ⟨b3,o3,none⟩) ln cu]).length=I.length+1 by simp]at hZ;have HZ2:=Lib.hid hZ;have HNZ:=Lib.hid (show Y'.length=ny∧ny≤1000001 from ⟨hY',HNY.out.2⟩);clear hZ hY' HZ;go_roundw
     case rel=>exact⟨k+1,Y',HKL.out,by go_num,HZ2,HNZ⟩
     case measure=>simp[intOf];omega
    ·have HD:=Lib.hid (show DvS p w wr _ R.length vs.length _ _ Y R from ⟨HD.out.dv.mono hk,HD.out.pb,HD.out.hb,HD.out.hd,HD.out.rs,HD.out.ln⟩)
     obtain⟨p0,p1,p2⟩:=(HN0.out▸HD.out.pb:Bx wr n0 26 _).c3;go_wp2_with fail;clear p0 p1 p2 hlt hk;go_loopw [17,18,81] (fun _ _ i wr=>∃(k:Nat) (Y:List AT),k≤p.nodes.length∧i=.int .i64 k∧Hid (DvS p w wr [.slice an p.nodes.length cn,.slice aa p.arcs.length ca,.slice af p.faces.length cf] (R.length+k) vs.length (.slice (some ⟨g,0,none⟩) ny cl) (.slice Ar R.length cr) Y R)∧Hid (Y.length=ny∧ny≤1000001)) (fun _ _ i _=>p.nodes.length-(intOf i).toNat)
     case atStart=>exact⟨0,_,by omega,rfl,HD,HNY⟩
     case round=>
      clear HD HNY;obtain⟨k,Y,hk,rfl,HD,HNY⟩:=hrel
      by_cases hlt:k<p.nodes.length
      ·have hli:(k:Int)<(p.nodes.length:Int):=by omega
       obtain⟨b2,o2,rfl,hbl,a0,a1,a2⟩:=HND.out k hlt wr HD.out.hb;have hnr:Nr p.nodes[k]!.2:=iA (dT (HCk.out.pre.pl.1 k hlt));generalize p.nodes[k]! = nd at *;obtain⟨ni,nx,ny'⟩:=nd;dsimp only at a0 a1 a2 hnr;have hN:=Bx.new (t:=71) (cs:=[.int .i64 ni,.int .i64 nx,.int .i64 ny']) wr rfl;have HD5:=Lib.hid (HD.out.below (bw1 wr (.cells #[ni,nx,ny'] 71)));have HNR:=Lib.hid hnr;have HKL:=Lib.hid hlt;go_upto_region 21 with fail;have HLT:=Lib.hid (show ∀i x,dvF (.slice (some ⟨g,0,none⟩) ny cl) (.slice Ar R.length cr) Y i=some x→x<wr.heap.size from fun i x e=>(HD.out.dv.lt i x e).2);have hkb:k≤256:=by omega
       clear a0 a1 a2 hlt hk hnr;generalize wr.alloc (.cells #[ni,nx,ny'] 71)=w5 at *;generalize wr.heap.size=nb at *;have HNB:=Lib.hid hN;obtain⟨a0,a1,a2⟩:=hN.c3;obtain⟨p0,p1,p2⟩:=(HN0.out▸HD5.out.pb:Bx w5 n0 26 _).c3;clear hN HD;go_wp2_with fail;refine(cDg.out ni w5 HD5.out.hb).mono ?_;rintro e w6 ⟨z,rfl,hb6⟩;have HD6:=Lib.hid (HD5.out.below hb6);have HN6:=Lib.hid (HNB.out.below hb6);clear a0 a1 a2 p0 p1 p2 hb6 HD5 HNB;obtain⟨a0,a1,a2⟩:=HN6.out.c3;obtain⟨y,hy⟩:∃y,(z==0)=y:=⟨_,rfl⟩;cases y
       ·have HZ:=Lib.hid (show DvS p w w6 _ (R.length+(k+1)) vs.length _ _ Y R from ⟨HD6.out.dv.mono (by omega),HD6.out.pb,HD6.out.hb,HD6.out.hd,HD6.out.rs,HD6.out.ln⟩)
        go_wp2_with fail;go_roundw
        case rel=>exact⟨k+1,Y,HKL.out,by go_num,HZ,HNY⟩
        case measure=>simp[intOf];omega
       ·go_wp2_with fail
        have hAr:=HD6.out.arR;refine(mj p w6 B N f _ Y (nx,ny') HCk.out (HM.out.below HD6.out.hb) hAr HNR.out (by have:=HNY.out;omega)).mono ?_;rintro e w7 ⟨ix,rfl,hix,hb7⟩
        have hix:ix<ny:=by
         have h0:=HD6.out.hd.1;rw[HNY.out.1]at h0 hix;omega
        have HD7:=Lib.hid (HD6.out.below hb7);have HN7:=Lib.hid (HN6.out.below hb7);clear a0 a1 a2 hb7 hAr HD6 HN6;go_wp2_with fail;obtain⟨Ai,mi,ci,ei,hfld⟩:=HD7.out.fld HNY.out.1 hix true;have hiY:ix<Y.length:=by rw[HNY.out.1];exact hix
        obtain⟨I,hIo,hIn⟩:=HD7.out.dv.el _ (ak hiY) true;have HLA:=Lib.hid (show ∀x,(Value.slice Ai mi ci).ownBlock=some x→x<nb from fun x e=>HLT.out (.el ix true) x (by rw[be hiY,ei];exact e));have HLG:=Lib.hid (show g<nb from HLT.out .l g rfl);rw[ei]at hIo;have HFL:=Lib.hid (show ∀W row,w7.grownBy W row→(row=none∨row=(Value.slice Ai mi ci).ownBlock)→W.cell? ⟨g,ix*4+3,none⟩=some (.slice Ai mi ci)∧W.frozen? ⟨g,ix*4+3,none⟩=false∧g<W.heap.size from hfld);have hbs:w.heap.size+1≤w7.drew.heap.size:=by have:=HD7.out.pb.lt;show _≤w7.heap.size;omega
        have hN2:I.length+1≤1000000000:=by omega
        have hixl:(ix:Int)<(ny:Int):=by omega
        have HPUT:=Lib.hid (show ∀w9 v9,Own 3 1 Mp.encI w9 (w.heap.size+1) v9 (I++[ni])→w7.drew.grownBy w9 (Value.slice Ai mi ci).ownBlock→(v9.ownBlock=(Value.slice Ai mi ci).ownBlock∨∃j,v9.ownBlock=some j∧w7.drew.heap.size≤j)→_ from fun w9 v9 h1 h2 h3=>(HD7.out.below (Below.refl _ _).drew).putA HNY.out.1 hix ei h1 hIn h2 h3);have hIo:Own 3 1 Mp.encI w7.drew (w.heap.size+1) (.slice Ai mi ci) I:=hIo;have hgd:∀row,w7.grownBy w7.drew row:=fun row=>⟨rfl,rfl,rfl,Nat.le_refl _,fun _ _ _=>rfl⟩
        have HGD:=Lib.hid hgd;have hS1:(fun W:World=>Bx W nb 71 [ni,nx,ny']) w7.drew:=HN7.out;clear hfld ei hIn hgd HLT HN7 HD7;refine wp_region_held_drew (S:=(fun W:World=>Bx W nb 71 [ni,nx,ny'])) (by kernel_rfl) hS1 (fun hHeld=>?_);clear hHeld;generalize hwd:w7.drew=wd at *;clear hwd;refine kk 0 rfl ?_;refine kk 1 rfl ?_;refine kk 2 rfl ?_;refine kk 3 rfl ?_;refine kk 4 rfl ?_;refine kk 5 rfl ?_;refine kk 7 rfl ?_;refine kf 8 (fun W h=>h.c3.1) rfl ?_;refine wpAnyH_ready (rs:=[6,9]) (by kernel_rfl) (by simp) ?_;refine AllReadyH.cons (o:=⟨some 101,_,_,_,_,_⟩) rfl (fun K hK=>?_) ?_
        ·obtain⟨d0,_,_⟩:=HFL.out wd none (HGD.out _) (.inl rfl)
         go_simp;clear d0;refine hK.out _ _ hS1 (fun hHeld=>?_);clear hK hHeld K
         try simp only[Act.put,sa,sz,ss]
         refine kr 9 rfl fun K hK=>?_
         go_simp;have hS2:=Bx.alloc hS1 (.cells #[ni] 3);refine hK.out _ _ hS2 (fun hHeld=>?_);clear hK hHeld K
         try simp only[Act.put,sa,sz,ss]
         refine kr 10 rfl fun K hK=>?_
         refine wp_step rfl (Tryz.wpI hIo ni _ _ rfl rfl rfl hN2 hbs ?_);intro v9 w9 hO9 hg9 hl9;have hS3:(fun W:World=>Bx W nb 71 [ni,nx,ny']) w9:=Bx.grown (w:=wd) hS1 hg9 (fun e=>by have:=HLA.out _ e;omega);have HZ:=Lib.hid (HPUT.out w9 v9 hO9 hg9 hl9);obtain⟨f0,f1,f2⟩:=HFL.out w9 _ ((HGD.out _).trans hg9) (.inr rfl);obtain⟨A9,c9,rfl⟩:=Own.slice hO9;rw[show(I++[ni]).length=I.length+1 by simp]at HZ ⊢;clear hO9 hg9 hl9 hS2;refine hK.out _ _ hS3 (fun hHeld=>?_);clear hK hHeld K
         try simp only[Act.put,sa,sz,ss]
         refine kk 11 rfl ?_;refine kk 12 rfl ?_;refine kr 13 rfl fun K hK=>?_
         go_simp;have hS4:(fun W:World=>Bx W nb 71 [ni,nx,ny']) (w9.setCell ⟨g,ix*4+3,none⟩ (.slice A9 (I.length+1) c9)):=Bx.other hS3 (by have:=HLG.out;omega) _ _;clear f0 f1 f2;refine hK.out _ _ hS4 (fun hHeld=>?_);clear hK hHeld K hS4 hS3
         try simp only[Act.put,sa,sz,ss]
         refine wpAnyH_done (by kernel_rfl) ?_ _;obtain⟨Y',hY',hZ⟩:=HZ.out;have HZ2:=Lib.hid hZ;have HNZ:=Lib.hid (show Y'.length=ny∧ny≤1000001 from ⟨hY',HNY.out.2⟩);clear hZ hY' HZ;go_wp2_with fail;go_roundw
         case rel=>exact⟨k+1,Y',HKL.out,by go_num,Lib.hid (by have:=HZ2.out;rwa [Nat.add_assoc]at this),HNZ⟩
         case measure=>simp[intOf];omega
        refine AllReadyH.cons (o:=⟨some 104,_,_,_,_,_⟩) rfl (fun K hK=>?_) AllReadyH.nil;go_simp;have hS2:=Bx.alloc hS1 (.cells #[ni] 3);refine hK.out _ _ hS2 (fun hHeld=>?_);clear hK hHeld K
        try simp only[Act.put,sa,sz,ss]
        refine kr 6 rfl fun K hK=>?_
        obtain⟨d0,_,_⟩:=HFL.out (wd.alloc (.cells #[ni] 3)) none ((HGD.out _).trans (aD (bw1 _ _))) (.inl rfl);go_simp;clear d0;refine hK.out _ _ hS2 (fun hHeld=>?_);clear hK hHeld K
        try simp only[Act.put,sa,sz,ss]
        refine kr 10 rfl fun K hK=>?_
        refine wp_step rfl (Tryz.wpI hIo ni _ _ rfl rfl rfl hN2 hbs ?_);intro v9 w9 hO9 hg9 hl9;have hS3:(fun W:World=>Bx W nb 71 [ni,nx,ny']) w9:=Bx.grown (w:=wd) hS1 hg9 (fun e=>by have:=HLA.out _ e;omega);have HZ:=Lib.hid (HPUT.out w9 v9 hO9 hg9 hl9);obtain⟨f0,f1,f2⟩:=HFL.out w9 _ ((HGD.out _).trans hg9) (.inr rfl);obtain⟨A9,c9,rfl⟩:=Own.slice hO9;rw[show(I++[ni]).length=I.length+1 by simp]at HZ ⊢;clear hO9 hg9 hl9 hS2;refine hK.out _ _ hS3 (fun hHeld=>?_);clear hK hHeld K
        try simp only[Act.put,sa,sz,ss]
        refine kk 11 rfl ?_;refine kk 12 rfl ?_;refine kr 13 rfl fun K hK=>?_
        go_simp;have hS4:(fun W:World=>Bx W nb 71 [ni,nx,ny']) (w9.setCell ⟨g,ix*4+3,none⟩ (.slice A9 (I.length+1) c9)):=Bx.other hS3 (by have:=HLG.out;omega) _ _;clear f0 f1 f2;refine hK.out _ _ hS4 (fun hHeld=>?_);clear hK hHeld K hS4 hS3
        try simp only[Act.put,sa,sz,ss]
        refine wpAnyH_done (by kernel_rfl) ?_ _;obtain⟨Y',hY',hZ⟩:=HZ.out;have HZ2:=Lib.hid hZ;have HNZ:=Lib.hid (show Y'.length=ny∧ny≤1000001 from ⟨hY',HNY.out.2⟩);clear hZ hY' HZ;go_wp2_with fail;go_roundw
        case rel=>exact⟨k+1,Y',HKL.out,by go_num,Lib.hid (by have:=HZ2.out;rwa [Nat.add_assoc]at this),HNZ⟩
        case measure=>simp[intOf];omega
      ·have HB:=Lib.hid HD.out.hb
       have HD:=Lib.hid (HD.out.done (by omega) (by have:=HD.out.ln.2;omega));go_wp2_with fail;go_ret;exact⟨_,Y,rfl,HD.out,HB.out⟩
end Go.Proofs
namespace Go.Proofs
open Go.RowKit Go.Proofs.Mp Go.Lib
theorem Mp.Own.wpMany{P:Program}{α:Type}[Inhabited α]{e k:Nat}{enc:α→List Value}{w:World}{base:Nat}{v:Value}{o:Oper}{a:Act}{K:Act→World→Prop}{Q:Exit→Act→World→Prop}(t:TypeId)(i:TypeInfo)(z:Value)(bytes:Nat)
  (ht:P.underlying t=some (.slice e))(hi:P.info? e=some i)(hz:i.zero=some z)
  (hsize:i.size=k)(hby:i.bytes=bytes)(hzs:z.cells.size=k)(hsz:0<k)(hbpos:0<bytes)
  (hk:∀x,(enc x).length=k){vs ks:List α}(h1:∀y∈ks,∀u∈enc y,u.oneCell'=true)(s r:Operand)
  (ho:o.op=.call { callee:=.builtin .append,args:=#[s,r],argTypes:=#[t,t] })
  {A:Option Addr}{c:Nat}(hown:Own e k enc w base v vs)(hRd:Rd k enc w A ks)(hs:a.eval s=v)(hx:a.eval r=.slice A ks.length c)
  (hbytes:(vs.length+ks.length)*bytes≤140737488355328)(hbase:base≤w.heap.size)
  (h:∀v' w',Own e k enc w' base v' (vs++ks)→w.grownBy w' v.ownBlock→K (a.put o.dst v') w') :
  o.wp P a w K Q:=by
 have hle:vs.length+ks.length≤(vs.length+ks.length)*bytes:=Nat.le_mul_of_pos_right _ hbpos
 by_cases hn:ks=[]
 ·subst hn
  simp only[List.length_nil]at hx
  obtain⟨B,m,rfl,hm⟩:∃B m,v=.slice B vs.length m∧vs.length≤m:=by
   rcases hown.2 with⟨rfl,h0⟩|⟨g,cap,cur,rfl,_,_,hnc,_⟩
   ·exact⟨none,0,by rw[h0],by omega⟩
   ·exact⟨_,cap,rfl,hnc⟩
  have hr:=run_append_zero (P:=P) (w:=w) t o.type e i ht hi B A vs.length m c hm;unfold Oper.wp execOp;simp only[ho,resolve,invoke,builtin,Sem.run_bind,Sem.run_pure,Result.andThen_ok,List.map_toArray,List.map_cons,List.map_nil,hs,hx,hr];exact h _ w (by rw[List.append_nil];exact hown) (World.grownBy.refl _ _)
 ·obtain⟨ad,rfl,hc⟩:=Rd.flat hk hsz hRd hn
  refine wp_append_at s r t ho base e i z k bytes ht hi hz hsize hby hzs hsz v vs.length (vs.flatMap enc) hs hown ad ks.length c (ks.flatMap enc) hx (flat_len hk ks) hc ?_ (by unfold maxLen;omega) hbytes hbase ?_
  ·intro u hu
   obtain⟨y,hy0,hy⟩:=List.mem_flatMap.1 hu;exact h1 y hy0 u hy
  ·intro v' w' ho' hg hl
   have ho2:Own e k enc w' base v' (vs++ks):=by
    unfold Own
    simpa using ho'
   exact h v' w' ho2 hg
def Cz(p:Pn)(w:World)(v:Value):Prop:=∃l,SlI w v l∧(∀x∈l,x∈dS p)∧l.length≤513
theorem Cy.z{p:Pn}{w:World}{v:Value}(h:Cy p w v):Cz p w v:=by
 obtain⟨d,r,h1,_,h2⟩:=h;exact⟨_,h1,h2⟩
theorem Cz.below{p:Pn}{w w':World}{v:Value}(h:Cz p w v)(hb:Below w.heap.size w w'):Cz p w' v:=by
 obtain⟨l,h1,h2⟩:=h;exact⟨l,h1.below hb,h2⟩
theorem Cz.nil(p:Pn)(w:World):Cz p w (.slice none 0 0):=⟨[],⟨none,0,rfl,.inl rfl,Nat.le_refl _⟩,by simp,by simp⟩
theorem Cz.lit{p:Pn}{w:World}{v:Value}(h:Cz p w v):∃A n c,v=.slice A n c:=by
 obtain⟨l,h1,_⟩:=h;exact h1.lit
def sA(p:Pn)(w:World)(e:Ending)(w':World):Prop:=∃(A:Option Addr) (c:Nat) (I:List Value),e=.returned (.slice A I.length c)∧Rd 1 dj w' A I∧(∀u∈I,Cz p w' u)∧I.length≤2000001∧Below w.heap.size w w'
theorem mY(p:Pn)(t:Int)(o i a:Value)(I:List Value)(w:World)(ho:Cz p w o)(hi:SlY p w i I)(ha:∃A n c,a=.slice A n c):Calls Tryz.prog 125 #[.agg #[t,o,i,a]] w (sA p w):=by
 obtain⟨Aa,na,ca,rfl⟩:=ha;have HO:=hid ho;have HI:=hid hi;obtain⟨Ao,no,co,rfl⟩:=ho.lit;obtain⟨Ai,ci,rfl,_,_⟩:=hi.sl;have hx:=Bx.new (t:=158) (cs:=[.int .i64 t,.slice Ao no co,.slice Ai I.length ci,.slice Aa na ca]) w rfl;have hw:=bw1 w (.cells #[t,.slice Ao no co,.slice Ai I.length ci,.slice Aa na ca] 158);go_enter Tryz.func125,Tryz.ntmps125;go_upto_region 1 with fail;generalize w.alloc (.cells #[t,.slice Ao no co,.slice Ai I.length ci,.slice Aa na ca] 158)=w1 at *;obtain⟨k0,k1,k2,k3⟩:=hx.c4;have hOw:Own 24 1 dj (w1.alloc (.cells #[.slice Ao no co] 24)) w1.heap.size (.slice (some ⟨w1.heap.size,0,none⟩) 1 1) [.slice Ao no co]:=World.ownsRow_lit w1 #[.slice Ao no co] 1 (Nat.le_refl _) (by decide) rfl;have hb2:=hw.alloc hw.size (.cells #[.slice Ao no co] 24);have HI2:=hid (HI.out.below hb2)
 have hRd:Rd 1 dj (w1.alloc (.cells #[.slice Ao no co] 24)) Ai I:=by
  obtain⟨A,c,e,h1,_⟩:=HI2.out.sl;injection e with e _ _;subst e;exact h1
 have h1c:∀y∈I,∀u∈dj y,u.oneCell'=true:=fun y hy u hu=>by
  rw[List.mem_singleton.1 hu];obtain⟨A,n,c,e⟩:=(HI.out.cy y hy).lit;rw[e];rfl
 have hle:=HI.out.le;have hlen:([Value.slice Ao no co].length+I.length)*24≤140737488355328:=by simp only[List.length_singleton];omega
 obtain⟨i0,hi0,hz0,hz1,hz2⟩:=Mp.info_parts Tryz.infoSl;have HW:=hid hb2;have HSZ:=hid hw.size;have hl0:=hx.lt;clear hx hw hb2;go_wp2_with (at_builtin;refine wpList_plain rfl fun K' hK'=>Own.wpMany 121 i0 (.slice none 0 0) 24 Tryz.underlying121 hi0 hz0 hz1 hz2 rfl (by decide) (by decide) dD h1c _ _ rfl hOw hRd rfl rfl hlen (by simp) ?_;intro v9 w9 hO9 hg9;refine hK' _ _ ?_;clear hK');obtain⟨A9,c9,rfl⟩:=Own.slice hO9
 have hb9:Below w.heap.size w w9:=HW.out.grown hg9 HW.out.size (fun j e=>by
  have e:w1.heap.size=j:=by injection e
  have:=HSZ.out
  omega)
 have HR:=hid (show sA p w (.returned (.slice A9 ([Value.slice Ao no co]++I).length c9)) w9 from ⟨A9,c9,_,rfl,Own.rd dD hO9,fun u hu=>by
  rcases List.mem_cons.1 hu with rfl|hu
  ·exact HO.out.below hb9
  ·exact((HI.out.cy u hu).below hb9).z,by simp;omega,hb9⟩)
 clear hO9 hg9 hb9;go_ret;exact HR.out
end Go.Proofs
namespace Go.Proofs
open Go.RowKit Go.Proofs.Mp Go.Lib
theorem Mp.MapV.lookG{P:Program}{k e t:TypeId}{w:World}{B N:Nat}{f:Int→Option Value}{ops:Array Oper}{rest:List Oper}{o:Oper}{a:Act}{Q:Exit→Act→World→Prop}(h:MapV P k w B N f)(hw:Region.wanted o (yielded ops a.tmps)=true)(m x:Operand)(hop:o.op=Op.lookup t m x false)(ht:P.underlying t=some (.map k e))(hk:P.underlying k=some (.int .i64)){z:Value}(hz:(zeroValue e).run P w=.ok z w)
  (hm:a.eval m=.map (some B))(n:Int)(hx:a.eval x=.int .i64 n)(hwf:(Lit.int .i64 n).wf=true){v:Value}(hv:(f n).getD z=v)(hK:wpList P ops Q rest (a.put o.dst v) w):wpList P ops Q (o::rest) a w:=by
 refine wpList_step fun K' hK'=>?_
 rw[if_pos hw];have hrun:=h.run ht hk hz n hwf;rw[hv]at hrun;unfold Oper.wp;simp[execOp,hop,hm,hx,hrun,Result.andThen];exact hK' _ _ hK
theorem Mp.MapV.lenU{P:Program}{k e t:TypeId}{w:World}{B N:Nat}{f:Int→Option Value}(h:MapV P k w B N f)(ht:P.underlying t=some (.map k e)):∃n:Int,∀W,Below w.heap.size w W→∀ty,(Builtin.len_ #[t] ty #[.map (some B)]).run P W=.ok (.int .i64 n) W:=by
 have hl:=h.lt;obtain⟨D,⟨es,clock,hh,r⟩,q⟩:=h;refine⟨Maps.size D,fun W hb ty=>?_⟩;have h2:W.ownsMap P k rawE B (Maps.size D) D:=⟨es,clock,(hb.block B hl).trans hh,r⟩;exact h2.len ht ty
def LRw(p:Pn):Prop:=∀z,eO p z→(Lit.int .i64 z).wf=true
structure FaM(w wr:World)(n0 B base:Nat)(cs:List Value)(N:Nat)(vl:Value)(l:List Int)(f:Int→Option Value):Prop where
 pb:Bx wr n0 26 cs
 mp:MapV Tryz.prog 3 wr B N f
 tg:∀x v,f x=some v→v=.bool true
 own:Own 3 1 Mp.encI wr base vl l
 hb:Below w.heap.size w wr
 lt:w.heap.size≤n0∧w.heap.size≤B∧n0<base∧B<base∧n0≠B
 bs:base≤wr.heap.size
section
variable {w wr w':World}{n0 B base N:Nat}{cs:List Value}{vl vl':Value}{l:List Int}{f:Int→Option Value}
theorem FaM.below(h:FaM w wr n0 B base cs N vl l f)(hb:Below wr.heap.size wr w'):FaM w w' n0 B base cs N vl l f:=
 ⟨h.pb.below hb,h.mp.below hb,h.tg,h.own.below hb,h.hb.trans (hb.mono h.hb.size),h.lt,Nat.le_trans h.bs hb.size⟩
theorem FaM.app(h:FaM w wr n0 B base cs N vl l f){x:Int}(ho:Own 3 1 Mp.encI w' base vl' (l++[x]))(hg:wr.grownBy w' vl.ownBlock):FaM w w' n0 B base cs N vl' (l++[x]) f:=by
 obtain⟨l1,l2,l3,l4,l5⟩:=h.lt;have hb:=World.ownsRow.lt h.own;have ne:∀q,q<base→vl.ownBlock≠some q:=fun q hq e=>by have:=(hb q e).1;omega
 exact⟨h.pb.grown hg (ne _ l3),h.mp.kept hg (fun e=>ne _ l4 e.symm),h.tg,ho,h.hb.grown hg h.hb.size (fun j e=>by have:=(hb j e).1;omega),h.lt,Nat.le_trans h.bs hg.size⟩
theorem FaM.mark(h:FaM w wr n0 B base cs N vl l f){z:Int}(hM:MapV Tryz.prog 3 w' B (N+1) (setV f z (.bool true)))(hg:wr.grownBy w' (some B)):FaM w w' n0 B base cs (N+1) vl l (setV f z (.bool true)):=by
 obtain⟨l1,l2,l3,l4,l5⟩:=h.lt;have hb:=World.ownsRow.lt h.own;refine⟨h.pb.grown hg (fun e=>by injection e with e;omega),hM,fun x v e=>?_,aO h.own hg (fun g e e2=>by injection e2 with e2;have:=(hb g e).1;omega),h.hb.grown hg h.hb.size (fun j e=>by injection e with e;omega),h.lt,Nat.le_trans h.bs hg.size⟩
 by_cases ex:x=z
 ·subst ex;rw[setV_same]at e;injection e with e;exact e.symm
 ·rw[setV_ne ex]at e;exact h.tg x v e
end
def i7(n:Nat)(w:World)(e:Ending)(w':World):Prop:=∃(v:Value) (b:Bool) (l:List Int),e=.returned (.tuple #[v,.bool b])∧SlI w' v l∧(b=true→l.length=n)∧Below w.heap.size w w'
theorem i7.no{n:Nat}{w w':World}(h:Below w.heap.size w w'):i7 n w (.returned (.tuple #[.slice none 0 0,.bool false])) w':=⟨_,_,[],rfl,⟨none,0,rfl,.inl rfl,Nat.le_refl _⟩,(fun h=>by cases h),h⟩
theorem rm{w:World}{base:Nat}{v:Value}{l:List Int}(h:Own 3 1 Mp.encI w base v l):SlI w v l:=by
 obtain⟨A,c,rfl⟩:=Own.slice h;refine⟨A,c,rfl,Own.rd encI_len h,?_⟩
 rcases h.2 with⟨e,e2⟩|⟨g,cap,cur,e,_,_,h3,_⟩
 ·injection e;omega
 ·injection e with _ _ e;omega
theorem pA(p:Pn)(m:Mem)(v:Value)(Y:List AT)(w:World)(hR:PlR w p m)(hLR:LRw p)(hA:ArQ p w v Y):Calls Tryz.prog 79 #[plV p m,v] w (i7 Y.length w):=by
 have cSd:=hid fun d W (hb:Below w.heap.size w W)=>qC p m d W (hR.below hb)
 have HLR:=hid hLR;have HA:=hid hA;have hlen:=hA.len.2;have hplV:plV p m=.agg #[.slice m.an p.nodes.length m.cn,.slice m.aa p.arcs.length m.ca,.slice m.af p.faces.length m.cf]:=rfl;rw[hplV]at cSd ⊢;obtain⟨Av,cv,rfl,hrv,_⟩:=hA.sl;clear hR hplV hA hLR;generalize p.nodes.length=l1 at *;generalize p.arcs.length=l2 at *;generalize p.faces.length=l3 at *;obtain⟨an,aa,af,cn,ca,cf,mvs⟩:=m;dsimp only at *;have ha:=Bx.new (t:=26) (cs:=[.slice an l1 cn,.slice aa l2 ca,.slice af l3 cf]) w rfl;have HW1:=hid (bw1 w (.cells #[.slice an l1 cn,.slice aa l2 ca,.slice af l3 cf] 26));have HRV:=hid hrv;have hmm:=@run_makeMap Tryz.prog;clear hrv;go_enter Tryz.func79,Tryz.ntmps79;go_upto_region 1 with fail;generalize w.alloc (.cells #[.slice an l1 cn,.slice aa l2 ca,.slice af l3 cf] 26)=w1 at *;obtain⟨n0,hn0⟩:∃n,w.heap.size=n:=⟨_,rfl⟩
 have hst:FaM w (w1.alloc (.map #[] 0)) w.heap.size w1.heap.size (w1.heap.size+1) [.slice an l1 cn,.slice aa l2 ca,.slice af l3 cf] 0 (.slice none 0 0) [] (fun _=>none):=
  ⟨ha.alloc _,MapV.made w1,(fun x v e=>by cases e),Own.nil _ _,HW1.out.alloc HW1.out.size _,⟨Nat.le_refl _,HW1.out.size,by have:=ha.lt;omega,by omega,by have:=ha.lt;omega⟩,by simp⟩
 have HN0:=hid hn0;rw[hn0]at hst ⊢;have HST:=hid hst;clear ha hn0 hst;go_upto_region 2 with fail;generalize w1.alloc (.map #[] 0)=w2 at *;generalize w1.heap.size+1=base at *;generalize w1.heap.size=B at *;clear hmm;go_wp2_with fail;go_loopw [4,5,7,8,9,11,13,17] (fun vl ok _ _ _ _ _ i wr=>∃(k N:Nat) (l:List Int) (f:Int→Option Value),k≤Y.length∧i=.int .i64 k∧ok=.bool false∧Hid (FaM w wr n0 B base [.slice an l1 cn,.slice aa l2 ca,.slice af l3 cf] N vl l f)∧Hid (l.length=k∧N≤k)) (fun _ _ _ _ _ _ _ i _=>Y.length-(intOf i).toNat)
 case atStart=>exact⟨0,0,[],_,by omega,rfl,rfl,HST,hid ⟨rfl,Nat.le_refl _⟩⟩
 case round=>
  clear HST;obtain⟨k,N,l,f,hk,rfl,rfl,HF,HLN⟩:=hrel
  by_cases hlt:k<Y.length
  ·have hli:(k:Int)<(Y.length:Int):=by omega
   obtain⟨b1,o1,rfl,hb1,hcell⟩:=rd4 HRV.out HF.out.hb hlt;obtain⟨d0,d1,d2,d3⟩:=hcell k hlt;clear hcell;obtain⟨⟨I,hI⟩,la,hla,_⟩:=HA.out.el _ (ak hlt);have hO1:0<k→Cy p w Y[k]!.2.1:=HA.out.ou k hlt
   have hO:Cz p w Y[k]!.2.1:=by
    rcases Nat.eq_zero_or_pos k with rfl|h0
    ·rw[HA.out.z];exact Cz.nil _ _
    ·exact(hO1 h0).z
   generalize Y[k]! = y at *;obtain⟨t,o,ii,a⟩:=y;dsimp only at d0 d1 d2 d3 hI hla hO hO1;have HO:=hid hO;have HI:=hid hI;obtain⟨Ao,no,co,rfl⟩:=hO.lit;obtain⟨Ai,ci,rfl,_,_⟩:=hI.sl;obtain⟨Aa,na,ca',rfl⟩:=hla.lit;have hx:=Bx.new (t:=158) (cs:=[.int .i64 t,.slice Ao no co,.slice Ai I.length ci,.slice Aa na ca']) wr rfl;have HF5:=hid (HF.out.below (bw1 wr (.cells #[t,.slice Ao no co,.slice Ai I.length ci,.slice Aa na ca'] 158)));obtain⟨A9,c9,rfl⟩:=Own.slice HF.out.own;have hkb:k+1≤1000001:=by omega
   have HKL:=hid hlt;have HNX:=hid HF.out.bs;go_upto_region 5 with fail;generalize wr.alloc (.cells #[t,.slice Ao no co,.slice Ai I.length ci,.slice Aa na ca'] 158)=w5 at *;generalize wr.heap.size=nx at *;have HX5:=hid (show ∀W,Below w5.heap.size w5 W→Bx W nx 158 [t,.slice Ao no co,.slice Ai I.length ci,.slice Aa na ca'] from fun W hb=>hx.below hb);have HP5:=hid (show ∀W,Below w5.heap.size w5 W→Bx W n0 26 [.slice an l1 cn,.slice aa l2 ca,.slice af l3 cf] from fun W hb=>HF5.out.pb.below hb);clear d0 d1 d2 d3 hI hla hO hlt hk hx HF;have HO1:=hid hO1;clear hO1;obtain⟨y,hy⟩:∃y,decide ((0:Int)<(k:Int))=y:=⟨_,rfl⟩;cases y
   case' true=>
    have hk0:0<k:=by simpa using hy
    obtain⟨d,r,hod,_⟩:=HO1.out hk0;obtain⟨A2,c2,e2,hr2,_⟩:=hod;injection e2 with e2 e3 e4;subst e2 e3 e4;obtain⟨b2,o2,rfl,_,_⟩:=RdI.get hr2 HF5.out.hb (show 0<(d::r).length by simp)
    have HD5:=hid (show ∀W,Below w5.heap.size w5 W→W.cell? ⟨b2,o2,none⟩=some (.int .i64 d)from fun W hb=>by
     obtain⟨b',o',e,_,d1⟩:=RdI.get hr2 (HF5.out.hb.trans (hb.mono HF5.out.hb.size)) (show 0<(d::r).length by simp);injection e with e;injection e with e1 e2;subst e1 e2
     exact d1)
    have hlp:0<(d::r).length:=by simp
    generalize (d::r).length=no at *;clear hr2;go_wp2_with fail;have hS1:(fun W:World=>Below w5.heap.size w5 W) w5.drew:=(Below.refl _ _).drew;refine wp_region_held_drew (S:=(fun W:World=>Below w5.heap.size w5 W)) (by kernel_rfl) hS1 (fun hHeld=>?_);clear hHeld;generalize hwd:w5.drew=wd at *;clear hwd;refine kf 0 (fun W h=>(HP5.out W h).c3) rfl ?_;refine kk 1 rfl ?_;refine kf 2 (fun W h=>(HX5.out W h).c4) rfl ?_;refine kk 3 rfl ?_;refine kf 4 HD5.out rfl ?_;refine kr 5 rfl fun K hK=>?_
    go_simp;go_at_call 124;refine(cSd.out d _ (HF5.out.below hS1).hb).mono ?_;rintro e Wra1 ⟨z,rfl,hbz,hlz⟩;have hS2:(fun W:World=>Below w5.heap.size w5 W) Wra1:=Below.trans (B:=w5.heap.size) hS1 (hbz.mono hS1.size);clear hbz hS1;go_wp2_with fail;refine hK.out _ _ hS2 (fun hHeld=>?_);clear hK hHeld K
    try simp only[Act.put,sa,sz,ss]
    refine kk 6 rfl ?_;refine wpAnyH_done (by kernel_rfl) ?_ _;have HS7:=hid hS2;clear hS2;generalize Wra1=w6 at *;have HF6:=hid (HF5.out.below HS7.out);have hzw:=HLR.out z hlz;have hM:=HF6.out.mp;have hNl:N<maxLen:=by have:=HLN.out.2;unfold maxLen;omega
    have HX6:=hid (HX5.out _ HS7.out);clear hlz HS7 HX5 HP5 HF5 HD5;obtain⟨y0,hy0⟩:∃y,(z==0)=y:=⟨_,rfl⟩
    rcases y0 with _|_
    rotate_left
    ·go_wp2_with fail
     go_ret2;exact i7.no HF6.out.hb
    obtain⟨vx,hvx⟩:∃v,(f z).getD (.bool false)=v:=⟨_,rfl⟩
    have hvb:vx=.bool true∨vx=.bool false:=by
     cases e:f z with
     | none=>rw[e]at hvx;exact Or.inr hvx.symm
     | some x=>rw[e]at hvx;exact Or.inl (by rw[←hvx];exact HF6.out.tg _ _ e)
    have HVX:=hid hvx;clear hvx
    rcases hvb with rfl|rfl
    ·go_wp2_with (at_lookup;refine MapV.lookG hM rfl _ _ rfl Tryz.underlying163 Tryz.underlying3 (Tryz.zeroValue4 _) rfl z rfl hzw HVX.out ?_)
     go_ret2;exact i7.no HF6.out.hb
    go_upto_region 11 with (first|(at_lookup;refine MapV.lookG hM rfl _ _ rfl Tryz.underlying163 Tryz.underlying3 (Tryz.zeroValue4 _) rfl z rfl hzw HVX.out ?_)|(at_mapUpdate;refine MapV.store hM rfl _ _ _ rfl Tryz.underlying163 Tryz.underlying3 rfl z (.bool true) rfl rfl hzw (M:=N+1) (.inr (Nat.le_refl _)) hNl ?_;intro w8 hM8 hg8));have HF8:=hid (HF6.out.mark hM8 hg8);have HX8:=hid (HX6.out.grown hg8 (fun e=>by injection e with e;have:=HNX.out;have:=HF6.out.lt;omega));have HN8:=hid (show N+1≤k+1 by have:=HLN.out.2;omega);clear hM hzw hNl HVX hM8 hg8 HF6 HX6 hlp hk0 hy0
   case' false=>
    have hk0:¬0<k:=by simpa using hy
    go_upto_region 11 with fail;obtain⟨w8,rfl⟩:∃w,w=w5:=⟨_,rfl⟩;have HF8:=HF5;have HX8:=hid (HX5.out _ (Below.refl _ _));have HN8:=hid (show N≤k+1 by have:=HLN.out.2;omega);clear HX5 HP5 HF5 hk0
   all_goals
    clear hy HO1;obtain⟨k0,k1,k2,k3⟩:=HX8.out.c4;go_wp2_with fail;refine(mY p t _ _ _ I w8 (HO.out.below HF8.out.hb) (HI.out.below HF8.out.hb) ⟨_,_,_,rfl⟩).mono ?_;rintro e w10 ⟨A10,c10,J,rfl,hJ,hJz,hJn,hb10⟩;have HFx:=hid (HF8.out.below hb10);have HJ:=hid hJ;have HJZ:=hid hJz;clear k0 k1 k2 k3 hJ hJz hb10 HF8 HX8;go_wp2_with fail;go_loopw [4,5,11,13,42] (fun vl ok _ _ i wr=>∃j:Nat,j≤J.length∧i=.int .i64 j∧vl=.slice A9 l.length c9∧ok=.bool false∧Hid (Below w10.heap.size w10 wr)) (fun _ _ _ _ i _=>J.length-(intOf i).toNat)
    case atStart=>exact⟨0,by omega,rfl,rfl,rfl,hid (Below.refl _ _)⟩
    case round=>
     obtain⟨j,hj,rfl,rfl,rfl,HB⟩:=hrel
     by_cases hlj:j<J.length
     ·have hlj2:(j:Int)<(J.length:Int):=by omega
      obtain⟨b3,o3,rfl,hb3,d0⟩:=Rd.get HJ.out HB.out hlj;have d0:=d0 j hlj 0 _ rfl;simp only[Nat.mul_one,Nat.add_zero]at d0;obtain⟨c,hc1,_,hc3⟩:=HJZ.out _ (ak hlj);generalize J[j]! = u at *;obtain⟨Au,cu,rfl,hru,_⟩:=hc1;have HRU:=hid hru;clear hru;go_wp2_with fail;clear d0;have HBK:=HB;go_loopw [4,5,13,48] (fun vl ok _ i wr=>∃q:Nat,q≤c.length∧i=.int .i64 q∧vl=.slice A9 l.length c9∧ok=.bool false∧Hid (Below w10.heap.size w10 wr)) (fun _ _ _ i _=>c.length-(intOf i).toNat)
      case atStart=>exact⟨0,by omega,rfl,rfl,rfl,HB⟩
      case round=>
       clear HB HBK;obtain⟨q,hq,rfl,rfl,rfl,HB⟩:=hrel
       by_cases hlq:q<c.length
       ·have hlq2:(q:Int)<(c.length:Int):=by omega
        obtain⟨b4,o4,rfl,_,d0⟩:=RdI.get HRU.out HB.out hlq;generalize c[q]! = dd at *;obtain⟨p0,p1,p2⟩:=(HFx.out.below HB.out).pb.c3;go_wp2_with fail;refine(cSd.out dd _ (HFx.out.below HB.out).hb).mono ?_;rintro e w12 ⟨z2,rfl,hb12,_⟩;have HB2:=hid (HB.out.trans (hb12.mono HB.out.size));clear d0 p0 p1 p2 hb12;go_wp2_with fail
        all_goals first
         | (go_ret2;exact i7.no (HFx.out.below HB2.out).hb)
         | (go_roundw;(case rel=>exact⟨q+1,by omega,by go_num,rfl,rfl,HB2⟩);(case measure=>simp[intOf];omega))
       ·go_wp2_with fail
        go_roundw
        case rel=>exact⟨j+1,by omega,by go_num,rfl,rfl,HB⟩
        case measure=>simp[intOf];omega
     ·have HF12:=hid (HFx.out.below HB.out)
      have hown:=HF12.out.own;have hbs:=HF12.out.bs;have hN1:l.length+1≤1000000000:=by have:=HLN.out.1;omega
      go_wp2_with (at_builtin;refine wpList_plain rfl fun K' hK'=>Tryz.wpI hown _ _ _ rfl rfl rfl hN1 hbs ?_;intro v9 w9 hO9 hg9 hl9;refine hK' _ _ ?_;clear hK');have HF13:=hid (HF12.out.app hO9 hg9);clear hO9 hg9 hl9;go_roundw
      case rel=>exact⟨k+1,_,_,_,HKL.out,by go_num,rfl,HF13,hid ⟨by have:=HLN.out.1;simp;omega,HN8.out⟩⟩
      case measure=>simp[intOf];omega
  ·obtain⟨A9,c9,rfl⟩:=Own.slice HF.out.own
   have hk:k=Y.length:=by omega
   have HP9:=hid (show ∀W,Below wr.heap.size wr W→Bx W n0 26 [.slice an l1 cn,.slice aa l2 ca,.slice af l3 cf] from fun W hb=>HF.out.pb.below hb);obtain⟨nn,hnn⟩:=HF.out.mp.lenU (t:=163) Tryz.underlying163;have HLN2:=hid (And.intro HLN.out.1 hk);have HLN:=hid hnn;clear hnn hk;go_wp2_with fail;have hS1:(fun W:World=>Below wr.heap.size wr W) wr.drew:=(Below.refl _ _).drew;refine wp_region_held_drew (S:=(fun W:World=>Below wr.heap.size wr W)) (by kernel_rfl) hS1 (fun hHeld=>?_);clear hHeld;generalize hwd:wr.drew=wd at *;clear hwd;refine kk 0 rfl ?_;refine kk 1 rfl ?_;refine kk 2 (hy:=by intro W hSw;have d0:=HLN.out W hSw;clear hSw;simp[execOp,resolve,invoke,builtin,d0,Result.andThen];go_simp;try with_reducible rfl) rfl ?_
   refine kk 3 rfl ?_;refine kf 4 (fun W h=>(HP9.out W h).c3) rfl ?_;refine kk 5 rfl ?_;refine kk 6 rfl ?_;refine kk 7 rfl ?_;refine kk 8 rfl ?_;refine wpAnyH_done (by kernel_rfl) ?_ _;have HS9:=hid hS1;clear hS1;have HR:=hid (rm (HF.out.below HS9.out).own);have HB:=hid (HF.out.below HS9.out).hb;go_wp2_with fail;go_ret2;exact⟨_,_,l,rfl,HR.out,fun _=>by have:=HLN2.out;omega,HB.out⟩
end Go.Proofs
namespace Go.Proofs
open Go.RowKit Go.Proofs.Mp Go.Lib
theorem dL{fn:Func}{t u v x:Tmp}(h:fn.results=#[.tmp t,.tmp u,.tmp v,.tmp x])(tmps:Array Value)(P:Program)(w:World) :
  (results fn tmps).run P w=.ok (.tuple #[tmps.getD t undef,tmps.getD u undef,tmps.getD v undef,tmps.getD x undef]) w:=by
 simp[results,h]
def ug(p:Pn)(w:World)(e:Ending)(w':World):Prop:=∃(n:Int) (v fv mv:Value),e=.returned (.tuple #[v,fv,mv,n])∧Below w.heap.size w w' ∧
 (n≠0∨(n=0∧CheckP p∧∃Y l,ArQ p w' v Y∧SlI w' fv l∧l.length=Y.length))
def sD(p:Pn)(w:World)(e:Ending)(w':World):Prop:=∃n:Int,e=.returned (.int .i64 n)∧(n=0→CheckP p)∧Below w.heap.size w w'
theorem mg(p:Pn)(m:Mem)(w:World)(hR:PlR w p m)(hLR:LRw p):Calls Tryz.prog 40 #[plV p m] w (ug p w):=by
 have cCy:=hid fun W (hb:Below w.heap.size w W)=>mM p m W (hR.below hb)
 have cPa:=hid fun (hC:CheckP p) W (hb:Below w.heap.size w W)=>pw p m W (hR.below hb) hC
 have cDv:=hid fun (hC:CheckP p) W (hb:Below w.heap.size w W) v vs B N f h1 h2 h3 h4=>mX p m v vs W B N f (hR.below hb) hC h1 h2 h3 h4
 have cFa:=hid fun W (hb:Below w.heap.size w W) v Y h1=>pA p m v Y W (hR.below hb) hLR h1
 have hplV:plV p m=.agg #[.slice m.an p.nodes.length m.cn,.slice m.aa p.arcs.length m.ca,.slice m.af p.faces.length m.cf]:=rfl;rw[hplV]at cCy cPa cDv cFa ⊢;clear hR hplV hLR;generalize p.nodes.length=l1 at *;obtain⟨l2,hl2⟩:∃n,p.arcs.length=n:=⟨_,rfl⟩;simp only[hl2]at cCy cPa cDv cFa ⊢;generalize p.faces.length=l3 at *;obtain⟨an,aa,af,cn,ca,cf,mvs⟩:=m;dsimp only at *;have ha:=Bx.new (t:=26) (cs:=[.slice an l1 cn,.slice aa l2 ca,.slice af l3 cf]) w rfl;have HW1:=hid (bw1 w (.cells #[.slice an l1 cn,.slice aa l2 ca,.slice af l3 cf] 26));have HL2:=hid hl2;clear hl2;go_enter Tryz.func40,Tryz.ntmps40;go_upto_region 1 with fail;generalize w.alloc (.cells #[.slice an l1 cn,.slice aa l2 ca,.slice af l3 cf] 26)=w1 at *;obtain⟨n0,hn0⟩:∃n,w.heap.size=n:=⟨_,rfl⟩;rw[hn0]at ha ⊢;clear hn0;have HP:=hid (show ∀W,Below w1.heap.size w1 W→Bx W n0 26 [.slice an l1 cn,.slice aa l2 ca,.slice af l3 cf] from fun W hb=>ha.below hb);obtain⟨a0,a1,a2⟩:=ha.c3;clear ha;go_wp2_with fail;refine(cCy.out w1 HW1.out).mono ?_;rintro e w2 ⟨n,v,rfl,hb2,h2⟩;have HB2:=hid hb2;have HW2:=hid (HW1.out.trans (hb2.mono HW1.out.size));clear a0 a1 a2 hb2;obtain⟨a0,a1,a2⟩:=(HP.out w2 HB2.out).c3
 by_cases hn:n=0
 rotate_left
 ·have hnn:(n==0)=false:=by rw[beq_eq_false_iff_ne];exact hn
  have HN:=hid hn;clear h2 hn;go_wp2_with fail
  (try simp only[Exit.inBlock,Exit.then])
  refine bodyPost_ret (dL rfl _ _ _) rfl ?_;exact⟨n,_,_,_,rfl,HW2.out,.inl HN.out⟩
 subst hn
 rcases h2 with⟨h2,_⟩|⟨_,hC,L,hL,hcy,hll⟩
 ·exact absurd rfl h2
 obtain⟨vs,hV,hvl⟩:=tK hL hcy hll;have HCk:=hid hC;have HV:=hid hV;have HVL:=hid hvl;clear hC hL hcy hll hV hvl;go_wp2_with fail;refine(cPa.out HCk.out w2 HW2.out).mono ?_;rintro e w3 ⟨B,N,f,rfl,hM,hall,hb3⟩;have HB3:=hid (HB2.out.trans (hb3.mono HB2.out.size));have HW3:=hid (HW2.out.trans (hb3.mono HW2.out.size));have HV3:=hid (HV.out.below hb3);have HM:=hid hM;have HALL:=hid hall;clear a0 a1 a2 hb3 hM hall HB2 HV;obtain⟨a0,a1,a2⟩:=(HP.out w3 HB3.out).c3;go_wp2_with fail;refine(cDv.out HCk.out w3 HW3.out _ vs B N f HV3.out HVL.out HM.out (by rw[←HL2.out];exact HALL.out)).mono ?_;rintro e w4 ⟨v4,Y,rfl,hA,hb4⟩;have HB4:=hid (HB3.out.trans (hb4.mono HB3.out.size));have HW4:=hid (HW3.out.trans (hb4.mono HW3.out.size));have HA:=hid hA;clear a0 a1 a2 hb4 hA HB3 HV3 HM HALL HVL;obtain⟨a0,a1,a2⟩:=(HP.out w4 HB4.out).c3;go_wp2_with fail;refine(cFa.out w4 HW4.out _ Y HA.out).mono ?_;rintro e w5 ⟨v5,b,l,rfl,hS,hbl,hb5⟩;have HW5:=hid (HW4.out.trans (hb5.mono HW4.out.size));have HA5:=hid (HA.out.below hb5);have HS:=hid hS;have HBL:=hid hbl;clear a0 a1 a2 hb5 hS hbl;cases b
 ·go_wp2_with fail
  (try simp only[Exit.inBlock,Exit.then])
  refine bodyPost_ret (dL rfl _ _ _) rfl ?_;exact⟨12,_,_,_,rfl,HW5.out,.inl (by decide)⟩
 ·go_wp2_with fail
  (try simp only[Exit.inBlock,Exit.then])
  refine bodyPost_ret (dL rfl _ _ _) rfl ?_;exact⟨0,_,_,_,rfl,HW5.out,.inr ⟨rfl,HCk.out,Y,l,HA5.out,HS.out,HBL.out (by simp)⟩⟩
theorem gR(p:Pn)(m:Mem)(w:World)(hR:PlR w p m)(hLR:LRw p):Calls Tryz.prog 15 #[plV p m] w (sD p w):=by
 have cR:=hid fun W (hb:Below w.heap.size w W)=>mg p m W (hR.below hb) hLR
 have hplV:plV p m=.agg #[.slice m.an p.nodes.length m.cn,.slice m.aa p.arcs.length m.ca,.slice m.af p.faces.length m.cf]:=rfl;rw[hplV]at cR ⊢;clear hR hplV hLR;generalize p.nodes.length=l1 at *;generalize p.arcs.length=l2 at *;generalize p.faces.length=l3 at *;obtain⟨an,aa,af,cn,ca,cf,mvs⟩:=m;dsimp only at *;have ha:=Bx.new (t:=26) (cs:=[.slice an l1 cn,.slice aa l2 ca,.slice af l3 cf]) w rfl;have HW1:=hid (bw1 w (.cells #[.slice an l1 cn,.slice aa l2 ca,.slice af l3 cf] 26));go_enter Tryz.func15,Tryz.ntmps15;go_upto_region 1 with fail;generalize w.alloc (.cells #[.slice an l1 cn,.slice aa l2 ca,.slice af l3 cf] 26)=w1 at *;obtain⟨a0,a1,a2⟩:=ha.c3;clear ha;go_wp2_with fail;refine(cR.out w1 HW1.out).mono ?_;rintro e w2 ⟨n,v,fv,mv,rfl,hb2,h2⟩
 have HR:=hid (show sD p w (.returned (.int .i64 n)) w2 from ⟨n,rfl,fun e=>by
  rcases h2 with h2|⟨_,h2,_⟩
  ·exact absurd e h2
  ·exact h2,HW1.out.trans (hb2.mono HW1.out.size)⟩)
 clear a0 a1 a2 hb2 h2;go_wp2_with fail;go_ret;exact HR.out
end Go.Proofs
namespace Go.Proofs
open Go.RowKit Go.Proofs.Mp Go.Lib
theorem pY(P:Nat→Prop){n:Nat}(h:P n):∃m,P m∧∀k,P k→m≤k:=by
 induction n using Nat.strongRecOn with
 | ind n ih=>
  by_cases hx:∃k,k<n∧P k
  ·obtain⟨k,hk,h2⟩:=hx
   exact ih k hk h2
  ·exact⟨n,h,fun k hk=>Nat.le_of_not_lt fun hl=>hx ⟨k,hl,hk⟩⟩
open Classical in
noncomputable def lst(P:Nat→Prop):Nat:=if h:∃m,P m∧∀k,P k→m≤k then Classical.choose h else 0
theorem kj{P:Nat→Prop}{n:Nat}(h:P n):P (lst P)∧lst P≤n:=by
 have h2:=pY P h;unfold lst;rw[dif_pos h2];have:=Classical.choose_spec h2;exact⟨this.1,this.2 n h⟩
def SfS(w W:World)(s:Nat)(vn va vf:Value)(N:List Nd)(F:List Int)(n:Nat):Prop:=∃L:List AV,tot L=n∧PlO W (s+2) vn va vf N L F∧CheckP (pnO N L F)∧Bx W (s+1) 26 [vn,va,vf]∧Below s w W
def ud(w:World)(e:Ending)(w':World):Prop:=∃(a1 a2 a3:Value) (n:Int),e=.returned (.tuple #[.agg #[a1,a2,a3],.int .i64 n])∧(∃A n c,a1=.slice A n c)∧(∃A n c,a2=.slice A n c)∧(∃A n c,a3=.slice A n c)∧Below w.heap.size w w' ∧
 (n≠0∨n=0∧∃q,CheckP q∧∀W,w'.heap.size≤W.heap.size→(∀g,w.heap.size≤g→g<w'.heap.size→W.heap[g]?=w'.heap[g]?)→∃m,plV q m=.agg #[a1,a2,a3]∧PlR W q m)
theorem jK(p:Pn)(m:Mem)(tol:Int)(w:World)(hR:PlR w p m)(hLR:LRw p):Calls Tryz.prog 7 #[plV p m,tol] w (ud w):=by
 have cK:=hid fun W (hb:Below w.heap.size w W)=>gR p m W (hR.below hb) hLR
 have cC:=hid fun W (hb:Below w.heap.size w W)=>oZ p m W (hR.below hb)
 have cS:=hid fun N L F vn va vf B W h1 h2 h3=>qJ N L F vn va vf B tol W h1 h2 h3
 have hplV:plV p m=.agg #[.slice m.an p.nodes.length m.cn,.slice m.aa p.arcs.length m.ca,.slice m.af p.faces.length m.cf]:=rfl;rw[hplV]at cK cC ⊢;clear hR hplV hLR;generalize hq1:p.nodes.length=l1 at *;generalize hq2:p.arcs.length=l2 at *;generalize hq3:p.faces.length=l3 at *;clear hq1 hq2 hq3;obtain⟨an,aa,af,cn,ca,cf,mvs⟩:=m;dsimp only at *;obtain⟨s,hs⟩:∃n,w.heap.size=n:=⟨_,rfl⟩;have HSz:=hid hs;rw[hs]at cK cC;have ha:=(Bx.new (t:=26) (cs:=[.slice an l1 cn,.slice aa l2 ca,.slice af l3 cf]) w rfl).alloc (.cells #[.slice none 0 0,.slice none 0 0,.slice none 0 0] 26);have hx:=Bx.newAt (b:=w.heap.size+1) (t:=26) (cs:=[.slice none 0 0,.slice none 0 0,.slice none 0 0]) (c:=#[.slice none 0 0,.slice none 0 0,.slice none 0 0]) (w.alloc (.cells #[.slice an l1 cn,.slice aa l2 ca,.slice af l3 cf] 26)) (by simp) rfl;have hw:=bwx w (.cells #[.slice an l1 cn,.slice aa l2 ca,.slice af l3 cf] 26) (.cells #[.slice none 0 0,.slice none 0 0,.slice none 0 0] 26);rw[hs]at ha hx hw;go_enter Tryz.func7,Tryz.ntmps7;go_upto_region 1 with fail;clear hs;change Bx ((w.alloc (.cells #[.slice an l1 cn,.slice aa l2 ca,.slice af l3 cf] 26)).alloc (.cells #[.slice none 0 0,.slice none 0 0,.slice none 0 0] 26)) _ _ _ at ha;generalize (w.alloc (.cells #[.slice an l1 cn,.slice aa l2 ca,.slice af l3 cf] 26)).alloc (.cells #[.slice none 0 0,.slice none 0 0,.slice none 0 0] 26)=w0 at *;have HB0:=hid (And.intro ha (And.intro hx hw));obtain⟨x0,x1,x2⟩:=ha.c3;clear ha hx hw;go_wp2_with fail;refine(cK.out _ HB0.out.2.2).mono ?_;rintro e w1 ⟨n,rfl,hCk,hb1⟩;have HB1:=hid (And.intro (HB0.out.1.below hb1) (And.intro (HB0.out.2.1.below hb1) (HB0.out.2.2.trans (hb1.mono (by have:=HB0.out.2.1.lt;omega)))));have HL1:=hid HB1.out.2.1.lt;clear x0 x1 x2 hb1 HB0;obtain⟨y0,hy0⟩:∃y,(n==0)=y:=⟨_,rfl⟩;cases y0
 ·have HNE:=hid (show n≠0 by simpa using hy0)
  obtain⟨z0,z1,z2⟩:=HB1.out.2.1.c3;have g0:=HB1.out.2.1.frozen 0;have g1:=HB1.out.2.1.frozen 1;have g2:=HB1.out.2.1.frozen 2;have g4:=HB1.out.2.1.lt;go_wp2_with fail;rw[ac z0,ac z1,ac z2];refine bodyPost_ret (v:=.tuple #[.agg #[.slice none 0 0,.slice none 0 0,.slice none 0 0],.int .i64 n]) (by simp[results,Tryz.results7,go_sem,z0,z1,z2]) rfl ?_;exact⟨_,_,_,n,rfl,⟨_,_,_,rfl⟩,⟨_,_,_,rfl⟩,⟨_,_,_,rfl⟩,HSz.out▸HB1.out.2.2,.inl HNE.out⟩
 obtain rfl:n=0:=by simpa using hy0
 have HC:=hid (hCk rfl);clear hCk hy0;obtain⟨x0,x1,x2⟩:=HB1.out.1.c3;go_wp2_with fail;refine(cC.out _ HB1.out.2.2).mono ?_;rintro e w2 ⟨vn,va,vf,L,rfl,hL,hBl,hb2⟩;have hx2:=HB1.out.2.1.below hb2;have hw2:=HB1.out.2.2.trans (hb2.mono (by have:=HL1.out;omega));have hP:PlO (st3 w2 (s+1) vn va vf) (s+2) vn va vf p.nodes L p.faces:=(((hBl.mono (b:=s+2) HL1.out).cell (q:=s+1) (o:=0) (by omega) vn).cell (q:=s+1) (o:=1) (by omega) va).cell (q:=s+1) (o:=2) (by omega) vf |>.done;obtain⟨A1,k1,rfl⟩:=Own.slice hBl.nd;obtain⟨A2,k2,rfl⟩:=Own.slice hBl.ar;obtain⟨A3,k3,rfl⟩:=Own.slice hBl.fc
 have HS0:=hid (show ∃n,SfS w (st3 w2 (s+1) (.slice A1 p.nodes.length k1) (.slice A2 L.length k2) (.slice A3 p.faces.length k3)) s (.slice A1 p.nodes.length k1) (.slice A2 L.length k2) (.slice A3 p.faces.length k3) p.nodes p.faces n from
  ⟨_,L,rfl,hP,by unfold pnO;rw[hL];exact HC.out,hx2.set3 _ _ _,hx2.set3B hw2 (by omega) _ _ _⟩)
 obtain⟨z0,z1,z2⟩:=hx2.c3;have g0:=hx2.frozen 0;have g1:=hx2.frozen 1;have g2:=hx2.frozen 2;have g4:=hx2.lt;clear x0 x1 x2 hL hBl hb2 hx2 hw2 hP;go_wp2_with fail;change Code.wp _ _ _ _ (st3 w2 (s+1) (.slice A1 p.nodes.length k1) (.slice A2 L.length k2) (.slice A3 p.faces.length k3));generalize st3 w2 (s+1) (.slice A1 p.nodes.length k1) (.slice A2 L.length k2) (.slice A3 p.faces.length k3)=w3 at *;clear z0 z1 z2 g0 g1 g2 g4;generalize hn1:L.length=nL at *;clear hn1;go_loopw [] (fun wr=>Hid (∃n,SfS w wr s (.slice A1 p.nodes.length k1) (.slice A2 nL k2) (.slice A3 p.faces.length k3) p.nodes p.faces n)) (fun wr=>lst (SfS w wr s (.slice A1 p.nodes.length k1) (.slice A2 nL k2) (.slice A3 p.faces.length k3) p.nodes p.faces))
 case atStart=>exact HS0
 case round=>
  obtain⟨n,hn⟩:=hrel.out;clear hrel;obtain⟨L',hT,hP,hC,hX,hB⟩:=(kj hn).1;have HP:=hid (And.intro hP hC);have HX:=hid (And.intro hX hB);have HT:=hid hT;have HL:=hid (show s+2≤wr.heap.size from hX.lt);obtain⟨z0,z1,z2⟩:=hX.c3;clear hn hT hP hC hX hB HS0;go_wp2_with fail;refine(cS.out _ L' _ _ _ _ (s+2) wr HL.out HP.out.1 HP.out.2).mono ?_;rintro e w4 ⟨r,rfl,hb,L2,hP2,hC2,ht⟩;have hx4:Bx w4 (s+1) 26 [.slice A1 p.nodes.length k1,.slice A2 nL k2,.slice A3 p.faces.length k3]:=(hb.block (s+1) (by omega)).trans HX.out.1;have hw4:=HX.out.2.trans (hb.mono (show s≤s+2 by omega));have HS4:=hid (show SfS w w4 s (.slice A1 p.nodes.length k1) (.slice A2 nL k2) (.slice A3 p.faces.length k3) p.nodes p.faces (tot L2)from ⟨L2,rfl,hP2,hC2,hx4,hw4⟩);have HT4:=hid ht;clear z0 z1 z2 hb hP2 hC2 ht;cases r
  ·obtain⟨z0,z1,z2⟩:=hx4.c3
   have g0:=hx4.frozen 0;have g1:=hx4.frozen 1;have g2:=hx4.frozen 2;have g4:=hx4.lt;clear hx4 hw4;go_wp2_with fail;rw[ac z0,ac z1,ac z2];refine bodyPost_ret (v:=.tuple #[.agg #[.slice A1 p.nodes.length k1,.slice A2 nL k2,.slice A3 p.faces.length k3],.int .i64 0]) (by simp[results,Tryz.results7,go_sem,z0,z1,z2]) rfl ?_;obtain⟨L3,_,hP3,hC3,_,hw⟩:=HS4.out;refine⟨_,_,_,0,rfl,⟨_,_,_,rfl⟩,⟨_,_,_,rfl⟩,⟨_,_,_,rfl⟩,HSz.out▸hw,.inr ⟨rfl,_,hC3,fun W h1 h2=>?_⟩⟩;obtain⟨m,_,h3,h4⟩:=(hP3.keep h1 (fun i g e=>h2 g (by have:=(hP3.lt i g e).1;have:=HSz.out;omega) (hP3.lt i g e).2)).pl (jB hC3);exact⟨m,h3,h4⟩
  ·clear hx4 hw4
   go_wp2_with fail;go_roundw
   case rel=>exact hid ⟨_,HS4.out⟩
   case measure=>
    have h1:=(kj HS4.out).2;have h2:=HT4.out trivial;have h3:=HT.out;omega
end Go.Proofs
