/- Lemmas and walks; no statement of a law is proved here. -/
import Derived.Test.YtaglmdebikglgaaGreatDoorX03
import Derived.Test.YtaglmdebikglgaaGreatDoorX06
import Derived.DeepKeys4
import Derived.Deep.MidRow
set_option linter.unusedVariables false
set_option linter.unusedSimpArgs false
set_option maxRecDepth 100000
set_option maxHeartbeats 8000000
open Go.Lib
namespace Go.Proofs
open Go.RowKit Go.Proofs.Mp Go.Lib Go.Proofs.Ed
abbrev Pe:=Int×Pc
abbrev PeV:=Int×Value×Int×Int
def dW(b:PeV):List Value:=[.int .i64 b.1,b.2.1,.int .i64 b.2.2.1,.int .i64 b.2.2.2]
theorem eM(b:PeV):(dW b).length=4:=rfl
def RPc:Rel PeV Pe:=fun w b x ok=>b.1=x.1∧SlF 2 encR w b.2.1 x.2.1 ok∧b.2.2=x.2.2
theorem RPc.foot:Foot RPc where
 mono:=fun ⟨h1,h2,h3⟩ h=>⟨h1,(SlF.foot 2 encR).mono h2 h,h3⟩
 keep:=fun ⟨h1,h2,h3⟩ hs hk=>⟨h1,(SlF.foot 2 encR).keep h2 hs hk,h3⟩
theorem RPc.one{w:World}{b:PeV}{x:Pe}{ok:Nat→Prop}(h:RPc w b x ok):∀u∈dW b,u.oneCell'=true:=by
 obtain⟨_,⟨A,c,e,_⟩,_⟩:=h;intro u hu;simp only[dW,List.mem_cons,List.not_mem_nil,or_false]at hu
 rcases hu with rfl|rfl|rfl|rfl
 ·rfl
 ·rw[e];rfl
 ·rfl
 ·rfl
abbrev fo(w:World)(base:Nat)(v:Value)(L:List Pe)(ok:Nat→Prop):Prop:=OwG 97 4 dW RPc w base v L ok
abbrev iz:Rel Value (List Pe):=SlG 4 dW RPc
theorem Tryz.infoPc:(Tryz.prog.info? 97).map (fun i=>(i.zero,i.size,i.bytes))=some (some (.agg #[.int .i64 0,.slice none 0 0,.int .i64 0,.int .i64 0]),4,48):=by kernel_rfl
theorem Tryz.wpPc{w:World}{base:Nat}{v:Value}{L:List Pe}{ok:Nat→Prop}{o:Oper}{a:Act}{K:Act→World→Prop}{Q:Exit→Act→World→Prop}
  (hown:fo w base v L ok)(y:PeV)(x:Pe)(hel:RPc w y x (fun g=>ok g∧v.ownBlock≠some g))(s r:Operand)
  (ho:o.op=.call { callee:=.builtin .append,args:=#[s,r],argTypes:=#[52,52] })(hs:a.eval s=v)(hx:a.eval r=.slice (some ⟨w.heap.size,0,none⟩) 1 1)
  (hN:L.length+1≤1000000000)(hbase:base≤w.heap.size)
  (h:∀v' w',fo w' base v' (L++[x]) ok→w.grownBy w' v.ownBlock→(v'.ownBlock=v.ownBlock∨∃j,v'.ownBlock=some j∧w.heap.size≤j)→K (a.put o.dst v') w') :
  o.wp Tryz.prog a (w.alloc (.cells #[y.1,y.2.1,y.2.2.1,y.2.2.2] 97)) K Q:=by
 obtain⟨i0,hi0,hz0,hz1,hz2⟩:=Mp.info_parts Tryz.infoPc;exact OwG.wp1 52 i0 (.agg #[.int .i64 0,.slice none 0 0,.int .i64 0,.int .i64 0]) 48 Tryz.underlying52 hi0 hz0 hz1 hz2 rfl (by decide) (by decide) eM RPc.foot y x hel.one s r ho hown hel hs hx (by omega) hbase h
def PcS(w:World)(n:Nat)(arc:Int)(vl:Value)(acc:List Pe)(vp:Value):Option Pc→Prop
 | none=>Bx w n 52 [vl]∧(∃a b c d,Bx w (n+1) 97 [a,b,c,d])∧Bx w (n+2) 4 [.bool false]∧fo w (n+3) vl acc (fun g=>n+3≤g)
 | some (P,E,L)=>Bx w n 52 [vl]∧Bx w (n+1) 97 [.int .i64 arc,vp,.int .i64 E,.int .i64 L]∧Bx w (n+2) 4 [.bool true]∧OwnR 30 w (n+3) vp P∧P≠[]∧(∀g,vp.ownBlock=some g→vl.ownBlock≠some g) ∧
   fo w (n+3) vl acc (fun q=>n+3≤q∧vp.ownBlock≠some q)
theorem PcS.below{w w':World}{n:Nat}{arc:Int}{vl vp:Value}{acc:List Pe}{x:Option Pc}(h:PcS w n arc vl acc vp x)(hb:Below w.heap.size w w'):PcS w' n arc vl acc vp x:=by
 match x,h with
 | none,⟨h1,⟨a,b,c,d,h2⟩,h3,h4⟩=>exact⟨h1.below hb,⟨a,b,c,d,h2.below hb⟩,h3.below hb,h4.below RPc.foot hb⟩
 | some (P,E,L),⟨h1,h2,h3,h4,h5,h6,h7⟩=>exact⟨h1.below hb,h2.below hb,h3.below hb,h4.below hb,h5,h6,h7.below RPc.foot hb⟩
theorem PcS.opened{w W:World}{n:Nat}{arc:Int}{vl vp v:Value}{acc:List Pe}{c:Pt}{E L:Int}(h:PcS w n arc vl acc vp none)(hg:(w.setCell ⟨n+2,0,none⟩ (.bool true)).grownBy W (some (n+1)))
  (hx:Bx W (n+1) 97 [arc,v,E,L])(ho:OwnR 30 W (w.setCell ⟨n+2,0,none⟩ (.bool true)).heap.size v [c]):PcS W n arc vl acc v (some ([c],E,L)):=by
 rw[show(w.setCell ⟨n+2,0,none⟩ (.bool true)).heap.size=w.heap.size by simp[World.setCell]]at ho;obtain⟨h1,⟨x0,x1,x2,x3,h2⟩,h3,h4⟩:=h;have hgs:w.grownBy (w.setCell ⟨n+2,0,none⟩ (.bool true)) (some (n+2)):=aj _ _ _;have hn:=h3.lt;have hsz:(w.setCell ⟨n+2,0,none⟩ (.bool true)).heap.size=w.heap.size:=by simp[World.setCell]
 have hvl:∀g,vl.ownBlock=some g→g<w.heap.size:=fun g e=>(h4.lt e).2
 have hv:∀g,v.ownBlock=some g→w.heap.size≤g:=fun g e=>(World.ownsRow.lt ho g e).1
 have k4:fo (w.setCell ⟨n+2,0,none⟩ (.bool true)) (n+3) vl acc (fun g=>n+3≤g):=h4.grown RPc.foot hgs (fun q e=>by
  have e:n+2=q:=by injection e
  rintro (⟨_,h⟩|h)<;>omega)
 have k5:fo (w.setCell ⟨n+2,0,none⟩ (.bool true)) (n+3) vl acc (fun q=>n+3≤q∧v.ownBlock≠some q):=k4.mono RPc.foot (Nat.le_refl _) (fun q hq _ h=>⟨h,fun e=>by have:=hv _ e;omega⟩);refine⟨(h1.other (by omega) 0 _).grown hg (by simp),hx,((h3.set 0 (.bool true)).grown hg (by simp)),ho.mono (by omega),by simp,fun g e1 e2=>?_,k5.grown RPc.foot hg (fun q e=>?_)⟩
 ·have:=hv _ e1
  have:=hvl _ e2;omega
 ·have e:n+1=q:=by injection e
  rintro (⟨_,h⟩|⟨h,_⟩)<;>omega
theorem PcS.more{w w':World}{n:Nat}{arc:Int}{vl vp v':Value}{acc:List Pe}{P:List Pt}{d:Pt}{E L:Int}(h:PcS w n arc vl acc vp (some (P,E,L)))
  (ho:OwnR 30 w' (n+3) v' (P++[d]))(hg:w.grownBy w' vp.ownBlock)(hl:v'.ownBlock=vp.ownBlock∨∃j,v'.ownBlock=some j∧w.heap.size≤j) :
  PcS (w'.setCell ⟨n+1,1,none⟩ v') n arc vl acc v' (some (P++[d],E,L)):=by
 obtain⟨h1,h2,h3,h4,h5,h6,h7⟩:=h;have hv:=World.ownsRow.lt h4;have hv':=World.ownsRow.lt ho;have hgs:w'.grownBy (w'.setCell ⟨n+1,1,none⟩ v') (some (n+1)):=aj _ _ _;have hlt:=h3.lt;have hne:∀q,q<n+3→vp.ownBlock≠some q:=fun q h e=>by have:=(hv q e).1;omega
 have hq:∀q,q<w.heap.size→vp.ownBlock≠some q→v'.ownBlock≠some q:=by
  intro q hq hne e
  rcases hl with hl|⟨j,hl,hj⟩
  ·exact hne (hl▸e)
  ·rw[hl]at e;have e:j=q:=by injection e
   omega
 have k7:fo w' (n+3) vl acc (fun q=>n+3≤q∧v'.ownBlock≠some q):=by
  have a:=h7.mono (ok':=fun q=>n+3≤q∧v'.ownBlock≠some q∧vp.ownBlock≠some q) RPc.foot (Nat.le_refl _) (fun q hq1 _ h=>⟨h.1,hq q hq1 h.2,h.2⟩);exact(a.grown RPc.foot hg (fun q e=>by rintro (⟨h,_⟩|⟨_,_,h⟩);exact h6 q e h;exact h e)).mono RPc.foot (Nat.le_refl _) (fun q _ _ h=>⟨h.1,h.2.1⟩)
 have o1:OwnR 30 (w'.setCell ⟨n+1,1,none⟩ v') (n+3) v' (P++[d]):=World.ownsRow.kept ho hgs (by
  rcases hb:v'.ownBlock with _|j
  ·exact .inl rfl
  ·refine .inr fun e=>?_
   have e:j=n+1:=by injection e
   have:=(hv' j hb).1
   omega)
 refine⟨(h1.grown hg (hne _ (by omega))).other (by omega) _ _,(h2.grown hg (hne _ (by omega))).set 1 _,(h3.grown hg (hne _ (by omega))).other (by omega) _ _,o1,by simp,fun g e1 e2=>?_,k7.grown RPc.foot hgs (fun q e=>?_)⟩
 ·rcases hl with hl|⟨j,hl,hj⟩
  ·exact h6 g (hl▸e1) e2
  ·have:=(h7.lt e2).2
   rw[hl]at e1;have e:j=g:=by injection e1
   omega
 ·have e:n+1=q:=by injection e
  rintro (⟨_,h⟩|⟨h,_⟩)<;>omega
theorem PcS.leave{w:World}{n:Nat}{arc:Int}{vl vp:Value}{acc:List Pe}{P:List Pt}{E L L':Int}(h:PcS w n arc vl acc vp (some (P,E,L))) :
  PcS (w.setCell ⟨n+1,3,none⟩ (.int .i64 L')) n arc vl acc vp (some (P,E,L')):=by
 obtain⟨h1,h2,h3,h4,h5,h6,h7⟩:=h;have hgs:w.grownBy (w.setCell ⟨n+1,3,none⟩ (.int .i64 L')) (some (n+1)):=aj _ _ _;have hv:=World.ownsRow.lt h4;refine⟨h1.other (by omega) _ _,h2.set 3 _,h3.other (by omega) _ _,World.ownsRow.kept h4 hgs ?_,h5,h6,h7.grown RPc.foot hgs (fun q e=>?_)⟩
 ·rcases hb:vp.ownBlock with _|j
  ·exact .inl rfl
  ·refine .inr fun e=>?_
   have e:j=n+1:=by injection e
   have:=(hv j hb).1;omega
 ·have e:n+1=q:=by injection e
  rintro (⟨_,h⟩|⟨h,_⟩)<;>omega
theorem iK{w:World}{base g cap:Nat}{P:List Pt}(h:OwnR 30 w base (.slice (some ⟨g,0,none⟩) P.length cap) P):base≤g∧g<w.heap.size∧aZ w w g P.toArray∧P.length≤cap∧cap≤maxLen:=by
 obtain⟨cur,h1,h2,h3⟩:∃cur:Array Value,base≤g∧w.heap[g]?=some (.cells cur 30 (0,0))∧P.length≤cap∧cap≤maxLen:=by
  rcases h.2 with⟨e1,_⟩|⟨g',cap',cur,e1,h1,h2,h3,h4,_⟩
  ·cases e1
  ·injection e1 with e1 e2 e3
   injection e1 with e1;injection e1 with e1 _ _;subst e1 e3;exact⟨cur,h1,h2,h3,h4⟩
 have hl:g<w.heap.size:=(Array.getElem?_eq_some_iff.1 h2).1;refine⟨h1,hl,⟨World.grownBy.refl _ _,fun j=>frozen_of_row w g j cur 30 h2,fun j hj=>?_⟩,h3⟩;have hr:=Own.rd encR_len h;obtain⟨b,off,e,_,hc⟩:=hr.at_ (by simpa using hj);injection e with e;injection e with e1 e2;subst e1 e2;have c0:=hc j (by simpa using hj) 0 _ rfl;have c1:=hc j (by simpa using hj) 1 _ rfl;simp only[Nat.zero_add,Nat.add_zero]at c0 c1;have e:P.toArray[j]! = P[j]!:=by rw[getElem!_def,getElem!_def];simp
 rw[e];exact⟨c0,c1⟩
theorem io:∀(l:List Pt) (p:Pt),(cmpA p l).length≤l.length
 | [],_=>Nat.le_refl _
 | q::r,p=>by
  unfold cmpA;split
  ·exact Nat.le_succ_of_le (io r p)
  ·exact Nat.succ_le_succ (io r q)
theorem kM(l:List Pt):(cmpL l).length≤l.length:=by
 cases l with
 | nil=>exact Nat.le_refl _
 | cons p r=>exact Nat.succ_le_succ (io r p)
def er(arc:Int)(x:Option Pc):List Pe:=(fin x).map fun y=>(arc,y)
theorem qo(arc:Int)(w:World)(n:Nat)(vl vp:Value)(acc:List Pe)(x:Option Pc)(hS:PcS w n arc vl acc vp x)(hx:∀P E L,x=some (P,E,L)→P.length≤1000000)(ha:acc.length≤1000000) :
  Calls Tryz.prog 108 #[.pointer (some ⟨n+2,0,none⟩),.pointer (some ⟨n+1,0,none⟩),.pointer (some ⟨n,0,none⟩)] w (fun e w'=>e=.returned (.tuple #[])∧Below n w w'∧∃vl',PcS w' n arc vl' (acc++er arc x) vp none):=by
 match x,hS,hx with
 | none,hS,hx=>
  have HS:=hid hS;obtain⟨h1,_,h3,_⟩:=hS;have k3:=h3.cell 0;simp only[gz]at k3;go_enter Tryz.func108,Tryz.ntmps108;go_wp2_with fail;refine bodyPost_ret (v:=.tuple #[]) (by simp[results,Tryz.results108,go_sem]) rfl ?_;exact⟨rfl,Below.refl _ _,vl,by simpa [er,fin] using HS.out⟩
 | some (P,E,L),hS,hx=>
  have hP:=hx P E L rfl;obtain⟨h1,h2,h3,h4,h5,h6,h7⟩:=hS;obtain⟨g,cap,rfl,_,_⟩:=aG h4 h5;have h6:vl.ownBlock≠some g:=h6 g rfl;have h7:fo w (n+3) vl acc (fun q=>n+3≤q∧q≠g):=h7.mono RPc.foot (Nat.le_refl _) (fun q _ _ h=>⟨h.1,fun e=>h.2 (by rw[e];rfl)⟩);obtain⟨hg1,hg2,hrc,hcap,hcm⟩:=iK h4;have k3:=h3.cell 0;have q3:=h3.frozen 0;have l3:=h3.lt;simp only[gz]at k3;have s3:=h3.set 0 (.bool false);have b3:=h3.setB (Below.refl n w) (by omega) 0 (.bool false);have hgr:w.grownBy (w.setCell ⟨n+2,0,none⟩ (.bool false)) (some (n+2)):=aj _ _ _;have g1:=h1.other (n:=n+2) (by omega) 0 (.bool false);have g2:=h2.other (n:=n+2) (by omega) 0 (.bool false);have g7:=h7.grown RPc.foot hgr (fun q e=>by injection e with e;subst e;rintro (⟨_,h⟩|⟨h,_⟩)<;>omega)
  have hrc2:aZ (w.setCell ⟨n+2,0,none⟩ (.bool false)) (w.setCell ⟨n+2,0,none⟩ (.bool false)) g P.toArray:=by
   refine⟨World.grownBy.refl _ _,fun j=>?_,fun j hj=>?_⟩
   ·rw[World.frozen?_of_block (hgr.block g hg2 (by simp;omega))];exact hrc.2.1 j
   ·have hcc:∀o,(w.setCell ⟨n+2,0,none⟩ (.bool false)).cell? ⟨g,o,none⟩=w.cell? ⟨g,o,none⟩:=fun o=>World.cell?_of_block (hgr.block g hg2 (by simp;omega))
    rw[hcc,hcc];exact hrc.2.2 j hj
  have hsz:(w.setCell ⟨n+2,0,none⟩ (.bool false)).heap.size=w.heap.size:=by simp[World.setCell]
  go_enter Tryz.func108,Tryz.ntmps108;go_upto_region 2 with fail;generalize w.setCell ⟨n+2,0,none⟩ (.bool false)=w1 at *;have hg3:g<w1.heap.size:=by omega
  have cC:=hid (lk g cap P w1 hg3 hrc2 hP hcap);have HC:=hid (rV P);generalize hQ:oE P=Q at *;have j2:=g2.cell 1;simp only[gz,gs]at j2;clear k3 q3 l3 h1 h2 h3 h4 h7 hgr hrc hrc2;go_wp2_with fail;refine cC.out.mono ?_;rintro e w2 ⟨rfl,hRd,hgr2⟩;have b2:Below n w w2:=b3.grown hgr2 (by have:=b3.size;omega) (fun j hj=>by injection hj with hj;omega);have d1:=g1.grown hgr2 (by simp;omega);have d2:=g2.grown hgr2 (by simp;omega);have d3:=s3.grown hgr2 (by simp;omega);have d7:=g7.grown RPc.foot hgr2 (fun q e=>by injection e with e;subst e;rintro (⟨h,_⟩|⟨_,h⟩);exact h6 h;exact h rfl);have hg4:g<w2.heap.size:=Nat.lt_of_lt_of_le hg3 hgr2.size;have q2:=d2.frozen 1;have p2:=d2.cell 1;simp only[gz,gs]at p2;have l2:=d2.lt;have e2:=d2.set 1 (.slice (some ⟨g,0,none⟩) Q.length cap);have e1:=d1.other (n:=n+1) (by omega) 1 (.slice (some ⟨g,0,none⟩) Q.length cap);have e3:=d3.other (n:=n+1) (by omega) 1 (.slice (some ⟨g,0,none⟩) Q.length cap);have hgr3:w2.grownBy (w2.setCell ⟨n+1,1,none⟩ (.slice (some ⟨g,0,none⟩) Q.length cap)) (some (n+1)):=aj _ _ _;have e7:=d7.grown RPc.foot hgr3 (fun q e=>by injection e with e;subst e;rintro (⟨_,h⟩|⟨h,_⟩)<;>omega)
  have b4:=d2.setB b2 (by omega) 1 (.slice (some ⟨g,0,none⟩) Q.length cap);have hRd2:=hRd.keepB hgr3.size (hgr3.block g hg4 (by simp;omega));have hg5:g<(w2.setCell ⟨n+1,1,none⟩ (.slice (some ⟨g,0,none⟩) Q.length cap)).heap.size:=by simpa [World.setCell] using hg4
  have hQl:Q.length≤P.length:=by rw[HC.out];exact kM P
  clear hgr2 hgr3 d1 d2 d3 d7 hRd b2 hg4 g1 g2 g7 s3 b3 hsz j2;go_upto_region 3 with fail;generalize w2.setCell ⟨n+1,1,none⟩ (.slice (some ⟨g,0,none⟩) Q.length cap)=w3 at *;have j2:=e2.cell 1;simp only[gz,gs,sz,ss]at e2 j2;have HB:=hid b4;have HE:=hid (And.intro e3 (And.intro e7 hRd2))
  have HF:=hid (show er arc (some (P,E,L))=if 1<Q.length then [(arc,Q,E,L)] else [] from by
   unfold er fin;rw[HC.out]
   show((if 1<(cmpL P).length then [(cmpL P,E,L)] else []).map _:List Pe)=_
   by_cases h:1<(cmpL P).length
   ·rw[if_pos h,if_pos h];rfl
   ·rw[if_neg h,if_neg h];rfl)
  clear e3 e7 hRd2 q2 l2 b4 cC p2
  by_cases h1:1<Q.length
  rotate_left
  ·have h1b:¬(1:Int)<(Q.length:Int):=by omega
   have HF2:=hid (show er arc (some (P,E,L))=[] from by rw[HF.out,if_neg h1]);clear h1 HF;have HE1:=hid (And.intro e1 e2);clear e1 e2;go_wp2_with fail;refine bodyPost_end (v:=.tuple #[]) (by simp[results,Tryz.results108,go_sem]) rfl ?_;refine⟨rfl,HB.out,vl,?_⟩;rw[HF2.out,List.append_nil];exact⟨HE1.out.1,⟨_,_,_,_,HE1.out.2⟩,HE.out.1,HE.out.2.1.mono RPc.foot (Nat.le_refl _) (fun q _ _ h=>h.1)⟩
  ·have h1b:(1:Int)<(Q.length:Int):=by omega
   have HF2:=hid (show er arc (some (P,E,L))=[(arc,Q,E,L)] from by rw[HF.out,if_pos h1]);have h0:Q≠[]:=by intro e;subst e;simp at h1
   have hcq:Q.length≤cap:=by omega
   clear h1 HF;have k1:=e1.cell 0;have y0:=e2.cell 0;have y2:=e2.cell 2;have y3:=e2.cell 3;simp only[gz,gs]at k1 y0 y2 y3;have hel:RPc w3 (arc,.slice (some ⟨g,0,none⟩) Q.length cap,E,L) (arc,Q,E,L) (fun q=>n+3≤q∧vl.ownBlock≠some q):=⟨rfl,⟨_,cap,rfl,⟨hcq,hcm⟩,.inr ⟨g,0,rfl,⟨hg1,h6⟩,hg5⟩,HE.out.2.2⟩,rfl⟩;have hO:fo w3 (n+3) vl acc (fun q=>n+3≤q):=HE.out.2.1.mono RPc.foot (Nat.le_refl _) (fun q _ _ h=>h.1);have hsz3:n+3≤w3.heap.size:=by omega
   have HE1:=hid (And.intro e1 e2);have hlt:∀j,vl.ownBlock=some j→n+3≤j:=fun j h=>(hO.lt h).1
   clear e1 e2;go_wp2_with (at_builtin;refine wpList_plain rfl fun K hK=>Tryz.wpPc hO _ _ hel _ _ rfl rfl rfl (by omega) hsz3 ?_;intro v9 w9 hO9 hg9 hl9;have HL9:=hid hl9;clear hl9;obtain⟨A9,c9,rfl⟩:=OwG.slice hO9;have f1:=HE1.out.1.grown hg9 (fun e=>by have:=hlt _ e;omega);have k9:=f1.cell 0;have q9:=f1.frozen 0;have l9:=f1.lt;simp only[gz]at k9;refine hK _ _ ?_;clear hK k1 y0 y2 y3 j2);have f2:=HE1.out.2.grown hg9 (fun e=>by have:=hlt _ e;omega);have f3:=HE.out.1.grown hg9 (fun e=>by have:=hlt _ e;omega);have fb:=HB.out.grown hg9 (by have:=HB.out.size;omega) (fun j hj=>by have:=hlt _ hj;omega);refine bodyPost_end (v:=.tuple #[]) (by simp[results,Tryz.results108,go_sem]) rfl ?_;have hO10:=hO9;rw[show(acc++[(arc,Q,E,L)]).length=acc.length+1 from by simp]at hO10;refine⟨rfl,f1.setB fb (Nat.le_refl _) 0 _,.slice A9 (acc.length+1) c9,?_⟩;rw[HF2.out];refine⟨f1.set 0 _,⟨_,_,_,_,f2.other (by omega) 0 _⟩,f3.other (by omega) 0 _,hO10.grown RPc.foot (aj w9 ⟨n,0,none⟩ _) (fun q e=>?_)⟩;have e:n=q:=by injection e
   rintro (⟨_,h⟩|h)<;>omega
end Go.Proofs
namespace Go.Proofs
open Go.RowKit Go.Proofs.Mp Go.Maps
theorem Tryz.laidOutX:laidOutB Tryz.prog=true:=by kernel_rfl
theorem Tryz.wide30:(match Tryz.prog.underlying 30 with|some (.array _ _)|some (.struct _)=>true|_=>false)=true:=by kernel_rfl
theorem Tryz.row30:(30:TypeId)<Tryz.prog.types.size:=of_decide_eq_true (by kernel_rfl)
theorem Tryz.law30:Keyed Tryz.prog 30:=Keyed.of_law (deep_law_laid Tryz.laidOutX (m:=2) (by omega) Tryz.row30 (by kernel_rfl) Tryz.wide30)
theorem Tryz.cells30:Tryz.prog.cellsOf 30=2:=by kernel_rfl
theorem Tryz.key30:Tryz.prog.keyType 30=true:=by kernel_rfl
theorem rA{lo hi:Int}(h1:(Lit.int .i64 lo).wf=true)(h2:(Lit.int .i64 hi).wf=true):∃l,keyOf Tryz.prog 30 (.agg #[lo,hi])=some l:=by
 have hf:(Value.agg #[lo,hi]).formed Tryz.prog 30=true:=by
  simp[Value.formed,Tryz.underlying30,Tryz.cells30]
 unfold keyOf;rw[Tryz.underlying30];simp only[Tryz.key30,hf,Bool.and_self,if_true];obtain⟨n,hn⟩:∃n,Tryz.prog.types.size=n+1:=⟨Tryz.prog.types.size-1,(Nat.succ_pred_eq_of_pos (Nat.lt_of_le_of_lt (Nat.zero_le _) Tryz.row30)).symm⟩;rw[hn];have c3:Tryz.prog.cellsOf 3=1:=by kernel_rfl
 simp[Program.keyLits,Tryz.underlying30,Tryz.underlying3,Value.cells,h1,h2,c3,Tryz.cells30]
def wfP(r:Pt):Prop:=(Lit.int .i64 r.1).wf=true∧(Lit.int .i64 r.2).wf=true
theorem bz{n:Int}(h1 : -9223372036854775808≤n)(h2:n≤9223372036854775807):(Lit.int .i64 n).wf=true:=by
 show(decide (IntKind.min .i64≤n)&&decide (n≤IntKind.max .i64))=true
 rw[decide_eq_true (show IntKind.min .i64≤n from h1),decide_eq_true (show n≤IntKind.max .i64 from h2)];rfl
theorem jb{r:Pt}(h:Nr r):wfP r:=by
 obtain⟨h1,h2,h3,h4⟩:=h;exact⟨bz (by omega) (by omega),bz (by omega) (by omega)⟩
noncomputable def eR(r:Pt):Lit:=(keyOf Tryz.prog 30 (ae r)).getD (.int .i64 0)
theorem ck{r:Pt}(h:wfP r):keyOf Tryz.prog 30 (ae r)=some (eR r):=by
 obtain⟨l,hl⟩:=rA h.1 h.2;unfold eR;rw[show ae r=.agg #[r.1,r.2] from rfl,hl];rfl
theorem og{r s:Pt}(hr:wfP r)(hs:wfP s)(h:eR r=eR s):r=s:=by
 have h1:=ck hr;rw[h]at h1;have:=Tryz.law30.inj h1 (ck hs);unfold ae at this;simp only[Value.agg.injEq,Array.mk.injEq,List.cons.injEq,Value.int.injEq,true_and,and_true]at this;exact Prod.ext this.1 this.2
theorem oe{r:Pt}(h:wfP r):WideAt.IsKeyLit (eR r):=Tryz.law30.key (ck h)
def cJ(w:World)(B N:Nat)(f:Pt→Bool):Prop:=
 ∃D:DataW Value,w.ownsMap Tryz.prog 30 rawE B (Maps.size D) D∧Maps.size D≤N ∧
  ∀r,wfP r→Maps.has D (eR r)=f r∧∀z,D.atKey (eR r) (.held z)=.held (if f r=true then .bool true else z)
section
variable {w w':World}{B N:Nat}{f:Pt→Bool}{ops:Array Oper}{rest:List Oper}{o:Oper}{a:Act}{Q:Exit→Act→World→Prop}
theorem cJ.lt(h:cJ w B N f):B<w.heap.size:=by obtain⟨D,h1,_⟩:=h;exact h1.lt
theorem cJ.below(h:cJ w B N f)(hb:Below w.heap.size w w'):cJ w' B N f:=by
 have hn:=h.lt;obtain⟨D,⟨es,clock,hh,r⟩,q⟩:=h;exact⟨D,⟨es,clock,(hb.block B hn).trans hh,r⟩,q⟩
theorem cJ.congr{g:Pt→Bool}(h:cJ w B N f)(e:∀x,f x=g x):cJ w B N g:=by
 have:f=g:=funext e
 rwa [←this]
theorem cJ.made(w:World):cJ (w.alloc (.map #[] 0)) w.heap.size 0 (fun _=>false):=by
 refine⟨.map [],World.ownsMap_made w Tryz.prog 30 _,Nat.le_refl _,fun r _=>⟨by simp[Maps.has],fun z=>?_⟩⟩;simp[DataW.atKey]
def me(f:Pt→Bool)(r:Pt):Pt→Bool:=fun s=>if s=r then true else f s
theorem cJ.run(h:cJ w B N f)(r:Pt)(hwf:wfP r):(Instr.lookup 94 (.map (some B)) (ae r) false).run Tryz.prog w=.ok (.bool (f r)) w:=by
 obtain⟨D,h1,h2,h3⟩:=h;obtain⟨v,ps,hrun,hv⟩:=h1.lookup Tryz.law30 Tryz.underlying94 (Tryz.zeroValue4 w) (zd:=.held (.bool false)) (zp:=[]) rfl (ck hwf);have e1:=rawE_inv hv;rw[(h3 r hwf).2]at e1;injection e1 with e1;rw[hrun,←e1];cases f r<;>rfl
theorem cJ.store(h:cJ w B N f)(hg:o.guard=none)(m x v:Operand)(hop:o.op=Op.mapUpdate 94 m x v)
  (hm:a.eval m=.map (some B))(r:Pt)(hx:a.eval x=ae r)(hv:a.eval v=.bool true)(hwf:wfP r)(hN:N<maxLen)
  (hK:∀w',cJ w' B (N+1) (me f r)→w.grownBy w' (some B)→wpList Tryz.prog ops Q rest (a.put o.dst undef) w'):wpList Tryz.prog ops Q (o::rest) a w:=by
 obtain⟨D,h1,h2,h3⟩:=h;refine wpList_mapUpdate_own w hg m x v 94 hop 30 4 Tryz.law30 Tryz.underlying94 rawE B _ D hm h1 (Nat.lt_of_le_of_lt h2 hN) (ae r) (.bool true) (eR r) hx hv (ck hwf) (.held (.bool true)) [] rfl ?_;intro w' hw' hg';refine hK w' ?_ hg';have hT:=h1.tidy Tryz.law30;have hI:=h1.isMap;have hkr:=oe hwf;refine⟨_,Mp.ownsMapV_exact hw',?_,fun s hs=>?_⟩
 ·rw[size_put hT]
  split<;>omega
 ·unfold me
  by_cases he:s=r
  ·subst he
   rw[if_pos rfl,has_put_same hI hkr];exact⟨rfl,fun z=>by rw[atKey_put_same hI hkr];rfl⟩
  ·have hk:eR s≠eR r:=fun e=>he (og hs hwf e)
   rw[if_neg he,has_put_other hk];obtain⟨h4,h5⟩:=h3 s hs;exact⟨h4,fun z=>by rw[atKey_put_other hk];exact h5 z⟩
end
end Go.Proofs
namespace Go.Proofs
open Go.RowKit Go.Proofs.Mp Go.Lib
def eO(p:Pn)(z:Int):Prop:=z=0∨∃k,k<p.arcs.length∧(z=p.arcs[k]!.lf∨z=p.arcs[k]!.rt)
def sK(p:Pn)(w:World)(e:Ending)(w':World):Prop:=∃(a0 a1 a2 a4 a5:Int) (A:Option Addr) (n c:Nat) (b:Bool),e=.returned (.tuple #[.agg #[a0,a1,a2,.slice A n c,a4,a5],.bool b])∧Below w.heap.size w w'∧eO p a4∧eO p a5
theorem qV{p:Pn}{id:Int}{w w':World}{e:Ending}(h:r9 w (findA p.arcs id) e w'):sK p w e w':=by
 cases ho:findA p.arcs id with
 | none=>
  rw[ho]at h;exact⟨_,_,_,_,_,_,_,_,_,h.1,h.2,.inl rfl,.inl rfl⟩
 | some a=>
  rw[ho]at h;obtain⟨v,rfl,⟨A,c,rfl,_⟩,hb⟩:=h;obtain⟨k,hk,e⟩:=List.mem_iff_getElem.1 (List.mem_of_find?_eq_some ho);have e2:p.arcs[k]! = a:=by rw[getElem!_pos p.arcs k hk];exact e
  exact⟨_,_,_,_,_,_,_,_,_,rfl,hb,.inr ⟨k,hk,.inl (by rw[e2])⟩,.inr ⟨k,hk,.inr (by rw[e2])⟩⟩
def uf(p:Pn)(w:World)(e:Ending)(w':World):Prop:=∃z:Int,e=.returned (.int .i64 z)∧Below w.heap.size w w'∧eO p z
theorem jG(p:Pn)(m:Mem)(d:Int)(w:World)(hR:PlR w p m):Calls Tryz.prog 175 #[plV p m,d] w (sK p w):=by
 have cA:=hid fun id W (hb:Below w.heap.size w W)=>(jU p m id W (hR.below hb)).mono fun e w' h=>qV h
 have hplV:plV p m=.agg #[.slice m.an p.nodes.length m.cn,.slice m.aa p.arcs.length m.ca,.slice m.af p.faces.length m.cf]:=rfl;rw[hplV]at cA ⊢;clear hR hplV;have HL0:=hid (show eO p 0 from .inl rfl);generalize p.nodes.length=l1 at *;generalize p.arcs.length=l2 at *;generalize p.faces.length=l3 at *;obtain⟨an,aa,af,cn,ca,cf,vs⟩:=m;dsimp only at *;have ha:=(Bx.new (t:=26) (cs:=[.slice an l1 cn,.slice aa l2 ca,.slice af l3 cf]) w rfl).alloc (.cells #[.int .i64 0,.int .i64 0,.int .i64 0,.slice none 0 0,.int .i64 0,.int .i64 0] 58);have hx:=Bx.newAt (b:=w.heap.size+1) (t:=58) (cs:=[.int .i64 0,.int .i64 0,.int .i64 0,.slice none 0 0,.int .i64 0,.int .i64 0]) (c:=#[.int .i64 0,.int .i64 0,.int .i64 0,.slice none 0 0,.int .i64 0,.int .i64 0]) (w.alloc (.cells #[.slice an l1 cn,.slice aa l2 ca,.slice af l3 cf] 26)) (by simp) rfl;have hw:=(bw1 w (.cells #[.slice an l1 cn,.slice aa l2 ca,.slice af l3 cf] 26)).alloc (bw1 _ _).size (.cells #[.int .i64 0,.int .i64 0,.int .i64 0,.slice none 0 0,.int .i64 0,.int .i64 0] 58);obtain⟨y1,h1⟩:∃y,(d==0)=y:=⟨_,rfl⟩;obtain⟨y2,h2⟩:∃y,(d==-9223372036854775808)=y:=⟨_,rfl⟩;go_enter Tryz.func175,Tryz.ntmps175;go_upto_region 1 with fail;change Bx ((w.alloc (.cells #[.slice an l1 cn,.slice aa l2 ca,.slice af l3 cf] 26)).alloc (.cells #[.int .i64 0,.int .i64 0,.int .i64 0,.slice none 0 0,.int .i64 0,.int .i64 0] 58)) _ _ _ at ha;generalize (w.alloc (.cells #[.slice an l1 cn,.slice aa l2 ca,.slice af l3 cf] 26)).alloc (.cells #[.int .i64 0,.int .i64 0,.int .i64 0,.slice none 0 0,.int .i64 0,.int .i64 0] 58)=w1 at *;have hn:w.heap.size≤w.heap.size+1:=Nat.le_succ _
 have hret:∀(W:World) (b0 b1 b2 b4 b5:Int) (A:Option Addr) (n c:Nat),Below w.heap.size w W→Bx W (w.heap.size+1) 58 [.int .i64 0,.int .i64 0,.int .i64 0,.slice none 0 0,.int .i64 0,.int .i64 0] →
   Bx (st6 W (w.heap.size+1) (.int .i64 b0) (.int .i64 b1) (.int .i64 b2) (.slice A n c) (.int .i64 b4) (.int .i64 b5)) (w.heap.size+1) 58 [b0,b1,b2,.slice A n c,b4,b5]∧Below w.heap.size w (st6 W (w.heap.size+1) (.int .i64 b0) (.int .i64 b1) (.int .i64 b2) (.slice A n c) (.int .i64 b4) (.int .i64 b5)):=
  fun W b0 b1 b2 b4 b5 A n c hb h=>⟨h.set6 _ _ _ _ _ _,h.set6B hb hn _ _ _ _ _ _⟩
 have HRT:=hid hret;have HX:=hid hx;have HW:=hid hw;have HA:=hid ha;clear hret hx hw ha;cases y1
 ·cases y2
  ·obtain⟨a0,a1,a2⟩:=HA.out.c3
   go_wp2_with fail;refine(cA.out _ _ HW.out).mono ?_;rintro e w2 ⟨b0,b1,b2,b4,b5,A,n,c,b,rfl,hb2,hL4,hL5⟩;have HL:=hid (And.intro hL4 hL5);obtain⟨s1,s2⟩:=HRT.out w2 b0 b1 b2 b4 b5 A n c (HW.out.trans (hb2.mono HW.out.size)) (HX.out.below hb2);have HS:=hid (And.intro s1 s2);have hx2:=HX.out.below hb2;obtain⟨z0,z1,z2,z3,z4,z5⟩:=hx2.c6;have q0:=hx2.frozen 0;have q1:=hx2.frozen 1;have q2:=hx2.frozen 2;have q3:=hx2.frozen 3;have q4:=hx2.frozen 4;have q5:=hx2.frozen 5;have l0:=hx2.lt;clear s1 s2 a0 a1 a2 hb2 hx2 hL4 hL5;go_wp2_with fail;change bodyPost _ _ _ _ _ (st6 w2 (w.heap.size+1) (.int .i64 b0) (.int .i64 b1) (.int .i64 b2) (.slice A n c) (.int .i64 b4) (.int .i64 b5));generalize st6 w2 (w.heap.size+1) (.int .i64 b0) (.int .i64 b1) (.int .i64 b2) (.slice A n c) (.int .i64 b4) (.int .i64 b5)=w3 at *;obtain⟨r0,r1,r2,r3,r4,r5⟩:=HS.out.1.c6;refine bodyPost_ret (v:=.tuple #[.agg #[b0,b1,b2,.slice A n c,b4,b5],.bool b]) (by simp[results,Tryz.results175,go_sem,r0,r1,r2,r3,r4,r5]) rfl ?_;exact⟨_,_,_,_,_,_,_,_,_,rfl,HS.out.2,HL.out.1,HL.out.2⟩
  ·obtain⟨s1,s2⟩:=HRT.out w1 0 0 0 0 0 none 0 0 HW.out HX.out
   have HS:=hid (And.intro s1 s2);have hx2:=HX.out;obtain⟨z0,z1,z2,z3,z4,z5⟩:=hx2.c6;have q0:=hx2.frozen 0;have q1:=hx2.frozen 1;have q2:=hx2.frozen 2;have q3:=hx2.frozen 3;have q4:=hx2.frozen 4;have q5:=hx2.frozen 5;have l0:=hx2.lt;clear s1 s2 hx2;go_wp2_with fail;change bodyPost _ _ _ _ _ (st6 w1 (w.heap.size+1) (.int .i64 0) (.int .i64 0) (.int .i64 0) (.slice none 0 0) (.int .i64 0) (.int .i64 0));generalize st6 w1 (w.heap.size+1) (.int .i64 0) (.int .i64 0) (.int .i64 0) (.slice none 0 0) (.int .i64 0) (.int .i64 0)=w3 at *;obtain⟨r0,r1,r2,r3,r4,r5⟩:=HS.out.1.c6;refine bodyPost_ret (v:=.tuple #[.agg #[.int .i64 0,.int .i64 0,.int .i64 0,.slice none 0 0,.int .i64 0,.int .i64 0],.bool false]) (by simp[results,Tryz.results175,go_sem,r0,r1,r2,r3,r4,r5]) rfl ?_;exact⟨_,_,_,_,_,_,_,_,_,rfl,HS.out.2,HL0.out,HL0.out⟩
 ·obtain⟨s1,s2⟩:=HRT.out w1 0 0 0 0 0 none 0 0 HW.out HX.out
  have HS:=hid (And.intro s1 s2);have hx2:=HX.out;obtain⟨z0,z1,z2,z3,z4,z5⟩:=hx2.c6;have q0:=hx2.frozen 0;have q1:=hx2.frozen 1;have q2:=hx2.frozen 2;have q3:=hx2.frozen 3;have q4:=hx2.frozen 4;have q5:=hx2.frozen 5;have l0:=hx2.lt;clear s1 s2 hx2;go_wp2_with fail;change bodyPost _ _ _ _ _ (st6 w1 (w.heap.size+1) (.int .i64 0) (.int .i64 0) (.int .i64 0) (.slice none 0 0) (.int .i64 0) (.int .i64 0));generalize st6 w1 (w.heap.size+1) (.int .i64 0) (.int .i64 0) (.int .i64 0) (.slice none 0 0) (.int .i64 0) (.int .i64 0)=w3 at *;obtain⟨r0,r1,r2,r3,r4,r5⟩:=HS.out.1.c6;refine bodyPost_ret (v:=.tuple #[.agg #[.int .i64 0,.int .i64 0,.int .i64 0,.slice none 0 0,.int .i64 0,.int .i64 0],.bool false]) (by simp[results,Tryz.results175,go_sem,r0,r1,r2,r3,r4,r5]) rfl ?_;exact⟨_,_,_,_,_,_,_,_,_,rfl,HS.out.2,HL0.out,HL0.out⟩
theorem qC(p:Pn)(m:Mem)(d:Int)(w:World)(hR:PlR w p m):Calls Tryz.prog 124 #[plV p m,d] w (uf p w):=by
 have cA:=hid fun id W (hb:Below w.heap.size w W)=>jG p m id W (hR.below hb)
 have hplV:plV p m=.agg #[.slice m.an p.nodes.length m.cn,.slice m.aa p.arcs.length m.ca,.slice m.af p.faces.length m.cf]:=rfl;rw[hplV]at cA ⊢;clear hR hplV;have HL0:=hid (show eO p 0 from .inl rfl);generalize p.nodes.length=l1 at *;generalize p.arcs.length=l2 at *;generalize p.faces.length=l3 at *;obtain⟨an,aa,af,cn,ca,cf,vs⟩:=m;dsimp only at *;have ha:=Bx.new (t:=26) (cs:=[.slice an l1 cn,.slice aa l2 ca,.slice af l3 cf]) w rfl;have HW:=hid (bw1 w (.cells #[.slice an l1 cn,.slice aa l2 ca,.slice af l3 cf] 26));go_enter Tryz.func124,Tryz.ntmps124;go_upto_region 1 with fail;generalize w.alloc (.cells #[.slice an l1 cn,.slice aa l2 ca,.slice af l3 cf] 26)=w1 at *;obtain⟨a0,a1,a2⟩:=ha.c3;clear ha;go_wp2_with fail;refine(cA.out _ _ HW.out).mono ?_;rintro e w2 ⟨b0,b1,b2,b4,b5,A,n,c,b,rfl,hb2,hL4,hL5⟩;have HL:=hid (And.intro hL4 hL5);clear hL4 hL5;have hx:=Bx.new (t:=58) (cs:=[.int .i64 b0,.int .i64 b1,.int .i64 b2,.slice A n c,.int .i64 b4,.int .i64 b5]) w2 rfl;have HW3:=hid ((HW.out.trans (hb2.mono HW.out.size)).trans ((bw1 w2 (.cells #[b0,b1,b2,.slice A n c,b4,b5] 58)).mono (HW.out.trans (hb2.mono HW.out.size)).size));clear a0 a1 a2 hb2;go_upto_region 2 with fail;generalize w2.alloc (.cells #[b0,b1,b2,.slice A n c,b4,b5] 58)=w3 at *;obtain⟨z0,z1,z2,z3,z4,z5⟩:=hx.c6;clear hx;go_wp2_with fail
 all_goals
  go_ret
  first|exact⟨_,rfl,HW3.out,HL.out.1⟩|exact⟨_,rfl,HW3.out,HL.out.2⟩|exact⟨_,rfl,HW3.out,HL0.out⟩
theorem m6(p:Pn)(m:Mem)(id:Int)(w:World)(hR:PlR w p m):Calls Tryz.prog 123 #[plV p m,id] w (dm w):=by
 have HA:=hid fun (k:Nat) (hk:k<p.arcs.length) W hb=>hR.arc (W:=W) hb hk
 have hal:=hR.few.a;have hplV:plV p m=.agg #[.slice m.an p.nodes.length m.cn,.slice m.aa p.arcs.length m.ca,.slice m.af p.faces.length m.cf]:=rfl;rw[hplV];clear hR hplV;obtain⟨an,aa,af,cn,ca,cf,vs⟩:=m;dsimp only at *;have ha:=Bx.new (t:=26) (cs:=[.slice an p.nodes.length cn,.slice aa p.arcs.length ca,.slice af p.faces.length cf]) w rfl;have HW:=hid (bw1 w (.cells #[.slice an p.nodes.length cn,.slice aa p.arcs.length ca,.slice af p.faces.length cf] 26));go_enter Tryz.func123,Tryz.ntmps123;go_upto_region 1 with fail;generalize w.alloc (.cells #[.slice an p.nodes.length cn,.slice aa p.arcs.length ca,.slice af p.faces.length cf] 26)=w1 at *;obtain⟨a0,a1,a2⟩:=ha.c3;clear ha;go_wp2_with fail;clear a0 a1 a2;go_loopw [4,6,10] (fun s _ i wr=>∃(k:Nat) (z:Int),k≤p.arcs.length∧i=.int .i64 k∧s=.int .i64 z∧Hid (Below w.heap.size w wr)) (fun _ _ i _=>p.arcs.length-(intOf i).toNat)
 case atStart=>exact⟨0,0,by omega,rfl,rfl,HW⟩
 case round=>
  obtain⟨k,z,hk,rfl,rfl,HB⟩:=hrel
  by_cases hlt:k<p.arcs.length
  ·have hli:(k:Int)<(p.arcs.length:Int):=by omega
   obtain⟨b,off,A,c,rfl,hbl,a0,a1,a2,a3,a4,a5,_,_,_⟩:=HA.out k hlt wr HB.out;generalize p.arcs[k]! = ar at *;obtain⟨ri,rf,rd,rv,rl,rr⟩:=ar;dsimp only at a0 a1 a2 a3 a4 a5;have hx:=Bx.new (t:=58) (cs:=[.int .i64 ri,.int .i64 rf,.int .i64 rd,.slice A rv.length c,.int .i64 rl,.int .i64 rr]) wr rfl;have HBA:=hid (HB.out.trans ((bw1 wr (.cells #[ri,rf,rd,.slice A rv.length c,rl,rr] 58)).mono HB.out.size));go_upto_region 4 with fail;generalize wr.alloc (.cells #[ri,rf,rd,.slice A rv.length c,rl,rr] 58)=w4 at *;clear a0 a1 a2 a3 a4 a5;obtain⟨z0,z1,z2,z3,z4,z5⟩:=hx.c6;clear hx;go_wp2_with fail
   all_goals
    go_roundw
    case rel=>exact⟨k+1,_,by omega,by go_num,rfl,HBA⟩
    case measure=>simp[intOf];omega
  ·obtain rfl:p.arcs.length=k:=by omega
   have hge:¬((p.arcs.length:Int)<(p.arcs.length:Int)):=by omega
   go_wp2_with fail;go_ret;exact⟨_,rfl,HB.out⟩
end Go.Proofs
namespace Go.Proofs
open Go.RowKit Go.Proofs.Mp Go.Lib
theorem dl:∀n y:Nat,y≤n→y≠0→y<18446744073709551616→2 ^ (Lib.bitLen y-1)≤y∧y<2 ^ Lib.bitLen y∧1≤Lib.bitLen y
 | 0,y,h,h0,_=>absurd (Nat.le_zero.1 h) h0
 | n+1,y,h,h0,h1=>by
  rw[Lib.bitLen_half y h0 h1]
  by_cases e:y/2=0
  ·have:y=1:=by omega
   subst this;decide
  ·obtain⟨a,b,c⟩:=dl n (y/2) (by omega) e (by omega)
   generalize Lib.bitLen (y/2)=L at *;obtain⟨k,rfl⟩:∃k,L=k+1:=⟨L-1,by omega⟩;rw[show k+1-1=k by omega]at a;rw[show 1+(k+1)-1=k+1 by omega,show 1+(k+1)=k+1+1 by omega,Nat.pow_succ,Nat.pow_succ 2 (k+1)];rw[Nat.pow_succ]at b;omega
theorem gj{y:Nat}(h0:y≠0)(h1:y<18446744073709551616):1≤Lib.bitLen y∧Lib.bitLen y≤64:=by
 obtain⟨a,b,c⟩:=dl y y (Nat.le_refl _) h0 h1;refine⟨c,?_⟩
 rcases Nat.lt_or_ge 64 (Lib.bitLen y)with h|h
 ·have:2 ^ 64≤2 ^ (Lib.bitLen y-1):=Nat.pow_le_pow_right (by decide) (by omega)
  have e:(2:Nat) ^ 64=18446744073709551616:=by decide
  omega
 ·exact h
theorem pN{y:Nat}(h0:y≠0)(h1:y<18446744073709551616):9223372036854775808≤y*2 ^ (64-Lib.bitLen y)∧y*2 ^ (64-Lib.bitLen y)<18446744073709551616:=by
 obtain⟨a,b,c⟩:=dl y y (Nat.le_refl _) h0 h1;have d:=(gj h0 h1).2
 have e:(2:Nat) ^ (Lib.bitLen y-1)*2 ^ (64-Lib.bitLen y)=9223372036854775808:=by
  rw[←Nat.pow_add,show Lib.bitLen y-1+(64-Lib.bitLen y)=63 by omega]
 have f:(2:Nat) ^ Lib.bitLen y*2 ^ (64-Lib.bitLen y)=18446744073709551616:=by
  rw[←Nat.pow_add,show Lib.bitLen y+(64-Lib.bitLen y)=64 by omega]
 rw[←e,←f];exact⟨Nat.mul_le_mul_right _ a,Nat.mul_lt_mul_of_pos_right b (Nat.pow_pos (by decide))⟩
theorem fQ(z:Int):0≤IntKind.u64.wrap z∧IntKind.u64.wrap z≤18446744073709551615:=by
 simp[IntKind.wrap,IntKind.bits,IntKind.signed];omega
def uOf:Value→Int
 | .int .u64 z=>z
 | _=>0
def uc(w:World)(e:Ending)(w':World):Prop:=∃z n:Int,e=.returned (.tuple #[.int .u64 z,.int .u64 n])∧Below w.heap.size w w'
theorem qt(hi lo y:Int)(w:World)(h0:0≤hi)(h1:hi<y)(h2:y≤18446744073709551615):Calls Tryz.prog 243 #[.int .u64 hi,.int .u64 lo,.int .u64 y] w (uc w):=by
 have cL:=hid fun W=>Tryz.bits_LeadingZeros64 y W (by omega) h2
 have d1:(y==0)=false:=by rw[beq_eq_false_iff_ne];omega
 have d2:decide (y≤hi)=false:=decide_eq_false (by omega);have hy:y≠0:=by omega
 have HB:=hid (Below.refl w.heap.size w)
 by_cases hz:hi=0
 ·subst hz
  go_enter Tryz.func243,Tryz.ntmps243;go_wp2_with fail;go_region;go_wp2_with fail;go_ret2;exact⟨_,_,rfl,HB.out.drew⟩
 have d3:(hi==0)=false:=by rw[beq_eq_false_iff_ne];exact hz
 go_enter Tryz.func243,Tryz.ntmps243;go_wp2_with fail;refine(cL.out _).mono ?_;rintro e w1 ⟨rfl,rfl⟩;go_upto_region 15 with fail
 have hs:IntKind.u64.wrap (64-(Lib.bitLen y.toNat:Int))=((64-Lib.bitLen y.toNat:Nat):Int):=by
  have:=gj (y:=y.toNat) (by omega) (by omega);simp[IntKind.wrap,IntKind.bits,IntKind.signed];omega
 have hyn:0<IntKind.u64.wrap (y*2 ^ min (IntKind.u64.wrap (64-(Lib.bitLen y.toNat:Int))).toNat 64)/4294967296:=by
  rw[hs,show min (((64-Lib.bitLen y.toNat:Nat):Int)).toNat 64=64-Lib.bitLen y.toNat by omega];have hn:=pN (y:=y.toNat) (by omega) (by omega)
  have e:y*2 ^ (64-Lib.bitLen y.toNat)=((y.toNat*2 ^ (64-Lib.bitLen y.toNat):Nat):Int):=by
   rw[Int.natCast_mul,Int.toNat_of_nonneg (by omega),Int.natCast_pow];rfl
  rw[e];generalize y.toNat*2 ^ (64-Lib.bitLen y.toNat)=Y at *;simp[IntKind.wrap,IntKind.bits,IntKind.signed];omega
 generalize IntKind.u64.wrap (y*2 ^ min (IntKind.u64.wrap (64-(Lib.bitLen y.toNat:Int))).toNat 64)/4294967296=yn at *;have hs0:¬IntKind.u64.wrap (64-(Lib.bitLen y.toNat:Int))<0:=by have:=fQ (64-(Lib.bitLen y.toNat:Int));omega
 generalize IntKind.u64.wrap (64-(Lib.bitLen y.toNat:Int))=s at *;have hs1:0≤s:=by omega
 have hs2:decide (s<0)=false:=decide_eq_false hs0;have hyn0:yn≠0:=by omega
 clear hs;go_upto_block 0 with fail;have hng:∀Z,decide (IntKind.u64.wrap Z<0)=false:=fun Z=>decide_eq_false (by have:=fQ Z;omega)
 have hw0:IntKind.u64.wrap 0=0:=by decide
 clear hyn;go_cut [15,16] from 67 to 86 (fun q r wx=>∃z x:Int,q=.int .u64 z∧r=.int .u64 x∧w1=wx)
 case first=>
  go_wp2_with fail;go_loopw [15,16] (fun q r wr=>∃z x:Int,q=.int .u64 z∧r=.int .u64 x∧Hid (0≤z∧z≤18446744073709551615)∧wr=w1) (fun q _ _=>(uOf q).toNat)
  case atStart=>exact⟨_,_,rfl,rfl,hid (fQ _),rfl⟩
  case round=>
   obtain⟨z,x,rfl,rfl,HZ,rfl⟩:=hrel
   by_cases h0:z=0
   ·subst h0
    go_wp2_with fail
    all_goals
     go_meet;exact⟨_,_,rfl,rfl,rfl⟩
   ·have hz1:IntKind.u64.wrap (z-1)=z-1:=by
     have:=HZ.out;simp[IntKind.wrap,IntKind.bits,IntKind.signed];omega
    have HZ2:=hid (show 0≤z-1∧z-1≤18446744073709551615∧(z-1).toNat<z.toNat from by have:=HZ.out;omega);go_wp2_with fail
    all_goals first
     | exact⟨⟨_,_,rfl,rfl,hid ⟨HZ2.out.1,HZ2.out.2.1⟩,trivial⟩,HZ2.out.2.2⟩
     | (go_roundw;case rel=>exact⟨_,_,rfl,rfl,hid ⟨HZ2.out.1,HZ2.out.2.1⟩,rfl⟩;case measure=>exact HZ2.out.2.2)
     | (go_meet;exact⟨_,_,rfl,rfl,rfl⟩)
 case rest=>
  obtain⟨z15,x15,rfl,rfl,rfl⟩:=hcut;go_upto_block 2 with fail;go_cut [18,16] from 102 to 121 (fun q r wx=>∃z x:Int,q=.int .u64 z∧r=.int .u64 x∧w1=wx)
  case first=>
   go_wp2_with fail;go_loopw [18,16] (fun q r wr=>∃z x:Int,q=.int .u64 z∧r=.int .u64 x∧Hid (0≤z∧z≤18446744073709551615)∧wr=w1) (fun q _ _=>(uOf q).toNat)
   case atStart=>exact⟨_,_,rfl,rfl,hid (fQ _),rfl⟩
   case round=>
    obtain⟨z,x,rfl,rfl,HZ,rfl⟩:=hrel
    by_cases h0:z=0
    ·subst h0
     go_wp2_with fail
     all_goals
      go_meet;exact⟨_,_,rfl,rfl,rfl⟩
    ·have hz1:IntKind.u64.wrap (z-1)=z-1:=by
      have:=HZ.out;simp[IntKind.wrap,IntKind.bits,IntKind.signed];omega
     have HZ2:=hid (show 0≤z-1∧z-1≤18446744073709551615∧(z-1).toNat<z.toNat from by have:=HZ.out;omega);go_wp2_with fail
     all_goals first
      | exact⟨⟨_,_,rfl,rfl,hid ⟨HZ2.out.1,HZ2.out.2.1⟩,trivial⟩,HZ2.out.2.2⟩
      | (go_roundw;case rel=>exact⟨_,_,rfl,rfl,hid ⟨HZ2.out.1,HZ2.out.2.1⟩,rfl⟩;case measure=>exact HZ2.out.2.2)
      | (go_meet;exact⟨_,_,rfl,rfl,rfl⟩)
  case rest=>
   obtain⟨z18,x18,rfl,rfl,rfl⟩:=hcut;go_wp2_with fail;go_ret2;exact⟨_,_,rfl,HB.out⟩
end Go.Proofs
namespace Go.Proofs
open Go.RowKit Go.Proofs.Mp Go.Lib
theorem o9(u:Int)(b:Bool)(w:World):Calls Tryz.prog 244 #[.int .u64 u,.bool b] w (fun e w'=>∃(z:Int) (c:Bool),e=.returned (.tuple #[z,.bool c])∧Below w.heap.size w w'):=by
 have HB:=hid (Below.refl w.heap.size w);go_enter Tryz.func244,Tryz.ntmps244;cases b
 all_goals
  go_wp2_with fail
  all_goals
   go_ret2;exact⟨_,_,rfl,HB.out⟩
theorem jc(n:Int):∃A:Nat,sizU n=A∧A<18446744073709551616:=by
 have h:0≤sizU n∧sizU n≤18446744073709551615:=by
  unfold sizU;split
  ·exact fQ _
  ·exact fQ _
 exact⟨(sizU n).toNat,by omega,by omega⟩
theorem kh(a b c:Int)(w:World):Calls Tryz.prog 222 #[a,b,c] w (kT w):=by
 have HB:=hid (Below.refl w.heap.size w);have cS:=hid o6;have cM:=hid Tryz.bits_Mul64;have cD:=hid qt;have cG:=hid o9
 by_cases h0:c=0
 ·subst h0
  go_enter Tryz.func222,Tryz.ntmps222;go_wp2_with fail;go_ret2;exact⟨_,_,rfl,HB.out⟩
 have hc:(c==0)=false:=by rw[beq_eq_false_iff_ne];exact h0
 obtain⟨A,hA,hA2⟩:=jc a;obtain⟨B,hB,hB2⟩:=jc b;obtain⟨C,hC,hC2⟩:=jc c;have c1:=hid (cS.out a);have c2:=hid (cS.out b);have c3:=hid (cS.out c);rw[hA]at c1;rw[hB]at c2;rw[hC]at c3;have c4:=hid (cM.out A B hA2 hB2)
 have HP:=hid (show A*B/18446744073709551616<18446744073709551616 from by
  have:A*B<18446744073709551616*18446744073709551616:=Nat.mul_lt_mul_of_lt_of_le hA2 (Nat.le_of_lt hB2) (by omega)
  exact Nat.div_lt_of_lt_mul this)
 clear hA hB hC cS cM hA2 hB2;generalize A*B/18446744073709551616=hi at *;generalize A*B%18446744073709551616=lo at *;go_enter Tryz.func222,Tryz.ntmps222;go_wp2_with fail;refine(c1.out _).mono ?_;rintro e w1 ⟨rfl,hb1⟩;have HB1:=hid hb1;clear hb1;go_wp2_with fail;refine(c2.out _).mono ?_;rintro e w2 ⟨rfl,hb2⟩;have HB2:=hid (HB1.out.trans (hb2.mono HB1.out.size));clear hb2;go_wp2_with fail;refine(c4.out _).mono ?_;rintro e w3 ⟨rfl,rfl⟩;go_wp2_with fail;refine(c3.out _).mono ?_;rintro e w4 ⟨rfl,hb4⟩;have HB4:=hid (HB2.out.trans (hb4.mono HB2.out.size));clear hb4
 by_cases hcmp:(C:Int)≤(hi:Int)
 ·go_wp2_with fail
  go_ret2;exact⟨_,_,rfl,HB4.out⟩
 have hd:decide ((C:Int)≤(hi:Int))=false:=decide_eq_false hcmp;go_wp2_with fail;refine(c3.out _).mono ?_;rintro e w5 ⟨rfl,hb5⟩;have HB5:=hid (HB4.out.trans (hb5.mono HB4.out.size));clear hb5;go_wp2_with fail;refine(cD.out (hi:Int) (lo:Int) (C:Int) _ (by omega) (by omega) (by omega)).mono ?_;rintro e w6 ⟨q,r,rfl,hb6⟩;have HB6:=hid (HB5.out.trans (hb6.mono HB5.out.size));clear hb6 hcmp hd;go_wp2_with fail
 all_goals first
  | (go_ret2;exact⟨_,_,rfl,HB6.out⟩)
  | (refine(cG.out _ _ _).mono ?_;rintro e w7 ⟨z,y,rfl,hb7⟩;have HB7:=hid (HB6.out.trans (hb7.mono HB6.out.size));clear hb7;go_wp2_with fail;all_goals
     go_ret2
     exact⟨_,_,rfl,HB7.out⟩)
end Go.Proofs
namespace Go.Proofs
open Go.RowKit Go.Proofs.Mp Go.Lib
def ArZ(w:World)(b:Nat)(t:TypeId)(n:Nat):Prop:=∃cs:List Int,cs.length=n∧Bx w b t (cs.map (.int .i64 ·))
theorem ArZ.below{w w':World}{b:Nat}{t:TypeId}{n:Nat}(h:ArZ w b t n)(hb:Below w.heap.size w w'):ArZ w' b t n:=by
 obtain⟨cs,h1,h2⟩:=h;exact⟨cs,h1,h2.below hb⟩
theorem ArZ.cell{w:World}{b:Nat}{t:TypeId}{n:Nat}(h:ArZ w b t n){k:Nat}(hk:k<n):(∃z:Int,w.cell? ⟨b,k,none⟩=some (.int .i64 z))∧w.frozen? ⟨b,k,none⟩=false∧b<w.heap.size:=by
 obtain⟨cs,rfl,h2⟩:=h;refine⟨⟨cs[k],?_⟩,h2.frozen k,h2.lt⟩;rw[h2.cell k];simp[hk]
theorem ArZ.set{w:World}{b:Nat}{t:TypeId}{n:Nat}(h:ArZ w b t n)(k:Nat)(z:Int):ArZ (w.setCell ⟨b,k,none⟩ (.int .i64 z)) b t n:=by
 obtain⟨cs,rfl,h2⟩:=h;refine⟨cs.set k z,by simp,?_⟩;have:=h2.set k (.int .i64 z)
 rwa [←List.map_set]at this
theorem ArZ.setB{a w:World}{b:Nat}{t:TypeId}{n B:Nat}(h:ArZ w b t n)(hb:Below B a w)(hB:B≤b)(k:Nat)(v:Value):Below B a (w.setCell ⟨b,k,none⟩ v):=by
 obtain⟨cs,rfl,h2⟩:=h;exact h2.setB hb hB k v
theorem rZ(cs:List Int)(k:Nat)(hk:k<cs.length):((cs.map (Value.int .i64 ·)).toArray)[k]! = .int .i64 cs[k]!:=by
 rw[getElem!_pos _ k (by simpa using hk),getElem!_pos cs k hk];simp
theorem te{t:TypeId}{n:Nat}(u:Tryz.prog.underlying t=some (.array n 3))(arr:Array Value)(k:Nat)(hs:arr.size=n)(hk:k<n)(W:World):(Instr.index t (.agg arr) (.int .i64 k)).run Tryz.prog W=.ok arr[k]! W:=by
 have u3:=Tryz.underlying3;have z:=Tryz.sizeOf3;have ag:=Tryz.isAgg3;have h1:¬((k:Int)<0):=by omega
 have h2:(k:Int)<n:=by omega
 have h3:k<arr.size:=by omega
 simp[Instr.index,run_underlying u,asIntOf,go_sem,hs,hk,h1,h2,h3]
theorem ArZ.load{w:World}{b:Nat}{t:TypeId}{n:Nat}(h:ArZ w b t n)(hu:Tryz.prog.underlying t=some (.array n 3))(hi:(Tryz.prog.info? t).map (·.size)=some n) :
  ∃L:List Value,w.rangeAt b 0 L∧(Tryz.prog.info? t).map (·.size)=some L.length∧Hid (∀k:Nat,k<n→∃z:Int,∀W,(Instr.index t (.agg L.toArray) (.int .i64 k)).run Tryz.prog W=.ok (.int .i64 z) W):=by
 obtain⟨cs,rfl,hC⟩:=h;refine⟨cs.map (.int .i64 ·),fun j v hj=>by rw[Nat.zero_add,hC.cell j];exact hj,by simpa using hi,hid fun k hk=>⟨cs[k]!,fun W=>?_⟩⟩;rw[te hu _ k (by simp) hk W,rZ cs k hk]
theorem o7:∀k:Fin 13,IntKind.i64.wrap ((k.val:Int)+1)=(k.val:Int)+1∧IntKind.i64.wrap (2*((k.val:Int)+1))=2*((k.val:Int)+1)∧IntKind.i64.wrap (2*((k.val:Int)+1)+1)=2*((k.val:Int)+1)+1∧IntKind.i64.wrap (2*((k.val:Int)+1)*(2*((k.val:Int)+1)+1))=2*((k.val:Int)+1)*(2*((k.val:Int)+1)+1)∧2*((k.val:Int)+1)*(2*((k.val:Int)+1)+1)≠0:=by decide
theorem jO(x:Int)(w:World):Calls Tryz.prog 181 #[x] w (dm w):=by
 have cM:=hid kh;go_enter Tryz.func181,Tryz.ntmps181;go_wp2_with fail;refine(cM.out _ _ _ _).mono ?_;rintro e w1 ⟨a,n,rfl,hb1⟩;have hX:ArZ (w1.alloc (.cells #[.int .i64 0,.int .i64 0,.int .i64 0,.int .i64 0,.int .i64 0,.int .i64 0,.int .i64 0,.int .i64 0,.int .i64 0,.int .i64 0,.int .i64 0,.int .i64 0,.int .i64 0,.int .i64 0] 275)) w1.heap.size 275 14:=⟨List.replicate 14 0,rfl,Bx.new w1 rfl⟩;have hbX:=hb1.trans ((bw1 w1 (.cells #[.int .i64 0,.int .i64 0,.int .i64 0,.int .i64 0,.int .i64 0,.int .i64 0,.int .i64 0,.int .i64 0,.int .i64 0,.int .i64 0,.int .i64 0,.int .i64 0,.int .i64 0,.int .i64 0] 275)).mono hb1.size);have hlt:w.heap.size≤w1.heap.size:=hb1.size;go_upto_region 3 with fail;generalize w1.alloc (.cells #[.int .i64 0,.int .i64 0,.int .i64 0,.int .i64 0,.int .i64 0,.int .i64 0,.int .i64 0,.int .i64 0,.int .i64 0,.int .i64 0,.int .i64 0,.int .i64 0,.int .i64 0,.int .i64 0] 275)=w2 at *;generalize w1.heap.size=b at *;obtain⟨⟨z,k0⟩,k1,k2⟩:=hX.cell (k:=0) (by omega);have hX3:=hX.set 0 a;have hb3:=hX.setB hbX hlt 0 (.int .i64 a);clear hb1 hX hbX;go_upto_region 4 with fail;generalize w2.setCell ⟨b,0,none⟩ (.int .i64 a)=w3 at *;clear k0 k1 k2;go_wp2_with fail;go_loopw [6,7,8,18] (fun _ _ _ i wr=>∃k:Nat,k≤13∧i=.int .i64 k∧ArZ wr b 275 14∧Below w.heap.size w wr) (fun _ _ _ i _=>13-(intOf i).toNat)
 case atStart=>exact⟨0,by omega,rfl,hX3,hb3⟩
 case round=>
  obtain⟨k,hk,rfl,hA,hbr⟩:=hrel;have HB:=hid hbr
  by_cases hlk:k<13
  ·obtain⟨d1,d2,d3,d4,d5⟩:=o7 ⟨k,hlk⟩
   dsimp only at d1 d2 d3 d4 d5;have hli:(k:Int)<13:=by omega
   have hl14:(k:Int)<14:=by omega
   have hl15:(k:Int)+1<14:=by omega
   have hp1:0≤(k:Int)+1:=by omega
   obtain⟨⟨z,k0⟩,k1,k2⟩:=hA.cell (k:=k) (by omega);have HA:=hid hA;clear hA hbr;go_wp2_with fail;refine(cM.out _ _ _ _).mono ?_;rintro e w4 ⟨y,n1,rfl,hb4⟩;have HA4:=hid (HA.out.below hb4);have HB4:=hid (HB.out.trans (hb4.mono HB.out.size));clear hb4 k0 k1 k2;go_wp2_with fail;refine(cM.out _ _ _ _).mono ?_;rintro e w5 ⟨y2,n2,rfl,hb5⟩;have HA5:=hid (HA4.out.below hb5);have HB5:=hid (HB4.out.trans (hb5.mono HB4.out.size));clear hb5;obtain⟨⟨z,k0⟩,k1,k2⟩:=HA5.out.cell (k:=k+1) (by omega);go_wp2_with fail;go_roundw
   case rel=>exact⟨k+1,by omega,by go_num,HA5.out.set _ _,HA5.out.setB HB5.out hlt _ _⟩
   case measure=>simp[intOf];omega
  ·obtain rfl:k=13:=by omega
   have hge:decide (((13:Nat):Int)<13)=false:=by decide
   obtain⟨L,hld,hli,HIX⟩:=ArZ.load hA Tryz.underlying275 (by kernel_rfl);clear hbr;go_wp2_with (refine wpList_load_mid rfl 275 (.tmp 5) rfl b 0 rfl L _ hld Tryz.underlying275 rfl hli ?_);clear hld hli;generalize L.toArray=arr at *;have HB2:=HB;clear HB;go_loopw [2,9,10,50] (fun s _ _ i wq=>∃(k:Nat) (z:Int),k≤14∧i=.int .i64 k∧s=.int .i64 z∧wq=wr) (fun _ _ _ i _=>14-(intOf i).toNat)
   case atStart=>exact⟨0,0,by omega,rfl,rfl,rfl⟩
   case round=>
    obtain⟨k,z,hk,rfl,rfl,rfl⟩:=hrel
    by_cases hlk:k<14
    ·have hli:(k:Int)<14:=by omega
     obtain⟨y,hix⟩:=HIX.out k hlk;go_wp2_with fail
     all_goals
      go_roundw
      case rel=>exact⟨k+1,_,by omega,by go_num,rfl,trivial⟩
      case measure=>simp[intOf];omega
    ·obtain rfl:k=14:=by omega
     have hge:decide (((14:Nat):Int)<14)=false:=by decide
     go_wp2_with fail;go_ret;exact⟨_,rfl,HB2.out⟩
theorem mf(x:Int)(w:World)(hx:turnV x≤648000):Calls Tryz.prog 136 #[x] w (dm w):=by
 have cT:=hid fun W=>jf x W
 have cF:=hid jO;have cR:=hid fun a W=>fB a 1073741824 W (by omega)
 generalize turnV x=r at *;have hd:decide (648000<r)=false:=decide_eq_false (by omega);obtain⟨y,hy⟩:∃y,decide (324000<r)=y:=⟨_,rfl⟩;clear hx;go_enter Tryz.func136,Tryz.ntmps136;go_wp2_with fail;refine(cT.out _).mono ?_;rintro e w1 ⟨rfl,hb1⟩;have HB1:=hid hb1;clear hb1;cases y
 all_goals
  go_wp2_with fail;refine(cF.out _ _).mono ?_;rintro e w2 ⟨s,rfl,hb2⟩;have HB2:=hid (HB1.out.trans (hb2.mono HB1.out.size));clear hb2;go_wp2_with fail;refine(cR.out _ _).mono ?_;rintro e w3 ⟨z,n,rfl,hb3⟩;have HB3:=hid (HB2.out.trans (hb3.mono HB2.out.size));clear hb3;go_wp2_with fail;go_ret;exact⟨_,rfl,HB3.out⟩
theorem jg(x:Int)(w:World):Calls Tryz.prog 136 #[x] w (dm w):=by
 by_cases hx:turnV x≤648000
 ·exact mf x w hx
 have cT:=hid fun W=>jf x W
 have hI:=oU x;have cS:=hid fun W=>mf (1296000-turnV x) W (by rw[oV (by omega) (by omega)];omega)
 generalize turnV x=r at *;have hd:decide (648000<r)=true:=decide_eq_true (by omega);have hw:IntKind.i64.wrap (1296000-r)=1296000-r:=IntWalk.i64_in _ (by omega);clear hx hI;go_enter Tryz.func136,Tryz.ntmps136;go_wp2_with fail;refine(cT.out _).mono ?_;rintro e w1 ⟨rfl,hb1⟩;have HB1:=hid hb1;clear hb1;go_wp2_with fail;refine(cS.out _).mono ?_;rintro e w2 ⟨s,rfl,hb2⟩;have HB2:=hid (HB1.out.trans (hb2.mono HB1.out.size));clear hb2;go_wp2_with fail;go_ret;exact⟨_,rfl,HB2.out⟩
theorem sY(x:Int)(w:World):Calls Tryz.prog 133 #[x] w (dm w):=by
 have cT:=hid fun W=>jf x W
 have cS:=hid jg;go_enter Tryz.func133,Tryz.ntmps133;go_wp2_with fail;refine(cT.out _).mono ?_;rintro e w1 ⟨rfl,hb1⟩;have HB1:=hid hb1;clear hb1;go_wp2_with fail;refine(cS.out _ _).mono ?_;rintro e w2 ⟨s,rfl,hb2⟩;have HB2:=hid (HB1.out.trans (hb2.mono HB1.out.size));clear hb2;go_wp2_with fail;go_ret;exact⟨_,rfl,HB2.out⟩
end Go.Proofs
namespace Go.Proofs
open Go.RowKit Go.Proofs.Mp Go.Lib
theorem gN(x:Int)(w:World)(h1:1≤x)(h2:x≤4611686018427387904):Calls Tryz.prog 180 #[x] w (dm w):=by
 have cM:=hid kh;have cL:=hid fun W=>Tryz.bits_Len64 x W (by omega) (by omega)
 have hL:=gj (y:=x.toNat) (by omega) (by omega);have hwx:IntKind.u64.wrap x=x:=by simp[IntKind.wrap,IntKind.bits,IntKind.signed];omega
 generalize Lib.bitLen x.toNat=L at *;obtain⟨E,hE⟩:∃E,(L:Int)-31=E:=⟨_,rfl⟩;have hw1:IntKind.i64.wrap ((L:Int)-31)=E:=by rw[←hE];exact IntWalk.i64_in _ (by omega)
 have hw2:IntKind.i64.wrap (26-E)=26-E:=IntWalk.i64_in _ (by omega);have hw3:IntKind.i64.wrap (E-26)=E-26:=IntWalk.i64_in _ (by omega);have hE2 : -30≤E∧E≤33:=by omega
 clear hL hE h1 h2;obtain⟨y,hy⟩:∃y,decide (E≤26)=y:=⟨_,rfl⟩;have HY:=hid (And.intro hy hE2);have HB0:=hid (Below.refl w.heap.size w);go_enter Tryz.func180,Tryz.ntmps180;go_wp2_with fail;refine(cL.out _).mono ?_;rintro e w1 ⟨rfl,rfl⟩;go_upto_if 19 with fail;go_cut [4] from 18 to 28 (fun v wx=>(∃z:Int,v=.int .i64 z)∧w1=wx)
 case first=>
  clear hE2;cases y
  ·obtain⟨s,hs⟩:∃s:Nat,E-26=s:=⟨(E-26).toNat,by have:=of_decide_eq_false HY.out.1;omega⟩
   replace hw3:=hw3.trans hs;clear hs;go_wp2_with fail;go_meet;exact⟨⟨_,rfl⟩,rfl⟩
  ·obtain⟨s,hs⟩:∃s:Nat,26-E=s:=⟨(26-E).toNat,by have:=of_decide_eq_true HY.out.1;omega⟩
   replace hw2:=hw2.trans hs;clear hs;go_wp2_with fail;go_meet;exact⟨⟨_,rfl⟩,rfl⟩
 case rest=>
 obtain⟨⟨m,rfl⟩,rfl⟩:=hcut;clear hE2 hw1 hw2 hw3 hy HY;go_wp2_with fail;refine(cM.out _ _ _ _).mono ?_;rintro e w2 ⟨a,n,rfl,hb2⟩;have HB2:=hid (HB0.out.trans (hb2.mono HB0.out.size));clear hb2;go_wp2_with fail;refine(cM.out _ _ _ _).mono ?_;rintro e w3 ⟨a2,n2,rfl,hb3⟩;have hb1:=HB2.out.trans (hb3.mono HB2.out.size);clear hb3;have hX:ArZ (w3.alloc (.cells #[.int .i64 0,.int .i64 0,.int .i64 0,.int .i64 0,.int .i64 0,.int .i64 0,.int .i64 0,.int .i64 0,.int .i64 0,.int .i64 0,.int .i64 0,.int .i64 0,.int .i64 0,.int .i64 0,.int .i64 0,.int .i64 0,.int .i64 0,.int .i64 0,.int .i64 0,.int .i64 0,.int .i64 0] 274)) w3.heap.size 274 21:=⟨List.replicate 21 0,rfl,Bx.new w3 rfl⟩;have hbX:=hb1.trans ((bw1 w3 (.cells #[.int .i64 0,.int .i64 0,.int .i64 0,.int .i64 0,.int .i64 0,.int .i64 0,.int .i64 0,.int .i64 0,.int .i64 0,.int .i64 0,.int .i64 0,.int .i64 0,.int .i64 0,.int .i64 0,.int .i64 0,.int .i64 0,.int .i64 0,.int .i64 0,.int .i64 0,.int .i64 0,.int .i64 0] 274)).mono hb1.size);have hlt:w1.heap.size≤w3.heap.size:=hb1.size;go_upto_region 9 with fail;generalize w3.alloc (.cells #[.int .i64 0,.int .i64 0,.int .i64 0,.int .i64 0,.int .i64 0,.int .i64 0,.int .i64 0,.int .i64 0,.int .i64 0,.int .i64 0,.int .i64 0,.int .i64 0,.int .i64 0,.int .i64 0,.int .i64 0,.int .i64 0,.int .i64 0,.int .i64 0,.int .i64 0,.int .i64 0,.int .i64 0] 274)=w4 at *;generalize w3.heap.size=b at *;obtain⟨⟨z,k0⟩,k1,k2⟩:=hX.cell (k:=0) (by omega);have hX3:=hX.set 0 a;have hb3:=hX.setB hbX hlt 0 (.int .i64 a);clear hb1 hX hbX;go_upto_region 10 with fail;generalize w4.setCell ⟨b,0,none⟩ (.int .i64 a)=w5 at *;clear k0 k1 k2;go_wp2_with fail;go_loopw [10,44] (fun _ i wr=>∃k:Nat,k≤20∧i=.int .i64 k∧ArZ wr b 274 21∧Below w1.heap.size w1 wr) (fun _ i _=>20-(intOf i).toNat)
 case atStart=>exact⟨0,by omega,rfl,hX3,hb3⟩
 case round=>
  obtain⟨k,hk,rfl,hA,hbr⟩:=hrel;have HB:=hid hbr
  by_cases hlk:k<20
  ·have d1:IntKind.i64.wrap ((k:Int)+1)=(k:Int)+1:=IntWalk.i64_in _ (by omega)
   have hli:(k:Int)<20:=by omega
   have hl14:(k:Int)<21:=by omega
   have hl15:(k:Int)+1<21:=by omega
   have hp1:0≤(k:Int)+1:=by omega
   obtain⟨⟨z,k0⟩,k1,k2⟩:=hA.cell (k:=k) (by omega);have HA:=hid hA;clear hA hbr;go_wp2_with fail;refine(cM.out _ _ _ _).mono ?_;rintro e w6 ⟨y,n1,rfl,hb4⟩;have HA5:=hid (HA.out.below hb4);have HB5:=hid (HB.out.trans (hb4.mono HB.out.size));clear hb4 k0 k1 k2;obtain⟨⟨z,k0⟩,k1,k2⟩:=HA5.out.cell (k:=k+1) (by omega);go_wp2_with fail;go_roundw
   case rel=>exact⟨k+1,by omega,by go_num,HA5.out.set _ _,HA5.out.setB HB5.out hlt _ _⟩
   case measure=>simp[intOf];omega
  ·obtain rfl:k=20:=by omega
   have hge:decide (((20:Nat):Int)<20)=false:=by decide
   obtain⟨L,hld,hli,HIX⟩:=ArZ.load hA Tryz.underlying274 (by kernel_rfl);clear hbr;go_wp2_with (refine wpList_load_mid rfl 274 (.tmp 9) rfl b 0 rfl L _ hld Tryz.underlying274 rfl hli ?_);clear hld hli;generalize L.toArray=arr at *;go_loopw [2,11,12,60] (fun s _ _ i wq=>∃(k:Nat) (z:Int),k≤21∧i=.int .i64 k∧s=.int .i64 z∧wr=wq) (fun _ _ _ i _=>21-(intOf i).toNat)
   case atStart=>exact⟨0,0,by omega,rfl,rfl,rfl⟩
   case round=>
    obtain⟨k,z,hk,rfl,rfl,rfl⟩:=hrel
    by_cases hlk:k<21
    ·have hli:(k:Int)<21:=by omega
     have d2:IntKind.i64.wrap (2*(k:Int))=2*(k:Int):=IntWalk.i64_in _ (by omega);have d3:IntKind.i64.wrap (2*(k:Int)+1)=2*(k:Int)+1:=IntWalk.i64_in _ (by omega);have d4:2*(k:Int)+1≠0:=by omega
     obtain⟨y,hix⟩:=HIX.out k hlk;go_wp2_with fail;go_roundw
     case rel=>exact⟨k+1,_,by omega,by go_num,rfl,by first|rfl|trivial⟩
     case measure=>simp[intOf];omega
    ·obtain rfl:k=21:=by omega
     have hge:decide (((21:Nat):Int)<21)=false:=by decide
     go_wp2_with fail;go_ret;exact⟨_,rfl,HB.out⟩
theorem gO(x:Int)(w:World)(h0:0≤x):Calls Tryz.prog 135 #[x] w (kT w):=by
 have HB0:=hid (Below.refl w.heap.size w);have hd1:decide (x < -1073725440)=false:=decide_eq_false (by omega);have hd2:decide (x<0)=false:=decide_eq_false (by omega);have cR:=hid fun a W=>fB a 134217728 W (by omega)
 by_cases h2:1073725440<x
 ·go_enter Tryz.func135,Tryz.ntmps135
  go_wp2_with fail;go_ret2;exact⟨_,_,rfl,HB0.out⟩
 have hd3:decide (1073725440<x)=false:=decide_eq_false h2;have hw1:IntKind.i64.wrap (1073741824+x)=1073741824+x:=IntWalk.i64_in _ (by omega);have hw2:IntKind.i64.wrap (1073741824-x)=1073741824-x:=IntWalk.i64_in _ (by omega);have c1:=hid fun W=>gN (1073741824+x) W (by omega) (by omega)
 have c2:=hid fun W=>gN (1073741824-x) W (by omega) (by omega)
 clear h2 h0;go_enter Tryz.func135,Tryz.ntmps135;go_wp2_with fail;refine(c1.out _).mono ?_;rintro e w1 ⟨a,rfl,hb1⟩;have HB1:=hid hb1;clear hb1;go_wp2_with fail;refine(c2.out _).mono ?_;rintro e w2 ⟨b,rfl,hb2⟩;have HB2:=hid (HB1.out.trans (hb2.mono HB1.out.size));clear hb2;go_wp2_with fail;refine(cR.out _ _).mono ?_;rintro e w3 ⟨z,n,rfl,hb3⟩;have HB3:=hid (HB2.out.trans (hb3.mono HB2.out.size));clear hb3;go_wp2_with fail;go_ret2;exact⟨_,_,rfl,HB3.out⟩
theorem mW(x:Int)(w:World):Calls Tryz.prog 135 #[x] w (kT w):=by
 by_cases h0:0≤x
 ·exact gO x w h0
 have HB0:=hid (Below.refl w.heap.size w);have hd2:decide (x<0)=true:=decide_eq_true (by omega);have hd3:decide (1073725440<x)=false:=decide_eq_false (by omega)
 by_cases h1:x < -1073725440
 ·go_enter Tryz.func135,Tryz.ntmps135
  go_wp2_with fail;go_ret2;exact⟨_,_,rfl,HB0.out⟩
 have hd1:decide (x < -1073725440)=false:=decide_eq_false h1;have hw1:IntKind.i64.wrap (-x)=-x:=IntWalk.i64_in _ (by omega);have c1:=hid fun W=>gO (-x) W (by omega)
 clear h0 h1;go_enter Tryz.func135,Tryz.ntmps135;go_wp2_with fail;refine(c1.out _).mono ?_;rintro e w1 ⟨z,n,rfl,hb1⟩;have HB1:=hid hb1;clear hb1;go_wp2_with fail;go_ret2;exact⟨_,_,rfl,HB1.out⟩
end Go.Proofs
