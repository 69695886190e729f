/- Lemmas and walks; no statement of a law is proved here. -/
import Derived.Test.YtaglmdebikglgaaGreatDoorX15
import Derived.Test.YtaglmdebikglgaaGreatDoorX16
set_option linter.unusedVariables false
set_option linter.unusedSimpArgs false
set_option maxRecDepth 100000
set_option maxHeartbeats 8000000
open Go.Lib
namespace Go.Proofs
open Go.RowKit Go.Proofs.Mp Go.Lib
structure TpS(w W:World)(n:Nat)(cs xs:List Value):Prop where
 a:Bx W n 28 cs
 b:Bx W (n+1) 30 xs
 d:∃u v:Int,Bx W (n+2) 30 [u,v]
 hb:Below n w W
 hn:w.heap.size=n
section
variable {w W W':World}{n:Nat}{cs xs:List Value}
theorem TpS.below(h:TpS w W n cs xs)(hb:Below W.heap.size W W'):TpS w W' n cs xs:=by
 obtain⟨h1,h3,⟨u,v,h4⟩,h5,rfl⟩:=h;exact⟨h1.below hb,h3.below hb,⟨u,v,h4.below hb⟩,h5.trans (hb.mono h5.size),rfl⟩
theorem TpS.st(h:TpS w W n cs xs)(u v:Int):TpS w (st2 W (n+2) (.int .i64 u) (.int .i64 v)) n cs xs∧Bx (st2 W (n+2) (.int .i64 u) (.int .i64 v)) (n+2) 30 [u,v]:=by
 obtain⟨h1,h3,⟨u',v',h4⟩,h5,h6⟩:=h;have hd:=(h4.set 0 (.int .i64 u)).set 1 (.int .i64 v);exact⟨⟨(h1.other (by omega) _ _).other (by omega) _ _,(h3.other (by omega) _ _).other (by omega) _ _,⟨u,v,hd⟩,(h4.set 0 (.int .i64 u)).setB (h4.setB h5 (by omega) _ _) (by omega) _ _,h6⟩,hd⟩
theorem TpS.ret(h:TpS w W n cs xs)(a b m:Int):mJ w (.returned (.tuple #[.agg #[a,b],.int .i64 m])) W:=by
 obtain⟨h1,h3,h4,h5,rfl⟩:=h;exact⟨a,b,m,rfl,h5⟩
end
theorem tO(k lo la sc x y:Int)(w:World):Calls Tryz.prog 42 #[prV k lo la sc,.agg #[x,y]] w (mJ w):=by
 have C1:=hid fun W=>m8 k lo la sc W
 have C2:=hid fun f1 f2 W h1 h2=>tN k lo la sc x y f1 f2 W h1 h2
 have C3:=hid fun W=>jV k lo la sc W
 obtain⟨n,hn⟩:∃n,w.heap.size=n:=⟨_,rfl⟩;unfold prV at *
 have hS:TpS w (((w.alloc (.cells #[k,lo,la,sc] 28)).alloc (.cells #[x,y] 30)).alloc (.cells #[.int .i64 0,.int .i64 0] 30)) n [k,lo,la,sc] [.int .i64 x,.int .i64 y]:=by
  subst hn;exact⟨((Bx.new w rfl).alloc _).alloc _,(Bx.newAt _ (by simp) rfl).alloc _,⟨0,0,Bx.newAt _ (by simp) rfl⟩,(((bw1 _ _).alloc (by simp) _).alloc (by simp;omega) _),rfl⟩
 have HS0:=hid hS;clear hS;go_enter Tryz.func42,Tryz.ntmps42;go_upto_region 1 with fail;rw[show n+1+1=n+2 from rfl];clear hn;generalize ((w.alloc (.cells #[k,lo,la,sc] 28)).alloc (.cells #[x,y] 30)).alloc (.cells #[.int .i64 0,.int .i64 0] 30)=w1 at *;obtain⟨a0,a1,a2,a3⟩:=HS0.out.a.c4;go_wp2_with fail;refine(C3.out w1).mono ?_;rintro e w2 ⟨z,rfl,hb2⟩;have HS2:=hid (HS0.out.below hb2);clear a0 a1 a2 a3 hb2 HS0;obtain⟨y0,hy0⟩:∃y,(z==0)=y:=⟨_,rfl⟩;cases y0
 ·have HZ:=hid (HS2.out.st 0 0)
  obtain⟨u,v,hd⟩:=HS2.out.d;obtain⟨d0,d1⟩:=hd.c2;have fd0:=hd.frozen 0;have fd1:=hd.frozen 1;have fl:=hd.lt;clear hd;go_wp2_with fail;change bodyPost _ _ _ _ _ (st2 w2 (n+2) (.int .i64 0) (.int .i64 0));generalize st2 w2 (n+2) (.int .i64 0) (.int .i64 0)=w9 at *;obtain⟨r0,r1⟩:=HZ.out.2.c2;refine bodyPost_ret (v:=.tuple #[.agg #[.int .i64 0,.int .i64 0],.int .i64 z]) (by simp[results,Tryz.results42,go_sem,r0,r1]) rfl ?_;exact HZ.out.1.ret 0 0 z
 go_wp2_with fail;have hS1:=HS2.out.below (Below.refl _ _).drew;refine wp_region_held_drew (S:=fun W:World=>TpS w W n _ _) (by kernel_rfl) hS1 (fun hHeld=>?_);clear hHeld;generalize hwd:w2.drew=wd at *;clear hwd;refine kf 0 (fun W h=>h.a.c4) rfl ?_;refine kf 1 (fun W h=>h.a.c4) rfl ?_;refine kf 3 (fun W h=>h.b.c2) rfl ?_;refine kr 2 rfl fun K hK=>?_
 go_simp;go_at_call 81;refine(C1.out _).mono ?_;rintro e Wrc1 ⟨f1,f2,rfl,hf1,hf2,hbz⟩;have hSWrc1:=TpS.below hS1 hbz;clear hbz hS1;have HF:=hid (And.intro hf1 hf2);clear hf1 hf2;go_wp2_with fail;refine hK.out _ _ hSWrc1 (fun hHeld=>?_);clear hK hHeld K
 try simp only[Act.put,sa,sz,ss]
 refine kr 4 rfl fun K hK=>?_
 go_simp;go_at_call 80;refine(C2.out f1 f2 _ HF.out.1 HF.out.2).mono ?_;rintro e Wrc2 ⟨ra,rb,rn,rfl,hbz⟩;have hSWrc2:=TpS.below hSWrc1 hbz;clear hbz hSWrc1 HF;go_wp2_with fail;refine hK.out _ _ hSWrc2 (fun hHeld=>?_);clear hK hHeld K
 try simp only[Act.put,sa,sz,ss]
 refine kk 5 rfl ?_;refine kk 6 rfl ?_;refine kr 7 rfl fun K hK=>?_
 obtain⟨u,v,hd⟩:=hSWrc2.d;obtain⟨d0,d1⟩:=hd.c2;have fd0:=hd.frozen 0;have fd1:=hd.frozen 1;have fl:=hd.lt;clear hd;go_simp;clear d0 d1 fd0 fd1 fl;have HS5:=hid (hSWrc2.st ra rb);refine hK.out _ _ HS5.out.1 (fun hHeld=>?_);unfold st2 at HS5;clear hK hHeld K
 try simp only[Act.put,sa,sz,ss]
 have hS6:=HS5.out.1;refine kk 8 rfl ?_;refine wpAnyH_done (by kernel_rfl) ?_ _;clear hS6;generalize (Wrc2.setCell ⟨n+2,0,none⟩ (.int .i64 ra)).setCell ⟨n+2,1,none⟩ (.int .i64 rb)=w5 at *;go_wp2_with fail;obtain⟨r0,r1⟩:=HS5.out.2.c2;refine bodyPost_ret (v:=.tuple #[.agg #[ra,rb],.int .i64 rn]) (by simp[results,Tryz.results42,go_sem,r0,r1]) rfl ?_;exact HS5.out.1.ret ra rb rn
def uh(w:World)(k:Nat)(e:Ending)(w':World):Prop:=∃(v:Value) (l:List Pt) (n:Int),e=.returned (.tuple #[v,n])∧Own 30 2 encR w' w.heap.size v l∧(n=0→l.length=k)∧Below w.heap.size w w'
theorem mO(k lo la sc:Int)(v:Value)(l:List Pt)(w:World)(hl:l.length≤1000000)(hS:SlP w v l):Calls Tryz.prog 18 #[prV k lo la sc,v] w (uh w l.length):=by
 have C1:=hid fun x y W=>tO k lo la sc x y W
 obtain⟨A,c,rfl,hr,_⟩:=hS;have HR:=hid hr;clear hr;have hx:=Bx.new (t:=28) (cs:=prC k lo la sc) w rfl;have hw:=bw1 w (.cells #[k,lo,la,sc] 28);unfold prV at *;unfold prC at hx;go_enter Tryz.func18,Tryz.ntmps18;go_upto_region 1 with fail;generalize w.alloc (.cells #[k,lo,la,sc] 28)=w1 at *;obtain⟨n0,hn0⟩:∃n,w.heap.size=n:=⟨_,rfl⟩;rw[hn0]at hx ⊢;have HN0:=hid hn0;clear hn0;have HX:=hid hx;have HW:=hid hw;have HLT:=hid (show w.heap.size≤w1.heap.size from hw.size);clear hx hw;go_wp2_with fail;go_loopw [4,5,7,8,9,12] (fun vo ee _ _ _ i wr=>∃(j:Nat) (o:List Pt),j≤l.length∧i=.int .i64 j∧ee=.int .i64 0∧Hid (Own 30 2 encR wr (w.heap.size+1) vo o)∧Hid (o.length=j)∧Hid (Bx wr n0 28 [k,lo,la,sc])∧Hid (Below w.heap.size w wr)) (fun _ _ _ _ _ i _=>l.length-(intOf i).toNat)
 case atStart=>exact⟨0,[],by omega,rfl,rfl,hid (Own.nil _ _),hid rfl,HX,HW⟩
 case round=>
  clear HX HW;obtain⟨j,o,hj,rfl,rfl,HO,HOL,HX,HW⟩:=hrel
  by_cases hlt:j<l.length
  ·have hli:(j:Int)<(l.length:Int):=by omega
   obtain⟨b1,o1,rfl,_,d0,d1⟩:=RdR.get HR.out HW.out hlt;generalize l[j]! = q at *;obtain⟨qx,qy⟩:=q;dsimp only at d0 d1;have hq:=Bx.new (t:=30) (cs:=[.int .i64 qx,.int .i64 qy]) wr rfl;have hwq:=bw1 wr (.cells #[qx,qy] 30);obtain⟨Ao,co,rfl⟩:=Own.slice HO.out;have HO2:=hid (HO.out.below hwq);have HX2:=hid (HX.out.below hwq);have HW2:=hid (HW.out.trans (hwq.mono HW.out.size));have HKL:=hid hlt;have HBS:=hid (show w.heap.size+1≤wr.heap.size from by have:=HX.out.lt;have:=HN0.out;have:=HLT.out;have:=HW.out.size;omega);clear HO HX HW hwq;go_upto_region 4 with fail;generalize wr.alloc (.cells #[qx,qy] 30)=w2 at *;generalize wr.heap.size=nq at *;clear d0 d1 hlt;obtain⟨d0,d1⟩:=hq.c2;obtain⟨a0,a1,a2,a3⟩:=HX2.out.c4;have HQ:=hid hq.lt;clear hq;go_wp2_with fail;refine(C1.out qx qy w2).mono ?_;rintro e w3 ⟨ra,rb,rn,rfl,hb3⟩;have hb4:=hb3.trans ((bw1 w3 (.cells #[ra,rb] 30)).mono hb3.size);have HO4:=hid (HO2.out.below hb4);have HX4:=hid (HX2.out.below hb4);have HW4:=hid (HW2.out.trans (hb4.mono HW2.out.size));have hr:=Bx.new (t:=30) (cs:=[.int .i64 ra,.int .i64 rb]) w3 rfl;have HBS4:=hid (show w.heap.size+1≤(w3.alloc (.cells #[ra,rb] 30)).heap.size from by have:=hb4.size;have:=HBS.out;have:=HQ.out;omega);clear a0 a1 a2 a3 d0 d1 hb3 hb4 HO2 HX2 HW2;go_upto_region 5 with fail;generalize w3.alloc (.cells #[ra,rb] 30)=w4 at *;generalize w3.heap.size=nr at *;obtain⟨d0,d1⟩:=hr.c2;have HRL:=hid hr.lt;have hrl:=hr.lt;clear hr;obtain⟨y0,hy0⟩:∃y,(rn==0)=y:=⟨_,rfl⟩;cases y0
   ·have hne:rn≠0:=by simpa using hy0
    have HNE:=hid hne;clear hne;go_wp2_with fail;go_ret2;exact⟨_,[],rn,rfl,Own.nil _ _,fun h=>absurd h HNE.out,HW4.out⟩
   ·have hown:=HO4.out
    have hbs:=HBS4.out;have hN1:o.length+1≤1000000000000:=by have:=HOL.out;have:=HKL.out;omega
    go_wp2_with (at_builtin;refine wpList_plain rfl fun K' hK'=>Tryz.appP hown (ra,rb) _ _ rfl rfl rfl hN1 hbs ?_;intro v9 w9 hO9 hg9 hl9;refine hK' _ _ ?_;clear hK');have HX9:=hid (HX4.out.grown hg9 (fun e=>by have:=(World.ownsRow.lt hown _ e).1;have:=HN0.out;omega));have HW9:=hid (HW4.out.grown hg9 HW4.out.size (fun i e=>by have:=(World.ownsRow.lt hown _ e).1;omega));have HO9:=hid hO9;clear hO9 hg9 hl9;go_roundw
    case rel=>exact⟨j+1,_,HKL.out,by go_num,rfl,HO9,hid (by have:=HOL.out;simp;omega),HX9,HW9⟩
    case measure=>simp[intOf];omega
  ·obtain⟨Ao,co,rfl⟩:=Own.slice HO.out
   have HJ:=hid (show j=l.length by omega);go_wp2_with fail;go_ret2;exact⟨_,o,0,rfl,HO.out.mono (by omega),fun _=>by have:=HOL.out;have:=HJ.out;omega,HW.out⟩
end Go.Proofs
namespace Go.Proofs
open Go.RowKit Go.Proofs.Mp Go.Lib Go.Proofs.Ed
def Eg.x(e:Eg)(p:Pt):Int:=if e.up=true then p.1 else p.2
def Eg.s(e:Eg)(p:Pt):Int:=if e.side=1∨e.side=2 then e.x p-e.line else e.line-e.x p
theorem kN(a b:Int):(cmpI a b=0↔a-b=0)∧(cmpI a b=1↔0<a-b)∧(cmpI a b=-1↔a-b<0):=by
 unfold cmpI;split
 ·omega
 ·split<;>omega
theorem Eg.off_sgn(e:Eg)(p:Pt):(e.off p=0↔e.s p=0)∧(e.off p=1↔0<e.s p)∧(e.off p=-1↔e.s p<0):=by
 unfold Eg.off Eg.s Eg.x
 by_cases h:e.side=1∨e.side=2
 ·rw[if_pos h,if_pos h];exact kN _ _
 ·rw[if_neg h,if_neg h];exact kN _ _
theorem fe(g:Eg):∀l,(lead g.s l).length=bA g l
 | []=>rfl
 | p::l=>by
  unfold lead bA;rw[List.takeWhile_cons]
  by_cases h:g.s p=0
  ·rw[if_pos (decide_eq_true h),if_pos ((g.off_sgn p).1.2 h),List.length_cons,←fe g l]
   rfl
  ·rw[if_neg (by simpa using h),if_neg (fun k=>h ((g.off_sgn p).1.1 k))]
   rfl
def fU(l:List Pt):Option Nat→List Pt
 | none=>[]
 | some k=>l.take k
theorem tm(g:Eg)(P:List Pt)(E L:Int):entering g.side g.s (P,E,L)=fU P (entN g P E L):=by
 unfold entering entN;simp only[fe]
 by_cases h1:E≠g.side
 ·rw[if_pos h1,if_pos h1];rfl
 rw[if_neg h1,if_neg h1]
 by_cases h2:bA g P=P.length
 ·rw[if_pos h2,if_pos h2]
  by_cases h3:L=0∨L=g.side
  ·rw[if_pos h3,if_pos h3];rfl
  rw[if_neg h3,if_neg h3]
  by_cases h4:1<bA g P
  ·rw[if_pos h4,if_pos h4];rfl
  ·rw[if_neg h4,if_neg h4];rfl
 ·rw[if_neg h2,if_neg h2];rfl
theorem ta(g:Eg)(P:List Pt)(E L:Int):leaving g.side g.s (P,E,L)=ir P (leaN g P E L):=by
 unfold leaving leaN gn;simp only[fe]
 by_cases h1:L≠g.side
 ·rw[if_pos h1,if_pos h1];rfl
 rw[if_neg h1,if_neg h1]
 by_cases h2:P.length-bA g P.reverse=0
 ·rw[if_pos h2,if_pos h2]
  by_cases h3:E=0∨E=g.side
  ·rw[if_pos h3,if_pos h3];rfl
  rw[if_neg h3,if_neg h3]
  by_cases h4:1<P.length
  ·rw[if_pos h4,if_pos h4,h2];rfl
  ·rw[if_neg h4,if_neg h4,h2];rfl
 ·rw[if_neg h2,if_neg h2];rfl
theorem kq{r:List Pt}{p:Pt}(h:r.getLast?=some p):r[r.length-1]! = p:=by
 rw[List.getLast?_eq_getElem?]at h;simp[getElem!_def,h]
theorem s8(g:Eg)(f:Pt→Bool)(run:List Pt):opn g.u g.lo g.hi f run=openB g f run:=by
 unfold opn openB;cases run with
 | nil=>rfl
 | cons p r=>
  have h:(p::r).getLast?=some ((p::r).getLast (by simp)):=List.getLast?_eq_some_getLast _;have h2:=kq h;dsimp only;rw[h2];unfold clo closedB;simp
def crR(g:Eg)(f:Pt→Bool)(arc o:Int)(run:List Pt):List Cr:=if openB g f run=true then [(g.u run[run.length-1]!,arc,o)] else []
def toC(arc:Int)(e:Evt):Cr:=(e.1,arc,e.2)
theorem lR(g:Eg)(f:Pt→Bool)(arc o:Int)(run:List Pt):crR g f arc o run=(ev g.u g.lo g.hi f o run).map (toC arc):=by
 unfold crR ev;rw[s8];split
 ·rename_i h
  have hr:run≠[]:=by intro e;subst e;simp[openB]at h
  have h2:=List.getLast?_eq_some_getLast hr;rw[h2,kq h2];rfl
 ·rfl
def crP(g:Eg)(f:Pt→Bool)(y:Pe):List Cr:=crR g f y.1 0 (fU y.2.1 (entN g y.2.1 y.2.2.1 y.2.2.2))++crR g f y.1 1 (ir y.2.1 (leaN g y.2.1 y.2.2.1 y.2.2.2))
theorem rU(g:Eg)(f:Pt→Bool)(y:Pe):crP g f y=(evs g.side g.u g.s g.lo g.hi f y.2).map (toC y.1):=by
 unfold crP evs;rw[lR,lR,←tm,←ta,List.map_append]
def crS(g:Eg)(f:Pt→Bool)(l:List Pe):List Cr:=l.flatMap (crP g f)
theorem rR(g:Eg)(f:Pt→Bool)(arc:Int)(l:List Pc):crS g f (l.map fun y=>(arc,y))=(evF g.side g.u g.s g.lo g.hi f l).map (toC arc):=by
 unfold crS evF;rw[List.flatMap_map,List.map_flatMap];simp only[rU]
def Bo.ok(b:Bo):Prop:=b.x0<b.x1∧b.y0<b.y1
theorem rM(b:Bo)(s:Int)(hb:b.ok)(hs:s=1∨s=2∨s=3∨s=4):∃D,View b.to (mkEg b s).side (mkEg b s).u (mkEg b s).s (mkEg b s).lo (mkEg b s).hi D (mkEg b s).mt:=by
 obtain⟨x0,y0,x1,y1⟩:=b;obtain⟨h1,h2⟩:=hb
 rcases hs with rfl|rfl|rfl|rfl
 ·exact⟨_,view1 ⟨x0,y0,x1,y1⟩ h1 h2⟩
 ·exact⟨_,view2 ⟨x0,y0,x1,y1⟩ h1 h2⟩
 ·exact⟨_,view3 ⟨x0,y0,x1,y1⟩ h1 h2⟩
 ·exact⟨_,view4 ⟨x0,y0,x1,y1⟩ h1 h2⟩
theorem rN(b:Bo)(s:Int)(hs:s=1∨s=2∨s=3∨s=4)(l:List Pt)(h:Ed.Clean l):Ed.Good (mkEg b s).u (mkEg b s).s l:=by
 obtain⟨x0,y0,x1,y1⟩:=b
 rcases hs with rfl|rfl|rfl|rfl
 ·exact good1 ⟨x0,y0,x1,y1⟩ l h
 ·exact good2 ⟨x0,y0,x1,y1⟩ l h
 ·exact good3 ⟨x0,y0,x1,y1⟩ l h
 ·exact good4 ⟨x0,y0,x1,y1⟩ l h
def exS(g:Eg)(f:Pt→Bool)(arc:Int)(path:List Pt):List Cr:=(exF g.u g.s g.lo g.hi g.mt f none [] path).map (toC arc)
theorem nu(b:Bo)(s:Int)(hb:b.ok)(hs:s=1∨s=2∨s=3∨s=4)(f:Pt→Bool)(arc:Int)(path:List Pt)(h:Ed.Clean path):crS (mkEg b s) f (pcS b.to arc path)=exS (mkEg b s) f arc path:=by
 cases path with
 | nil=>rfl
 | cons p r=>
  obtain⟨D,V⟩:=rM b s hb hs;unfold exS;rw[show pcS b.to arc (p::r)=(pcF b.to p r none).map fun y=>(arc,y)from rfl,rR,crossings_passages V p r (rN b s hs _ h)]
end Go.Proofs
namespace Go.Proofs
open Go.RowKit Go.Proofs.Mp Go.Lib Go.Proofs.Ed
theorem Tryz.wpX{w:World}{base:Nat}{v:Value}{xs:List Cr}{o:Oper}{a:Act}{K:Act→World→Prop}{Q:Exit→Act→World→Prop}
  (hown:Own 65 3 bc w base v xs)(y:Cr)(s x:Operand)
  (ho:o.op=.call { callee:=.builtin .append,args:=#[s,x],argTypes:=#[61,61] })(hs:a.eval s=v)(hx:a.eval x=.slice (some ⟨w.heap.size,0,none⟩) 1 1)
  (hN:xs.length+1≤1000000000000)(hbase:base≤w.heap.size)
  (h:∀v' w',Own 65 3 bc w' base v' (xs++[y])→w.grownBy w' v.ownBlock→(v'.ownBlock=v.ownBlock∨∃j,v'.ownBlock=some j∧w.heap.size≤j)→K (a.put o.dst v') w') :
  o.wp Tryz.prog a (w.alloc (.cells #[y.1,y.2.1,y.2.2] 65)) K Q:=by
 obtain⟨i0,hi0,hz0,hz1,hz2⟩:=Mp.info_parts Tryz.infoX;exact Own.wpAt 61 i0 (.agg #[.int .i64 0,.int .i64 0,.int .i64 0]) 24 Tryz.underlying61 hi0 hz0 hz1 hz2 rfl (by decide) (by decide) aP y (ia y) s x ho hown hs hx (by omega) hbase h
def i8(w:World)(l:List Cr)(en:Ending)(w':World):Prop:=∃v L,en=.returned (.tuple #[v,.int .i64 0])∧L.Perm l∧L.Pairwise (fun a b=>¬ltX b a)∧Own 65 3 bc w' w.heap.size v L∧Below w.heap.size w w'
theorem o0{w:World}{v:Value}{L:List Pe}{ok:Nat→Prop}(h:iz w v L ok):∃A c,v=.slice A L.length c∧∀k,k<L.length→∃b off A' c',A=some ⟨b,off,none⟩∧b<w.heap.size∧RdR w A' L[k]!.2.1∧(L[k]!.2.1.length≤c'∧c'≤maxLen) ∧
  ∀W,Below w.heap.size w W→W.cell? ⟨b,off+k*4,none⟩=some (.int .i64 L[k]!.1)∧W.cell? ⟨b,off+k*4+1,none⟩=some (.slice A' L[k]!.2.1.length c')∧W.cell? ⟨b,off+k*4+2,none⟩=some (.int .i64 L[k]!.2.2.1)∧W.cell? ⟨b,off+k*4+3,none⟩=some (.int .i64 L[k]!.2.2.2):=by
 obtain⟨vs,h1,⟨A,c,rfl,h2,_,h3⟩,h4⟩:=h;rw[h1];refine⟨A,c,rfl,fun k hk=>?_⟩;obtain⟨b,off,e,hl,hc⟩:=h3.at_ (j:=k) (by omega);obtain⟨e1,⟨A',c',e2,h5,_,h6⟩,e3⟩:=h4 k hk;refine⟨b,off,A',c',e,hl,h6,h5,fun W hb=>?_⟩;have hc2:=fun i u hu=>(hb.cell (p:=⟨b,off+k*4+i,none⟩) hl).trans (hc k (by omega) i u hu)
 rw[←e1,←e2,←e3];exact⟨hc2 0 _ rfl,hc2 1 _ rfl,hc2 2 _ rfl,hc2 3 _ rfl⟩
def uz(L:List Pe):Prop:=L.length≤100000000∧∀k,k<L.length→L[k]!.2.1.length≤1000000∧∀p∈L[k]!.2.1,Nr p
theorem qe(g:Eg)(arc:Int)(A:Option Addr)(c:Nat)(l:List Pt)(en le:Int)(w0 w:World)(hW:Below w0.heap.size w0 w)(hR:RdR w0 A l)(hm:l.length≤1000000000)(hc:l.length≤c)(hcm:c≤maxLen) :
  Calls Tryz.prog 35 #[egE g,pcV arc A l.length c en le] w (mK w0 w (fU l (entN g l en le))):=by
 refine(kG g arc A c l en le w (hR.below hW) hm hc hcm).mono ?_;rintro e w' ⟨rfl,hb⟩;cases h:entN g l en le with
 | none=>exact⟨none,0,rfl,.inl rfl,hb⟩
 | some n=>
  have hn:n≤l.length:=by
   have:=gW g l;unfold entN at h;split at h
   ·cases h
   ·split at h
    ·split at h
     ·cases h
     ·split at h<;>injection h with h<;>omega
    ·injection h with h;omega
  refine⟨A,c,by show Ending.returned (.slice A n c)=_;rw[show(fU l (some n)).length=n by simp[fU];omega],?_,hb⟩
  rcases hR with rfl|⟨b,off,rfl,hl,hcell⟩
  ·exact .inl (by simp[fU])
  ·refine .inr ⟨b,off,rfl,hl,fun j hj i u hu=>?_⟩
   have hj2:j<n:=by have:j<(l.take n).length:=hj;rw[List.length_take]at this;omega
   have e2:(fU l (some n))[j]! = l[j]!:=by simp[fU,getElem!_def,List.getElem?_take,hj2]
   rw[e2]at hu;exact hcell j (by omega) i u hu
theorem qS(l:List Pt)(n m:Option Nat):(∀p∈fU l n,p∈l)∧(∀p∈ir l m,p∈l):=by
 constructor
 ·intro p hp;cases n with
  | none=>cases hp
  | some n=>exact List.mem_of_mem_take hp
 ·intro p hp;cases m with
  | none=>cases hp
  | some n=>exact List.mem_of_mem_drop hp
theorem qT(l:List Pt)(n m:Option Nat):(fU l n).length≤l.length∧(ir l m).length≤l.length:=by
 constructor
 ·cases n with
  | none=>exact Nat.zero_le _
  | some n=>show(l.take n).length≤_;rw[List.length_take];omega
 ·cases m with
  | none=>exact Nat.zero_le _
  | some n=>show(l.drop n).length≤_;rw[List.length_drop];omega
theorem qj{g:Eg}{f:Pt→Bool}{l:List Pe}{k:Nat}(h:k<l.length):crS g f (l.take (k+1))=crS g f (l.take k)++crR g f l[k]!.1 0 (fU l[k]!.2.1 (entN g l[k]!.2.1 l[k]!.2.2.1 l[k]!.2.2.2))++crR g f l[k]!.1 1 (ir l[k]!.2.1 (leaN g l[k]!.2.1 l[k]!.2.2.1 l[k]!.2.2.2)):=by
 unfold crS;rw[List.take_succ_eq_append_getElem h,List.flatMap_append,getElem!_pos l k h,List.append_assoc]
 congr 1
 simp[crP]
theorem jz(g:Eg)(f:Pt→Bool):∀l:List Pe,(crS g f l).length≤2*l.length
 | []=>Nat.le_refl _
 | y::l=>by
  have:=jz g f l;have h1:∀o r,(crR g f y.1 o r).length≤1:=fun o r=>by unfold crR;split<;>simp
  have h2:=h1 0 (fU y.2.1 (entN g y.2.1 y.2.2.1 y.2.2.2));have h3:=h1 1 (ir y.2.1 (leaN g y.2.1 y.2.2.1 y.2.2.2))
  show(List.flatMap (crP g f) (y::l)).length≤_
  rw[List.flatMap_cons,List.length_append];unfold crP at *;rw[List.length_append,List.length_cons];change _+(crS g f l).length≤_;omega
theorem dQ(sh:Int)(vp:Value)(pcs:List Pe)(ok:Nat→Prop)(An:Option Addr)(cn:Nat)(nodes:List Nd)(bo:Bo)(s:Int)(w:World)(hp:iz w vp pcs ok)(hk:uz pcs)(hR:Rd 3 aQ w An nodes)(hm:nodes.length≤100000)(hn:∀k,k<nodes.length→Nr nodes[k]!.2)(hs:s=1∨s=2∨s=3∨s=4) :
  Calls Tryz.prog 14 #[.agg #[sh,vp,.slice An nodes.length cn],bj bo,.int .i64 s] w (i8 w (crS (mkEg bo s) (ndAt nodes) pcs)):=by
 obtain⟨A,c,rfl,hP⟩:=o0 hp;have HP:=hid hP;have HK:=hid hk;have hkb:=hk.1;have HR:=hid hR;have HNR:=hid hn;have cM:=hid fun W=>gw bo s W hs
 generalize mkEg bo s=g at *;have cP:=hid fun W (hb:Below w.heap.size w W)=>iX An cn nodes W (hR.below hb) hm hn
 clear hp hP hk hR hn hs;unfold bj at *;obtain⟨x0,yy0,x1,yy1⟩:=bo;dsimp only at cM ⊢;unfold egE at cM;have ha:=Bx.new (t:=54) (cs:=[.int .i64 sh,.slice A pcs.length c,.slice An nodes.length cn]) w rfl;have hb:=Bx.newAt (b:=w.heap.size+1) (t:=48) (cs:=[.int .i64 x0,.int .i64 yy0,.int .i64 x1,.int .i64 yy1]) (w.alloc (.cells #[sh,.slice A pcs.length c,.slice An nodes.length cn] 54)) (by simp) rfl;have ha2:=ha.alloc (.cells #[x0,yy0,x1,yy1] 48);have hw:=(bw1 w (.cells #[sh,.slice A pcs.length c,.slice An nodes.length cn] 54)).trans ((bw1 (w.alloc (.cells #[sh,.slice A pcs.length c,.slice An nodes.length cn] 54)) (.cells #[x0,yy0,x1,yy1] 48)).mono (bw1 _ _).size);go_enter Tryz.func14,Tryz.ntmps14;go_upto_region 1 with fail;generalize (w.alloc (.cells #[sh,.slice A pcs.length c,.slice An nodes.length cn] 54)).alloc (.cells #[x0,yy0,x1,yy1] 48)=w0 at *;have k0:=hb.cell 0;have k1:=hb.cell 1;have k2:=hb.cell 2;have k3:=hb.cell 3;simp only[gz,gs]at k0 k1 k2 k3;generalize w.heap.size+1=n48 at *;go_wp2_with fail;refine(cM.out _).mono ?_;rintro e w2 ⟨rfl,hb2⟩;have ha3:=(ha2.below hb2).alloc (.cells #[g.side,.bool g.up,g.line,g.lo,g.hi] 91);have hg3:=Bx.new (t:=91) (cs:=jC g) (c:=#[.int .i64 g.side,.bool g.up,.int .i64 g.line,.int .i64 g.lo,.int .i64 g.hi]) w2 rfl;have hw3:=hw.trans ((hb2.trans ((bw1 w2 (.cells #[g.side,.bool g.up,g.line,g.lo,g.hi] 91)).mono hb2.size)).mono hw.size);clear ha ha2 hb hb2 hw k0 k1 k2 k3 cM;go_upto_region 4 with fail;generalize w2.alloc (.cells #[g.side,.bool g.up,g.line,g.lo,g.hi] 91)=w3 at *;generalize w2.heap.size=nG at *;have k2:=ha3.cell 2;simp only[gz,gs]at k2;go_wp2_with fail;refine(cP.out _ hw3).mono ?_;rintro e w1 ⟨B,rfl,hBw,hMp,hb4⟩;have ha1:=ha3.below hb4;have hg1:=hg3.below hb4;have HW1:=hid (hw3.trans (hb4.mono hw3.size));have k1:=ha1.cell 1;simp only[gz,gs]at k1
 have HG:=hid (show ∀W,Below w1.heap.size w1 W→W.cell? ⟨nG,0,none⟩=some (.int .i64 g.side)∧W.cell? ⟨nG,1,none⟩=some (.bool g.up)∧W.cell? ⟨nG,2,none⟩=some (.int .i64 g.line)∧W.cell? ⟨nG,3,none⟩=some (.int .i64 g.lo)∧W.cell? ⟨nG,4,none⟩=some (.int .i64 g.hi)from fun W h=>by
  have h2:=hg1.below h
  exact⟨h2.cell 0,h2.cell 1,h2.cell 2,h2.cell 3,h2.cell 4⟩)
 have HM:=hid (show ∀W,Below w1.heap.size w1 W→cJ W B nodes.length (ndAt nodes)from fun W h=>hMp.below h);generalize ndAt nodes=f at *;clear ha1 ha3 hg1 hg3 hMp hb4 hw3 hBw k2 cP;have HSU:=hid fun (k:Nat) (h:k<pcs.length)=>qj (g:=g) (f:=f) h
 have HLE:=hid fun (k:Nat)=>jz g f (pcs.take k)
 have HS0:=hid (show crS g f (pcs.take 0)=[] from rfl);have HSN:=hid (show crS g f pcs=crS g f (pcs.take pcs.length) by rw[List.take_length]);generalize crS g f pcs=T at *;go_wp2_with fail;go_loopw [6,29] (fun v i wr=>∃k:Nat,k≤pcs.length∧i=.int .i64 k∧Own 65 3 bc wr w1.heap.size v (crS g f (pcs.take k))∧Below w1.heap.size w1 wr) (fun _ i _=>pcs.length-(intOf i).toNat)
 case atStart=>exact⟨0,by omega,rfl,by rw[HS0.out];exact Own.nil _ _,Below.refl _ _⟩
 case round=>
  obtain⟨k,hk,rfl,hown,hbr⟩:=hrel
  by_cases hlt:k<pcs.length
  ·have hli:(k:Int)<(pcs.length:Int):=by omega
   obtain⟨b,off,A2,c2,rfl,hbl,hRl,⟨hlc,hcm⟩,hcell⟩:=HP.out k hlt;obtain⟨hll,hpn⟩:=HK.out.2 k hlt;have hbw:=HW1.out.trans (hbr.mono HW1.out.size);obtain⟨c0,c1,c2',c3⟩:=hcell wr hbw;have HSK:=hid (HSU.out k hlt);have hlen:(crS g f (pcs.take k)).length+2≤1000000000000:=by have:=HLE.out k;have:=HK.out.1;rw[List.length_take]at *;omega
   obtain⟨⟨arc,l,en,le⟩,hy⟩:∃z,pcs[k]! = z:=⟨_,rfl⟩;rw[hy]at c0 c1 c2' c3 hRl hlc hll hpn HSK;dsimp only at c0 c1 c2' c3 hRl hlc hll hpn HSK;clear hcell hy;obtain⟨X,hX⟩:∃X,crS g f (pcs.take k)=X:=⟨_,rfl⟩;rw[hX]at hown HSK hlen;clear hX;have hyb:=Bx.new (t:=97) (cs:=pcC arc A2 l.length c2 en le) (c:=#[.int .i64 arc,.slice A2 l.length c2,.int .i64 en,.int .i64 le]) wr rfl;have hwy:=bw1 wr (.cells #[arc,.slice A2 l.length c2,en,le] 97);have hown2:=hown.alloc (.cells #[arc,.slice A2 l.length c2,en,le] 97);have hbs2:=hbr.trans (hwy.mono hbr.size);have hbw2:=hbw.trans (hwy.mono hbw.size);have HNY0:=hid (show ∀j,u6.ownBlock=some j→j<wr.heap.size from fun j e=>(World.ownsRow.lt hown j e).2);obtain⟨nr,hnr⟩:∃z,fU l (entN g l en le)=z:=⟨_,rfl⟩;obtain⟨nl,hnl⟩:∃z,ir l (leaN g l en le)=z:=⟨_,rfl⟩;have cE:=hid fun W (hb:Below w.heap.size w W)=>(qe g arc A2 c2 l en le w W hb hRl (by omega) hlc hcm)
   have cV:=hid fun W (hb:Below w.heap.size w W)=>(lO g arc A2 c2 l en le w W hb hRl (by omega) hlc hcm)
   have HRM:=hid (show(∀p∈nr,Nr p)∧(∀p∈nl,Nr p)∧nr.length≤1000000∧nl.length≤1000000 from by
    have h1:=qS l (entN g l en le) (leaN g l en le);have h2:=qT l (entN g l en le) (leaN g l en le);rw[hnr,hnl]at h1 h2
    exact⟨fun p hp=>hpn p (h1.1 p hp),fun p hp=>hpn p (h1.2 p hp),by omega,by omega⟩)
   rw[hnr]at cE HSK;rw[hnl]at cV HSK;unfold egE pcV at cE cV;clear hown hbr hbw hnr hnl hRl hlc hcm hll hpn;go_upto_region 8 with fail;generalize wr.alloc (.cells #[arc,.slice A2 l.length c2,en,le] 97)=w5 at *;generalize wr.heap.size=nY at *;clear c0 c1 c2' c3 hwy;have HB5:=hid (And.intro hbs2 hbw2);obtain⟨r0,r1,r2,r3,r4⟩:=HG.out w5 hbs2;have y0:=hyb.cell 0;have y1:=hyb.cell 1;have y2:=hyb.cell 2;have y3:=hyb.cell 3;simp only[pcC,gz,gs]at y0 y1 y2 y3;clear hbs2 hbw2;go_wp2_with fail;refine(cE.out _ HB5.out.2).mono ?_;rintro e w6 ⟨Ar,cr,rfl,hRr,hb6⟩;have HRR:=hid hRr;have hyb6:=hyb.below hb6;have hown6:=hown2.below hb6;have HB6:=hid (And.intro (HB5.out.1.trans (hb6.mono HB5.out.1.size)) (HB5.out.2.trans (hb6.mono HB5.out.2.size)));have cO:=hid (jq g f Ar cr nr B nodes.length w6 (hRr.below HB6.out.2) (by have:=HRM.out;omega) (HM.out w6 HB6.out.1) (fun p hp=>jb (HRM.out.1 p hp)));unfold egE at cO;obtain⟨r0,r1,r2,r3,r4⟩:=HG.out w6 HB6.out.1;clear y0 y1 y2 y3 hyb hown2 hb6 hRr cE HB5;go_wp2_with fail;refine cO.out.mono ?_;rintro e w7 ⟨rfl,hb7⟩;have hyb7:=hyb6.below hb7;have hown7:=hown6.below hb7;have HB7:=hid (And.intro (HB6.out.1.trans (hb7.mono HB6.out.1.size)) (HB6.out.2.trans (hb7.mono HB6.out.2.size)));have HC0:=hid (show crR g f arc 0 nr=if openB g f nr=true then [(g.u nr[nr.length-1]!,arc,0)] else [] from rfl);have HO0:=hid (show openB g f nr=true→nr≠[] from fun h e=>by subst e;cases h);generalize openB g f nr=ob at *;generalize crR g f arc 0 nr=R0 at *;clear r0 r1 r2 r3 r4 hb7 hyb6 hown6 HB6 cO;go_upto_if 39 with fail;go_cut [6] from 40 to 53 (fun v6 wx=>Own 65 3 bc wx w1.heap.size v6 (X++R0)∧Below w1.heap.size w1 wx∧Bx wx nY 97 (pcC arc A2 l.length c2 en le)∧Hid (v6.ownBlock≠some nY))
   case first=>
    cases ob
    ·obtain rfl:R0=[]:=HC0.out
     go_wp2_with fail;go_meet;exact⟨by rw[List.append_nil];exact hown7,HB7.out.1,hyb7,hid (fun e=>by have:=HNY0.out nY e;omega)⟩
    ·have hR0:R0=[(g.u nr[nr.length-1]!,arc,0)]:=HC0.out
     have h0:=HO0.out rfl;have hru:=List.length_pos_iff.2 h0;obtain⟨m,hm'⟩:∃m,nr.length=m+1:=⟨nr.length-1,by omega⟩;obtain⟨br,of,rfl,_,_⟩:=RdR.get HRR.out (Below.refl _ _) hru
     have HRL:=hid (show ∀W,Below w1.heap.size w1 W→W.cell? ⟨br,of+m*2,none⟩=some (.int .i64 nr[m]!.1)∧W.cell? ⟨br,of+m*2+1,none⟩=some (.int .i64 nr[m]!.2)from fun W h=>by
      obtain⟨b',o',e,_,q1,q2⟩:=RdR.get HRR.out (HW1.out.trans (h.mono HW1.out.size)) (show m<nr.length by omega);injection e with e;injection e with e1 e2;subst e1 e2
      exact⟨q1,q2⟩)
     have hlast:nr[nr.length-1]! = nr[m]!:=by rw[hm'];rfl
     obtain⟨pl,hpl⟩:∃z,nr[m]! = z:=⟨_,rfl⟩;rw[hpl]at HRL;rw[hlast,hpl]at hR0;have cL:=hid fun W=>fN g pl W
     unfold egE at cL;obtain⟨px,py⟩:=pl;unfold ae at cL;dsimp only at HRL cL;have hw1:(nr.length:Int)-1=(m:Int):=by omega
     have hw2:=IntWalk.i64_in ((nr.length:Int)-1) (by have:=HRM.out;omega);rw[hw1]at hw2;have hw3:(m:Int)<(nr.length:Int):=by omega
     have hw4:(0:Int)≤(m:Int):=by omega
     obtain⟨uu,huu⟩:∃z,g.u (px,py)=z:=⟨_,rfl⟩;rw[huu]at cL hR0;have HR0:=hid hR0;clear hR0;have hbS:=HB7.out.1;have hy:=hyb7;have hown:=hown7;clear hpl hlast hm' huu hyb7 hown7 h0 hru;have HNY:=hid (show u6.ownBlock≠some nY from fun e=>by have:=HNY0.out nY e;omega);have hN:X.length+1≤1000000000000:=by omega
     go_upto_region 10 with fail;have hS1:(fun W:World=>Below w1.heap.size w1 W∧Bx W nY 97 (pcC arc A2 l.length c2 en le)) w7.drew:=⟨hbS.drew,hy⟩;refine wp_region_held_drew (S:=(fun W:World=>Below w1.heap.size w1 W∧Bx W nY 97 (pcC arc A2 l.length c2 en le))) (by kernel_rfl) hS1 (fun hHeld=>?_);clear hHeld;replace hown:Own 65 3 bc w7.drew w1.heap.size u6 X:=hown;generalize hwd:w7.drew=wd at *;clear hwd;refine kk 0 rfl ?_;refine kf 1 (fun W h=>HG.out W h.1) rfl ?_;refine kk 2 rfl ?_;refine kk 3 rfl ?_;refine kk 4 rfl ?_;refine kk 5 rfl ?_;refine kk 6 rfl ?_;refine kf 7 (fun W h=>HRL.out W h.1) rfl ?_;refine kk 9 rfl ?_;refine kk 10 (hy:=by intro W hSw;have d0:=hSw.2.cell 0;simp only[pcC,gz]at d0;clear hSw;go_simp;try with_reducible rfl) rfl ?_
     refine kr 8 rfl fun K hK=>?_
     go_simp;go_at_call 37;refine(cL.out _).mono ?_;rintro e Wra1 ⟨rfl,hbWra1⟩;replace hown:=hown.below hbWra1;have hSWra1:=And.intro (hS1.1.trans (hbWra1.mono hS1.1.size)) (hS1.2.below hbWra1)
     try clear hS1
     clear hbWra1;go_wp2_with fail;refine hK.out _ _ hSWra1 (fun hHeld=>?_);clear hK hHeld K
     try simp only[Act.put,sa,sz,ss]
     refine kk 11 rfl ?_;refine kr 12 rfl fun K hK=>?_
     go_simp;have hSl12ra:=And.intro (hSWra1.1.alloc hSWra1.1.size (.cells #[.int .i64 (uu),arc,.int .i64 0] 65)) (hSWra1.2.alloc (.cells #[.int .i64 (uu),arc,.int .i64 0] 65));refine hK.out _ _ hSl12ra (fun hHeld=>?_);clear hK hHeld K
     try simp only[Act.put,sa,sz,ss]
     refine kr 13 rfl fun K hK=>?_
     refine wp_step rfl (Tryz.wpX hown (uu,arc,0) _ _ rfl rfl rfl hN hSWra1.1.size ?_);intro v9 Wra2 hO9 hg9 hl9;have hSWra2:(fun W:World=>Below w1.heap.size w1 W∧Bx W nY 97 (pcC arc A2 l.length c2 en le)) Wra2:=⟨hSWra1.1.grown hg9 hSWra1.1.size (fun j hj=>(World.ownsRow.lt hown j hj).1),hSWra1.2.grown hg9 HNY.out⟩;have HP9:=hid hSWra1.2.lt;clear hSWra1 hown;refine hK.out _ _ hSWra2 (fun hHeld=>?_);clear hK hHeld K
     try simp only[Act.put,sa,sz,ss]
     refine kk 14 rfl ?_;refine wpAnyH_done (by kernel_rfl) ?_ _;have HO9:=hid hO9
     have HNZ:=hid (show v9.ownBlock≠some nY from fun e=>by
      rcases hl9 with h|⟨j,h,hj⟩
      ·exact HNY.out (h▸e)
      ·rw[h]at e
       have e:j=nY:=(by injection e);have:=HP9.out
       omega)
     clear hl9;have HS9:=hid hSWra2;clear hO9 hg9 hSWra2;go_wp2_with fail;go_meet;exact⟨by rw[HR0.out];exact HO9.out,HS9.out.1,HS9.out.2,HNZ⟩
   case rest=>
    obtain⟨hown8,hb8,hy8,HNY8⟩:=hcut;generalize wc=w8 at *;have HB8:=hid (And.intro hb8 (HW1.out.trans (hb8.mono HW1.out.size)));obtain⟨r0,r1,r2,r3,r4⟩:=HG.out w8 hb8;have y0:=hy8.cell 0;have y1:=hy8.cell 1;have y2:=hy8.cell 2;have y3:=hy8.cell 3;simp only[pcC,gz,gs]at y0 y1 y2 y3;have HNY7:=hid (show ∀W,Below w8.heap.size w8 W→Own 65 3 bc W w1.heap.size u6 (X++R0)∧Bx W nY 97 (pcC arc A2 l.length c2 en le)∧Below w1.heap.size w1 W∧Below w.heap.size w W from fun W h=>⟨hown8.below h,hy8.below h,hb8.trans (h.mono hb8.size),HB8.out.2.trans (h.mono HB8.out.2.size)⟩);have HL0:=hid (show R0.length≤1 from by rw[HC0.out];split<;>simp)
    clear hown8 hb8 hy8 HRR HB7 hown7 hyb7;go_wp2_with fail;refine(cV.out _ HB8.out.2).mono ?_;rintro e w9 ⟨Ar',cr',rfl,hRr,hb9⟩;have HRR:=hid hRr;have HB9:=hid (And.intro (HB8.out.1.trans (hb9.mono HB8.out.1.size)) (HB8.out.2.trans (hb9.mono HB8.out.2.size)));have cO:=hid (jq g f Ar' cr' nl B nodes.length w9 (hRr.below HB9.out.2) (by have:=HRM.out;omega) (HM.out w9 HB9.out.1) (fun p hp=>jb (HRM.out.2.1 p hp)));unfold egE at cO;have HBZ:=hid hb9;clear r0 r1 r2 r3 r4 y0 y1 y2 y3 hb9 hRr cV;obtain⟨r0,r1,r2,r3,r4⟩:=HG.out w9 HB9.out.1;go_wp2_with fail;refine cO.out.mono ?_;rintro e w10 ⟨rfl,hb10⟩;obtain⟨hown10,hyb10,hbb10,hbw10⟩:=HNY7.out _ (HBZ.out.trans (hb10.mono HBZ.out.size));have HB10:=hid (And.intro hbb10 hbw10);have HC1:=hid (show crR g f arc 1 nl=if openB g f nl=true then [(g.u nl[nl.length-1]!,arc,1)] else [] from rfl);have HO1:=hid (show openB g f nl=true→nl≠[] from fun h e=>by subst e;cases h);generalize openB g f nl=oc at *;generalize crR g f arc 1 nl=R1 at *;clear r0 r1 r2 r3 r4 hb10 HBZ HB9 HNY7 cO hbb10 hbw10;go_upto_if 60 with fail;cases oc
    ·obtain rfl:R1=[]:=HC1.out
     clear hyb10;go_wp2_with fail;go_roundw
     case rel=>exact⟨k+1,by omega,by go_num,by rw[HSK.out,List.append_nil];exact hown10,HB10.out.1⟩
     case measure=>simp[intOf];omega
    ·have hR0:R1=[(g.u nl[nl.length-1]!,arc,1)]:=HC1.out
     have h0:=HO1.out rfl;have hru:=List.length_pos_iff.2 h0;obtain⟨m,hm'⟩:∃m,nl.length=m+1:=⟨nl.length-1,by omega⟩;obtain⟨br,of,rfl,_,_⟩:=RdR.get HRR.out (Below.refl _ _) hru
     have HRL:=hid (show ∀W,Below w1.heap.size w1 W→W.cell? ⟨br,of+m*2,none⟩=some (.int .i64 nl[m]!.1)∧W.cell? ⟨br,of+m*2+1,none⟩=some (.int .i64 nl[m]!.2)from fun W h=>by
      obtain⟨b',o',e,_,q1,q2⟩:=RdR.get HRR.out (HW1.out.trans (h.mono HW1.out.size)) (show m<nl.length by omega);injection e with e;injection e with e1 e2;subst e1 e2
      exact⟨q1,q2⟩)
     have hlast:nl[nl.length-1]! = nl[m]!:=by rw[hm'];rfl
     obtain⟨pl,hpl⟩:∃z,nl[m]! = z:=⟨_,rfl⟩;rw[hpl]at HRL;rw[hlast,hpl]at hR0;have cL:=hid fun W=>fN g pl W
     unfold egE at cL;obtain⟨px,py⟩:=pl;unfold ae at cL;dsimp only at HRL cL;have hw1:(nl.length:Int)-1=(m:Int):=by omega
     have hw2:=IntWalk.i64_in ((nl.length:Int)-1) (by have:=HRM.out;omega);rw[hw1]at hw2;have hw3:(m:Int)<(nl.length:Int):=by omega
     have hw4:(0:Int)≤(m:Int):=by omega
     obtain⟨uu,huu⟩:∃z,g.u (px,py)=z:=⟨_,rfl⟩;rw[huu]at cL hR0;have HR0:=hid hR0;clear hR0;have hbS:=HB10.out.1;have hy:=hyb10;have hown:=hown10;clear hpl hlast hm' huu hyb10 hown10 h0 hru;have HNY:=hid (show u6.ownBlock≠some nY from HNY8.out);have hN:(X++R0).length+1≤1000000000000:=by rw[List.length_append];have:=HL0.out;omega
     go_upto_region 13 with fail;have hS1:(fun W:World=>Below w1.heap.size w1 W∧Bx W nY 97 (pcC arc A2 l.length c2 en le)) w10.drew:=⟨hbS.drew,hy⟩;refine wp_region_held_drew (S:=(fun W:World=>Below w1.heap.size w1 W∧Bx W nY 97 (pcC arc A2 l.length c2 en le))) (by kernel_rfl) hS1 (fun hHeld=>?_);clear hHeld;replace hown:Own 65 3 bc w10.drew w1.heap.size u6 (X++R0):=hown;generalize hwd:w10.drew=wd at *;clear hwd;refine kk 0 rfl ?_;refine kf 1 (fun W h=>HG.out W h.1) rfl ?_;refine kk 2 rfl ?_;refine kk 3 rfl ?_;refine kk 4 rfl ?_;refine kk 5 rfl ?_;refine kk 6 rfl ?_;refine kf 7 (fun W h=>HRL.out W h.1) rfl ?_;refine kk 9 rfl ?_;refine kk 10 (hy:=by intro W hSw;have d0:=hSw.2.cell 0;simp only[pcC,gz]at d0;clear hSw;go_simp;try with_reducible rfl) rfl ?_
     refine kr 8 rfl fun K hK=>?_
     go_simp;go_at_call 37;refine(cL.out _).mono ?_;rintro e Wrb1 ⟨rfl,hbWrb1⟩;replace hown:=hown.below hbWrb1;have hSWrb1:=And.intro (hS1.1.trans (hbWrb1.mono hS1.1.size)) (hS1.2.below hbWrb1)
     try clear hS1
     clear hbWrb1;go_wp2_with fail;refine hK.out _ _ hSWrb1 (fun hHeld=>?_);clear hK hHeld K
     try simp only[Act.put,sa,sz,ss]
     refine kk 11 rfl ?_;refine kr 12 rfl fun K hK=>?_
     go_simp;have hSl12rb:=And.intro (hSWrb1.1.alloc hSWrb1.1.size (.cells #[.int .i64 (uu),arc,.int .i64 1] 65)) (hSWrb1.2.alloc (.cells #[.int .i64 (uu),arc,.int .i64 1] 65));refine hK.out _ _ hSl12rb (fun hHeld=>?_);clear hK hHeld K
     try simp only[Act.put,sa,sz,ss]
     refine kr 13 rfl fun K hK=>?_
     refine wp_step rfl (Tryz.wpX hown (uu,arc,1) _ _ rfl rfl rfl hN hSWrb1.1.size ?_);intro v9 Wrb2 hO9 hg9 hl9;have hSWrb2:(fun W:World=>Below w1.heap.size w1 W∧Bx W nY 97 (pcC arc A2 l.length c2 en le)) Wrb2:=⟨hSWrb1.1.grown hg9 hSWrb1.1.size (fun j hj=>(World.ownsRow.lt hown j hj).1),hSWrb1.2.grown hg9 HNY.out⟩;have HP9:=hid hSWrb1.2.lt;clear hSWrb1 hown;refine hK.out _ _ hSWrb2 (fun hHeld=>?_);clear hK hHeld K
     try simp only[Act.put,sa,sz,ss]
     refine kk 14 rfl ?_;refine wpAnyH_done (by kernel_rfl) ?_ _;have HO9:=hid hO9
     have HNZ:=hid (show v9.ownBlock≠some nY from fun e=>by
      rcases hl9 with h|⟨j,h,hj⟩
      ·exact HNY.out (h▸e)
      ·rw[h]at e
       have e:j=nY:=(by injection e);have:=HP9.out
       omega)
     clear hl9;have HS9:=hid hSWrb2;clear hO9 hg9 hSWrb2;go_wp2_with fail;go_roundw
     case rel=>exact⟨k+1,by omega,by go_num,by rw[HSK.out,HR0.out];exact HO9.out,HS9.out.1⟩
     case measure=>simp[intOf];omega
  ·obtain rfl:k=pcs.length:=by omega
   have hge:¬(pcs.length:Int)<(pcs.length:Int):=by omega
   have HB:=hid (HW1.out.trans (hbr.mono HW1.out.size));have hlen:(crS g f (pcs.take pcs.length)).length≤10000000000:=by have:=HLE.out pcs.length;have:=HK.out.1;rw[List.length_take]at *;omega
   have hso:=ie _ wr w1.heap.size _ hown hlen;have HLT:=hid (World.ownsRow.lt hown);have HBR:=hid hbr;rw[←HSN.out]at hso;clear hown hbr hlen;go_wp2_with fail;refine hso.mono ?_;rintro e w9 ⟨rfl,L,hp,hs,ho,hg⟩;have HO:=hid (ho.mono HW1.out.size);have HPS:=hid (And.intro hp hs);have HB9:=hid (HB.out.grown hg (by have:=HB.out.size;exact this) (fun j hj=>by have:=HLT.out j hj;have:=HW1.out.size;omega));clear ho hp hs hg;go_wp2_with fail;go_ret2;exact⟨_,L,rfl,HPS.out.1,HPS.out.2,HO.out,HB9.out⟩
end Go.Proofs
namespace Go.Proofs
open Go.RowKit Go.Proofs.Mp Go.Lib Go.Proofs.Ed
structure Prt where
 sheet:Int
 pcs:List Pe
 nodes:List Nd
instance:Inhabited Prt:=⟨⟨0,[],[]⟩⟩
abbrev PtV:=Int×Value×Value
def iW(b:PtV):List Value:=[.int .i64 b.1,b.2.1,b.2.2]
theorem iV(b:PtV):(iW b).length=3:=rfl
def RPt:Rel PtV Prt:=fun w b x ok=>b.1=x.sheet∧iz w b.2.1 x.pcs ok∧SlF 3 aQ w b.2.2 x.nodes ok
theorem RPt.foot:Foot RPt where
 mono:=fun ⟨h1,h2,h3⟩ h=>⟨h1,(SlG.foot 4 dW RPc.foot).mono h2 h,(SlF.foot 3 aQ).mono h3 h⟩
 keep:=fun ⟨h1,h2,h3⟩ hs hk=>⟨h1,(SlG.foot 4 dW RPc.foot).keep h2 hs hk,(SlF.foot 3 aQ).keep h3 hs hk⟩
theorem RPt.one{w:World}{b:PtV}{x:Prt}{ok:Nat→Prop}(h:RPt w b x ok):∀u∈iW b,u.oneCell'=true:=by
 obtain⟨_,⟨_,_,⟨A,c,e,_⟩,_⟩,⟨A',c',e',_⟩⟩:=h;intro u hu;simp only[iW,List.mem_cons,List.not_mem_nil,or_false]at hu
 rcases hu with rfl|rfl|rfl
 ·rfl
 ·rw[e];rfl
 ·rw[e'];rfl
def fX(b:Bx4)(p:Pn)(k:Nat):List Pe:=(List.range k).flatMap fun j=>pcS b p.arcs[j]!.id (pth p j)
theorem fW(b:Bx4)(p:Pn)(k:Nat):fX b p (k+1)=fX b p k++pcS b p.arcs[k]!.id (pth p k):=by
 unfold fX;rw[List.range_succ,List.flatMap_append];simp
def dM(b:Bx4)(l:List Nd):List Nd:=l.filter fun n=>inB b n.2
theorem nR{b:Bx4}{l:List Nd}{k:Nat}(h:k<l.length):dM b (l.take (k+1))=dM b (l.take k)++(if inB b l[k]!.2=true then [l[k]!] else []):=by
 unfold dM;rw[List.take_succ_eq_append_getElem h,List.filter_append,getElem!_pos l k h]
 congr 1
 by_cases h2:inB b l[k].2=true
 ·rw[if_pos h2];simp[List.filter_cons,h2]
 ·rw[if_neg h2];simp[List.filter_cons,h2]
def partS(p:Pn)(n:Int)(b:Bx4):Prt:=⟨n,fX b p p.arcs.length,dM b p.nodes⟩
theorem eG(b:Bx4):∀(r:List Pt) (p:Pt) (x:Option Pc),(pcF b p r x).length≤r.length+1
 | [],p,x=>by
  have:=gG 0 x;unfold er at this;rw[List.length_map]at this;exact this
 | q::r,p,x=>by
  have hf:∀y,(fin y).length≤1:=fun y=>by have:=gG 0 y;unfold er at this;rwa [List.length_map]at this
  cases h:clipS p q b with
  | none=>
   rw[pc_none h,List.length_append];have:=eG b r q none;have:=hf x;rw[List.length_cons];omega
  | some cd=>
   obtain⟨c,d⟩:=cd;cases x with
   | none=>
    rw[pc_new h];split
    ·have:=eG b r q (some ([c,d],thr p q b,thr q p b));rw[List.length_cons];omega
    ·have h1:=eG b r q none
     have h2:=hf (some ([c,d],thr p q b,thr q p b));rw[List.length_append,List.length_cons];omega
   | some y=>
    obtain⟨P,E,L⟩:=y;rw[pc_more h];split
    ·have:=eG b r q (some (P++[d],E,thr q p b));rw[List.length_cons];omega
    ·have h1:=eG b r q none
     have h2:=hf (some (P++[d],E,thr q p b));rw[List.length_append,List.length_cons];omega
theorem mo(b:Bx4)(arc:Int)(l:List Pt):(pcS b arc l).length≤l.length+1:=by
 cases l with
 | nil=>exact Nat.zero_le _
 | cons p r=>
  show((pcF b p r none).map fun y=>(arc,y)).length≤_
  rw[List.length_map];have:=eG b r p none;rw[List.length_cons];omega
def PtS(w:World)(n:Nat)(sh:Int)(vp vn:Value)(L:List Pe)(N:List Nd):Prop:=
 Bx w n 54 [sh,vp,vn]∧fo w (n+1) vp L (fun g=>n+1≤g∧vn.ownBlock≠some g)∧Own 71 3 aQ w (n+1) vn N∧(∀g,vn.ownBlock=some g→vp.ownBlock≠some g)
theorem PtS.below{w w':World}{n:Nat}{sh:Int}{vp vn:Value}{L:List Pe}{N:List Nd}(h:PtS w n sh vp vn L N)(hb:Below w.heap.size w w'):PtS w' n sh vp vn L N:=
 ⟨h.1.below hb,h.2.1.below RPc.foot hb,h.2.2.1.below hb,h.2.2.2⟩
theorem Tryz.wpN{w:World}{base:Nat}{v:Value}{xs:List Nd}{o:Oper}{a:Act}{K:Act→World→Prop}{Q:Exit→Act→World→Prop}
  (hown:Own 71 3 aQ w base v xs)(y:Nd)(s x:Operand)
  (ho:o.op=.call { callee:=.builtin .append,args:=#[s,x],argTypes:=#[22,22] })(hs:a.eval s=v)(hx:a.eval x=.slice (some ⟨w.heap.size,0,none⟩) 1 1)
  (hN:xs.length+1≤1000000000000)(hbase:base≤w.heap.size)
  (h:∀v' w',Own 71 3 aQ w' base v' (xs++[y])→w.grownBy w' v.ownBlock→(v'.ownBlock=v.ownBlock∨∃j,v'.ownBlock=some j∧w.heap.size≤j)→K (a.put o.dst v') w') :
  o.wp Tryz.prog a (w.alloc (.cells #[y.1,y.2.1,y.2.2] 71)) K Q:=by
 obtain⟨i0,hi0,hz0,hz1,hz2⟩:=Mp.info_parts Tryz.infoN;exact Own.wpAt 22 i0 (.agg #[.int .i64 0,.int .i64 0,.int .i64 0]) 24 Tryz.underlying22 hi0 hz0 hz1 hz2 rfl (by decide) (by decide) dE y (kE y) s x ho hown hs hx (by omega) hbase h
theorem Tryz.wpPcs{w:World}{base:Nat}{v:Value}{L M:List Pe}{ok:Nat→Prop}{vk:Value}{o:Oper}{a:Act}{K:Act→World→Prop}{Q:Exit→Act→World→Prop}
  (hown:fo w base v L ok)(hK:iz w vk M (fun g=>ok g∧v.ownBlock≠some g))(s r:Operand)
  (ho:o.op=.call { callee:=.builtin .append,args:=#[s,r],argTypes:=#[52,52] })(hs:a.eval s=v)(hx:a.eval r=vk)
  (hN:L.length+M.length≤1000000000)(hbase:base≤w.heap.size)
  (h:∀v' w',fo w' base v' (L++M) ok→w.grownBy w' v.ownBlock→(v'.ownBlock=v.ownBlock∨∃j,v'.ownBlock=some j∧w.heap.size≤j)→K (a.put o.dst v') w'):o.wp Tryz.prog a w K Q:=by
 obtain⟨i0,hi0,hz0,hz1,hz2⟩:=Mp.info_parts Tryz.infoPc;exact OwG.wpAll 52 i0 (.agg #[.int .i64 0,.slice none 0 0,.int .i64 0,.int .i64 0]) 48 Tryz.underlying52 hi0 hz0 hz1 hz2 rfl (by decide) (by decide) eM RPc.foot (fun y x h=>RPc.one h) s r ho hown hK hs hx (by omega) hbase h
theorem PtS.pieces{w w':World}{n:Nat}{sh:Int}{vp v' vn:Value}{L L':List Pe}{N:List Nd}(h:PtS w n sh vp vn L N)(ho:fo w' (n+1) v' L' (fun g=>n+1≤g∧vn.ownBlock≠some g))(hg:w.grownBy w' vp.ownBlock)
  (hl:v'.ownBlock=vp.ownBlock∨∃j,v'.ownBlock=some j∧w.heap.size≤j):PtS (w'.setCell ⟨n,1,none⟩ v') n sh v' vn L' N:=by
 obtain⟨h1,h2,h3,h4⟩:=h;have hgs:w'.grownBy (w'.setCell ⟨n,1,none⟩ v') (some n):=aj _ _ _;have hnv:vp.ownBlock≠some n:=fun e=>by have:=(h2.lt e).1;omega
 refine⟨(h1.grown hg hnv).set 1 v',ho.grown RPc.foot hgs (fun q e=>?_),?_,fun g e1 e2=>?_⟩
 ·have e:n=q:=by injection e
  rintro (⟨_,h⟩|⟨h,_⟩)<;>omega
 ·have a:Own 71 3 aQ w' (n+1) vn N:=World.ownsRow.kept h3 hg (by
   rcases hb:vn.ownBlock with _|j
   ·exact .inl rfl
   ·exact .inr fun e=>h4 j hb e.symm)
  refine World.ownsRow.kept a hgs ?_
  rcases hb:vn.ownBlock with _|j
  ·exact .inl rfl
  ·refine .inr fun e=>?_
   have e:j=n:=by injection e
   have:=(World.ownsRow.lt h3 j hb).1;omega
 ·rcases hl with hl|⟨j,hl,hj⟩
  ·exact h4 g e1 (hl▸e2)
  ·rw[hl]at e2
   have e:j=g:=by injection e2
   have:=(World.ownsRow.lt h3 g e1).2;omega
theorem PtS.node{w w':World}{n:Nat}{sh:Int}{vp v' vn:Value}{L:List Pe}{N N':List Nd}(h:PtS w n sh vp vn L N)(ho:Own 71 3 aQ w' (n+1) v' N')(hg:w.grownBy w' vn.ownBlock)
  (hl:v'.ownBlock=vn.ownBlock∨∃j,v'.ownBlock=some j∧w.heap.size≤j):PtS (w'.setCell ⟨n,2,none⟩ v') n sh vp v' L N':=by
 obtain⟨h1,h2,h3,h4⟩:=h;have hgs:w'.grownBy (w'.setCell ⟨n,2,none⟩ v') (some n):=aj _ _ _;have hnv:vn.ownBlock≠some n:=fun e=>by have:=(World.ownsRow.lt h3 n e).1;omega
 have hq:∀q,q<w.heap.size→vn.ownBlock≠some q→v'.ownBlock≠some q:=by
  intro q hq hne e
  rcases hl with hl|⟨j,hl,hj⟩
  ·exact hne (hl▸e)
  ·rw[hl]at e;have e:j=q:=by injection e
   omega
 have a:fo w (n+1) vp L (fun g=>n+1≤g∧v'.ownBlock≠some g∧vn.ownBlock≠some g):=h2.mono RPc.foot (Nat.le_refl _) (fun g h1 _ h=>⟨h.1,hq g h1 h.2,h.2⟩)
 have a2:fo w' (n+1) vp L (fun g=>n+1≤g∧v'.ownBlock≠some g):=(a.grown RPc.foot hg (fun q e=>by
  rintro (⟨h,_⟩|⟨_,_,h⟩)
  ·exact h4 q e h
  ·exact h e)).mono RPc.foot (Nat.le_refl _) (fun g _ _ h=>⟨h.1,h.2.1⟩)
 refine⟨(h1.grown hg hnv).set 2 v',a2.grown RPc.foot hgs (fun q e=>?_),World.ownsRow.kept ho hgs ?_,fun g e1 e2=>?_⟩
 ·have e:n=q:=by injection e
  rintro (⟨_,h⟩|⟨h,_⟩)<;>omega
 ·rcases hb:v'.ownBlock with _|j
  ·exact .inl rfl
  ·refine .inr fun e=>?_
   have e:j=n:=by injection e
   have:=(World.ownsRow.lt ho j hb).1;omega
 ·exact hq g (h2.lt e2).2 (fun e=>h4 g e e2) e1
theorem oG(p:Pn)(m:Mem)(sh:Int)(b:Bo)(w:World)(hR:PlR w p m)(hC:CheckP p)(hb:PB b) :
  Calls Tryz.prog 26 #[plV p m,sh,bj b] w (fun e w'=>∃y:PtV,e=.returned (.agg #[y.1,y.2.1,y.2.2])∧RPt w' y (partS p sh b.to) (fun g=>w.heap.size≤g)∧Below w.heap.size w w'):=by
 have HA:=hid fun (k:Nat) (hk:k<p.arcs.length) W hb=>hR.arc (W:=W) hb hk
 have HND:=hid fun (k:Nat) (hk:k<p.nodes.length) W hb=>hR.node (W:=W) hb hk
 have cPa:=hid fun id W (hb:Below w.heap.size w W)=>bJ p m id W (hR.below hb)
 have HCk:=hid hC;have hal:=hC.l2;have hnl:=hC.l1;have HPL:=hid (fun k (hk:k<p.arcs.length)=>(show(pth p k).length≤66 from by rw[hC.pre.plen hk];have:=hC.lv k hk;omega));have cIn:=hid fun q W=>fK b q W
 have HIN:=hid (fun q:Pt=>(show decide (b.x0≤q.1∧q.1≤b.x1∧b.y0≤q.2∧q.2≤b.y1)=inB b.to q by unfold inB Bo.to;simp[Bool.decide_and,Bool.and_assoc]));have cPc0:=hid fun arc A c path W h1 h2 h3=>kP arc A c path b W h1 h2 hb h3
 have HT1:=hid (fW b.to p);have HT0:=hid (show fX b.to p 0=[] from rfl);have HTL:=hid (mo b.to);have HN1:=hid fun k (h:k<p.nodes.length)=>nR (b:=b.to) h
 have HFIN:=hid (show ∀w' y ok,RPt w' y ⟨sh,fX b.to p p.arcs.length,dM b.to p.nodes⟩ ok→RPt w' y (partS p sh b.to) ok from fun _ _ _ h=>h);generalize partS p sh b.to=PS at *;have hplV:plV p m=.agg #[.slice m.an p.nodes.length m.cn,.slice m.aa p.arcs.length m.ca,.slice m.af p.faces.length m.cf]:=rfl;rw[hplV]at cPa ⊢;clear hR hC hb hplV;obtain⟨an,aa,af,cn,ca,cf,vs⟩:=m;obtain⟨x0,y0,x1,y1⟩:=b;unfold bj at *;dsimp only at *;generalize Bo.to ⟨x0,y0,x1,y1⟩=bb at *;have ha:=Bx.new (t:=26) (cs:=[.slice an p.nodes.length cn,.slice aa p.arcs.length ca,.slice af p.faces.length cf]) w rfl;have hb:=Bx.newAt (b:=w.heap.size+1) (t:=48) (cs:=[.int .i64 x0,.int .i64 y0,.int .i64 x1,.int .i64 y1]) (w.alloc (.cells #[.slice an p.nodes.length cn,.slice aa p.arcs.length ca,.slice af p.faces.length cf] 26)) (by simp) rfl;have hx:=Bx.newAt (b:=w.heap.size+1+1) (t:=54) (cs:=[.int .i64 0,.slice none 0 0,.slice none 0 0]) ((w.alloc (.cells #[.slice an p.nodes.length cn,.slice aa p.arcs.length ca,.slice af p.faces.length cf] 26)).alloc (.cells #[x0,y0,x1,y1] 48)) (by simp) rfl;have ha2:=(ha.alloc (.cells #[x0,y0,x1,y1] 48)).alloc (.cells #[.int .i64 0,.slice none 0 0,.slice none 0 0] 54);have hb2:=hb.alloc (.cells #[.int .i64 0,.slice none 0 0,.slice none 0 0] 54);have hw:=((bw1 w (.cells #[.slice an p.nodes.length cn,.slice aa p.arcs.length ca,.slice af p.faces.length cf] 26)).alloc (bw1 _ _).size (.cells #[x0,y0,x1,y1] 48)).alloc (by simp;omega) (.cells #[.int .i64 0,.slice none 0 0,.slice none 0 0] 54);go_enter Tryz.func26,Tryz.ntmps26;go_upto_region 1 with fail;generalize ((w.alloc (.cells #[.slice an p.nodes.length cn,.slice aa p.arcs.length ca,.slice af p.faces.length cf] 26)).alloc (.cells #[x0,y0,x1,y1] 48)).alloc (.cells #[.int .i64 0,.slice none 0 0,.slice none 0 0] 54)=w0 at *;obtain⟨n,hn⟩:∃n,w.heap.size+1+1=n:=⟨_,rfl⟩;obtain⟨nB,hnB⟩:∃n,w.heap.size+1=n:=⟨_,rfl⟩;have HNN:=hid (show w.heap.size<nB∧nB<n from ⟨by omega,by omega⟩);rw[hn]at hx ⊢;rw[hnB]at hb2 ⊢;clear hn hnB ha hb;have k0:=hx.cell 0;have q0:=hx.frozen 0;have l0:=hx.lt;simp only[gz]at k0;have hx2:=hx.set 0 (.int .i64 sh);have hw2:=hx.setB hw (by have:=HNN.out;omega) 0 (.int .i64 sh);have ha3:=ha2.other (n:=n) (by have:=HNN.out;omega) 0 (.int .i64 sh);have hb3:=hb2.other (n:=n) (by have:=HNN.out;omega) 0 (.int .i64 sh);have hz2:(w0.setCell ⟨n,0,none⟩ (.int .i64 sh)).heap.size=w0.heap.size:=by simp[World.setCell]
 go_upto_region 2 with fail;generalize w0.setCell ⟨n,0,none⟩ (.int .i64 sh)=w1 at *;have HPT1:Hid (PtS w1 n sh (.slice none 0 0) (.slice none 0 0) [] []):=hid ⟨hx2,OwG.nil _ _ _,Own.nil _ _,fun g e=>by cases e⟩;have HA1:=hid (And.intro ha3 hb3);have HW1:=hid hw2;have a1:=ha3.cell 1;simp only[gz,gs]at a1;clear k0 q0 l0 hx hx2 ha2 hb2 hw hw2 ha3 hb3 hz2;go_wp2_with fail;go_loopw [18] (fun i wr=>∃(k:Nat) (vp:Value) (L:List Pe),k≤p.arcs.length∧i=.int .i64 k∧PtS wr n sh vp (.slice none 0 0) L []∧Hid (L=fX bb p k∧L.length≤k*67)∧Bx wr w.heap.size 26 [.slice an p.nodes.length cn,.slice aa p.arcs.length ca,.slice af p.faces.length cf]∧Bx wr nB 48 [x0,y0,x1,y1]∧Below w.heap.size w wr) (fun i _=>p.arcs.length-(intOf i).toNat)
 case atStart=>exact⟨0,_,[],by omega,rfl,HPT1.out,hid ⟨HT0.out.symm,by simp⟩,HA1.out.1,HA1.out.2,HW1.out⟩
 case round=>
  obtain⟨k,vp,L,hk,rfl,hpt,HL,hpb,hbb,hbr⟩:=hrel
  by_cases hlt:k<p.arcs.length
  ·have hli:(k:Int)<(p.arcs.length:Int):=by omega
   obtain⟨b,off,A,c,rfl,hbl,a0,a1,a2,a3,a4,a5,_,_,_⟩:=HA.out k hlt wr hbr;have HSK:=hid (HT1.out k);have hpk:=HCk.out.pre.path hlt;rw[←HCk.out.pre.pth hlt]at hpk;have HNP:=hid (show ∀j,j<(pth p k).length→Nr (pth p k)[j]! from fun j hj=>HCk.out.pre.ok.pr k hlt j hj);have hpl:=HPL.out k hlt;have HPC:=hid (HTL.out p.arcs[k]!.id (pth p k));have cPk:=hid (cPa.out p.arcs[k]!.id);rw[hpk]at cPk;have hpne:pth p k≠[]:=fF hpk;generalize p.arcs[k]! = ar at *;obtain⟨arc,afr,ad,av,al,art⟩:=ar;dsimp only at a0 a1 a2 a3 a4 a5 HSK cPk HPC;generalize pth p k=path at *;clear hpk;have hA:=Bx.new (t:=58) (cs:=[.int .i64 arc,.int .i64 afr,.int .i64 ad,.slice A av.length c,.int .i64 al,.int .i64 art]) wr rfl;have hwA:=bw1 wr (.cells #[arc,afr,ad,.slice A av.length c,al,art] 58);have hptA:=hpt.below hwA;have hpbA:=hpb.below hwA;have hbbA:=hbb.below hwA;have hbA:=hbr.trans (hwA.mono hbr.size);have HLV:=hid (show(∀q,vp.ownBlock=some q→n+1≤q∧q<wr.heap.size)∧n<wr.heap.size from ⟨fun q e=>hpt.2.1.lt e,hpt.1.lt⟩);clear hpt hpb hbb hbr hwA;go_upto_region 5 with fail;generalize wr.alloc (.cells #[arc,afr,ad,.slice A av.length c,al,art] 58)=w4 at *;generalize wr.heap.size=nA at *;clear a0 a1 a2 a3 a4 a5;have a0:=hA.cell 0;have g0:=hpbA.cell 0;have g1:=hpbA.cell 1;have g2:=hpbA.cell 2;simp only[gz,gs]at a0 g0 g1 g2;go_wp2_with fail;refine(cPk.out _ hbA).mono ?_;rintro e w6 ⟨vq,rfl,hO6,hb6⟩;obtain⟨gp,cp,rfl,hgp1,hgp2⟩:=aG hO6 hpne;have HPT:=hid (hptA.below hb6);have HPB6:=hid (hpbA.below hb6);have hnA4:=hA.lt;have HS6:=hid (show Bx w6 nA 58 _∧RdR w6 (some ⟨gp,0,none⟩) path∧gp<w6.heap.size∧Bx w6 nB 48 _∧Below w.heap.size w w6∧w6.heap.size≤w6.heap.size∧Bx w6 w.heap.size 26 _ from ⟨hA.below hb6,Own.rd encR_len hO6,hgp2,hbbA.below hb6,hbA.trans (hb6.mono hbA.size),Nat.le_refl _,HPB6.out⟩)
   have HNE:=hid (show ∀q,q=nA∨q=gp∨q=nB∨q=w.heap.size→vp.ownBlock≠some q from fun q h e=>by
    have h1:=HLV.out.1 q e;have h2:=HNN.out
    rcases h with rfl|rfl|rfl|rfl<;>omega)
   have HNX:=hid (show nA≠n∧gp≠n∧nB≠n∧w.heap.size≤n from by have h1:=HLV.out.2;have h2:=HNN.out;omega);have HLW:=hid (show ∀j,vp.ownBlock=some j→w.heap.size≤j from fun j e=>by have h1:=HLV.out.1 j e;have h2:=HNN.out;omega);obtain⟨M,hM⟩:∃z,pcS bb arc path=z:=⟨_,rfl⟩;rw[hM]at HSK HPC;have cPc:=hid fun W (h:RdR W (some ⟨gp,0,none⟩) path)=>cPc0.out arc (some ⟨gp,0,none⟩) cp path W h (by omega) HNP.out
   rw[hM]at cPc;have HW6:=hid (show n+1≤w6.heap.size∧(∀j,vp.ownBlock=some j→j<w6.heap.size)from ⟨by have:=HLV.out.2;have:=hb6.size;omega,fun j e=>by have:=HLV.out.1 j e;have:=hb6.size;omega⟩);have hN:L.length+M.length≤1000000000:=by have:=HL.out.2;have:=HPC.out;omega
   have hpl9:=HPC.out;have HFR:=hid (show ∀g,w6.heap.size≤g→(n+1≤g∧(Value.slice none 0 0).ownBlock≠some g)∧vp.ownBlock≠some g from fun g h=>⟨⟨by have:=HW6.out.1;omega,fun e=>by cases e⟩,fun e=>by have:=HW6.out.2 g e;omega⟩);clear hA hptA hpbA hbbA hbA hO6 hgp1 hgp2 hb6 a0 g0 g1 g2 hM cPk hnA4;go_upto_region 7 with fail;have hS1:(fun W:World=>Bx W nA 58 [arc,afr,ad,.slice A av.length c,al,art]∧RdR W (some ⟨gp,0,none⟩) path∧gp<W.heap.size∧Bx W nB 48 [x0,y0,x1,y1]∧Below w.heap.size w W∧w6.heap.size≤W.heap.size∧Bx W w.heap.size 26 [.slice an p.nodes.length cn,.slice (some ⟨b,off,none⟩) p.arcs.length ca,.slice af p.faces.length cf]) w6.drew:=⟨HS6.out.1,HS6.out.2.1,HS6.out.2.2.1,HS6.out.2.2.2.1,HS6.out.2.2.2.2.1.drew,HS6.out.2.2.2.2.2⟩;refine wp_region_held_drew (S:=(fun W:World=>Bx W nA 58 [arc,afr,ad,.slice A av.length c,al,art]∧RdR W (some ⟨gp,0,none⟩) path∧gp<W.heap.size∧Bx W nB 48 [x0,y0,x1,y1]∧Below w.heap.size w W∧w6.heap.size≤W.heap.size∧Bx W w.heap.size 26 [.slice an p.nodes.length cn,.slice (some ⟨b,off,none⟩) p.arcs.length ca,.slice af p.faces.length cf])) (by kernel_rfl) hS1 (fun hHeld=>?_);clear hHeld;have hpt:PtS w6.drew n sh vp (.slice none 0 0) L []:=HPT.out;generalize hwd:w6.drew=wd at *;clear hwd;refine kk 0 rfl ?_;refine kk 2 rfl ?_;refine kk 3 (hy:=by intro W hSw;have d0:=hSw.1.cell 0;simp only[gz]at d0;clear hSw;go_simp;try with_reducible rfl) rfl ?_
   refine kk 4 rfl ?_;refine kk 5 (hy:=by intro W hSw;have d0:=hSw.2.2.2.1.cell 0;have d1:=hSw.2.2.2.1.cell 1;have d2:=hSw.2.2.2.1.cell 2;have d3:=hSw.2.2.2.1.cell 3;simp only[gz,gs]at d0 d1 d2 d3;clear hSw;go_simp;try with_reducible rfl) rfl ?_
   refine' aW (fun H f l (act:Value→Act)=>∀(vk:Value) (WX:World),PtS WX n sh vp (.slice none 0 0) L []→iz WX vk M (fun g=>w6.heap.size≤g)→(fun W:World=>Bx W nA 58 [arc,afr,ad,.slice A av.length c,al,art]∧RdR W (some ⟨gp,0,none⟩) path∧gp<W.heap.size∧Bx W nB 48 [x0,y0,x1,y1]∧Below w.heap.size w W∧w6.heap.size≤W.heap.size∧Bx W w.heap.size 26 [.slice an p.nodes.length cn,.slice (some ⟨b,off,none⟩) p.arcs.length ca,.slice af p.faces.length cf]) WX→H f l (act vk) WX) (fun tailra6=>?mtailra6) ?ttailra6
   case mtailra6=>
    refine wpAnyH_ready (rs:=[1,6]) (by kernel_rfl) (by simp) ?_;refine AllReadyH.cons (o:=⟨some 32,_,_,_,_,_⟩) rfl (fun K hK=>?_) ?_
    ·skip
     have k1:=hpt.1.cell 1;simp only[gz,gs]at k1;go_simp;clear k1;refine hK.out _ _ hS1 (fun hHeld=>?_);clear hK hHeld K
     try simp only[Act.put,sa,sz,ss]
     refine kr 6 rfl fun K hK=>?_
     go_simp;go_at_call 64;refine(cPc.out _ hS1.2.1).mono ?_;rintro e Wra1 ⟨vk,rfl,hvk,hbWra1⟩;replace hpt:=hpt.below hbWra1;have hSWra1:(fun W:World=>Bx W nA 58 [arc,afr,ad,.slice A av.length c,al,art]∧RdR W (some ⟨gp,0,none⟩) path∧gp<W.heap.size∧Bx W nB 48 [x0,y0,x1,y1]∧Below w.heap.size w W∧w6.heap.size≤W.heap.size∧Bx W w.heap.size 26 [.slice an p.nodes.length cn,.slice (some ⟨b,off,none⟩) p.arcs.length ca,.slice af p.faces.length cf]) Wra1:=⟨hS1.1.below hbWra1,hS1.2.1.below hbWra1,Nat.lt_of_lt_of_le hS1.2.2.1 hbWra1.size,hS1.2.2.2.1.below hbWra1,hS1.2.2.2.2.1.trans (hbWra1.mono hS1.2.2.2.2.1.size),Nat.le_trans hS1.2.2.2.2.2.1 hbWra1.size,hS1.2.2.2.2.2.2.below hbWra1⟩;replace hvk:iz Wra1 vk M (fun g=>w6.heap.size≤g):=(SlG.foot 4 dW RPc.foot).mono hvk (fun g h1 h2=>Nat.le_trans hS1.2.2.2.2.2.1 h2)
     try clear hS1
     clear hbWra1;go_wp2_with fail;refine hK.out _ _ hSWra1 (fun hHeld=>?_);clear hK hHeld K
     try simp only[Act.put,sa,sz,ss]
     exact aC rfl rfl (tailra6 vk Wra1 hpt hvk hSWra1)
    refine AllReadyH.cons (o:=⟨some 37,_,_,_,_,_⟩) rfl (fun K hK=>?_) AllReadyH.nil;go_simp;go_at_call 64;refine(cPc.out _ hS1.2.1).mono ?_;rintro e Wra2 ⟨vk,rfl,hvk,hbWra2⟩;replace hpt:=hpt.below hbWra2;have hSWra2:(fun W:World=>Bx W nA 58 [arc,afr,ad,.slice A av.length c,al,art]∧RdR W (some ⟨gp,0,none⟩) path∧gp<W.heap.size∧Bx W nB 48 [x0,y0,x1,y1]∧Below w.heap.size w W∧w6.heap.size≤W.heap.size∧Bx W w.heap.size 26 [.slice an p.nodes.length cn,.slice (some ⟨b,off,none⟩) p.arcs.length ca,.slice af p.faces.length cf]) Wra2:=⟨hS1.1.below hbWra2,hS1.2.1.below hbWra2,Nat.lt_of_lt_of_le hS1.2.2.1 hbWra2.size,hS1.2.2.2.1.below hbWra2,hS1.2.2.2.2.1.trans (hbWra2.mono hS1.2.2.2.2.1.size),Nat.le_trans hS1.2.2.2.2.2.1 hbWra2.size,hS1.2.2.2.2.2.2.below hbWra2⟩;replace hvk:iz Wra2 vk M (fun g=>w6.heap.size≤g):=(SlG.foot 4 dW RPc.foot).mono hvk (fun g h1 h2=>Nat.le_trans hS1.2.2.2.2.2.1 h2)
    try clear hS1
    clear hbWra2;go_wp2_with fail;refine hK.out _ _ hSWra2 (fun hHeld=>?_);clear hK hHeld K
    try simp only[Act.put,sa,sz,ss]
    refine kr 1 rfl fun K hK=>?_
    have k1:=hpt.1.cell 1;simp only[gz,gs]at k1;go_simp;clear k1;refine hK.out _ _ hSWra2 (fun hHeld=>?_);clear hK hHeld K
    try simp only[Act.put,sa,sz,ss]
    exact aC (by kernel_rfl) (by kernel_rfl) (tailra6 vk Wra2 hpt hvk hSWra2)
   case ttailra6=>
    try clear hpt
    try clear hS1
    intro vk Wra3 hpt hvk hSWra3;refine kr 7 rfl fun K hK=>?_
    have hvk2:iz _ vk M (fun g=>(n+1≤g∧(Value.slice none 0 0).ownBlock≠some g)∧vp.ownBlock≠some g):=(SlG.foot 4 dW RPc.foot).mono hvk (fun g h1 h2=>HFR.out g h2);have hbz:n+1≤_:=hpt.1.lt;refine wp_step rfl (Tryz.wpPcs hpt.2.1 hvk2 _ _ rfl rfl rfl hN hbz ?_);intro v9 Wra4 hO9 hg9 hl9;have hSWra4:(fun W:World=>Bx W nA 58 [arc,afr,ad,.slice A av.length c,al,art]∧RdR W (some ⟨gp,0,none⟩) path∧gp<W.heap.size∧Bx W nB 48 [x0,y0,x1,y1]∧Below w.heap.size w W∧w6.heap.size≤W.heap.size∧Bx W w.heap.size 26 [.slice an p.nodes.length cn,.slice (some ⟨b,off,none⟩) p.arcs.length ca,.slice af p.faces.length cf]) Wra4:=⟨hSWra3.1.grown hg9 (HNE.out _ (.inl rfl)),hSWra3.2.1.keepB hg9.size (hg9.block gp hSWra3.2.2.1 (fun e=>HNE.out gp (.inr (.inl rfl)) e.symm)),Nat.lt_of_lt_of_le hSWra3.2.2.1 hg9.size,hSWra3.2.2.2.1.grown hg9 (HNE.out _ (.inr (.inr (.inl rfl)))),hSWra3.2.2.2.2.1.grown hg9 hSWra3.2.2.2.2.1.size (fun j hj=>HLW.out j hj),Nat.le_trans hSWra3.2.2.2.2.2.1 hg9.size,hSWra3.2.2.2.2.2.2.grown hg9 (HNE.out _ (.inr (.inr (.inr rfl))))⟩;have hpt2:=PtS.pieces hpt hO9 hg9 hl9;have hx9:=hpt.1.grown hg9 (fun e=>by have:=(hpt.2.1.lt e).1;omega);have hl9':∀q,v9.ownBlock=some q→n+1≤q:=fun q e=>(hO9.lt e).1
    obtain⟨A9,c9,e9⟩:=OwG.slice hO9;obtain⟨m9,hm9⟩:∃z,(L++M).length=z:=⟨_,rfl⟩;rw[hm9]at e9;subst e9;clear hm9 hvk hvk2 hpt hO9 hg9 hl9 hbz;clear hSWra3;refine hK.out _ _ hSWra4 (fun hHeld=>?_);clear hK hHeld K
    try simp only[Act.put,sa,sz,ss]
    refine kk 8 rfl ?_;refine kr 9 rfl fun K hK=>?_
    have k9:=hx9.cell 1;have q9:=hx9.frozen 1;have l9:=hx9.lt;simp only[gz,gs]at k9;go_simp;have hS9z:(fun W:World=>Bx W nA 58 [arc,afr,ad,.slice A av.length c,al,art]∧RdR W (some ⟨gp,0,none⟩) path∧gp<W.heap.size∧Bx W nB 48 [x0,y0,x1,y1]∧Below w.heap.size w W∧w6.heap.size≤W.heap.size∧Bx W w.heap.size 26 [.slice an p.nodes.length cn,.slice (some ⟨b,off,none⟩) p.arcs.length ca,.slice af p.faces.length cf]) (Wra4.setCell ⟨n,1,none⟩ (.slice A9 m9 c9)):=⟨hSWra4.1.other HNX.out.1 _ _,hSWra4.2.1.keepB (by simp[World.setCell]) (heap_setCell_other _ _ _ _ HNX.out.2.1),by simpa [World.setCell] using hSWra4.2.2.1,hSWra4.2.2.2.1.other HNX.out.2.2.1 _ _,hSWra4.2.2.2.2.1.setCell (p:=⟨n,1,none⟩) HNX.out.2.2.2 _,by simpa [World.setCell] using hSWra4.2.2.2.2.2.1,hSWra4.2.2.2.2.2.2.other (by have:=HNN.out;omega) _ _⟩;clear k9 q9 l9 hx9;clear hSWra4;refine hK.out _ _ hS9z (fun hHeld=>?_);clear hK hHeld K
    try simp only[Act.put,sa,sz,ss]
    refine wpAnyH_done (by kernel_rfl) ?_ _;have HP9:=hid hpt2;have HS9:=hid hS9z;clear hpt2 hS9z;go_wp2_with fail;go_roundw
    case rel=>exact⟨k+1,_,L++M,by omega,by go_num,HP9.out,hid ⟨by rw[HSK.out,HL.out.1],by rw[List.length_append];have:=HL.out.2;omega⟩,HS9.out.2.2.2.2.2.2,HS9.out.2.2.2.1,HS9.out.2.2.2.2.1⟩
    case measure=>simp[intOf];omega
  ·obtain rfl:k=p.arcs.length:=by omega
   have hge:¬(p.arcs.length:Int)<(p.arcs.length:Int):=by omega
   have HPT:=hid hpt;have HBB:=hid hbb;have HBR:=hid hbr;have a0:=hpb.cell 0;simp only[gz]at a0;clear hpt hbb hbr hpb;generalize wr=wa at *;go_wp2_with fail;go_loopw [44] (fun i wr=>∃(k:Nat) (vn:Value),k≤p.nodes.length∧i=.int .i64 k∧PtS wr n sh vp vn L (dM bb (p.nodes.take k))∧Bx wr nB 48 [x0,y0,x1,y1]∧Below w.heap.size w wr) (fun i _=>p.nodes.length-(intOf i).toNat)
   case atStart=>exact⟨0,_,by omega,rfl,HPT.out,HBB.out,HBR.out⟩
   case round=>
    obtain⟨k,vn,hk,rfl,hpt,hbb,hbr⟩:=hrel
    by_cases hlt:k<p.nodes.length
    ·have hli:(k:Int)<(p.nodes.length:Int):=by omega
     obtain⟨b,off,rfl,hbl,a0,a1,a2⟩:=HND.out k hlt wr hbr;have HNS:=hid (HN1.out k hlt)
     have hNl:(dM bb (p.nodes.take k)).length+1≤1000000000000:=by
      have h1:=List.length_filter_le (fun nd=>inB bb nd.2) (p.nodes.take k);unfold dM;rw[List.length_take]at h1;omega
     obtain⟨⟨ni,nx,ny⟩,hnd⟩:∃z,p.nodes[k]! = z:=⟨_,rfl⟩;have cI:=hid (cIn.out (nx,ny));rw[HIN.out (nx,ny)]at cI;unfold ae at cI;rw[hnd]at a0 a1 a2 HNS;dsimp only at a0 a1 a2 HNS cI;obtain⟨N,hN⟩:∃z,dM bb (p.nodes.take k)=z:=⟨_,rfl⟩;rw[hN]at hpt HNS hNl;clear hnd hN;have hA:=Bx.new (t:=71) (cs:=[.int .i64 ni,.int .i64 nx,.int .i64 ny]) wr rfl;have hwA:=bw1 wr (.cells #[ni,nx,ny] 71);have hptA:=hpt.below hwA;have hbbA:=hbb.below hwA;have hbA:=hbr.trans (hwA.mono hbr.size);have HLV:=hid (show(∀q,vn.ownBlock=some q→n+1≤q∧q<wr.heap.size)∧n<wr.heap.size from ⟨fun q e=>World.ownsRow.lt hpt.2.2.1 q e,hpt.1.lt⟩);clear hpt hbb hbr hwA;go_upto_region 12 with fail;generalize wr.alloc (.cells #[ni,nx,ny] 71)=w4 at *;generalize wr.heap.size=nA at *;clear a0 a1 a2;have a1:=hA.cell 1;have a2:=hA.cell 2;have g0:=hbbA.cell 0;have g1:=hbbA.cell 1;have g2:=hbbA.cell 2;have g3:=hbbA.cell 3;simp only[gz,gs]at a1 a2 g0 g1 g2 g3;go_wp2_with fail;refine(cI.out _).mono ?_;rintro e w5 ⟨rfl,hb5⟩;have hA5:=hA.below hb5;have HPT5:=hid (hptA.below hb5);have HBB5:=hid (hbbA.below hb5);have HB5:=hid (hbA.trans (hb5.mono hbA.size));clear hA hptA hbbA hbA hb5 a1 a2 g0 g1 g2 g3;cases hin:inB bb (nx,ny)
     ·have HQ:=hid (show dM bb (p.nodes.take (k+1))=N from by rw[HNS.out,hin];simp)
      clear hin hA5;go_wp2_with fail;go_roundw
      case rel=>exact⟨k+1,vn,by omega,by go_num,by rw[HQ.out];exact HPT5.out,HBB5.out,HB5.out⟩
      case measure=>simp[intOf];omega
     ·have HQ:=hid (show dM bb (p.nodes.take (k+1))=N++[(ni,nx,ny)] from by rw[HNS.out,hin];simp)
      have k0:=HPT5.out.1.cell 2;have a0:=hA5.cell 0;have a1:=hA5.cell 1;have a2:=hA5.cell 2;simp only[gz,gs]at k0 a0 a1 a2;have hown:=HPT5.out.2.2.1;have hbz:n+1≤w5.heap.size:=HPT5.out.1.lt;clear hin hA5;go_wp2_with (at_builtin;refine wpList_plain rfl fun K hK=>Tryz.wpN hown (ni,nx,ny) _ _ rfl rfl rfl hNl hbz ?_;intro v9 w9 hO9 hg9 hl9;have HP9:=hid (PtS.node HPT5.out hO9 hg9 hl9);have f1:=HPT5.out.1.grown hg9 (fun e=>by have:=(HLV.out.1 n e).1;omega);have f2:=hid (HBB5.out.grown hg9 (fun e=>by have:=(HLV.out.1 nB e).1;have:=HNN.out;omega));have f3:=hid (f1.setB (HB5.out.grown hg9 HB5.out.size (fun j hj=>by have:=(HLV.out.1 j hj).1;have:=HNN.out;omega)) (by have:=HNN.out;omega) 2 v9);obtain⟨A9,c9,e9⟩:=Own.slice hO9;obtain⟨m9,hm9⟩:∃z,(N++[(ni,nx,ny)]).length=z:=⟨_,rfl⟩;rw[hm9]at e9;subst e9;have k9:=f1.cell 2;have q9:=f1.frozen 2;have l9:=f1.lt;simp only[gz,gs]at k9;refine hK _ _ ?_;clear hK k0 a0 a1 a2 hm9 hO9 hg9 hl9 f1);go_roundw
      case rel=>exact⟨k+1,_,by omega,by go_num,by rw[HQ.out];exact HP9.out,f2.out.other (by have:=HNN.out;omega) _ _,f3.out⟩
      case measure=>simp[intOf];omega
    ·obtain rfl:k=p.nodes.length:=by omega
     have hge2:¬(p.nodes.length:Int)<(p.nodes.length:Int):=by omega
     rw[List.take_length]at hpt;have hx:=hpt.1;have HP:=hid hpt;have HB9:=hid hbr;obtain⟨A1,c1,rfl⟩:=OwG.slice hpt.2.1;obtain⟨A2,c2,rfl⟩:=Own.slice hpt.2.2.1;have k0:=hx.cell 0;have k1:=hx.cell 1;have k2:=hx.cell 2;have q0:=hx.frozen 0;have q1:=hx.frozen 1;have q2:=hx.frozen 2;have l0:=hx.lt;simp only[gz,gs]at k0 k1 k2;clear hpt hbb hbr hx;go_wp2_with fail;obtain⟨N9,hN9⟩:∃z,dM bb p.nodes=z:=⟨_,rfl⟩;rw[hN9]at HP HFIN ⊢;have s1:=((HP.out.1.set 0 (.int .i64 sh)).set 1 (.slice A1 L.length c1)).set 2 (.slice A2 N9.length c2);have sb:=((HP.out.1.set 0 (.int .i64 sh)).set 1 (.slice A1 L.length c1)).setB ((HP.out.1.set 0 (.int .i64 sh)).setB (HP.out.1.setB HB9.out (by have:=HNN.out;omega) 0 (.int .i64 sh)) (by have:=HNN.out;omega) 1 (.slice A1 L.length c1)) (by have:=HNN.out;omega) 2 (.slice A2 N9.length c2);have sg:wr.grownBy (((wr.setCell ⟨n,0,none⟩ (.int .i64 sh)).setCell ⟨n,1,none⟩ (.slice A1 L.length c1)).setCell ⟨n,2,none⟩ (.slice A2 N9.length c2)) (some n):=((aj wr ⟨n,0,none⟩ _).trans (aj _ ⟨n,1,none⟩ _)).trans (aj _ ⟨n,2,none⟩ _);generalize ((wr.setCell ⟨n,0,none⟩ (.int .i64 sh)).setCell ⟨n,1,none⟩ (.slice A1 L.length c1)).setCell ⟨n,2,none⟩ (.slice A2 N9.length c2)=w9 at *;have r0:=s1.cell 0;have r1:=s1.cell 1;have r2:=s1.cell 2;simp only[sz,ss,gz,gs]at r0 r1 r2;refine bodyPost_ret (v:=.agg #[sh,.slice A1 L.length c1,.slice A2 N9.length c2]) (by simp[results,Tryz.results26,go_sem,r0,r1,r2]) rfl ?_;obtain⟨_,p2,p3,_⟩:=HP.out
     have p2':=p2.grown RPc.foot sg (fun q e=>by
      have e:n=q:=by injection e
      rintro (⟨_,h⟩|⟨h,_⟩)<;>omega)
     have p3':Own 71 3 aQ w9 (n+1) (.slice A2 N9.length c2) N9:=World.ownsRow.kept p3 sg (by
      rcases hb:(Value.slice A2 N9.length c2).ownBlock with _|j
      ·exact .inl rfl
      ·refine .inr fun e=>?_
       have e:j=n:=by injection e
       have:=(World.ownsRow.lt p3 j hb).1
       omega)
     have hnn:=HNN.out
     refine⟨sh,_,_,rfl,HFIN.out _ _ _ ⟨rfl,by
      rw[←HL.out.1]
      exact p2'.read eM RPc.foot fun g _ h=>by rcases h with⟨_,h⟩|⟨h,_⟩<;>omega,SlF.own dE p3' fun g h _ _=>by omega⟩,sb⟩
end Go.Proofs
namespace Go.Proofs
open Go.RowKit Go.Proofs.Mp Go.Lib
theorem Tryz.eql65(x1 x2 x3 y1 y2 y3:Int)(W:World):(binOp .eql 65 (.agg #[x1,x2,x3]) (.agg #[y1,y2,y3])).run Tryz.prog W=.ok (.bool (decide ((x1,x2,x3)=(y1,y2,y3)))) W:=by
 have u3:=Tryz.underlying3;have a3:=Tryz.isAgg3;have z3:=Tryz.sizeOf3;have hS:Tryz.prog.underlying 65=some (.struct (Tryz.prog.fieldsOf 65)):=by kernel_rfl
 have hp:Tryz.prog.stoodInHeld 65=false:=by kernel_rfl
 rw[run_eql_struct,show(10000:Nat)=9999+1 from rfl,run_equalIn_agg W 9999 65 _ _ hS hp];simp only[Program.fieldsOf,Tryz.underlying65];go_simp
 by_cases h1:x1=y1<;>by_cases h2:x2=y2<;>by_cases h3:x3=y3<;>simp[h1,h2,h3]
theorem Tryz.neq65(x1 x2 x3 y1 y2 y3:Int)(W:World):(binOp .neq 65 (.agg #[x1,x2,x3]) (.agg #[y1,y2,y3])).run Tryz.prog W=.ok (.bool (!decide ((x1,x2,x3)=(y1,y2,y3)))) W:=by
 have h:=Tryz.eql65 x1 x2 x3 y1 y2 y3 W;simp only[binOp]at h ⊢;simp only[Sem.run_bind]at h ⊢;generalize (Op.equal 65 _ _).run Tryz.prog W=r at h ⊢;cases r<;>simp_all [Result.andThen]
theorem Tryz.guard65:Tryz.prog.eqGuardType Tryz.prog.depth 65=false:=by kernel_rfl
theorem qN(L:List Cr)(A B:Option Addr)(c d:Nat)(w:World)(hA:Rd 3 bc w A L)(hB:Rd 3 bc w B L)(hm:L.length≤1000000000):Calls Tryz.prog 68 #[.slice A L.length c,.slice B L.length d] w (RetV w (.bool true)):=by
 have HA:=hid hA;have HB:=hid hB;have hl:((L.length:Int)==(L.length:Int))=true:=by simp
 clear hA hB;go_enter Tryz.func68,Tryz.ntmps68;go_wp2_with fail;go_loopw [13] (fun i wr=>∃k:Nat,k≤L.length∧i=.int .i64 k∧Below w.heap.size w wr) (fun i _=>L.length-(intOf i).toNat)
 case atStart=>exact⟨0,by omega,rfl,Below.refl _ _⟩
 case round=>
  obtain⟨k,hk,rfl,hbr⟩:=hrel
  by_cases hlt:k<L.length
  ·have hli:(k:Int)<(L.length:Int):=by omega
   obtain⟨b1,o1,rfl,_,hc1⟩:=HA.out.get hbr hlt;obtain⟨b2,o2,rfl,_,hc2⟩:=HB.out.get hbr hlt;have c0:=hc1 k hlt 0 _ rfl;have c1:=hc1 k hlt 1 _ rfl;have c2:=hc1 k hlt 2 _ rfl;have d0:=hc2 k hlt 0 _ rfl;have d1:=hc2 k hlt 1 _ rfl;have d2:=hc2 k hlt 2 _ rfl;obtain⟨⟨x,y,z⟩,hxy⟩:∃q,L[k]! = q:=⟨_,rfl⟩;rw[hxy]at c0 c1 c2 d0 d1 d2;simp only[Nat.add_zero]at c0 c1 c2 d0 d1 d2;have hN:=fun W=>Tryz.neq65 x y z x y z W
   rw[decide_eq_true rfl]at hN;have hG:=Tryz.guard65;have HBR:=hid hbr;clear hxy hc1 hc2 hbr;go_wp2_with fail;go_quiet (fail);go_wp2_with fail;go_roundw
   case rel=>exact⟨k+1,by omega,by go_num,⟨HBR.out.os,HBR.out.tape,HBR.out.output,HBR.out.size,HBR.out.block⟩⟩
   case measure=>simp[intOf];omega
  ·obtain rfl:k=L.length:=by omega
   have hge:¬(L.length:Int)<(L.length:Int):=by omega
   have HBR:=hid hbr;clear hbr;go_wp2_with fail;go_ret;exact⟨rfl,HBR.out⟩
theorem ko(L:List Cr)(A B:Option Addr)(c d:Nat)(w:World)(hA:Rd 3 bc w A L)(hB:Rd 3 bc w B L)(hm:L.length≤1000000000):Calls Tryz.prog 30 #[.slice A L.length c,.slice B L.length d] w (RetV w (.bool true)):=by
 have HA:=hid hA;have HB:=hid hB;have hl:((L.length:Int)==(L.length:Int))=true:=by simp
 clear hA hB;go_enter Tryz.func30,Tryz.ntmps30;go_wp2_with fail;go_loopw [5] (fun i wr=>∃k:Nat,k≤L.length∧i=.int .i64 k∧Below w.heap.size w wr) (fun i _=>L.length-(intOf i).toNat)
 case atStart=>exact⟨0,by omega,rfl,Below.refl _ _⟩
 case round=>
  obtain⟨k,hk,rfl,hbr⟩:=hrel
  by_cases hlt:k<L.length
  ·have hli:(k:Int)<(L.length:Int):=by omega
   obtain⟨b1,o1,rfl,_,hc1⟩:=HA.out.get hbr hlt;obtain⟨b2,o2,rfl,_,hc2⟩:=HB.out.get hbr hlt;have c0:=hc1 k hlt 0 _ rfl;have c1:=hc1 k hlt 1 _ rfl;have c2:=hc1 k hlt 2 _ rfl;have d0:=hc2 k hlt 0 _ rfl;have d1:=hc2 k hlt 1 _ rfl;have d2:=hc2 k hlt 2 _ rfl;obtain⟨⟨x,y,z⟩,hxy⟩:∃q,L[k]! = q:=⟨_,rfl⟩;rw[hxy]at c0 c1 c2 d0 d1 d2;simp only[Nat.add_zero]at c0 c1 c2 d0 d1 d2;have hN:=fun W=>Tryz.neq65 x y z x y z W
   rw[decide_eq_true rfl]at hN;have hG:=Tryz.guard65;have HBR:=hid hbr;clear hxy hc1 hc2 hbr;go_wp2_with fail;go_quiet (fail);go_wp2_with fail;go_roundw
   case rel=>exact⟨k+1,by omega,by go_num,⟨HBR.out.os,HBR.out.tape,HBR.out.output,HBR.out.size,HBR.out.block⟩⟩
   case measure=>simp[intOf];omega
  ·obtain rfl:k=L.length:=by omega
   have hge:¬(L.length:Int)<(L.length:Int):=by omega
   have HBR:=hid hbr;clear hbr;go_wp2_with fail;go_ret;exact⟨rfl,HBR.out⟩
end Go.Proofs
