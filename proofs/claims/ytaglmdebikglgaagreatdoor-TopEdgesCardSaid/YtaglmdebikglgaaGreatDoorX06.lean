/- Lemmas and walks; no statement of a law is proved here. -/
import Derived.Test.YtaglmdebikglgaaGreatDoorX05
import Derived.Handy
set_option linter.unusedVariables false
set_option linter.unusedSimpArgs false
set_option maxRecDepth 100000
set_option maxHeartbeats 8000000
open Go.Lib
namespace Go.Proofs
open Go.RowKit Go.Proofs.Mp Go.Lib Go.Proofs.Ed
theorem Tryz.index229(a b c d:Bool)(W:World):(Instr.index 229 (.agg #[.bool a,.bool b,.bool c,.bool d]) (.int .i64 0)).run Tryz.prog W=.ok (.bool a) W∧(Instr.index 229 (.agg #[.bool a,.bool b,.bool c,.bool d]) (.int .i64 1)).run Tryz.prog W=.ok (.bool b) W ∧
  (Instr.index 229 (.agg #[.bool a,.bool b,.bool c,.bool d]) (.int .i64 2)).run Tryz.prog W=.ok (.bool c) W∧(Instr.index 229 (.agg #[.bool a,.bool b,.bool c,.bool d]) (.int .i64 3)).run Tryz.prog W=.ok (.bool d) W:=by
 have u:=Tryz.underlying229;have u4:=Tryz.underlying4;have z:=Tryz.sizeOf4;have ag:=Tryz.isAgg4;refine⟨?_,?_,?_,?_⟩
 all_goals
  simp[Instr.index,run_underlying u,asIntOf,go_sem]
def Sm2(s:Int×Int):Prop:=Sm s.1∧Sm s.2
theorem fI{s:Int×Int}{m c:Int}(hs:Sm2 s)(hm:Sm m)(hc:Sm c):Sm2 (later s m c):=by
 have key:∀m' c',Sm m'→Sm c'→Sm2 (if 0<c'∧s.1*c'<m'*s.2 then (m',c') else s):=by
  intro m' c' h1 h2;split
  ·exact⟨h1,h2⟩
  ·exact hs
 unfold later;exact key _ _ (by split<;>(unfold Sm at *;omega)) (by split<;>(unfold Sm at *;omega))
def jD(x:Bo):List Value:=[.int .i64 x.x0,.int .i64 x.y0,.int .i64 x.x1,.int .i64 x.y1]
structure ThB(w W:World)(np nk nb nn nd:Nat)(p q:Pt)(x:Bo)(s:Int×Int):Prop where
 p:az W np p
 q:az W nk q
 x:Bx W nb 48 (jD x)
 n:Bx W nn 3 [s.1]
 d:Bx W nd 3 [s.2]
 bel:Below w.heap.size w W
structure ThO(w:World)(np nk nb nn nd:Nat):Prop where
 a:w.heap.size≤np∧w.heap.size≤nk∧w.heap.size≤nb
 b:np<nn∧nk<nn∧nb<nn∧np<nd∧nk<nd∧nb<nd
 ne:nd≠nn
section
variable {w W W':World}{np nk nb nn nd:Nat}{p q:Pt}{x:Bo}{s s':Int×Int}
theorem ThB.below(h:ThB w W np nk nb nn nd p q x s)(hb:Below W.heap.size W W'):ThB w W' np nk nb nn nd p q x s:=
 ⟨h.p.below hb,h.q.below hb,h.x.below hb,h.n.below hb,h.d.below hb,h.bel.trans (hb.mono h.bel.size)⟩
theorem ThB.step(h:ThB w W np nk nb nn nd p q x s)(o:ThO w np nk nb nn nd)(hb:Below (min nn nd) W W')(hd:Bx W' nd 3 [s'.2])(hn:Bx W' nn 3 [s'.1]):ThB w W' np nk nb nn nd p q x s':=by
 obtain⟨b1,b2,b3,b4,b5,b6⟩:=o.b;have:=o.a;exact⟨(hb.block _ (by omega)).trans h.p,(hb.block _ (by omega)).trans h.q,Row.below h.x hb (by omega),hn,hd,h.bel.trans (hb.mono (by omega))⟩
theorem ThB.new{w:World}(p1 p2 q1 q2 x0 y0 x1 y1:Int){W W1:World}(hW:W=((w.alloc (.cells #[p1,p2] 30)).alloc (.cells #[q1,q2] 30)).alloc (.cells #[x0,y0,x1,y1] 48)) :
  az W w.heap.size (p1,p2)∧az W (w.heap.size+1) (q1,q2)∧Bx W (w.heap.size+1+1) 48 (jD ⟨x0,y0,x1,y1⟩)∧Below w.heap.size w W∧W.heap.size=w.heap.size+3:=by
 subst hW;have k1:az (w.alloc (.cells #[p1,p2] 30)) w.heap.size (p1,p2):=az.new w (p1,p2);have k2:=Bx.new' (b:=w.heap.size+1) (t:=30) (cs:=[.int .i64 q1,.int .i64 q2]) (w.alloc (.cells #[p1,p2] 30)) (by simp) rfl;have k3:=Bx.new' (b:=w.heap.size+1+1) (t:=48) (cs:=jD ⟨x0,y0,x1,y1⟩) ((w.alloc (.cells #[p1,p2] 30)).alloc (.cells #[q1,q2] 30)) (by simp) rfl;exact⟨(k1.alloc _).alloc _,k2.alloc _,k3,bw3 _ _ _ _,by simp⟩
end
theorem jA(p q:Pt)(x:Bo)(w:World)(hp:Nr p)(hq:Nr q)(hx:SmB x)(hl : -4194304≤x.x0∧x.x1≤4194304∧-4194304≤x.y0∧x.y1≤4194304)(hl2:x.x0≤4194304∧-4194304≤x.x1∧x.y0≤4194304∧-4194304≤x.y1):Calls Tryz.prog 111 #[ae p,ae q,bj x] w (RetV w (.int .i64 (thr p q x.to))):=by
 have hmf:∀(fn:Fn) (first cap:Array Value) (w:World),(Instr.makeFunc fn first cap).run Tryz.prog w=.ok (.func fn first cap) w:=fun _ _ _ _=>rfl
 have cI:=hid fun W=>fK x p W
 have HI:=hid (show decide (x.x0≤p.1∧p.1≤x.x1∧x.y0≤p.2∧p.2≤x.y1)=inB x.to p by unfold inB Bo.to;simp[Bool.decide_and,Bool.and_assoc]);rw[HI.out]at cI;have HR:=hid (show thr p q x.to=if inB x.to p=true then 0 else oneOf (hit (thrP p q x.to) p.1 (q.1-p.1) x.x0) (hit (thrP p q x.to) p.2 (q.2-p.2) x.y0) (hit (thrP p q x.to) p.1 (q.1-p.1) x.x1) (hit (thrP p q x.to) p.2 (q.2-p.2) x.y1)from rfl)
 have HT:=hid (show ∀s1 s2 s3,s1=(if p.1<x.x0 then later (0,1) (x.x0-p.1) (q.1-p.1) else (0,1))→s2=(if x.x1<p.1 then later s1 (x.x1-p.1) (q.1-p.1) else s1)→s3=(if p.2<x.y0 then later s2 (x.y0-p.2) (q.2-p.2) else s2) →
  thrP p q x.to=if x.y1<p.2 then later s3 (x.y1-p.2) (q.2-p.2) else s3 from fun s1 s2 s3 h1 h2 h3=>by rw[h3,h2,h1];rfl)
 generalize thr p q x.to=R at *;generalize thrP p q x.to=s5 at *;generalize inB x.to p=ib at *;obtain⟨p1,p2⟩:=p;obtain⟨q1,q2⟩:=q;obtain⟨x0,y0,x1,y1⟩:=x;obtain⟨hp1,hp2,hp3,hp4⟩:=hp;obtain⟨hq1,hq2,hq3,hq4⟩:=hq;obtain⟨hl1,hl2',hl3,hl4⟩:=hl;obtain⟨hm1,hm2,hm3,hm4⟩:=hl2;unfold ae bj at *;dsimp only at *;have hdx:Sm (q1-p1):=⟨by omega,by omega⟩;have hdy:Sm (q2-p2):=⟨by omega,by omega⟩;have hA:Sm (x0-p1)∧Sm (x1-p1)∧Sm (y0-p2)∧Sm (y1-p2):=⟨⟨by omega,by omega⟩,⟨by omega,by omega⟩,⟨by omega,by omega⟩,by omega,by omega⟩;have HA:=hid hA;have HDX:=hid hdx;have HDY:=hid hdy;have HP:=hid (show Sm p1∧Sm p2 from ⟨⟨by omega,by omega⟩,by omega,by omega⟩);have e1:IntKind.i64.wrap (q1-p1)=q1-p1:=IntWalk.i64_in _ (by omega);have e2:IntKind.i64.wrap (q2-p2)=q2-p2:=IntWalk.i64_in _ (by omega);have e3:IntKind.i64.wrap (x0-p1)=x0-p1:=IntWalk.i64_in _ (by omega);have e4:IntKind.i64.wrap (x1-p1)=x1-p1:=IntWalk.i64_in _ (by omega);have e5:IntKind.i64.wrap (y0-p2)=y0-p2:=IntWalk.i64_in _ (by omega);have e6:IntKind.i64.wrap (y1-p2)=y1-p2:=IntWalk.i64_in _ (by omega);clear hp1 hp2 hp3 hp4 hq1 hq2 hq3 hq4 hl1 hl2' hl3 hl4 hm1 hm2 hm3 hm4 hdx hdy hA;have HX:=hid hx;clear hx HI;go_enter Tryz.func111,Tryz.ntmps111;go_upto_region 1 with fail;generalize hW:(((w.alloc (.cells #[p1,p2] 30)).alloc (.cells #[q1,q2] 30)).alloc (.cells #[x0,y0,x1,y1] 48))=wA at *;obtain⟨hbp,hbq,hbx,hbel,hsz⟩:=ThB.new (W1:=w) p1 p2 q1 q2 x0 y0 x1 y1 hW.symm;clear hW;generalize hnb:w.heap.size+1+1=nb at *;generalize hnk:w.heap.size+1=nk at *;generalize hnp:w.heap.size=np at *;have HO:=hid (And.intro hnp (And.intro hnk (And.intro hnb hsz)));clear hnp hnk hnb hsz;have k1:=hbp.c0;have k2:=hbp.c1;have k3:=hbx.cell 0;have k4:=hbx.cell 1;have k5:=hbx.cell 2;have k6:=hbx.cell 3;unfold jD at k3 k4 k5 k6;simp only[gz,gs]at k3 k4 k5 k6;dsimp only at k1 k2 k3 k4;go_wp2_with fail;refine(cI.out _).mono ?_;rintro e w1 ⟨rfl,hb1⟩;have hbp1:=hbp.below hb1;have hbq1:=hbq.below hb1;have hbx1:=hbx.below hb1;have HB1:=hid (hbel.trans (hb1.mono (by have:=HO.out;omega)));have HS1:=hid hb1.size;clear hb1 hbp hbq hbx hbel cI k1 k2 k3 k4 k5 k6;cases ib
 rotate_left
 ·go_wp2
  go_ret;exact RetV.int (by rw[HR.out];rfl) (by rw[HO.out.1];exact HB1.out)
 rw[if_neg (by decide)]at HR;have k1:=hbp1.c0;have k2:=hbp1.c1;have k3:=hbq1.c0;have k4:=hbq1.c1;dsimp only at k1 k2 k3 k4;go_wp2_with fail;go_quiet (fail);generalize hw2:w1.drewN nq=w2 at *;have hbp2:az w2 np (p1,p2):=by rw[←hw2];exact hbp1
 have hbq2:az w2 nk (q1,q2):=by rw[←hw2];exact hbq1
 have hbx2:Bx w2 nb 48 (jD ⟨x0,y0,x1,y1⟩):=by rw[←hw2];exact hbx1
 have HB2:Hid (Below np w w2):=hid (by rw[←hw2];exact below_drewN HB1.out nq);have HS2:Hid (wA.heap.size≤w2.heap.size):=hid (by rw[←hw2];exact HS1.out);clear hw2 hbp1 hbq1 hbx1 HB1 HS1 k1 k2 k3 k4
 have hT0:ThB w ((w2.alloc (.cells #[.int .i64 0] 3)).alloc (.cells #[.int .i64 1] 3)) np nk nb w2.heap.size (w2.heap.size+1) (p1,p2) (q1,q2) ⟨x0,y0,x1,y1⟩ (0,1):=
  ⟨(hbp2.alloc _).alloc _,(hbq2.alloc _).alloc _,(hbx2.alloc _).alloc _,(Bx.new w2 rfl).alloc _,Bx.new' _ (by simp) rfl,by rw[HO.out.1];exact HB2.out.trans (((bw1 _ _).trans ((bw1 _ _).mono (bw1 _ _).size)).mono (by have:=HB2.out.size;have:=HO.out.1;omega))⟩
 have hO:ThO w np nk nb w2.heap.size (w2.heap.size+1):=by
  have h1:=HO.out;have h2:=HS2.out;exact⟨by omega,by omega,by omega⟩
 go_upto_region 6 with fail;generalize (w2.alloc (.cells #[.int .i64 0] 3)).alloc (.cells #[.int .i64 1] 3)=w3 at *;generalize w2.heap.size+1=nd at *;generalize w2.heap.size=nn at *;have hs0:Sm2 (0,1):=⟨⟨by decide,by decide⟩,by decide,by decide⟩;clear hbp2 hbq2 hbx2 HB2 HS2 HO;have HOO:=hid hO;clear hO;have k1:=hT0.p.c0;have k2:=hT0.p.c1;have k3:=hT0.x.cell 0;have k4:=hT0.x.cell 1;have k5:=hT0.x.cell 2;have k6:=hT0.x.cell 3;unfold jD at k3 k4 k5 k6;simp only[gz,gs]at k3 k4 k5 k6;dsimp only at k1 k2 k3 k4 k5 k6;go_upto_if 35 with fail;go_cut [] (fun wx=>∃s:Int×Int,Hid (s=if p1<x0 then later (0,1) (x0-p1) (q1-p1) else (0,1))∧Sm2 s∧ThB w wx np nk nb nn nd (p1,p2) (q1,q2) ⟨x0,y0,x1,y1⟩ s)
 case first=>
  clear HT HR
  by_cases h:p1<x0
  ·have cL:=hid (dR (x0-p1) (q1-p1) (0,1).1 (0,1).2 nd nn HOO.out.ne (min nn nd) (Nat.min_le_right _ _) (Nat.min_le_left _ _) _ HA.out.1 HDX.out hs0.1 hs0.2 hT0.d hT0.n)
   have HTT:=hid hT0;have hz:=fI hs0 HA.out.1 HDX.out;have HE:=hid (show later (0,1) (x0-p1) (q1-p1)=(if p1<x0 then later (0,1) (x0-p1) (q1-p1) else (0,1)) from(if_pos h).symm);clear hT0 hs0;go_wp2_with fail;refine cL.out.mono ?_;rintro e w' ⟨rfl,hb,hd',hn'⟩;clear k1 k2 k3 k4 k5 k6;go_wp2_with fail;go_meet;exact⟨_,HE,hz,HTT.out.step HOO.out hb hd' hn'⟩
  ·have HTT:=hid hT0
   have HE:=hid (show(0,1)=(if p1<x0 then later (0,1) (x0-p1) (q1-p1) else (0,1)) from(if_neg h).symm);clear hT0;go_wp2_with fail;go_meet;exact⟨_,HE,hs0,HTT.out⟩
 case rest=>
  obtain⟨s1,HE1,hs1,hT1⟩:=hcut;clear hT0 hs0 k1 k2 k3 k4 k5 k6;generalize wc=v1 at *;have k1:=hT1.p.c0;have k2:=hT1.p.c1;have k3:=hT1.x.cell 0;have k4:=hT1.x.cell 1;have k5:=hT1.x.cell 2;have k6:=hT1.x.cell 3;unfold jD at k3 k4 k5 k6;simp only[gz,gs]at k3 k4 k5 k6;dsimp only at k1 k2 k3 k4 k5 k6;go_upto_if 48 with fail;go_cut [] (fun wx=>∃s:Int×Int,Hid (s=if x1<p1 then later s1 (x1-p1) (q1-p1) else s1)∧Sm2 s∧ThB w wx np nk nb nn nd (p1,p2) (q1,q2) ⟨x0,y0,x1,y1⟩ s)
  case first=>
   clear HT HR
   by_cases h:x1<p1
   ·have cL:=hid (dR (x1-p1) (q1-p1) s1.1 s1.2 nd nn HOO.out.ne (min nn nd) (Nat.min_le_right _ _) (Nat.min_le_left _ _) _ HA.out.2.1 HDX.out hs1.1 hs1.2 hT1.d hT1.n)
    have HTT:=hid hT1;have hz:=fI hs1 HA.out.2.1 HDX.out;have HE:=hid (show later s1 (x1-p1) (q1-p1)=(if x1<p1 then later s1 (x1-p1) (q1-p1) else s1) from(if_pos h).symm);clear hT1 hs1;go_wp2_with fail;refine cL.out.mono ?_;rintro e w' ⟨rfl,hb,hd',hn'⟩;clear k1 k2 k3 k4 k5 k6;go_wp2_with fail;go_meet;exact⟨_,HE,hz,HTT.out.step HOO.out hb hd' hn'⟩
   ·have HTT:=hid hT1
    have HE:=hid (show s1=(if x1<p1 then later s1 (x1-p1) (q1-p1) else s1) from(if_neg h).symm);clear hT1;go_wp2_with fail;go_meet;exact⟨_,HE,hs1,HTT.out⟩
  case rest=>
   obtain⟨s2,HE2,hs2,hT2⟩:=hcut;clear hT1 hs1 k1 k2 k3 k4 k5 k6;generalize wc=v2 at *;have k1:=hT2.p.c0;have k2:=hT2.p.c1;have k3:=hT2.x.cell 0;have k4:=hT2.x.cell 1;have k5:=hT2.x.cell 2;have k6:=hT2.x.cell 3;unfold jD at k3 k4 k5 k6;simp only[gz,gs]at k3 k4 k5 k6;dsimp only at k1 k2 k3 k4 k5 k6;go_upto_if 61 with fail;go_cut [] (fun wx=>∃s:Int×Int,Hid (s=if p2<y0 then later s2 (y0-p2) (q2-p2) else s2)∧Sm2 s∧ThB w wx np nk nb nn nd (p1,p2) (q1,q2) ⟨x0,y0,x1,y1⟩ s)
   case first=>
    clear HT HR
    by_cases h:p2<y0
    ·have cL:=hid (dR (y0-p2) (q2-p2) s2.1 s2.2 nd nn HOO.out.ne (min nn nd) (Nat.min_le_right _ _) (Nat.min_le_left _ _) _ HA.out.2.2.1 HDY.out hs2.1 hs2.2 hT2.d hT2.n)
     have HTT:=hid hT2;have hz:=fI hs2 HA.out.2.2.1 HDY.out;have HE:=hid (show later s2 (y0-p2) (q2-p2)=(if p2<y0 then later s2 (y0-p2) (q2-p2) else s2) from(if_pos h).symm);clear hT2 hs2;go_wp2_with fail;refine cL.out.mono ?_;rintro e w' ⟨rfl,hb,hd',hn'⟩;clear k1 k2 k3 k4 k5 k6;go_wp2_with fail;go_meet;exact⟨_,HE,hz,HTT.out.step HOO.out hb hd' hn'⟩
    ·have HTT:=hid hT2
     have HE:=hid (show s2=(if p2<y0 then later s2 (y0-p2) (q2-p2) else s2) from(if_neg h).symm);clear hT2;go_wp2_with fail;go_meet;exact⟨_,HE,hs2,HTT.out⟩
   case rest=>
    obtain⟨s3,HE3,hs3,hT3⟩:=hcut;clear hT2 hs2 k1 k2 k3 k4 k5 k6;generalize wc=v3 at *;have k1:=hT3.p.c0;have k2:=hT3.p.c1;have k3:=hT3.x.cell 0;have k4:=hT3.x.cell 1;have k5:=hT3.x.cell 2;have k6:=hT3.x.cell 3;unfold jD at k3 k4 k5 k6;simp only[gz,gs]at k3 k4 k5 k6;dsimp only at k1 k2 k3 k4 k5 k6;go_upto_if 74 with fail;go_cut [] (fun wx=>∃s:Int×Int,Hid (s=if y1<p2 then later s3 (y1-p2) (q2-p2) else s3)∧Sm2 s∧ThB w wx np nk nb nn nd (p1,p2) (q1,q2) ⟨x0,y0,x1,y1⟩ s)
    case first=>
     clear HT HR
     by_cases h:y1<p2
     ·have cL:=hid (dR (y1-p2) (q2-p2) s3.1 s3.2 nd nn HOO.out.ne (min nn nd) (Nat.min_le_right _ _) (Nat.min_le_left _ _) _ HA.out.2.2.2 HDY.out hs3.1 hs3.2 hT3.d hT3.n)
      have HTT:=hid hT3;have hz:=fI hs3 HA.out.2.2.2 HDY.out;have HE:=hid (show later s3 (y1-p2) (q2-p2)=(if y1<p2 then later s3 (y1-p2) (q2-p2) else s3) from(if_pos h).symm);clear hT3 hs3;go_wp2_with fail;refine cL.out.mono ?_;rintro e w' ⟨rfl,hb,hd',hn'⟩;clear k1 k2 k3 k4 k5 k6;go_wp2_with fail;go_meet;exact⟨_,HE,hz,HTT.out.step HOO.out hb hd' hn'⟩
     ·have HTT:=hid hT3
      have HE:=hid (show s3=(if y1<p2 then later s3 (y1-p2) (q2-p2) else s3) from(if_neg h).symm);clear hT3;go_wp2_with fail;go_meet;exact⟨_,HE,hs3,HTT.out⟩
    case rest=>
     obtain⟨s4,HE4,hs4,hT4⟩:=hcut;clear hT3 hs3 k1 k2 k3 k4 k5 k6;generalize wc=v4 at *;obtain rfl:s5=s4:=by rw[HE4.out];exact HT.out s1 s2 s3 HE1.out HE2.out HE3.out
     clear HT HE1 HE2 HE3 HE4;have HB4:=hid hT4.bel;have HD4:=hid hT4.d;have HN4:=hid hT4.n;have HTT:=hid hT4;have cO1:=hid fun W hb=>(gH p1 (q1-p1) x0 s5.1 s5.2 nd nn W HP.out.1 HDX.out HX.out.x0 hs4.1 hs4.2 (hT4.d.below hb) (hT4.n.below hb)).mono (R':=RetV W (.bool (hit s5 p1 (q1-p1) x0))) (fun e w' h=>⟨h.1,h.2▸Below.refl _ _⟩)
     have cO2:=hid fun W hb=>(gH p2 (q2-p2) y0 s5.1 s5.2 nd nn W HP.out.2 HDY.out HX.out.y0 hs4.1 hs4.2 (hT4.d.below hb) (hT4.n.below hb)).mono (R':=RetV W (.bool (hit s5 p2 (q2-p2) y0))) (fun e w' h=>⟨h.1,h.2▸Below.refl _ _⟩)
     have cO3:=hid fun W hb=>(gH p1 (q1-p1) x1 s5.1 s5.2 nd nn W HP.out.1 HDX.out HX.out.x1 hs4.1 hs4.2 (hT4.d.below hb) (hT4.n.below hb)).mono (R':=RetV W (.bool (hit s5 p1 (q1-p1) x1))) (fun e w' h=>⟨h.1,h.2▸Below.refl _ _⟩)
     have cO4:=hid fun W hb=>(gH p2 (q2-p2) y1 s5.1 s5.2 nd nn W HP.out.2 HDY.out HX.out.y1 hs4.1 hs4.2 (hT4.d.below hb) (hT4.n.below hb)).mono (R':=RetV W (.bool (hit s5 p2 (q2-p2) y1))) (fun e w' h=>⟨h.1,h.2▸Below.refl _ _⟩)
     have HC:=hid fun (W:World) (hb:Below v4.heap.size v4 W)=>(show W.cell? ⟨np,0,none⟩=some (.int .i64 p1)∧W.cell? ⟨np,1,none⟩=some (.int .i64 p2)∧W.cell? ⟨nb,0,none⟩=some (.int .i64 x0)∧W.cell? ⟨nb,1,none⟩=some (.int .i64 y0)∧W.cell? ⟨nb,2,none⟩=some (.int .i64 x1)∧W.cell? ⟨nb,3,none⟩=some (.int .i64 y1)from by
      have k:=HTT.out.below hb
      exact⟨k.p.c0,k.p.c1,k.x.cell 0,k.x.cell 1,k.x.cell 2,k.x.cell 3⟩)
     clear HTT;generalize hit s5 p1 (q1-p1) x0=h1 at *;generalize hit s5 p2 (q2-p2) y0=h2 at *;generalize hit s5 p1 (q1-p1) x1=h3 at *;generalize hit s5 p2 (q2-p2) y1=h4 at *;clear hT4 hs4 HX HP HDX HDY HA e1 e2 e3 e4 e5 e6;go_upto_region 15 with fail;have hS5:(fun W:World=>Below v4.heap.size v4 W) v4.drew:=(Below.refl _ _).drew;refine wp_region_held_drew (S:=fun W:World=>Below v4.heap.size v4 W) (by kernel_rfl) hS5 (fun hHeld=>?_);clear hHeld;generalize v4.drew=v4d at *;refine kk 0 rfl ?_;refine kk 1 rfl ?_;refine kf 2 HC.out rfl ?_;refine kk 3 rfl ?_;refine kk 4 rfl ?_;refine kf 5 HC.out rfl ?_;refine kk 7 rfl ?_;refine kk 8 rfl ?_;refine kf 9 HC.out rfl ?_;refine kk 10 rfl ?_;refine kk 11 rfl ?_;refine kf 12 HC.out rfl ?_;refine kk 14 rfl ?_;refine kk 15 rfl ?_;refine kf 16 HC.out rfl ?_;refine kk 17 rfl ?_;refine kk 18 rfl ?_;refine kf 19 HC.out rfl ?_;refine kk 21 rfl ?_;refine kk 22 rfl ?_;refine kf 23 HC.out rfl ?_;refine kk 24 rfl ?_;refine kk 25 rfl ?_;refine kf 26 HC.out rfl ?_;refine' aW (fun H f l (act:Value→Act)=>∀(pvS:Value) (WX:World),dY 229 (v4.heap.size) WX pvS [.bool false,.bool false,.bool false,.bool false]→(fun W:World=>Below v4.heap.size v4 W) WX→H f l (act pvS) WX) (fun tailrb28=>?mtailrb28) ?ttailrb28
     case mtailrb28=>
      refine' aW (fun H f l (act:Value→Act)=>∀(pvS:Value) (WX:World),dY 229 (v4.heap.size) WX pvS [.bool false,.bool false,.bool false,.bool false]→(fun W:World=>Below v4.heap.size v4 W) WX→H f l (act pvS) WX) (fun tailrb27=>?mtailrb27) ?ttailrb27
      case mtailrb27=>
       refine' aW (fun H f l (act:Value→Act)=>∀(pvS:Value) (WX:World),dY 229 (v4.heap.size) WX pvS [.bool false,.bool false,.bool false,.bool false]→(fun W:World=>Below v4.heap.size v4 W) WX→H f l (act pvS) WX) (fun tailrb26=>?mtailrb26) ?ttailrb26
       case mtailrb26=>
        refine' aW (fun H f l (act:Value→Act)=>∀(pvS:Value) (WX:World),dY 229 (v4.heap.size) WX pvS [.bool false,.bool false,.bool false,.bool false]→(fun W:World=>Below v4.heap.size v4 W) WX→H f l (act pvS) WX) (fun tailrb25=>?mtailrb25) ?ttailrb25
        case mtailrb25=>
         refine wpAnyH_ready (rs:=[6,29]) (by kernel_rfl) (by simp) ?_;refine AllReadyH.cons (o:=⟨some 90,_,_,_,_,_⟩) rfl (fun K hK=>?_) ?_
         ·skip
          go_simp;go_at_call 159;refine(cO1.out _ hS5).mono ?_;rintro e Wrb1 ⟨rfl,hbWrb1⟩;have hSWrb1:=hS5.trans (hbWrb1.mono hS5.size)
          try clear hS5
          clear hbWrb1;go_wp2_with fail;refine hK.out _ _ hSWrb1 (fun hHeld=>?_);clear hK hHeld K
          try simp only[Act.put,sa,sz,ss]
          refine wpAnyH_ready (rs:=[13,29]) (by kernel_rfl) (by simp) ?_;refine AllReadyH.cons (o:=⟨some 97,_,_,_,_,_⟩) rfl (fun K hK=>?_) ?_
          ·skip
           go_simp;go_at_call 159;refine(cO2.out _ hSWrb1).mono ?_;rintro e Wrb2 ⟨rfl,hbWrb2⟩;have hSWrb2:=hSWrb1.trans (hbWrb2.mono hSWrb1.size)
           try clear hSWrb1
           clear hbWrb2;go_wp2_with fail;refine hK.out _ _ hSWrb2 (fun hHeld=>?_);clear hK hHeld K
           try simp only[Act.put,sa,sz,ss]
           refine wpAnyH_ready (rs:=[20,29]) (by kernel_rfl) (by simp) ?_;refine AllReadyH.cons (o:=⟨some 104,_,_,_,_,_⟩) rfl (fun K hK=>?_) ?_
           ·skip
            go_simp;go_at_call 159;refine(cO3.out _ hSWrb2).mono ?_;rintro e Wrb3 ⟨rfl,hbWrb3⟩;have hSWrb3:=hSWrb2.trans (hbWrb3.mono hSWrb2.size)
            try clear hSWrb2
            clear hbWrb3;go_wp2_with fail;refine hK.out _ _ hSWrb3 (fun hHeld=>?_);clear hK hHeld K
            try simp only[Act.put,sa,sz,ss]
            refine wpAnyH_ready (rs:=[27,29]) (by kernel_rfl) (by simp) ?_;refine AllReadyH.cons (o:=⟨some 111,_,_,_,_,_⟩) rfl (fun K hK=>?_) ?_
            ·skip
             go_simp;go_at_call 159;refine(cO4.out _ hSWrb3).mono ?_;rintro e Wrb4 ⟨rfl,hbWrb4⟩;have hSWrb4:=hSWrb3.trans (hbWrb4.mono hSWrb3.size)
             try clear hSWrb3
             clear hbWrb4;go_wp2_with fail;refine hK.out _ _ hSWrb4 (fun hHeld=>?_);clear hK hHeld K
             try simp only[Act.put,sa,sz,ss]
             refine kk 28 rfl ?_;refine kr 29 rfl fun K hK=>?_
             go_simp;have hxS:=dY.new (t:=229) (B:=v4.heap.size) (cs:=[.bool false,.bool false,.bool false,.bool false]) Wrb4 hSWrb4.size rfl;have hSWrb5:=hSWrb4.alloc hSWrb4.size (.cells #[.bool false,.bool false,.bool false,.bool false] 229);refine hK.out _ _ hSWrb5 (fun hHeld=>?_);clear hK hHeld K
             try clear hSWrb4
             try simp only[Act.put,sa,sz,ss]
             generalize (Wrb4.alloc (.cells #[.bool false,.bool false,.bool false,.bool false] 229))=Wrb5 at  hxS hSWrb5 ⊢;generalize Value.pointer (some ⟨Wrb4.heap.size,0,none⟩)=pvS at hxS ⊢;exact aC rfl rfl (tailrb28 pvS Wrb5 hxS hSWrb5)
            refine AllReadyH.cons (o:=⟨some 13,_,_,_,_,_⟩) rfl (fun K hK=>?_) AllReadyH.nil;go_simp;have hxS:=dY.new (t:=229) (B:=v4.heap.size) (cs:=[.bool false,.bool false,.bool false,.bool false]) Wrb3 hSWrb3.size rfl;have hSWrb6:=hSWrb3.alloc hSWrb3.size (.cells #[.bool false,.bool false,.bool false,.bool false] 229);refine hK.out _ _ hSWrb6 (fun hHeld=>?_);clear hK hHeld K
            try clear hSWrb3
            try simp only[Act.put,sa,sz,ss]
            generalize (Wrb3.alloc (.cells #[.bool false,.bool false,.bool false,.bool false] 229))=Wrb6 at  hxS hSWrb6 ⊢;generalize Value.pointer (some ⟨Wrb3.heap.size,0,none⟩)=pvS at hxS ⊢;exact aC rfl rfl (tailrb27 pvS Wrb6 hxS hSWrb6)
           refine AllReadyH.cons (o:=⟨some 13,_,_,_,_,_⟩) rfl (fun K hK=>?_) AllReadyH.nil;go_simp;have hxS:=dY.new (t:=229) (B:=v4.heap.size) (cs:=[.bool false,.bool false,.bool false,.bool false]) Wrb2 hSWrb2.size rfl;have hSWrb7:=hSWrb2.alloc hSWrb2.size (.cells #[.bool false,.bool false,.bool false,.bool false] 229);refine hK.out _ _ hSWrb7 (fun hHeld=>?_);clear hK hHeld K
           try clear hSWrb2
           try simp only[Act.put,sa,sz,ss]
           generalize (Wrb2.alloc (.cells #[.bool false,.bool false,.bool false,.bool false] 229))=Wrb7 at  hxS hSWrb7 ⊢;generalize Value.pointer (some ⟨Wrb2.heap.size,0,none⟩)=pvS at hxS ⊢;exact aC rfl rfl (tailrb26 pvS Wrb7 hxS hSWrb7)
          refine AllReadyH.cons (o:=⟨some 13,_,_,_,_,_⟩) rfl (fun K hK=>?_) AllReadyH.nil;go_simp;have hxS:=dY.new (t:=229) (B:=v4.heap.size) (cs:=[.bool false,.bool false,.bool false,.bool false]) Wrb1 hSWrb1.size rfl;have hSWrb8:=hSWrb1.alloc hSWrb1.size (.cells #[.bool false,.bool false,.bool false,.bool false] 229);refine hK.out _ _ hSWrb8 (fun hHeld=>?_);clear hK hHeld K
          try clear hSWrb1
          try simp only[Act.put,sa,sz,ss]
          generalize (Wrb1.alloc (.cells #[.bool false,.bool false,.bool false,.bool false] 229))=Wrb8 at  hxS hSWrb8 ⊢;generalize Value.pointer (some ⟨Wrb1.heap.size,0,none⟩)=pvS at hxS ⊢;exact aC rfl rfl (tailrb25 pvS Wrb8 hxS hSWrb8)
         refine AllReadyH.cons (o:=⟨some 13,_,_,_,_,_⟩) rfl (fun K hK=>?_) AllReadyH.nil;go_simp;have hxS:=dY.new (t:=229) (B:=v4.heap.size) (cs:=[.bool false,.bool false,.bool false,.bool false]) v4d hS5.size rfl;have hSWrb9:=hS5.alloc hS5.size (.cells #[.bool false,.bool false,.bool false,.bool false] 229);refine hK.out _ _ hSWrb9 (fun hHeld=>?_);clear hK hHeld K
         try clear hS5
         try simp only[Act.put,sa,sz,ss]
         generalize (v4d.alloc (.cells #[.bool false,.bool false,.bool false,.bool false] 229))=Wrb9 at  hxS hSWrb9 ⊢;generalize Value.pointer (some ⟨v4d.heap.size,0,none⟩)=pvS at hxS ⊢;refine kr 6 rfl fun K hK=>?_
         go_simp;go_at_call 159;refine(cO1.out _ hSWrb9).mono ?_;rintro e Wrb10 ⟨rfl,hbWrb10⟩;replace hxS:=hxS.below hbWrb10;have hSWrb10:=hSWrb9.trans (hbWrb10.mono hSWrb9.size)
         try clear hSWrb9
         clear hbWrb10;go_wp2_with fail;refine hK.out _ _ hSWrb10 (fun hHeld=>?_);clear hK hHeld K
         try simp only[Act.put,sa,sz,ss]
         exact aC (by kernel_rfl) (by kernel_rfl) (tailrb25 pvS Wrb10 hxS hSWrb10)
        case ttailrb25=>
         try clear hS5
         intro pvS Wrb11 hxS hSWrb11;refine kr 13 rfl fun K hK=>?_
         go_simp;go_at_call 159;refine(cO2.out _ hSWrb11).mono ?_;rintro e Wrb12 ⟨rfl,hbWrb12⟩;replace hxS:=hxS.below hbWrb12;have hSWrb12:=hSWrb11.trans (hbWrb12.mono hSWrb11.size)
         try clear hSWrb11
         clear hbWrb12;go_wp2_with fail;refine hK.out _ _ hSWrb12 (fun hHeld=>?_);clear hK hHeld K
         try simp only[Act.put,sa,sz,ss]
         exact aC (by kernel_rfl) (by kernel_rfl) (tailrb26 pvS Wrb12 hxS hSWrb12)
       case ttailrb26=>
        try clear hS5
        intro pvS Wrb13 hxS hSWrb13;refine kr 20 rfl fun K hK=>?_
        go_simp;go_at_call 159;refine(cO3.out _ hSWrb13).mono ?_;rintro e Wrb14 ⟨rfl,hbWrb14⟩;replace hxS:=hxS.below hbWrb14;have hSWrb14:=hSWrb13.trans (hbWrb14.mono hSWrb13.size)
        try clear hSWrb13
        clear hbWrb14;go_wp2_with fail;refine hK.out _ _ hSWrb14 (fun hHeld=>?_);clear hK hHeld K
        try simp only[Act.put,sa,sz,ss]
        exact aC (by kernel_rfl) (by kernel_rfl) (tailrb27 pvS Wrb14 hxS hSWrb14)
      case ttailrb27=>
       try clear hS5
       intro pvS Wrb15 hxS hSWrb15;refine kr 27 rfl fun K hK=>?_
       go_simp;go_at_call 159;refine(cO4.out _ hSWrb15).mono ?_;rintro e Wrb16 ⟨rfl,hbWrb16⟩;replace hxS:=hxS.below hbWrb16;have hSWrb16:=hSWrb15.trans (hbWrb16.mono hSWrb15.size)
       try clear hSWrb15
       clear hbWrb16;go_wp2_with fail;refine hK.out _ _ hSWrb16 (fun hHeld=>?_);clear hK hHeld K
       try simp only[Act.put,sa,sz,ss]
       refine kk 28 rfl ?_;exact aC (by kernel_rfl) (by kernel_rfl) (tailrb28 pvS Wrb16 hxS hSWrb16)
     case ttailrb28=>
      try clear hS5
      intro pvS Wrb17 hxS hSWrb17;refine kr 30 rfl fun K hK=>?_
      refine dY.store hxS [.bool h1,.bool h2,.bool h3,.bool h4] (k:=4) (by kernel_rfl) rfl rfl (by kernel_rfl) rfl _ _ rfl rfl rfl (fun Wrb18 hbx hbW=>?_);have hSWrb18:=hSWrb17.trans hbW;clear hxS hbW hSWrb17;have hxS:=hbx;clear hbx;refine hK.out _ _ hSWrb18 (fun hHeld=>?_);clear hK hHeld K
      try simp only[Act.put,sa,sz,ss]
      refine wpAnyH_done (by kernel_rfl) ?_ _;obtain⟨gp,rfl,hgp,hxp⟩:=hxS;generalize Wrb18=v5 at *;have HB5:=hid (HB4.out.trans (hSWrb18.mono HB4.out.size));have g0:=hxp.cell 0;have g1:=hxp.cell 1;have g2:=hxp.cell 2;have g3:=hxp.cell 3;simp only[gz,gs]at g0 g1 g2 g3;clear hSWrb18 hgp hxp cO1 cO2 cO3 cO4 HC HD4 HN4 HB4;clear hmf;have hix:=fun W=>Tryz.index229 h1 h2 h3 h4 W
      cases h1<;>cases h2<;>cases h3<;>cases h4
      all_goals
       go_wp2_with fail;go_rounds 5
       first
        | (go_ret;exact RetV.int (by rw[HR.out];rfl) HB5.out)
end Go.Proofs
