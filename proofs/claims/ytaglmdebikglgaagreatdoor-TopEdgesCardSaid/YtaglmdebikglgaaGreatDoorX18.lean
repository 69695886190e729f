/- Lemmas and walks; no statement of a law is proved here. -/
import Derived.Test.YtaglmdebikglgaaGreatDoorX14
import Derived.Test.YtaglmdebikglgaaGreatDoorX17
import Derived.WalkSmall
set_option linter.unusedVariables false
set_option linter.unusedSimpArgs false
set_option maxRecDepth 100000
set_option maxHeartbeats 8000000
open Go.Lib
namespace Go.Proofs
open Go.RowKit Go.Proofs.Mp Go.Lib
theorem ro{w:World}{base g cap:Nat}{o:List Pt}(h:Own 30 2 encR w base (.slice (some ⟨g,0,none⟩) o.length cap) o)(h0:o≠[]):Own 30 2 encR w base (.slice (some ⟨g,0,none⟩) (o.length-1) cap) o.dropLast:=by
 have e:=List.dropLast_concat_getLast h0;have el:o.length=o.dropLast.length+1:=by rw[List.length_dropLast];have:=List.length_pos_iff.2 h0;omega
 unfold Own at *
 have h1:w.ownsRow base 30 2 (.slice (some ⟨g,0,none⟩) (o.dropLast.length+1) cap) (o.dropLast.length+1) (o.dropLast.flatMap encR++encR (o.getLast h0)):=by
  rw[←el]
  have e2:o.dropLast.flatMap encR++encR (o.getLast h0)=o.flatMap encR:=by
   conv=>rhs;rw[←e]
   simp
  rw[e2];exact h
 rw[show o.length-1=o.dropLast.length by rw[List.length_dropLast]];exact ownsRow_pop (flat_len encR_len _) h1
structure ThS(w W:World)(s:Nat)(tx ty bx by':Int)(vo:Value)(o:List Pt):Prop where
 b:Bx W (s+1) 30 [tx,ty]
 d:Bx W (s+2) 30 [bx,by']
 own:Own 30 2 encR W (s+3) vo o
 hb:Below s w W
 hn:w.heap.size=s
section
variable {w W W':World}{s:Nat}{tx ty bx by':Int}{vo:Value}{o:List Pt}
theorem ThS.below(h:ThS w W s tx ty bx by' vo o)(hb:Below W.heap.size W W'):ThS w W' s tx ty bx by' vo o:=by
 obtain⟨h1,h2,h3,h4,rfl⟩:=h;exact⟨h1.below hb,h2.below hb,h3.below hb,h4.trans (hb.mono h4.size),rfl⟩
theorem ThS.app(h:ThS w W s tx ty bx by' vo o){vo':Value}{x:Pt}(ho:Own 30 2 encR W' (s+3) vo' (o++[x]))(hg:W.grownBy W' vo.ownBlock):ThS w W' s tx ty bx by' vo' (o++[x]):=by
 have hlt:=World.ownsRow.lt h.own;have ne:∀q,q<s+3→vo.ownBlock≠some q:=fun q hq e=>by have:=(hlt q e).1;omega
 exact⟨h.b.grown hg (ne _ (by omega)),h.d.grown hg (ne _ (by omega)),ho,h.hb.grown hg (by have:=h.hb.size;have:=h.hn;omega) (fun j e=>by have:=(hlt j e).1;omega),h.hn⟩
theorem ThS.st(h:ThS w W s tx ty bx by' vo o)(u v:Int):ThS w (st2 W (s+2) (.int .i64 u) (.int .i64 v)) s tx ty u v vo o:=by
 have hlt:=World.ownsRow.lt h.own
 have ho:∀(X:World) j x,Own 30 2 encR X (s+3) vo o→Own 30 2 encR (X.setCell ⟨s+2,j,none⟩ x) (s+3) vo o:=fun X j x hX=>aO hX (aj _ _ _) fun g e e2=>by
  have e2:s+2=g:=by injection e2
  have:=(hlt g e).1;omega
 exact⟨(h.b.other (by omega) _ _).other (by omega) _ _,(h.d.set 0 _).set 1 _,ho _ _ _ (ho _ _ _ h.own),(h.d.set 0 (.int .i64 u)).setB (h.d.setB h.hb (by omega) _ _) (by omega) _ _,h.hn⟩
end
def sB(w:World)(k:Nat)(e:Ending)(w':World):Prop:=∃(v:Value) (l:List Pt),e=.returned v∧Own 30 2 encR w' w.heap.size v l∧l.length≤k∧Below w.heap.size w w'
theorem ThS.ret{w W:World}{s k:Nat}{tx ty bx by':Int}{vo:Value}{o:List Pt}(h:ThS w W s tx ty bx by' vo o)(hk:o.length≤k):sB w k (.returned vo) W:=by
 obtain⟨h1,h2,h3,h4,rfl⟩:=h;exact⟨vo,o,rfl,h3.mono (by omega),hk,h4⟩
theorem qD(v:Value)(l:List Pt)(fx fy tx ty:Int)(w:World)(hl:l.length≤1000000)(hS:SlP w v l):Calls Tryz.prog 19 #[v,.agg #[fx,fy],.agg #[tx,ty]] w (sB w l.length):=by
 obtain⟨A,c,rfl,hr,_⟩:=hS;have HR:=hid hr;clear hr;have hG:=Tryz.guard30;obtain⟨s,hs⟩:∃n,w.heap.size=n:=⟨_,rfl⟩
 have hst:ThS w (((w.alloc (.cells #[fx,fy] 30)).alloc (.cells #[tx,ty] 30)).alloc (.cells #[fx,fy] 30)) s tx ty fx fy (.slice none 0 0) []:=by
  subst hs;exact⟨(Bx.newAt _ (by simp) rfl).alloc _,Bx.newAt _ (by simp) rfl,Own.nil _ _,((bw1 _ _).alloc (by simp) _).alloc (by simp;omega) _,rfl⟩
 have h4:=Bx.new (t:=30) (cs:=[.int .i64 fx,.int .i64 fy]) w rfl;have h4:=h4.alloc (.cells #[tx,ty] 30);obtain⟨k0,k1⟩:=h4.c2;have hl0:=h4.lt;clear h4;go_enter Tryz.func19,Tryz.ntmps19;go_upto_region 2 with fail;rw[show s+1+1=s+2 from rfl];clear k0 k1 hl0;have HS0:=hid hst;have HSS:=hid hs;clear hst hs;generalize ((w.alloc (.cells #[fx,fy] 30)).alloc (.cells #[tx,ty] 30)).alloc (.cells #[fx,fy] 30)=w1 at *;go_wp2_with fail;go_loopw [6,9,13] (fun vo _ i wr=>∃(j:Nat) (o:List Pt) (bx by':Int),j≤l.length∧i=.int .i64 j∧Hid (ThS w wr s tx ty bx by' vo o)∧Hid (o.length≤j)) (fun _ _ i _=>l.length-(intOf i).toNat)
 case atStart=>exact⟨0,[],_,_,by omega,rfl,HS0,hid (Nat.le_refl _)⟩
 case round=>
  clear HS0;obtain⟨j,o,bx,by',hj,rfl,HS,HOL⟩:=hrel
  by_cases hlt:j<l.length
  ·have hli:(j:Int)<(l.length:Int):=by omega
   have hbw:Below w.heap.size w wr:=by have:=HS.out.hb;rw[←HSS.out]at this;exact this
   obtain⟨b1,o1,rfl,_,d0,d1⟩:=RdR.get HR.out hbw hlt;generalize l[j]! = q at *;obtain⟨qx,qy⟩:=q;dsimp only at d0 d1;have hq:=Bx.new (t:=30) (cs:=[.int .i64 qx,.int .i64 qy]) wr rfl;have HS2:=hid (HS.out.below (bw1 wr (.cells #[qx,qy] 30)));obtain⟨Ao,co,rfl⟩:=Own.slice HS.out.own;have HBS:=hid (show s+3≤wr.heap.size from by have:=HS.out.d.lt;omega);have HNQ:=hid (show(Value.slice Ao o.length co).ownBlock≠some wr.heap.size∧s+2≠wr.heap.size from ⟨fun e=>by have:=(World.ownsRow.lt HS.out.own _ e).2;omega,by have:=HS.out.d.lt;omega⟩);have HKL:=hid hlt;clear HS hbw;go_upto_region 5 with fail;generalize wr.alloc (.cells #[qx,qy] 30)=w2 at *;have hqB:=hid (show s+3≤w2.heap.size from Nat.le_trans HBS.out (Nat.le_of_lt hq.lt));generalize wr.heap.size=nq at *;clear d0 d1 hlt;have HQ:=hid hq;obtain⟨d0,d1⟩:=hq.c2;obtain⟨b0,b1'⟩:=HS2.out.d.c2;clear hq;have n1:=fun W=>Tryz.neq30 qx qy bx by' W
   obtain⟨y,hy⟩:∃y,(!decide ((qx,qy)=(bx,by')))=y:=⟨_,rfl⟩;rw[hy]at n1;clear hy;cases y
   ·have HS3:=hid (HS2.out.st qx qy)
    have f0:=HS2.out.d.frozen 0;have f1:=HS2.out.d.frozen 1;have fl:=HS2.out.d.lt;go_wp2_with fail;clear d0 d1 b0 b1' f0 f1 fl;unfold st2 at HS3;generalize (w2.setCell ⟨s+2,0,none⟩ (.int .i64 qx)).setCell ⟨s+2,1,none⟩ (.int .i64 qy)=w3 at *;go_roundw
    case rel=>exact⟨j+1,o,qx,qy,HKL.out,by go_num,HS3,hid (Nat.le_succ_of_le HOL.out)⟩
    case measure=>simp[intOf];omega
   ·have hown:=HS2.out.own
    have hbs:=hqB.out;have hN1:o.length+1≤1000000000000:=by have:=HOL.out;have:=HKL.out;omega
    go_upto_region 7 with (at_builtin;refine wpList_plain rfl fun K' hK'=>Tryz.appP hown (qx,qy) _ _ rfl rfl rfl hN1 hbs ?_;intro v9 w9 hO9 hg9 hl9;refine hK' _ _ ?_;clear hK');have HS9:=hid (HS2.out.app hO9 hg9);have HS3:=hid (HS9.out.st qx qy);have HQ9:=hid (HQ.out.grown hg9 HNQ.out.1);clear d0 d1 b0 b1' hown hO9 hg9 hl9;obtain⟨d0,d1⟩:=HQ9.out.c2;have hc9:=HS9.out.d.c2;obtain⟨b0,b1'⟩:=hc9;have f0:=HS9.out.d.frozen 0;have f1:=HS9.out.d.frozen 1;have fl:=HS9.out.d.lt;go_wp2_with fail;clear d0 d1 b0 b1' f0 f1 fl;unfold st2 at HS3;generalize (w9.setCell ⟨s+2,0,none⟩ (.int .i64 qx)).setCell ⟨s+2,1,none⟩ (.int .i64 qy)=w3 at *;go_roundw
    case rel=>exact⟨j+1,_,qx,qy,HKL.out,by go_num,HS3,hid (by have:=HOL.out;simp;omega)⟩
    case measure=>simp[intOf];omega
  ·have HOL2:=hid (Nat.le_trans HOL.out hj)
   obtain⟨Ao,co,rfl⟩:=Own.slice HS.out.own;go_wp2_with fail;clear hlt hj HOL;go_loopw [6] (fun vo wr=>∃(o:List Pt),Hid (ThS w wr s tx ty bx by' vo o)∧Hid (o.length≤l.length)) (fun vo _=>lenOf vo)
   case atStart=>exact⟨_,HS,HOL2⟩
   case round=>
    clear HS HOL2;obtain⟨o,HS,HOL⟩:=hrel;have hS1:ThS w wr.drew s tx ty bx by' _ o:=HS.out.below (Below.refl _ _).drew
    by_cases h0:o=[]
    ·subst h0
     obtain⟨Ao,co,rfl⟩:=Own.slice HS.out.own;have hll:([]:List Pt).length=0:=rfl;go_wp2_with fail;refine wp_region_held_drew (S:=fun W:World=>ThS w W s tx ty bx by' (.slice Ao 0 co) []) (by kernel_rfl) hS1 (fun hHeld=>?_);clear hHeld;generalize hwd:wr.drew=wd at *;clear hwd;refine kk 0 rfl ?_;refine kk 1 rfl ?_;refine kk 2 rfl ?_;refine kk 3 rfl ?_;refine ku 4 rfl ?_;refine ku 5 rfl ?_;refine ku 6 rfl ?_;refine ku 7 rfl ?_;refine ku 8 rfl ?_;refine ku 9 rfl ?_;refine ku 10 rfl ?_;refine ku 11 rfl ?_;refine kk 12 rfl ?_;refine wpAnyH_done (by kernel_rfl) ?_ _;go_wp2_with fail;go_ret;exact hS1.ret (Nat.zero_le _)
    ·obtain⟨g,co,rfl,_,_⟩:=aG HS.out.own h0
     have h1:0<o.length:=List.length_pos_iff.2 h0;have HPOP:=hid (show ∀W,ThS w W s tx ty bx by' (.slice (some ⟨g,0,none⟩) o.length co) o→ThS w W s tx ty bx by' (.slice (some ⟨g,0,none⟩) (o.length-1) co) o.dropLast from fun W h=>⟨h.b,h.d,ro h.own h0,h.hb,h.hn⟩)
     have HCL:=hid (show ∀W,ThS w W s tx ty bx by' (.slice (some ⟨g,0,none⟩) o.length co) o→W.cell? ⟨g,(o.length-1)*2,none⟩=some (.int .i64 o[o.length-1]!.1)∧W.cell? ⟨g,(o.length-1)*2+1,none⟩=some (.int .i64 o[o.length-1]!.2)from fun W h=>by
      obtain⟨b',o',e,_,d0,d1⟩:=RdR.get (Own.rd encR_len h.own) (Below.refl _ _) (show o.length-1<o.length by omega);injection e with e;injection e with e1 e2;subst e1 e2;rw[Nat.zero_add]at d0 d1
      exact⟨d0,d1⟩)
     have HLE:=hid (show o.dropLast.length≤l.length∧o.dropLast.length=o.length-1 from ⟨by rw[List.length_dropLast];have:=HOL.out;omega,List.length_dropLast ..⟩);have hle:o.length≤1000000:=Nat.le_trans HOL.out hl;have j1:((o.length:Int)-1).toNat=o.length-1:=by omega
     have j2:(1:Int)≤(o.length:Int):=by omega
     have j4:IntKind.i64.wrap ((o.length:Int)-1)=(o.length:Int)-1:=IntWalk.i64_in _ (by omega);have j5:(o.length:Int)-1<(o.length:Int):=by omega
     have j6:(0:Int)<(o.length:Int):=by omega
     have hcap:o.length≤co:=by
      rcases HS.out.own.2 with⟨e,e2⟩|⟨g,cap,cur,e,_,_,h3,_⟩
      ·injection e;omega
      ·injection e with _ _ e;omega
     have j7:(o.length:Int)-1≤(co:Int):=by omega
     have j8:o.length-1≤co:=by omega
     clear h0;generalize o[o.length-1]! = q at *;obtain⟨qx,qy⟩:=q;dsimp only at HCL;have n1:=fun W=>Tryz.eql30 qx qy tx ty W
     obtain⟨y,hy⟩:∃y,decide ((qx,qy)=(tx,ty))=y:=⟨_,rfl⟩;rw[hy]at n1;clear hy;go_wp2_with fail;refine wp_region_held_drew (S:=fun W:World=>ThS w W s tx ty bx by' (.slice (some ⟨g,0,none⟩) o.length co) o) (by kernel_rfl) hS1 (fun hHeld=>?_);clear hHeld;generalize hwd:wr.drew=wd at *;clear hwd;refine kk 0 rfl ?_;refine kk 1 rfl ?_;refine kk 2 rfl ?_;refine kk 3 rfl ?_;refine kk 4 rfl ?_;refine kk 5 rfl ?_;refine kk 6 rfl ?_;refine kk 7 rfl ?_;refine kk 8 rfl ?_;refine kf 9 HCL.out rfl ?_;refine kf 10 (fun W h=>h.b.c2) rfl ?_;refine kk 11 rfl ?_;refine kk 12 rfl ?_;refine wpAnyH_done (by kernel_rfl) ?_ _;cases y
     ·have HRR:=hid (hS1.ret HOL.out)
      go_wp2_with fail;go_ret;exact HRR.out
     ·have HP:=hid (HPOP.out _ hS1)
      clear hS1 n1;go_wp2_with fail;go_roundw
      case rel=>exact⟨_,HP,hid HLE.out.1⟩
      case measure=>simp[lenOf];omega
end Go.Proofs
namespace Go.Proofs
open Go.RowKit Go.Proofs.Mp Go.Lib
structure PwA(w W:World)(s:Nat)(cs pr:List Value):Prop where
 hs:w.heap.size=s
 b:Below s w W
 p:Bx W s 26 cs
 r:Bx W (s+1) 28 pr
 o:Bx W (s+2) 26 [.slice none 0 0,.slice none 0 0,.slice none 0 0]
structure PwB(w W:World)(s nq:Nat)(cs pr:List Value)(vf:Value)(F:List Int):Prop where
 a:PwA w W s cs pr
 c:Own 3 1 Mp.encI W (s+3) vf F
 l:∀g,vf.ownBlock=some g→g<nq
 h:s+3≤nq
 z:nq+2≤W.heap.size
structure PwS(w W:World)(s nq:Nat)(cs pr:List Value)(vn va vf:Value)(N:List Nd)(L:List AV)(F:List Int)(f:Int→Option Value)(M:Nat):Prop where
 k:PwB w W s nq cs pr vf F
 q:Bx W nq 26 [vn,va,vf]
 m:Mp.MapV Tryz.prog 3 W (nq+1) M f
 d:Bld W (nq+2) vn va (.slice none 0 0) N L []
 v:∀z,∃a b:Int,(f z).getD (.agg #[.int .i64 0,.int .i64 0])=.agg #[a,b]
section
variable {w W W':World}{s nq M:Nat}{cs pr:List Value}{vn va vf:Value}{N:List Nd}{L:List AV}{F:List Int}{f:Int→Option Value}
theorem PwA.grown(h:PwA w W s cs pr){row:Option Nat}(hg:W.grownBy W' row)(hr:∀g,row=some g→s+3≤g):PwA w W' s cs pr:=by
 obtain⟨h1,h2,h3,h4,h5⟩:=h;have ne:∀g,g<s+3→row≠some g:=fun g hl e=>by have:=hr g e;omega
 exact⟨h1,h2.grown hg (by have:=h3.lt;omega) (fun j e=>by have:=hr j e;omega),h3.grown hg (ne _ (by omega)),h4.grown hg (ne _ (by omega)),h5.grown hg (ne _ (by omega))⟩
theorem PwA.below(h:PwA w W s cs pr)(hb:Below W.heap.size W W'):PwA w W' s cs pr:=h.grown (aD hb) (fun _ e=>by cases e)
theorem PwB.grown(h:PwB w W s nq cs pr vf F){row:Option Nat}(hg:W.grownBy W' row)(hr:∀g,row=some g→nq≤g):PwB w W' s nq cs pr vf F:=by
 obtain⟨h1,h6,h7,h8,h9⟩:=h;refine⟨h1.grown hg (fun g e=>by have:=hr g e;omega),World.ownsRow.kept h6 hg ?_,h7,h8,by have:=hg.size;omega⟩;cases e:vf.ownBlock with
 | none=>exact .inl rfl
 | some g=>exact .inr fun e2=>by have:=h7 g e;have:=hr g e2.symm;omega
theorem PwS.grown(h:PwS w W s nq cs pr vn va vf N L F f M){row:Option Nat}(hg:W.grownBy W' row)(hr:∀g,row=some g→W.heap.size≤g):PwS w W' s nq cs pr vn va vf N L F f M:=by
 obtain⟨h1,h2,h3,h4,h5⟩:=h;have hz:=h1.z;exact⟨h1.grown hg (fun g e=>by have:=hr g e;omega),h2.grown hg (fun e=>by have:=hr _ e;omega),h3.kept hg (fun e=>by have:=hr _ e.symm;omega),h4.keep hg (fun i g e e2=>by have:=hr _ e2;have:=(h4.lt i g e).2;omega),h5⟩
theorem PwS.below(h:PwS w W s nq cs pr vn va vf N L F f M)(hb:Below W.heap.size W W'):PwS w W' s nq cs pr vn va vf N L F f M:=h.grown (aD hb) (fun _ e=>by cases e)
theorem PwS.cell(h:PwS w W s nq cs pr vn va vf N L F f M){b:Nat}(hb:nq+2≤b)(hd:∀i g,bN vn va (.slice none 0 0) L i=some g→g<b)(o:Nat)(x:Value):PwS w (W.setCell ⟨b,o,none⟩ x) s nq cs pr vn va vf N L F f M:=by
 obtain⟨h1,h2,h3,h4,h5⟩:=h;have hg:=aj W ⟨b,o,none⟩ x;refine⟨h1.grown hg (fun g e=>?_),h2.grown hg (fun e=>?_),h3.kept hg (fun e=>?_),h4.keep hg (fun i g e e2=>?_),h5⟩
 ·have e:b=g:=by injection e
  omega
 ·have e:b=nq:=by injection e
  omega
 ·have e:nq+1=b:=by injection e
  omega
 ·have e2:b=g:=by injection e2
  have:=hd i g e;omega
theorem PwS.mark(h:PwS w W s nq cs pr vn va vf N L F f M){M':Nat}{z a b:Int}(hm:Mp.MapV Tryz.prog 3 W' (nq+1) M' (setV f z (.agg #[a,b])))(hg:W.grownBy W' (some (nq+1))):PwS w W' s nq cs pr vn va vf N L F (setV f z (.agg #[a,b])) M':=by
 obtain⟨h1,h2,h3,h4,h5⟩:=h;refine⟨h1.grown hg (fun g e=>by injection e with e;omega),h2.grown hg (fun e=>by injection e with e;omega),hm,h4.keep hg (fun i g e e2=>by injection e2 with e2;have:=(h4.lt i g e).1;omega),fun y=>?_⟩
 by_cases e:y=z
 ·subst e
  exact⟨a,b,by rw[setV_same];rfl⟩
 ·rw[setV_ne e]
  exact h5 y
theorem PwS.fld{x:Value}{o:Nat}(h1:PwB w W s nq cs pr vf F)(hm:Mp.MapV Tryz.prog 3 W (nq+1) M f)(hd:Bld W (nq+2) vn va (.slice none 0 0) N L []) :
  PwB w (W.setCell ⟨nq,o,none⟩ x) s nq cs pr vf F∧Mp.MapV Tryz.prog 3 (W.setCell ⟨nq,o,none⟩ x) (nq+1) M f∧Bld (W.setCell ⟨nq,o,none⟩ x) (nq+2) vn va (.slice none 0 0) N L []:=
 ⟨h1.grown (aj W ⟨nq,o,none⟩ x) (fun g e=>Nat.le_of_eq (Option.some.inj e)),hm.kept (aj W ⟨nq,o,none⟩ x) (fun e=>absurd (show nq+1=nq from Option.some.inj e) (by omega)),hd.cell (by omega) x⟩
theorem PwS.node(h:PwS w W s nq cs pr vn va vf N L F f M){y:Nd}{vn':Value}(ho:Own 71 3 aQ W' (nq+2) vn' (N++[y]))(hg:W.grownBy W' vn.ownBlock)(hl:vn'.ownBlock=vn.ownBlock∨∃j,vn'.ownBlock=some j∧W.heap.size≤j) :
  Bx W' nq 26 [vn,va,vf]∧PwS w (W'.setCell ⟨nq,0,none⟩ vn') s nq cs pr vn' va vf (N++[y]) L F f M:=by
 obtain⟨h1,h2,h3,h4,h5⟩:=h;have hlt:∀g,vn.ownBlock=some g→nq+2≤g:=fun g e=>(h4.lt 0 g e).1
 have hx:=h2.grown hg (fun e=>by have:=hlt _ e;omega);obtain⟨k1,k2,k3⟩:=PwS.fld (x:=vn') (o:=0) (h1.grown hg (fun g e=>by have:=hlt _ e;omega)) (h3.kept hg (fun e=>by have:=hlt _ e.symm;omega)) (h4.node ho hg hl);exact⟨hx,k1,hx.set 0 vn',k2,k3,h5⟩
theorem PwS.arc(h:PwS w W s nq cs pr vn va vf N L F f M){y:AV}(hv:Own 30 2 encR W (nq+2) y.2 y.1.via)(hfr:∀g,y.2.ownBlock=some g→∀i,bN vn va (.slice none 0 0) L i≠some g){va':Value}(ho:Own 58 6 encA W' (nq+2) va' (L++[y]))(hg:W.grownBy W' va.ownBlock)
  (hl:va'.ownBlock=va.ownBlock∨∃j,va'.ownBlock=some j∧W.heap.size≤j):Bx W' nq 26 [vn,va,vf]∧PwS w (W'.setCell ⟨nq,1,none⟩ va') s nq cs pr vn va' vf N (L++[y]) F f M:=by
 obtain⟨h1,h2,h3,h4,h5⟩:=h;have hlt:∀g,va.ownBlock=some g→nq+2≤g:=fun g e=>(h4.lt 1 g e).1
 have hx:=h2.grown hg (fun e=>by have:=hlt _ e;omega);obtain⟨k1,k2,k3⟩:=PwS.fld (x:=va') (o:=1) (h1.grown hg (fun g e=>by have:=hlt _ e;omega)) (h3.kept hg (fun e=>by have:=hlt _ e.symm;omega)) (h4.arc hv hfr ho hg hl);exact⟨hx,k1,hx.set 1 va',k2,k3,h5⟩
theorem PwS.start(h:PwA w W s cs pr){b:Nat}(ho:Own 3 1 Mp.encI W b vf F)(hb:s+3≤b)(hW:b≤W.heap.size) :
  PwS w ((W.alloc (.cells #[.slice none 0 0,.slice none 0 0,vf] 26)).alloc (.map #[] 0)) s W.heap.size cs pr (.slice none 0 0) (.slice none 0 0) vf [] [] F (fun _=>none) 0:=by
 have h1:=bw1 W (.cells #[.slice none 0 0,.slice none 0 0,vf] 26);have h2:=h1.alloc h1.size (.map #[] 0);refine⟨⟨h.below h2,(ho.below h2).mono hb,fun g e=>(World.ownsRow.lt ho g e).2,by omega,by simp⟩,(Bx.new W rfl).alloc _,?_,⟨Own.nil _ _,Own.nil _ _,Own.nil _ _,fun y hy=>(by cases hy),fun i j g hij hi hj=>?_⟩,fun z=>⟨0,0,rfl⟩⟩
 ·have:=Mp.MapV.made (P:=Tryz.prog) (k:=3) (W.alloc (.cells #[.slice none 0 0,.slice none 0 0,vf] 26))
  rwa [show(W.alloc (.cells #[.slice none 0 0,.slice none 0 0,vf] 26)).heap.size=W.heap.size+1 by simp]at this
 ·match i,hi with
  | 0,e=>cases e
  | 1,e=>cases e
  | 2,e=>cases e
  | i+3,e=>cases e
theorem PwS.whole(h:PwS w W s nq cs pr vn va vf N L F f M):Bld W (s+3) vn va vf N L F:=by
 obtain⟨h1,h2,h3,h4,h5⟩:=h;have hk:=h1.h;refine⟨h4.nd.mono (by omega),h4.ar.mono (by omega),h1.c,fun y hy=>(h4.vi y hy).mono (by omega),h4.inj.turn 2 (fun i hi=>by match i,hi with|0,_=>rfl|1,_=>rfl|j+3,_=>rfl) (.inr fun g e i _ e2=>?_)⟩;have e:vf.ownBlock=some g:=e;have:=h1.l g e;have:=(h4.lt i g e2).1;omega
end
def sw(w:World)(e:Ending)(w':World):Prop:=∃(a1 a2 a3:Value) (n:Int),e=.returned (.tuple #[.agg #[a1,a2,a3],.int .i64 n])∧(∃A n c,a1=.slice A n c)∧(∃A n c,a2=.slice A n c)∧(∃A n c,a3=.slice A n c)∧Below w.heap.size w w' ∧
 (n≠0∨n=0∧∃q m,plV q m=.agg #[a1,a2,a3]∧CheckP q∧PlR w' q m∧LRw q)
theorem PwA.fail{w W:World}{s:Nat}{cs pr:List Value}(h:PwA w W s cs pr){n:Int}(hn:n≠0):sw w (.returned (.tuple #[.agg #[.slice none 0 0,.slice none 0 0,.slice none 0 0],.int .i64 n])) W:=by
 obtain⟨rfl,h2,_⟩:=h;exact⟨_,_,_,n,rfl,⟨_,_,_,rfl⟩,⟨_,_,_,rfl⟩,⟨_,_,_,rfl⟩,h2,.inl hn⟩
theorem qO(w:World)(x y:Int):SlP (w.alloc (.cells #[x,y] 30)) (.slice (some ⟨w.heap.size,0,none⟩) 1 1) [(x,y)]:=by
 have hx:=Bx.new (t:=30) (cs:=[.int .i64 x,.int .i64 y]) w rfl;refine⟨_,1,rfl,.inr ⟨w.heap.size,0,rfl,hx.lt,fun j hj i u hu=>?_⟩,Nat.le_refl _⟩;have:j=0:=by simp at hj;omega
 subst this
 match i,hu with
 | 0,hu=>exact hu▸hx.c2.1
 | 1,hu=>exact hu▸hx.c2.2
theorem rk{w:World}{base:Nat}{v:Value}{l:List Pt}(h:Own 30 2 encR w base v l):SlP w v l:=by
 rcases h.2 with⟨rfl,hn⟩|⟨g,cap,cur,rfl,h1,h2,h3,h4,_⟩
 ·have hx:l.length=0:=hn
  exact⟨none,0,by rw[hx],Own.rd encR_len h,by omega⟩
 ·exact⟨_,cap,rfl,Own.rd encR_len h,h3⟩
theorem Tryz.wpNd{w:World}{base:Nat}{v:Value}{xs:List Nd}{o:Oper}{a:Act}{K:Act→World→Prop}{Q:Exit→Act→World→Prop}
  (hown:Own 71 3 aQ w base v xs)(y:Nd)(s x:Operand)
  (ho:o.op=.call { callee:=.builtin .append,args:=#[s,x],argTypes:=#[22,22] })(hs:a.eval s=v)(hx:a.eval x=.slice (some ⟨w.heap.size,0,none⟩) 1 1)
  (hN:xs.length+1≤1000000000)(hbase:base≤w.heap.size)
  (h:∀v' w',Own 71 3 aQ w' base v' (xs++[y])→w.grownBy w' v.ownBlock→(v'.ownBlock=v.ownBlock∨∃j,v'.ownBlock=some j∧w.heap.size≤j)→K (a.put o.dst v') w') :
  o.wp Tryz.prog a (w.alloc (.cells (aQ y).toArray 71)) K Q:=by
 obtain⟨i0,hi0,hz0,hz1,hz2⟩:=Mp.info_parts Tryz.infoN
 exact Own.wpAt 22 i0 (.agg #[.int .i64 0,.int .i64 0,.int .i64 0]) 24 Tryz.underlying22 hi0 hz0 hz1 hz2 rfl (by decide) (by decide) dE y (by
  intro u hu;simp only[aQ,List.mem_cons,List.not_mem_nil,or_false]at hu
  rcases hu with rfl|rfl|rfl<;>rfl) s x ho hown hs hx (by omega) hbase h
def Pq(nb b2 o2:Nat)(ni u t:Int)(W:World):Prop:=W.cell? ⟨nb,0,none⟩=some (.int .i64 ni)∧W.cell? ⟨b2,o2,none⟩=some (.int .i64 u)∧W.cell? ⟨b2,o2+1,none⟩=some (.int .i64 t)∧nb<W.heap.size∧b2<W.heap.size
section
variable {nb b2 o2:Nat}{ni u t:Int}{W W':World}
theorem Pq.grown(h:Pq nb b2 o2 ni u t W){row:Option Nat}(hg:W.grownBy W' row)(h1:row≠some nb)(h2:row≠some b2):Pq nb b2 o2 ni u t W':=by
 obtain⟨c0,c1,c2,c3,c4⟩:=h;exact⟨(World.cell?_of_block (hg.block nb c3 h1.symm)).trans c0,(World.cell?_of_block (hg.block b2 c4 h2.symm)).trans c1,(World.cell?_of_block (hg.block b2 c4 h2.symm)).trans c2,Nat.lt_of_lt_of_le c3 hg.size,Nat.lt_of_lt_of_le c4 hg.size⟩
theorem Pq.below(h:Pq nb b2 o2 ni u t W)(hb:Below W.heap.size W W'):Pq nb b2 o2 ni u t W':=h.grown (aD hb) (fun e=>by cases e) (fun e=>by cases e)
theorem Pq.cell(h:Pq nb b2 o2 ni u t W){q:Nat}(h1:q≠nb)(h2:q≠b2)(o:Nat)(v:Value):Pq nb b2 o2 ni u t (W.setCell ⟨q,o,none⟩ v):=h.grown (aj _ _ _) (fun e=>h1 (Option.some.inj e)) (fun e=>h2 (Option.some.inj e))
end
end Go.Proofs
namespace Go.Proofs
open Go.RowKit Go.Proofs.Mp Go.Lib Go.Sort Go.Shelf
theorem uB{n:Nat}(key:Nat→Int):SWO (ltOf fun x y:Ix n=>Lib.compareInt (key x.1) (key y.1)) where
 irrefl x:=by unfold ltOf;rw[decide_eq_false_iff_not,aH];omega
 trans x y z h1 h2:=by
  unfold ltOf at *;rw[decide_eq_true_eq,aH]at *;omega
 ntrans x y z h1 h2:=by
  unfold ltOf at *;rw[decide_eq_false_iff_not,aH]at *;omega
theorem sZ(a1 b1:Int)(A1 A2 A3 B1 B2 B3:Option Addr)(n1 n2 n3 m1 m2 m3 c1 c2 c3 d1 d2 d3:Nat)(w:World):Calls Tryz.prog 83 #[.agg #[a1,.slice A1 n1 c1,.slice A2 n2 c2,.slice A3 n3 c3],.agg #[b1,.slice B1 m1 d1,.slice B2 m2 d2,.slice B3 m3 d3]] w (eC w (.int .i64 (Lib.compareInt a1 b1))):=by
 have cC:=hid fun W=>kL a1 b1 W
 generalize Lib.compareInt a1 b1=r at *;have hs0:=(Bx.new (t:=123) (cs:=[.int .i64 a1,.slice A1 n1 c1,.slice A2 n2 c2,.slice A3 n3 c3]) w rfl).alloc (.cells #[b1,.slice B1 m1 d1,.slice B2 m2 d2,.slice B3 m3 d3] 123);have ht0:=Bx.newAt (b:=w.heap.size+1) (t:=123) (cs:=[.int .i64 b1,.slice B1 m1 d1,.slice B2 m2 d2,.slice B3 m3 d3]) (w.alloc (.cells #[a1,.slice A1 n1 c1,.slice A2 n2 c2,.slice A3 n3 c3] 123)) (by simp) rfl;have HB1:Hid (BD w ((w.alloc (.cells #[a1,.slice A1 n1 c1,.slice A2 n2 c2,.slice A3 n3 c3] 123)).alloc (.cells #[b1,.slice B1 m1 d1,.slice B2 m2 d2,.slice B3 m3 d3] 123))):=hid ⟨bwx w _ _,Nat.le_refl _⟩;go_enter Tryz.func83,Tryz.ntmps83;go_upto_region 1 with fail;generalize (w.alloc (.cells #[a1,.slice A1 n1 c1,.slice A2 n2 c2,.slice A3 n3 c3] 123)).alloc (.cells #[b1,.slice B1 m1 d1,.slice B2 m2 d2,.slice B3 m3 d3] 123)=w1 at *;obtain⟨x0,_,_,_⟩:=hs0.c4;obtain⟨y0,_,_,_⟩:=ht0.c4;clear hs0 ht0;go_wp2_with fail;refine(cC.out w1).mono ?_;rintro e w2 ⟨rfl,hb2⟩;have HB2:=hid (BD.trans HB1.out hb2);clear x0 y0 hb2;go_wp2_with fail;go_ret;exact⟨rfl,HB2.out⟩
theorem ow{l:List AT}(h:∀y∈l,(∃A n c,y.2.1=.slice A n c)∧(∃A n c,y.2.2.1=.slice A n c)∧∃A n c,y.2.2.2=.slice A n c):∀y∈l,∀u∈bh y,u.oneCell'=true:=by
 intro y hy u hu;obtain⟨⟨A,n,c,e⟩,⟨A',n',c',e'⟩,A2,n2,c2,e2⟩:=h y hy;simp only[bh,List.mem_cons,List.not_mem_nil,or_false]at hu
 rcases hu with rfl|rfl|rfl|rfl
 ·rfl
 ·rw[e];rfl
 ·rw[e'];rfl
 ·rw[e2];rfl
theorem qW(l:List AT)(w:World)(base:Nat)(v:Value)(hO:Own 123 4 bh w base v l)(hl:l.length≤10000000000)(h1:∀y∈l,(∃A n c,y.2.1=.slice A n c)∧(∃A n c,y.2.2.1=.slice A n c)∧∃A n c,y.2.2.2=.slice A n c) :
  Calls Tryz.prog 82 #[v,.func (.func 83) #[] #[]] w (fun e w'=>e=.returned (.tuple #[])∧∃L:List AT,L.Perm l∧Own 123 4 bh w' base v L∧w.grownBy w' v.ownBlock):=by
 by_cases h0:l=[]
 ·subst h0
  obtain⟨A,c,rfl⟩:=Own.slice hO;have hcon:=AnyF.slices_SortFunc_none Tryz.sortRe A c (.func (.func 83) #[] #[]) w;change Calls Tryz.prog 82 _ _ _ at hcon;refine hcon.mono ?_;rintro e w' ⟨he,rfl⟩;exact⟨he,[],List.Perm.refl _,hO,World.grownBy.refl _ _⟩
 ·have hl0:0<l.length:=List.length_pos_iff.2 h0
  obtain⟨g,cap,rfl,hg1,hg2⟩:=aG hO h0
  letI:Inhabited (Ix l.length):=⟨⟨0,hl0⟩⟩
  have eg:∀args w,(callFunc 83 args).run Tryz.prog w=.ok (.enter 83 args) w:=enters_of Tryz.func83 (by kernel_rfl) rfl;have hH:=eK bO hO
  have hcmp:CmpLays Tryz.prog 83 #[] (fun x:Ix l.length=>bh l[x.1]!) 4 (fun x y=>Lib.compareInt l[x.1]!.1 l[y.1]!.1) g 0 (ixs l.length).size w:=by
   intro m os dk _ x y;have hx:=h1 _ (ak x.2);have hy:=h1 _ (ak y.2);dsimp only[bh];generalize l[x.1]! = X at *;generalize l[y.1]! = Y at *;obtain⟨x1,x2,x3,x4⟩:=X;obtain⟨y1,y2,y3,y4⟩:=Y;obtain⟨⟨_,_,_,rfl⟩,⟨_,_,_,rfl⟩,_,_,_,rfl⟩:=hx;obtain⟨⟨_,_,_,rfl⟩,⟨_,_,_,rfl⟩,_,_,_,rfl⟩:=hy;refine(sZ x1 y1 _ _ _ _ _ _ _ _ _ _ _ _ _ _ _ _ _ _ _).mono ?_;rintro e w' ⟨he,hb⟩;exact⟨he,gF hb.bel hb.drawn⟩
  have hcon:=AnyQ.slices_SortFunc Tryz.sortRe 4 Tryz.isAgg123 Tryz.sizeOf123 (fun x:Ix l.length=>bh l[x.1]!) (fun _=>rfl) (fun x=>ow h1 _ (ak x.2)) (fun x y=>Lib.compareInt l[x.1]!.1 l[y.1]!.1) (uB fun i=>l[i]!.1) 83 #[] g 0 cap (ixs l.length) w eg hcmp hH hg2 (by rw[aS];omega);change Calls Tryz.prog 82 _ _ _ at hcon;refine(oW bO hO (fun a b=>Lib.compareInt l[a]!.1 l[b]!.1) hcon).mono ?_;rintro e w' ⟨he,q,hq1,hq2,hq3,hq4⟩;refine⟨he,q.map fun i=>l[i]!,?_,hq3,hq4⟩;have:=hq1.map fun i=>l[i]!
  have e1:(List.range l.length).map (fun i=>l[i]!)=l:=by
   apply List.ext_getElem
   ·simp
   ·intro i h1 h2
    rw[List.getElem_map,List.getElem_range,getElem!_pos l i h2]
  rwa [e1]at this
theorem Tryz.infoRe:(Tryz.prog.info? 123).map (fun i=>(i.zero,i.size,i.bytes))=some (some (.agg #[.int .i64 0,.slice none 0 0,.slice none 0 0,.slice none 0 0]),4,80):=by kernel_rfl
theorem Tryz.wpRe{w:World}{base:Nat}{v:Value}{xs:List AT}{o:Oper}{a:Act}{K:Act→World→Prop}{Q:Exit→Act→World→Prop}
  (hown:Own 123 4 bh w base v xs)(t:Int)(A B C:Option Addr)(n1 n2 n3 c1 c2 c3:Nat)(s x:Operand)
  (ho:o.op=.call { callee:=.builtin .append,args:=#[s,x],argTypes:=#[110,110] })(hs:a.eval s=v)(hx:a.eval x=.slice (some ⟨w.heap.size,0,none⟩) 1 1)
  (hN:xs.length+1≤1000000000)(hbase:base≤w.heap.size)
  (h:∀v' w',Own 123 4 bh w' base v' (xs++[(t,.slice A n1 c1,.slice B n2 c2,.slice C n3 c3)])→w.grownBy w' v.ownBlock→(v'.ownBlock=v.ownBlock∨∃j,v'.ownBlock=some j∧w.heap.size≤j)→K (a.put o.dst v') w') :
  o.wp Tryz.prog a (w.alloc (.cells #[t,.slice A n1 c1,.slice B n2 c2,.slice C n3 c3] 123)) K Q:=by
 obtain⟨i0,hi0,hz0,hz1,hz2⟩:=Mp.info_parts Tryz.infoRe
 exact Own.wpAt 110 i0 _ 80 Tryz.underlying110 hi0 hz0 hz1 hz2 rfl (by decide) (by decide) bO (t,.slice A n1 c1,.slice B n2 c2,.slice C n3 c3) (by
  intro u hu;simp only[bh,List.mem_cons,List.not_mem_nil,or_false]at hu
  rcases hu with rfl|rfl|rfl|rfl<;>rfl) s x ho hown hs hx (by omega) hbase h
def RgE(p:Pn)(w:World)(y:AT):Prop:=Cz p w y.2.1∧(∃I,SlY p w y.2.2.1 I)∧∃l,SlI w y.2.2.2 l∧l.length≤2000000
theorem RgE.below{p:Pn}{w w':World}{y:AT}(h:RgE p w y)(hb:Below w.heap.size w w'):RgE p w' y:=by
 obtain⟨h1,⟨I,h2⟩,l,h3,h4⟩:=h;exact⟨h1.below hb,⟨I,h2.below hb⟩,l,h3.below hb,h4⟩
theorem RgE.lits{p:Pn}{w:World}{y:AT}(h:RgE p w y):(∃A n c,y.2.1=.slice A n c)∧(∃A n c,y.2.2.1=.slice A n c)∧∃A n c,y.2.2.2=.slice A n c:=by
 obtain⟨h1,⟨I,h2⟩,l,h3,h4⟩:=h;obtain⟨A,c,e,_⟩:=h2.sl;exact⟨h1.lit,⟨A,_,c,e⟩,h3.lit⟩
theorem ArQ.rgE{p:Pn}{w:World}{v:Value}{Y:List AT}(h:ArQ p w v Y){k:Nat}(hk:k<Y.length):RgE p w Y[k]!:=by
 refine⟨?_,h.el _ (ak hk)⟩
 rcases Nat.eq_zero_or_pos k with rfl|h0
 ·rw[h.z];exact Cz.nil _ _
 ·exact(h.ou k hk h0).z
structure RgQ(p:Pn)(w:World)(v:Value)(Y:List AT):Prop where
 sl:∃A c,v=.slice A Y.length c∧Rd 4 bh w A Y
 el:∀y∈Y,RgE p w y
 le:Y.length≤1000001
theorem RgQ.below{p:Pn}{w w':World}{v:Value}{Y:List AT}(h:RgQ p w v Y)(hb:Below w.heap.size w w'):RgQ p w' v Y:=by
 obtain⟨A,c,e,h1⟩:=h.sl;exact⟨⟨A,c,e,h1.below hb⟩,fun y hy=>(h.el y hy).below hb,h.le⟩
def sE(p:Pn)(w:World)(e:Ending)(w':World):Prop:=∃(v:Value) (n:Int),e=.returned (.tuple #[v,n])∧Below w.heap.size w w'∧(n≠0∨n=0∧CheckP p∧∃Y,RgQ p w' v Y)
theorem gQ(p:Pn)(m:Mem)(w:World)(hR:PlR w p m)(hLR:LRw p):Calls Tryz.prog 43 #[plV p m] w (sE p w):=by
 have cR:=hid fun W (hb:Below w.heap.size w W)=>mg p m W (hR.below hb) hLR
 have hplV:plV p m=.agg #[.slice m.an p.nodes.length m.cn,.slice m.aa p.arcs.length m.ca,.slice m.af p.faces.length m.cf]:=rfl;rw[hplV]at cR ⊢;clear hR hplV hLR;generalize p.nodes.length=l1 at *;generalize p.arcs.length=l2 at *;generalize p.faces.length=l3 at *;obtain⟨an,aa,af,cn,ca,cf,mvs⟩:=m;dsimp only at *;have ha:=Bx.new (t:=26) (cs:=[.slice an l1 cn,.slice aa l2 ca,.slice af l3 cf]) w rfl;have HW1:=hid (bw1 w (.cells #[.slice an l1 cn,.slice aa l2 ca,.slice af l3 cf] 26));go_enter Tryz.func43,Tryz.ntmps43;go_upto_region 1 with fail;generalize w.alloc (.cells #[.slice an l1 cn,.slice aa l2 ca,.slice af l3 cf] 26)=w1 at *;obtain⟨a0,a1,a2⟩:=ha.c3;clear ha;go_wp2_with fail;refine(cR.out w1 HW1.out).mono ?_;rintro e w2 ⟨n,v,fv,mv,rfl,hb2,h2⟩;have HW2:=hid (HW1.out.trans (hb2.mono HW1.out.size));clear a0 a1 a2 hb2
 by_cases hn:n=0
 rotate_left
 ·have hnn:(n==0)=false:=by rw[beq_eq_false_iff_ne];exact hn
  have HN:=hid hn;clear h2 hn;go_wp2_with fail;go_ret2;exact⟨_,n,rfl,HW2.out,.inl HN.out⟩
 subst hn
 rcases h2 with h2|⟨_,hC,Y,l,hA,hS,hl⟩
 ·exact absurd rfl h2
 have HCk:=hid hC;have HA:=hid hA;have HS:=hid hS;have HL:=hid hl;have hyl:=hA.len.2;obtain⟨Av,cv,rfl,_,_⟩:=hA.sl;obtain⟨Af,cf2,rfl,_,_⟩:=hS;clear hC hA hl;go_wp2_with fail;go_loopw [2,7,8,21] (fun vo _ _ i wr=>∃(k:Nat) (O:List AT),k≤Y.length∧i=.int .i64 k∧Hid (Own 123 4 bh wr w2.heap.size vo O)∧Hid (Below w2.heap.size w2 wr)∧Hid (O.length=k∧∀y∈O,RgE p w2 y)) (fun _ _ _ i _=>Y.length-(intOf i).toNat)
 case atStart=>exact⟨0,[],by omega,rfl,hid (Own.nil _ _),hid (Below.refl _ _),hid ⟨rfl,fun y hy=>by cases hy⟩⟩
 case round=>
  obtain⟨k,O,hk,rfl,HO,HB,HOL⟩:=hrel
  by_cases hlt:k<Y.length
  ·have hli:(k:Int)<(Y.length:Int):=by omega
   obtain⟨A,c,e,hrY,_⟩:=HA.out.sl;injection e with e _ e2;subst e e2;obtain⟨b1,o1,rfl,hb1,hcell⟩:=rd4 hrY HB.out hlt;obtain⟨d0,d1,d2,d3⟩:=hcell k hlt;clear hcell;have hE:=HA.out.rgE hlt;have HE:=hid hE;generalize Y[k]! = y at *;obtain⟨t,o,ii,a⟩:=y;obtain⟨⟨Ao,no,co,e1⟩,⟨Ai,ni,ci,e2⟩,Aa,na,ca',e3⟩:=hE.lits;dsimp only at e1 e2 e3 d0 d1 d2 d3;subst e1 e2 e3;obtain⟨A,c,e,hrF,_⟩:=HS.out;injection e with e _ e2;subst e e2;have hlf:k<l.length:=by rw[HL.out];exact hlt
   obtain⟨b2,o2,rfl,hb2,dF⟩:=RdI.get hrF HB.out hlf;have hlf2:(k:Int)<(l.length:Int):=by omega
   generalize l[k]! = fk at *;have hx:=Bx.new (t:=158) (cs:=[.int .i64 t,.slice Ao no co,.slice Ai ni ci,.slice Aa na ca']) wr rfl;have hw5:=bw1 wr (.cells #[t,.slice Ao no co,.slice Ai ni ci,.slice Aa na ca'] 158);have HO5:=hid (HO.out.below hw5);have HB5:=hid (HB.out.trans (hw5.mono HB.out.size));have HNX:=hid (show ∀vo:Value,Own 123 4 bh wr w2.heap.size vo O→vo.ownBlock≠some wr.heap.size from fun vo h e=>by have:=(World.ownsRow.lt h _ e).2;omega);obtain⟨A9,c9,rfl⟩:=Own.slice HO.out;have HNX:=hid (HNX.out _ HO.out)
   have HF5:=hid (show(wr.alloc (.cells #[t,.slice Ao no co,.slice Ai ni ci,.slice Aa na ca'] 158)).cell? ⟨b2,o2+k,none⟩=some (.int .i64 fk)from by
    rw[World.cell?_of_block (hw5.block b2 (Nat.lt_of_lt_of_le hb2 HB.out.size))];exact dF)
   have hkb:k+1≤1000001:=by omega
   have HKL:=hid hlt;clear hE hrY hrF hw5 dF HO HB;go_upto_region 7 with fail;generalize wr.alloc (.cells #[t,.slice Ao no co,.slice Ai ni ci,.slice Aa na ca'] 158)=w5 at *;generalize wr.heap.size=nx at *;clear d0 d1 d2 d3 hlt;have HX5:=hid hx;clear hx;have hS1:(fun W:World=>(W.cell? ⟨b2,o2+k,none⟩=some (.int .i64 fk))∧Bx W nx 158 [t,.slice Ao no co,.slice Ai ni ci,.slice Aa na ca']) w5.drew:=⟨HF5.out,HX5.out⟩;have hown:=HO5.out;have hown:Own 123 4 bh w5.drew w2.heap.size (.slice A9 O.length c9) O:=hown;have hbs:w2.heap.size≤w5.drew.heap.size:=HB5.out.size;have hN1:O.length+1≤1000000000:=by have:=HOL.out.1;omega
   have HBd:=hid (show Below w2.heap.size w2 w5.drew from HB5.out.drew);clear HF5 HX5 HO5 HB5;refine wp_region_held_drew (S:=(fun W:World=>(W.cell? ⟨b2,o2+k,none⟩=some (.int .i64 fk))∧Bx W nx 158 [t,.slice Ao no co,.slice Ai ni ci,.slice Aa na ca'])) (by kernel_rfl) hS1 (fun hHeld=>?_);clear hHeld;generalize hwd:w5.drew=wd at *;clear hwd;have HBW:=hid (show b2<wd.heap.size from Nat.lt_of_lt_of_le hb2 hbs);have HBN:=hid (show(Value.slice A9 O.length c9).ownBlock≠some b2 from fun e=>by have:=(World.ownsRow.lt hown _ e).1;omega);refine kk 0 rfl ?_;refine kk 1 rfl ?_;refine kk 2 rfl ?_;refine kk 3 rfl ?_;refine kf 4 (fun W h=>h.1) rfl ?_;refine kk 5 rfl ?_;refine kf 6 (fun W h=>h.2.c4) rfl ?_;refine kk 7 rfl ?_;refine kf 8 (fun W h=>h.2.c4) rfl ?_;refine kk 9 rfl ?_;refine kf 10 (fun W h=>h.2.c4) rfl ?_;refine kk 11 rfl ?_;refine kr 12 rfl fun K hK=>?_
   go_simp;have hS2:=And.intro ((World.cell?_of_block ((bw1 wd (.cells #[fk,.slice Ao no co,.slice Ai ni ci,.slice Aa na ca'] 123)).block b2 HBW.out)).trans hS1.1) (Bx.alloc hS1.2 (.cells #[fk,.slice Ao no co,.slice Ai ni ci,.slice Aa na ca'] 123));refine hK.out _ _ hS2 (fun hHeld=>?_);clear hK hHeld K
   try simp only[Act.put,sa,sz,ss]
   refine kr 13 rfl fun K hK=>?_
   refine wp_step rfl (Tryz.wpRe hown fk Ao Ai Aa no ni na co ci ca' _ _ rfl rfl rfl hN1 hbs ?_);intro v9 w9 hO9 hg9 hl9;have hS3:=And.intro ((World.cell?_of_block (hg9.block b2 HBW.out (fun e=>HBN.out e.symm))).trans hS1.1) (Bx.grown (w:=wd) hS1.2 hg9 HNX.out);have HO9:=hid hO9;have HB9:=hid (HBd.out.grown hg9 HBd.out.size (fun j e=>(World.ownsRow.lt hown j e).1));clear hS2 hg9 hl9 hO9;refine hK.out _ _ hS3 (fun hHeld=>?_);clear hK hHeld K
   try simp only[Act.put,sa,sz,ss]
   refine kk 14 rfl ?_;refine wpAnyH_done (by kernel_rfl) ?_ _;clear hS1 hS3;go_wp2_with fail;go_roundw
   case rel=>exact⟨k+1,_,HKL.out,by go_num,HO9,HB9,hid ⟨by have:=HOL.out.1;simp;omega,fun y hy=>by
    rcases List.mem_append.1 hy with h|h
    ·exact HOL.out.2 y h
    ·rw[List.mem_singleton.1 h];exact HE.out⟩⟩
   case measure=>simp[intOf];omega
  ·have HOK:=hid (show O.length≤1000001 by have:=HOL.out.1;omega)
   obtain⟨A9,c9,e9⟩:=Own.slice HO.out;have HE9:=hid e9;subst e9;have cS:=hid (qW O wr w2.heap.size _ HO.out (by have:=HOK.out;omega) (fun y hy=>(HOL.out.2 y hy).lits));go_wp2_with fail;refine cS.out.mono ?_;rintro e w9 ⟨rfl,L,hp,hO9,hg9⟩;have hb9:Below w2.heap.size w2 w9:=HB.out.grown hg9 HB.out.size (fun j e=>(World.ownsRow.lt HO.out j e).1)
   have HR:=hid (show sE p w (.returned (.tuple #[.slice A9 O.length c9,.int .i64 0])) w9 from ⟨_,0,rfl,HW2.out.trans (hb9.mono HW2.out.size),.inr ⟨rfl,HCk.out,L,⟨by
    obtain⟨A,c,e⟩:=Own.slice hO9;rw[e]at hO9
    exact⟨A,c,e,Own.rd bO hO9⟩,fun y hy=>((HOL.out.2 y (hp.mem_iff.1 hy)).below hb9),by rw[hp.length_eq];exact HOK.out⟩⟩⟩)
   clear hp hO9 hg9 hb9;go_wp2_with fail;go_ret2;exact HR.out
end Go.Proofs
namespace Go.Proofs
open Go.RowKit Go.Proofs.Mp Go.Lib
theorem Tryz.eql117(x1 x2 x3 x4 x5 y1 y2 y3 y4 y5:Int):∃b:Bool,∀W,(binOp .eql 117 (.agg #[x1,x2,x3,x4,x5]) (.agg #[y1,y2,y3,y4,y5])).run Tryz.prog W=.ok (.bool b) W:=by
 refine⟨decide (x1=y1∧x2=y2∧x3=y3∧x4=y4∧x5=y5),fun W=>?_⟩;have u3:=Tryz.underlying3;have a3:=Tryz.isAgg3;have z3:=Tryz.sizeOf3;have hS:Tryz.prog.underlying 117=some (.struct (Tryz.prog.fieldsOf 117)):=by kernel_rfl
 have hp:Tryz.prog.stoodInHeld 117=false:=by kernel_rfl
 rw[run_eql_struct,show(10000:Nat)=9999+1 from rfl,run_equalIn_agg W 9999 117 _ _ hS hp];simp only[Program.fieldsOf,Tryz.underlying117];go_simp
 by_cases h1:x1=y1<;>by_cases h2:x2=y2<;>by_cases h3:x3=y3<;>by_cases h4:x4=y4<;>by_cases h5:x5=y5<;>simp[h1,h2,h3,h4,h5]
theorem Tryz.guard117:Tryz.prog.eqGuardType Tryz.prog.depth 117=false:=by kernel_rfl
theorem sT(a b c x y z:Int)(w:World):Calls Tryz.prog 45 #[.agg #[a,b,c],.agg #[x,y,z]] w (bQ w):=by
 have hs0:=(Bx.new (t:=71) (cs:=[.int .i64 a,.int .i64 b,.int .i64 c]) w rfl).alloc (.cells #[x,y,z] 71);have ht0:=Bx.newAt (b:=w.heap.size+1) (t:=71) (cs:=[.int .i64 x,.int .i64 y,.int .i64 z]) (w.alloc (.cells #[a,b,c] 71)) (by simp) rfl;have HB:=hid (bwx w (.cells #[a,b,c] 71) (.cells #[x,y,z] 71));go_enter Tryz.func45,Tryz.ntmps45;go_upto_region 1 with fail;generalize (w.alloc (.cells #[a,b,c] 71)).alloc (.cells #[x,y,z] 71)=w1 at *;obtain⟨x0,_,_⟩:=hs0.c3;obtain⟨y0,_,_⟩:=ht0.c3;clear hs0 ht0;go_wp2_with fail;go_ret;exact⟨_,rfl,HB.out⟩
def uq(w:World)(e:Ending)(w':World):Prop:=∃a b c d f:Int,e=.returned (.agg #[a,b,c,d,f])∧Below w.heap.size w w'
def st5(w:World)(b:Nat)(v0 v1 v2 v3 v4:Value):World:=((((w.setCell ⟨b,0,none⟩ v0).setCell ⟨b,1,none⟩ v1).setCell ⟨b,2,none⟩ v2).setCell ⟨b,3,none⟩ v3).setCell ⟨b,4,none⟩ v4
theorem oQ(a b c l r:Int)(A:Option Addr)(n cc:Nat)(w:World):Calls Tryz.prog 48 #[.agg #[a,b,c,.slice A n cc,l,r]] w (uq w):=by
 have hx:=(Bx.new (t:=58) (cs:=[.int .i64 a,.int .i64 b,.int .i64 c,.slice A n cc,.int .i64 l,.int .i64 r]) w rfl).alloc (.cells #[.int .i64 0,.int .i64 0,.int .i64 0,.int .i64 0,.int .i64 0] 117);have hy:=Bx.newAt (b:=w.heap.size+1) (t:=117) (cs:=[.int .i64 0,.int .i64 0,.int .i64 0,.int .i64 0,.int .i64 0]) (c:=#[.int .i64 0,.int .i64 0,.int .i64 0,.int .i64 0,.int .i64 0]) (w.alloc (.cells #[a,b,c,.slice A n cc,l,r] 58)) (by simp) rfl;have hw:=bwx w (.cells #[a,b,c,.slice A n cc,l,r] 58) (.cells #[.int .i64 0,.int .i64 0,.int .i64 0,.int .i64 0,.int .i64 0] 117);obtain⟨nb,hnb⟩:∃n,w.heap.size+1=n:=⟨_,rfl⟩;have hle:w.heap.size≤nb:=by omega
 rw[hnb]at hy;go_enter Tryz.func48,Tryz.ntmps48;go_upto_region 1 with fail;clear hnb;change Bx ((w.alloc (.cells #[a,b,c,.slice A n cc,l,r] 58)).alloc (.cells #[.int .i64 0,.int .i64 0,.int .i64 0,.int .i64 0,.int .i64 0] 117)) _ _ _ at hx;generalize (w.alloc (.cells #[a,b,c,.slice A n cc,l,r] 58)).alloc (.cells #[.int .i64 0,.int .i64 0,.int .i64 0,.int .i64 0,.int .i64 0] 117)=w1 at *;have hz:Bx (st5 w1 nb (.int .i64 a) (.int .i64 b) (.int .i64 c) (.int .i64 l) (.int .i64 r)) nb 117 [a,b,c,l,r]:=((((hy.set 0 _).set 1 _).set 2 _).set 3 _).set 4 _
 have hb:Below w.heap.size w (st5 w1 nb (.int .i64 a) (.int .i64 b) (.int .i64 c) (.int .i64 l) (.int .i64 r)):=
  ((((hy.set 0 (.int .i64 a)).set 1 (.int .i64 b)).set 2 (.int .i64 c)).set 3 (.int .i64 l)).setB ((((hy.set 0 (.int .i64 a)).set 1 (.int .i64 b)).set 2 (.int .i64 c)).setB (((hy.set 0 (.int .i64 a)).set 1 (.int .i64 b)).setB ((hy.set 0 (.int .i64 a)).setB (hy.setB hw hle _ _) hle _ _) hle _ _) hle _ _) hle _ _
 have HZ:=hid (And.intro hz hb);clear hz hb;obtain⟨x0,x1,x2,x3,x4,x5⟩:=hx.c6;have y0:=hy.cell 0;have y1:=hy.cell 1;have y2:=hy.cell 2;have y3:=hy.cell 3;have y4:=hy.cell 4;simp only[gz,gs]at y0 y1 y2 y3 y4;have f0:=hy.frozen 0;have f1:=hy.frozen 1;have f2:=hy.frozen 2;have f3:=hy.frozen 3;have f4:=hy.frozen 4;have fl:=hy.lt;clear hx hy hw;go_wp2_with fail;change bodyPost _ _ _ _ _ (st5 w1 nb (.int .i64 a) (.int .i64 b) (.int .i64 c) (.int .i64 l) (.int .i64 r));generalize st5 w1 nb (.int .i64 a) (.int .i64 b) (.int .i64 c) (.int .i64 l) (.int .i64 r)=w9 at *;have r0:=HZ.out.1.cell 0;have r1:=HZ.out.1.cell 1;have r2:=HZ.out.1.cell 2;have r3:=HZ.out.1.cell 3;have r4:=HZ.out.1.cell 4;simp only[gz,gs]at r0 r1 r2 r3 r4;refine bodyPost_ret (v:=.agg #[a,b,c,l,r]) (by simp[results,Tryz.results48,go_sem,r0,r1,r2,r3,r4]) rfl ?_;exact⟨_,_,_,_,_,rfl,HZ.out.2⟩
theorem sR(a b c l r a' b' c' l' r':Int)(A A':Option Addr)(n cc n' cc':Nat)(w:World):Calls Tryz.prog 47 #[.agg #[a,b,c,.slice A n cc,l,r],.agg #[a',b',c',.slice A' n' cc',l',r']] w (bQ w):=by
 have C:=hid fun a b c l r A n cc W=>oQ a b c l r A n cc W
 have hs0:=(Bx.new (t:=58) (cs:=[.int .i64 a,.int .i64 b,.int .i64 c,.slice A n cc,.int .i64 l,.int .i64 r]) w rfl).alloc (.cells #[a',b',c',.slice A' n' cc',l',r'] 58);have ht0:=Bx.newAt (b:=w.heap.size+1) (t:=58) (cs:=[.int .i64 a',.int .i64 b',.int .i64 c',.slice A' n' cc',.int .i64 l',.int .i64 r']) (w.alloc (.cells #[a,b,c,.slice A n cc,l,r] 58)) (by simp) rfl;have HB:=hid (bwx w (.cells #[a,b,c,.slice A n cc,l,r] 58) (.cells #[a',b',c',.slice A' n' cc',l',r'] 58));obtain⟨nb,hnb⟩:∃n,w.heap.size+1=n:=⟨_,rfl⟩;rw[hnb]at ht0;have hG:=Tryz.guard117;go_enter Tryz.func47,Tryz.ntmps47;go_upto_region 1 with fail;clear hnb;change Bx ((w.alloc (.cells #[a,b,c,.slice A n cc,l,r] 58)).alloc (.cells #[a',b',c',.slice A' n' cc',l',r'] 58)) _ _ _ at hs0;generalize (w.alloc (.cells #[a,b,c,.slice A n cc,l,r] 58)).alloc (.cells #[a',b',c',.slice A' n' cc',l',r'] 58)=w1 at *;have HX:=hid (show ∀W,Below w1.heap.size w1 W→Bx W w.heap.size 58 [a,b,c,.slice A n cc,l,r] from fun W hb=>hs0.below hb);have HY:=hid (show ∀W,Below w1.heap.size w1 W→Bx W nb 58 [a',b',c',.slice A' n' cc',l',r'] from fun W hb=>ht0.below hb);clear hs0 ht0;have hS1:(fun W:World=>Below w1.heap.size w1 W) w1.drew:=(Below.refl _ _).drew;refine wp_region_held_drew (S:=(fun W:World=>Below w1.heap.size w1 W)) (by kernel_rfl) hS1 (fun hHeld=>?_);clear hHeld;generalize hwd:w1.drew=wd at *;clear hwd;refine kf 0 (fun W h=>(HX.out W h).c6) rfl ?_;refine kf 2 (fun W h=>(HY.out W h).c6) rfl ?_;refine kr 1 rfl fun K hK=>?_
 go_simp;go_at_call 48;refine(C.out _ _ _ _ _ _ _ _ _).mono ?_;rintro e Wra1 ⟨u0,v0,x0,y0,z0,rfl,hbz⟩;have hSWra1:(fun W:World=>Below w1.heap.size w1 W) Wra1:=Below.trans (B:=w1.heap.size) hS1 (hbz.mono hS1.size);clear hbz hS1;go_wp2_with fail;refine hK.out _ _ hSWra1 (fun hHeld=>?_);clear hK hHeld K
 try simp only[Act.put,sa,sz,ss]
 refine kr 3 rfl fun K hK=>?_
 go_simp;go_at_call 48;refine(C.out _ _ _ _ _ _ _ _ _).mono ?_;rintro e Wra2 ⟨u1,v1,x1,y1,z1,rfl,hbz⟩;have hSWra2:(fun W:World=>Below w1.heap.size w1 W) Wra2:=Below.trans (B:=w1.heap.size) hSWra1 (hbz.mono hSWra1.size);clear hbz hSWra1;go_wp2_with fail;refine hK.out _ _ hSWra2 (fun hHeld=>?_);clear hK hHeld K
 try simp only[Act.put,sa,sz,ss]
 obtain⟨bb,hEQ⟩:=Tryz.eql117 u0 v0 x0 y0 z0 u1 v1 x1 y1 z1;refine kk 4 rfl ?_;refine kk 5 rfl ?_;refine wpAnyH_done (by kernel_rfl) ?_ _;have HB2:=hid (HB.out.trans (hSWra2.mono HB.out.size));clear hSWra2;go_wp2_with fail;go_ret;exact⟨_,rfl,HB2.out⟩
theorem kX(v1 v2:Value)(l1 l2:List Int)(w:World)(h1:SlI w v1 l1)(h2:SlI w v2 l2)(hl:l1.length≤10000000):Calls Tryz.prog 84 #[v1,v2] w (bQ w):=by
 obtain⟨A1,c1,rfl,h1,_⟩:=h1;obtain⟨A2,c2,rfl,h2,_⟩:=h2;have H1:=hid h1;have H2:=hid h2;clear h1 h2;obtain⟨y,hy⟩:∃y,((l1.length:Int)==(l2.length:Int))=y:=⟨_,rfl⟩;have HY:=hid hy;go_enter Tryz.func84,Tryz.ntmps84;cases y
 ·go_wp2_with fail
  go_ret;exact⟨_,rfl,Below.refl _ _⟩
 have hlen:l1.length=l2.length:=by
  have:=HY.out;simp only[beq_iff_eq]at this;omega
 have HLEN:=hid hlen;clear hlen;go_wp2_with fail;clear hy;go_loopw [4,5,13] (fun _ _ i wr=>∃j:Nat,j≤l1.length∧i=.int .i64 j∧Hid (Below w.heap.size w wr)) (fun _ _ i _=>l1.length-(intOf i).toNat)
 case atStart=>exact⟨0,by omega,rfl,hid (Below.refl _ _)⟩
 case round=>
  obtain⟨j,hj,rfl,HB⟩:=hrel
  by_cases hlt:j<l1.length
  ·have hli:(j:Int)<(l1.length:Int):=by omega
   have hlt2:j<l2.length:=by rw[←HLEN.out];exact hlt
   have hli2:(j:Int)<(l2.length:Int):=by omega
   obtain⟨b1,o1,rfl,_,_⟩:=RdI.get H1.out HB.out hlt;obtain⟨b2,o2,rfl,_,_⟩:=RdI.get H2.out HB.out hlt2
   have HC:=hid (show ∀W,Below wr.heap.size wr W→W.cell? ⟨b1,o1+j,none⟩=some (.int .i64 l1[j]!)∧W.cell? ⟨b2,o2+j,none⟩=some (.int .i64 l2[j]!)from fun W hb=>by
    obtain⟨b',o',e,_,d0⟩:=RdI.get H1.out (HB.out.trans (hb.mono HB.out.size)) hlt;obtain⟨b'',o'',e2,_,d1⟩:=RdI.get H2.out (HB.out.trans (hb.mono HB.out.size)) hlt2;injection e with e;injection e with e3 e4;subst e3 e4;injection e2 with e2;injection e2 with e3 e4;subst e3 e4
    exact⟨d0,d1⟩)
   generalize l1[j]! = y at *;generalize l2[j]! = z at *;obtain⟨t,ht⟩:∃t,(y==z)=t:=⟨_,rfl⟩;go_wp2_with fail;have hS1:(fun W:World=>Below wr.heap.size wr W) wr.drew:=(Below.refl _ _).drew;refine wp_region_held_drew (S:=(fun W:World=>Below wr.heap.size wr W)) (by kernel_rfl) hS1 (fun hHeld=>?_);clear hHeld;generalize hwd:wr.drew=wd at *;clear hwd;refine kk 0 rfl ?_;refine kk 1 rfl ?_;refine kk 2 rfl ?_;refine kf 3 (fun W h=>(HC.out W h).1) rfl ?_;refine kk 4 rfl ?_;refine kk 5 rfl ?_;refine kk 6 rfl ?_;refine kf 7 (fun W h=>(HC.out W h).2) rfl ?_;refine kk 8 rfl ?_;refine wpAnyH_done (by kernel_rfl) ?_ _
   skip
   have HB2:=hid (HB.out.trans (hS1.mono HB.out.size));clear hS1;cases t
   ·go_wp2_with fail
    go_ret;exact⟨_,rfl,HB2.out⟩
   ·go_wp2_with fail
    go_roundw
    case rel=>exact⟨j+1,by omega,by go_num,HB2⟩
    case measure=>simp[intOf];omega
  ·go_wp2_with fail
   go_ret;exact⟨_,rfl,HB.out⟩
theorem sO(v1 v2:Value)(l1 l2:List Int)(w:World)(h1:SlI w v1 l1)(h2:SlI w v2 l2)(hl:l1.length≤10000000):Calls Tryz.prog 86 #[v1,v2] w (bQ w):=by
 have c:=hid (kX v1 v2 l1 l2 w h1 h2 hl);obtain⟨A1,n1,c1,rfl⟩:=h1.lit;obtain⟨A2,n2,c2,rfl⟩:=h2.lit;clear h1 h2;go_enter Tryz.func86,Tryz.ntmps86;go_wp2_with fail;refine c.out.mono ?_;rintro e w2 ⟨b,rfl,hb⟩;have HB:=hid hb;clear hb;go_wp2_with fail;go_ret;exact⟨_,rfl,HB.out⟩
theorem sP(A1 A2:Option Addr)(c1 c2:Nat)(l1 l2:List Value)(w:World)(h1:Rd 1 dj w A1 l1)(h2:Rd 1 dj w A2 l2)(hl:l1.length≤10000000)(p pq:Pn)(k1:∀y∈l1,Cz p w y)(k2:∀y∈l2,Cz pq w y) :
  Calls Tryz.prog 85 #[.slice A1 l1.length c1,.slice A2 l2.length c2,.func (.func 86) #[] #[]] w (bQ w):=by
 have H1:=hid h1;have H2:=hid h2;have K1:=hid k1;have K2:=hid k2;clear k1 k2;clear h1 h2;obtain⟨y,hy⟩:∃y,((l1.length:Int)==(l2.length:Int))=y:=⟨_,rfl⟩;have HY:=hid hy;go_enter Tryz.func85,Tryz.ntmps85;cases y
 ·go_wp2_with fail
  go_ret;exact⟨_,rfl,Below.refl _ _⟩
 have hlen:l1.length=l2.length:=by
  have:=HY.out;simp only[beq_iff_eq]at this;omega
 have HLEN:=hid hlen;have hnb:((l1.length:Int) != (l2.length:Int))=false:=by rw[hlen];exact bne_self_eq_false _
 clear hlen;go_wp2_with fail;clear hy;go_loopw [6,7,8,9,17] (fun _ _ _ _ i wr=>∃j:Nat,j≤l1.length∧i=.int .i64 j∧Hid (Below w.heap.size w wr)) (fun _ _ _ _ i _=>l1.length-(intOf i).toNat)
 case atStart=>exact⟨0,by omega,rfl,hid (Below.refl _ _)⟩
 case round=>
  obtain⟨j,hj,rfl,HB⟩:=hrel
  by_cases hlt:j<l1.length
  ·have hli:(j:Int)<(l1.length:Int):=by omega
   have hlt2:j<l2.length:=by rw[←HLEN.out];exact hlt
   have hli2:(j:Int)<(l2.length:Int):=by omega
   obtain⟨b1,o1,rfl,_,hc1⟩:=Rd.get H1.out HB.out hlt;obtain⟨b2,o2,rfl,_,hc2⟩:=Rd.get H2.out HB.out hlt2;have d0:=hc1 j hlt 0 _ rfl;have f0:=hc2 j hlt2 0 _ rfl;clear hc1 hc2;simp only[Nat.add_zero,Nat.mul_one]at d0 f0;have hY:=K1.out _ (ak hlt);have hZ:=K2.out _ (ak hlt2);have hy1:=hY.lit;have hz1:=hZ.lit;obtain⟨m1,hm1,_,hm3⟩:=hY;obtain⟨m2,hm2,_,_⟩:=hZ;have HM:=hid (And.intro hm1 (And.intro hm2 hm3));clear hm1 hm2 hm3;generalize l1[j]! = y at *;generalize l2[j]! = z at *;obtain⟨A1,n1,c1',rfl⟩:=hy1;obtain⟨A2,n2,c2',rfl⟩:=hz1;have HB5:=HB;obtain⟨w5,rfl⟩:∃W,W=wr:=⟨_,rfl⟩;go_wp2_with fail;refine(sO _ _ m1 m2 _ (HM.out.1.below HB5.out) (HM.out.2.1.below HB5.out) (by have:=HM.out.2.2;omega)).mono ?_;rintro e w6 ⟨b,rfl,hb6⟩;have HB6:=hid (HB5.out.trans (hb6.mono HB5.out.size));clear d0 f0 hb6;cases b
   ·go_wp2_with fail
    go_ret;exact⟨_,rfl,HB6.out⟩
   ·go_wp2_with fail
    go_roundw
    case rel=>exact⟨j+1,by omega,by go_num,HB6⟩
    case measure=>simp[intOf];omega
  ·go_wp2_with fail
   go_ret;exact⟨_,rfl,HB.out⟩
theorem qE(p pq:Pn)(y z:AT)(w:World)(hy:RgE p w y)(hz:RgE pq w z):Calls Tryz.prog 50 #[.agg (bh y).toArray,.agg (bh z).toArray] w (bQ w):=by
 obtain⟨⟨A1,n1,c1,e1⟩,⟨A2,n2,c2,e2⟩,A3,n3,c3,e3⟩:=hy.lits;obtain⟨⟨B1,m1,d1,f1⟩,⟨B2,m2,d2,f2⟩,B3,m3,d3,f3⟩:=hz.lits;obtain⟨y1,y2,y3,y4⟩:=y;obtain⟨z1,z2,z3,z4⟩:=z;dsimp only at e1 e2 e3 f1 f2 f3;subst e1 e2 e3 f1 f2 f3;obtain⟨⟨lo,ho,_,ho2⟩,⟨I,hI⟩,la,hla,hla2⟩:=hy;obtain⟨⟨lo',ho',_,ho2'⟩,⟨I',hI'⟩,la',hla',hla2'⟩:=hz;dsimp only at ho hI hla ho' hI' hla';have C1:=hid fun W (hb:Below w.heap.size w W)=>kX _ _ _ _ W (ho.below hb) (ho'.below hb) (by omega)
 have C2:=hid fun W (hb:Below w.heap.size w W)=>kX _ _ _ _ W (hla.below hb) (hla'.below hb) (by omega)
 have C3:Hid (∀W,Below w.heap.size w W→Calls Tryz.prog 85 #[.slice A2 n2 c2,.slice B2 m2 d2,.func (.func 86) #[] #[]] W (bQ W)):=hid fun W hb=>by
  obtain⟨A,c,e,h1,_⟩:=(hI.below hb).sl;obtain⟨A',c',e',h1',_⟩:=(hI'.below hb).sl;rw[e,e'];exact sP A A' c c' I I' W h1 h1' (by have:=hI.le;omega) p pq (fun y hy=>((hI.below hb).cy y hy).z) (fun y hy=>((hI'.below hb).cy y hy).z)
 clear ho hI hla ho' hI' hla';simp only[bh];have hs0:=(Bx.new (t:=123) (cs:=[.int .i64 y1,.slice A1 n1 c1,.slice A2 n2 c2,.slice A3 n3 c3]) w rfl).alloc (.cells #[z1,.slice B1 m1 d1,.slice B2 m2 d2,.slice B3 m3 d3] 123);have ht0:=Bx.newAt (b:=w.heap.size+1) (t:=123) (cs:=[.int .i64 z1,.slice B1 m1 d1,.slice B2 m2 d2,.slice B3 m3 d3]) (w.alloc (.cells #[y1,.slice A1 n1 c1,.slice A2 n2 c2,.slice A3 n3 c3] 123)) (by simp) rfl;have HB:=hid (bwx w (.cells #[y1,.slice A1 n1 c1,.slice A2 n2 c2,.slice A3 n3 c3] 123) (.cells #[z1,.slice B1 m1 d1,.slice B2 m2 d2,.slice B3 m3 d3] 123));obtain⟨nb,hnb⟩:∃n,w.heap.size+1=n:=⟨_,rfl⟩;rw[hnb]at ht0;go_enter Tryz.func50,Tryz.ntmps50;go_upto_region 1 with fail;clear hnb;change Bx ((w.alloc (.cells #[y1,.slice A1 n1 c1,.slice A2 n2 c2,.slice A3 n3 c3] 123)).alloc (.cells #[z1,.slice B1 m1 d1,.slice B2 m2 d2,.slice B3 m3 d3] 123)) _ _ _ at hs0;generalize (w.alloc (.cells #[y1,.slice A1 n1 c1,.slice A2 n2 c2,.slice A3 n3 c3] 123)).alloc (.cells #[z1,.slice B1 m1 d1,.slice B2 m2 d2,.slice B3 m3 d3] 123)=w1 at *;obtain⟨x0,x1,x2,x3⟩:=hs0.c4;obtain⟨u0,u1,u2,u3⟩:=ht0.c4;have HX:=hid (And.intro hs0 ht0);clear hs0 ht0;obtain⟨t,ht⟩:∃t,(y1==z1)=t:=⟨_,rfl⟩;cases t
 ·go_wp2_with fail
  go_ret;exact⟨_,rfl,HB.out⟩
 go_wp2_with fail;refine(C1.out _ HB.out).mono ?_;rintro e w2 ⟨b,rfl,hb2⟩;have HB2:=hid (HB.out.trans (hb2.mono HB.out.size));have HX2:=hid (And.intro (HX.out.1.below hb2) (HX.out.2.below hb2));clear x0 x1 x2 x3 u0 u1 u2 u3 hb2 HX;obtain⟨x0,x1,x2,x3⟩:=HX2.out.1.c4;obtain⟨u0,u1,u2,u3⟩:=HX2.out.2.c4;cases b
 ·go_wp2_with fail
  go_ret;exact⟨_,rfl,HB2.out⟩
 go_wp2_with fail;refine(C2.out _ HB2.out).mono ?_;rintro e w3 ⟨b,rfl,hb3⟩;have HB3:=hid (HB2.out.trans (hb3.mono HB2.out.size));have HX3:=hid (And.intro (HX2.out.1.below hb3) (HX2.out.2.below hb3));clear x0 x1 x2 x3 u0 u1 u2 u3 hb3 HX2;obtain⟨x0,x1,x2,x3⟩:=HX3.out.1.c4;obtain⟨u0,u1,u2,u3⟩:=HX3.out.2.c4;cases b
 ·go_wp2_with fail
  go_ret;exact⟨_,rfl,HB3.out⟩
 go_wp2_with fail;refine(C3.out _ HB3.out).mono ?_;rintro e w4 ⟨b,rfl,hb4⟩;have HB4:=hid (HB3.out.trans (hb4.mono HB3.out.size));clear x0 x1 x2 x3 u0 u1 u2 u3 hb4;go_wp2_with fail;go_ret;exact⟨_,rfl,HB4.out⟩
end Go.Proofs
namespace Go.Proofs
open Go.RowKit Go.Proofs.Mp Go.Lib
theorem sU(A1 A2:Option Addr)(c1 c2:Nat)(l1 l2:List Nd)(w:World)(h1:Rd 3 aQ w A1 l1)(h2:Rd 3 aQ w A2 l2)(hl:l1.length≤10000000) :
  Calls Tryz.prog 44 #[.slice A1 l1.length c1,.slice A2 l2.length c2,.func (.func 45) #[] #[]] w (bQ w):=by
 have H1:=hid h1;have H2:=hid h2;clear h1 h2;obtain⟨y,hy⟩:∃y,((l1.length:Int)==(l2.length:Int))=y:=⟨_,rfl⟩;have HY:=hid hy;go_enter Tryz.func44,Tryz.ntmps44;cases y
 ·go_wp2_with fail
  go_ret;exact⟨_,rfl,Below.refl _ _⟩
 have hlen:l1.length=l2.length:=by
  have:=HY.out;simp only[beq_iff_eq]at this;omega
 have HLEN:=hid hlen;have hnb:((l1.length:Int) != (l2.length:Int))=false:=by rw[hlen];exact bne_self_eq_false _
 clear hlen;go_wp2_with fail;clear hy;go_loopw [6,7,8,9,17] (fun _ _ _ _ i wr=>∃j:Nat,j≤l1.length∧i=.int .i64 j∧Hid (Below w.heap.size w wr)) (fun _ _ _ _ i _=>l1.length-(intOf i).toNat)
 case atStart=>exact⟨0,by omega,rfl,hid (Below.refl _ _)⟩
 case round=>
  obtain⟨j,hj,rfl,HB⟩:=hrel
  by_cases hlt:j<l1.length
  ·have hli:(j:Int)<(l1.length:Int):=by omega
   have hlt2:j<l2.length:=by rw[←HLEN.out];exact hlt
   have hli2:(j:Int)<(l2.length:Int):=by omega
   obtain⟨b1,o1,rfl,_,hc1⟩:=Rd.get H1.out HB.out hlt;obtain⟨b2,o2,rfl,_,hc2⟩:=Rd.get H2.out HB.out hlt2;have d0:=hc1 j hlt 0 _ rfl;have d1:=hc1 j hlt 1 _ rfl;have d2:=hc1 j hlt 2 _ rfl;have f0:=hc2 j hlt2 0 _ rfl;have f1:=hc2 j hlt2 1 _ rfl;have f2:=hc2 j hlt2 2 _ rfl;clear hc1 hc2;simp only[Nat.add_zero,Nat.mul_one]at d0 f0 d1 f1 d2 f2;generalize l1[j]! = y at *;generalize l2[j]! = z at *;obtain⟨q1,q2,q3⟩:=y;obtain⟨q1z,q2z,q3z⟩:=z;dsimp only at d0 d1 d2 f0 f1 f2;have hx:=(Bx.new (t:=71) (cs:=[.int .i64 q1,.int .i64 q2,.int .i64 q3]) wr rfl).alloc (.cells #[q1z,q2z,q3z] 71);have hz:=Bx.newAt (b:=wr.heap.size+1) (t:=71) (cs:=[.int .i64 q1z,.int .i64 q2z,.int .i64 q3z]) (wr.alloc (.cells #[q1,q2,q3] 71)) (by simp) rfl;have hl0:=(Bx.new (t:=71) (cs:=[.int .i64 q1,.int .i64 q2,.int .i64 q3]) wr rfl).lt;have hwb:=bwx wr (.cells #[q1,q2,q3] 71) (.cells #[q1z,q2z,q3z] 71);have HB5:=hid (HB.out.trans (hwb.mono HB.out.size));have hbl:∀q,q<wr.heap.size→(wr.alloc (.cells #[q1,q2,q3] 71)).heap[q]?=wr.heap[q]?:=fun q hq=>(bw1 wr _).block q hq
   have e0:=(World.cell?_of_block (hbl b2 (by have:=HB.out.size;omega))).trans f0;have e1:=(World.cell?_of_block (hbl b2 (by have:=HB.out.size;omega))).trans f1;have e2:=(World.cell?_of_block (hbl b2 (by have:=HB.out.size;omega))).trans f2;clear hbl hwb;obtain⟨n5,hn5⟩:∃n,wr.heap.size+1=n:=⟨_,rfl⟩;rw[hn5]at hz;go_upto_region 7 with fail;clear d0 e0 f0 d1 e1 f1 d2 e2 f2 hl0;clear hn5;change Bx ((wr.alloc (.cells #[q1,q2,q3] 71)).alloc (.cells #[q1z,q2z,q3z] 71)) _ _ _ at hx;generalize (wr.alloc (.cells #[q1,q2,q3] 71)).alloc (.cells #[q1z,q2z,q3z] 71)=w5 at *;generalize wr.heap.size=nx at *;obtain⟨d0,d1,d2⟩:=hx.c3;obtain⟨f0,f1,f2⟩:=hz.c3;clear hx hz;go_wp2_with fail;refine(sT _ _ _ _ _ _ _).mono ?_;rintro e w6 ⟨b,rfl,hb6⟩;have HB6:=hid (HB5.out.trans (hb6.mono HB5.out.size));clear d0 f0 d1 f1 d2 f2 hb6;cases b
   ·go_wp2_with fail
    go_ret;exact⟨_,rfl,HB6.out⟩
   ·go_wp2_with fail
    go_roundw
    case rel=>exact⟨j+1,by omega,by go_num,HB6⟩
    case measure=>simp[intOf];omega
  ·go_wp2_with fail
   go_ret;exact⟨_,rfl,HB.out⟩
theorem sS(A1 A2:Option Addr)(c1 c2:Nat)(l1 l2:List (Ar×Value))(w:World)(h1:Rd 6 encA w A1 l1)(h2:Rd 6 encA w A2 l2)(hl:l1.length≤10000000)(k1:∀y∈l1,∃A n c,y.2=.slice A n c)(k2:∀y∈l2,∃A n c,y.2=.slice A n c) :
  Calls Tryz.prog 46 #[.slice A1 l1.length c1,.slice A2 l2.length c2,.func (.func 47) #[] #[]] w (bQ w):=by
 have H1:=hid h1;have H2:=hid h2;have K1:=hid k1;have K2:=hid k2;clear k1 k2;clear h1 h2;obtain⟨y,hy⟩:∃y,((l1.length:Int)==(l2.length:Int))=y:=⟨_,rfl⟩;have HY:=hid hy;go_enter Tryz.func46,Tryz.ntmps46;cases y
 ·go_wp2_with fail
  go_ret;exact⟨_,rfl,Below.refl _ _⟩
 have hlen:l1.length=l2.length:=by
  have:=HY.out;simp only[beq_iff_eq]at this;omega
 have HLEN:=hid hlen;have hnb:((l1.length:Int) != (l2.length:Int))=false:=by rw[hlen];exact bne_self_eq_false _
 clear hlen;go_wp2_with fail;clear hy;go_loopw [6,7,8,9,17] (fun _ _ _ _ i wr=>∃j:Nat,j≤l1.length∧i=.int .i64 j∧Hid (Below w.heap.size w wr)) (fun _ _ _ _ i _=>l1.length-(intOf i).toNat)
 case atStart=>exact⟨0,by omega,rfl,hid (Below.refl _ _)⟩
 case round=>
  obtain⟨j,hj,rfl,HB⟩:=hrel
  by_cases hlt:j<l1.length
  ·have hli:(j:Int)<(l1.length:Int):=by omega
   have hlt2:j<l2.length:=by rw[←HLEN.out];exact hlt
   have hli2:(j:Int)<(l2.length:Int):=by omega
   obtain⟨b1,o1,rfl,_,hc1⟩:=Rd.get H1.out HB.out hlt;obtain⟨b2,o2,rfl,_,hc2⟩:=Rd.get H2.out HB.out hlt2;have d0:=hc1 j hlt 0 _ rfl;have d1:=hc1 j hlt 1 _ rfl;have d2:=hc1 j hlt 2 _ rfl;have d3:=hc1 j hlt 3 _ rfl;have d4:=hc1 j hlt 4 _ rfl;have d5:=hc1 j hlt 5 _ rfl;have f0:=hc2 j hlt2 0 _ rfl;have f1:=hc2 j hlt2 1 _ rfl;have f2:=hc2 j hlt2 2 _ rfl;have f3:=hc2 j hlt2 3 _ rfl;have f4:=hc2 j hlt2 4 _ rfl;have f5:=hc2 j hlt2 5 _ rfl;clear hc1 hc2;simp only[Nat.add_zero,Nat.mul_one]at d0 f0 d1 f1 d2 f2 d3 f3 d4 f4 d5 f5;obtain⟨A9,n9,c9,hy1⟩:=K1.out _ (ak hlt);obtain⟨A9z,n9z,c9z,hz1⟩:=K2.out _ (ak hlt2);generalize l1[j]! = y at *;generalize l2[j]! = z at *;obtain⟨⟨q1,q2,q3,q4,q5,q6⟩,yv⟩:=y;obtain⟨⟨q1z,q2z,q3z,q4z,q5z,q6z⟩,zv⟩:=z;dsimp only at d0 d1 d2 d3 d4 d5 f0 f1 f2 f3 f4 f5 hy1 hz1;subst hy1 hz1;have hx:=(Bx.new (t:=58) (cs:=[.int .i64 q1,.int .i64 q2,.int .i64 q3,.slice A9 n9 c9,.int .i64 q5,.int .i64 q6]) wr rfl).alloc (.cells #[q1z,q2z,q3z,.slice A9z n9z c9z,q5z,q6z] 58);have hz:=Bx.newAt (b:=wr.heap.size+1) (t:=58) (cs:=[.int .i64 q1z,.int .i64 q2z,.int .i64 q3z,.slice A9z n9z c9z,.int .i64 q5z,.int .i64 q6z]) (wr.alloc (.cells #[q1,q2,q3,.slice A9 n9 c9,q5,q6] 58)) (by simp) rfl;have hl0:=(Bx.new (t:=58) (cs:=[.int .i64 q1,.int .i64 q2,.int .i64 q3,.slice A9 n9 c9,.int .i64 q5,.int .i64 q6]) wr rfl).lt;have hwb:=bwx wr (.cells #[q1,q2,q3,.slice A9 n9 c9,q5,q6] 58) (.cells #[q1z,q2z,q3z,.slice A9z n9z c9z,q5z,q6z] 58);have HB5:=hid (HB.out.trans (hwb.mono HB.out.size));have hbl:∀q,q<wr.heap.size→(wr.alloc (.cells #[q1,q2,q3,.slice A9 n9 c9,q5,q6] 58)).heap[q]?=wr.heap[q]?:=fun q hq=>(bw1 wr _).block q hq
   have e0:=(World.cell?_of_block (hbl b2 (by have:=HB.out.size;omega))).trans f0;have e1:=(World.cell?_of_block (hbl b2 (by have:=HB.out.size;omega))).trans f1;have e2:=(World.cell?_of_block (hbl b2 (by have:=HB.out.size;omega))).trans f2;have e3:=(World.cell?_of_block (hbl b2 (by have:=HB.out.size;omega))).trans f3;have e4:=(World.cell?_of_block (hbl b2 (by have:=HB.out.size;omega))).trans f4;have e5:=(World.cell?_of_block (hbl b2 (by have:=HB.out.size;omega))).trans f5;clear hbl hwb;obtain⟨n5,hn5⟩:∃n,wr.heap.size+1=n:=⟨_,rfl⟩;rw[hn5]at hz;go_upto_region 7 with fail;clear d0 e0 f0 d1 e1 f1 d2 e2 f2 d3 e3 f3 d4 e4 f4 d5 e5 f5 hl0;clear hn5;change Bx ((wr.alloc (.cells #[q1,q2,q3,.slice A9 n9 c9,q5,q6] 58)).alloc (.cells #[q1z,q2z,q3z,.slice A9z n9z c9z,q5z,q6z] 58)) _ _ _ at hx;generalize (wr.alloc (.cells #[q1,q2,q3,.slice A9 n9 c9,q5,q6] 58)).alloc (.cells #[q1z,q2z,q3z,.slice A9z n9z c9z,q5z,q6z] 58)=w5 at *;generalize wr.heap.size=nx at *;obtain⟨d0,d1,d2,d3,d4,d5⟩:=hx.c6;obtain⟨f0,f1,f2,f3,f4,f5⟩:=hz.c6;clear hx hz;go_wp2_with fail;refine(sR _ _ _ _ _ _ _ _ _ _ _ _ _ _ _ _ _).mono ?_;rintro e w6 ⟨b,rfl,hb6⟩;have HB6:=hid (HB5.out.trans (hb6.mono HB5.out.size));clear d0 f0 d1 f1 d2 f2 d3 f3 d4 f4 d5 f5 hb6;cases b
   ·go_wp2_with fail
    go_ret;exact⟨_,rfl,HB6.out⟩
   ·go_wp2_with fail
    go_roundw
    case rel=>exact⟨j+1,by omega,by go_num,HB6⟩
    case measure=>simp[intOf];omega
  ·go_wp2_with fail
   go_ret;exact⟨_,rfl,HB.out⟩
theorem sQ(A1 A2:Option Addr)(c1 c2:Nat)(l1 l2:List AT)(w:World)(h1:Rd 4 bh w A1 l1)(h2:Rd 4 bh w A2 l2)(hl:l1.length≤10000000)(p pq:Pn)(k1:∀y∈l1,RgE p w y)(k2:∀y∈l2,RgE pq w y) :
  Calls Tryz.prog 49 #[.slice A1 l1.length c1,.slice A2 l2.length c2,.func (.func 50) #[] #[]] w (bQ w):=by
 have H1:=hid h1;have H2:=hid h2;have K1:=hid k1;have K2:=hid k2;clear k1 k2;clear h1 h2;obtain⟨y,hy⟩:∃y,((l1.length:Int)==(l2.length:Int))=y:=⟨_,rfl⟩;have HY:=hid hy;go_enter Tryz.func49,Tryz.ntmps49;cases y
 ·go_wp2_with fail
  go_ret;exact⟨_,rfl,Below.refl _ _⟩
 have hlen:l1.length=l2.length:=by
  have:=HY.out;simp only[beq_iff_eq]at this;omega
 have HLEN:=hid hlen;have hnb:((l1.length:Int) != (l2.length:Int))=false:=by rw[hlen];exact bne_self_eq_false _
 clear hlen;go_wp2_with fail;clear hy;go_loopw [6,7,8,9,17] (fun _ _ _ _ i wr=>∃j:Nat,j≤l1.length∧i=.int .i64 j∧Hid (Below w.heap.size w wr)) (fun _ _ _ _ i _=>l1.length-(intOf i).toNat)
 case atStart=>exact⟨0,by omega,rfl,hid (Below.refl _ _)⟩
 case round=>
  obtain⟨j,hj,rfl,HB⟩:=hrel
  by_cases hlt:j<l1.length
  ·have hli:(j:Int)<(l1.length:Int):=by omega
   have hlt2:j<l2.length:=by rw[←HLEN.out];exact hlt
   have hli2:(j:Int)<(l2.length:Int):=by omega
   obtain⟨b1,o1,rfl,_,hc1⟩:=Rd.get H1.out HB.out hlt;obtain⟨b2,o2,rfl,_,hc2⟩:=Rd.get H2.out HB.out hlt2;have d0:=hc1 j hlt 0 _ rfl;have d1:=hc1 j hlt 1 _ rfl;have d2:=hc1 j hlt 2 _ rfl;have d3:=hc1 j hlt 3 _ rfl;have f0:=hc2 j hlt2 0 _ rfl;have f1:=hc2 j hlt2 1 _ rfl;have f2:=hc2 j hlt2 2 _ rfl;have f3:=hc2 j hlt2 3 _ rfl;clear hc1 hc2;simp only[Nat.add_zero,Nat.mul_one]at d0 f0 d1 f1 d2 f2 d3 f3;have hY:=K1.out _ (ak hlt);have hZ:=K2.out _ (ak hlt2);obtain⟨⟨A7,n7,c7,hy1⟩,⟨A8,n8,c8,hy2⟩,A9,n9,c9,hy3⟩:=hY.lits;obtain⟨⟨A7z,n7z,c7z,hz1⟩,⟨A8z,n8z,c8z,hz2⟩,A9z,n9z,c9z,hz3⟩:=hZ.lits;generalize l1[j]! = y at *;generalize l2[j]! = z at *;obtain⟨q1,yv,yu,ys⟩:=y;obtain⟨q1z,zv,zu,zs⟩:=z;have HRE:=hid (And.intro hY hZ);dsimp only at d0 d1 d2 d3 f0 f1 f2 f3 hy1 hy2 hy3 hz1 hz2 hz3;subst hy1 hy2 hy3 hz1 hz2 hz3;clear hY hZ;have hx:=(Bx.new (t:=123) (cs:=[.int .i64 q1,.slice A7 n7 c7,.slice A8 n8 c8,.slice A9 n9 c9]) wr rfl).alloc (.cells #[q1z,.slice A7z n7z c7z,.slice A8z n8z c8z,.slice A9z n9z c9z] 123);have hz:=Bx.newAt (b:=wr.heap.size+1) (t:=123) (cs:=[.int .i64 q1z,.slice A7z n7z c7z,.slice A8z n8z c8z,.slice A9z n9z c9z]) (wr.alloc (.cells #[q1,.slice A7 n7 c7,.slice A8 n8 c8,.slice A9 n9 c9] 123)) (by simp) rfl;have hl0:=(Bx.new (t:=123) (cs:=[.int .i64 q1,.slice A7 n7 c7,.slice A8 n8 c8,.slice A9 n9 c9]) wr rfl).lt;have hwb:=bwx wr (.cells #[q1,.slice A7 n7 c7,.slice A8 n8 c8,.slice A9 n9 c9] 123) (.cells #[q1z,.slice A7z n7z c7z,.slice A8z n8z c8z,.slice A9z n9z c9z] 123);have HB5:=hid (HB.out.trans (hwb.mono HB.out.size));have hbl:∀q,q<wr.heap.size→(wr.alloc (.cells #[q1,.slice A7 n7 c7,.slice A8 n8 c8,.slice A9 n9 c9] 123)).heap[q]?=wr.heap[q]?:=fun q hq=>(bw1 wr _).block q hq
   have e0:=(World.cell?_of_block (hbl b2 (by have:=HB.out.size;omega))).trans f0;have e1:=(World.cell?_of_block (hbl b2 (by have:=HB.out.size;omega))).trans f1;have e2:=(World.cell?_of_block (hbl b2 (by have:=HB.out.size;omega))).trans f2;have e3:=(World.cell?_of_block (hbl b2 (by have:=HB.out.size;omega))).trans f3;clear hbl hwb;obtain⟨n5,hn5⟩:∃n,wr.heap.size+1=n:=⟨_,rfl⟩;rw[hn5]at hz;go_upto_region 7 with fail;clear d0 e0 f0 d1 e1 f1 d2 e2 f2 d3 e3 f3 hl0;clear hn5;change Bx ((wr.alloc (.cells #[q1,.slice A7 n7 c7,.slice A8 n8 c8,.slice A9 n9 c9] 123)).alloc (.cells #[q1z,.slice A7z n7z c7z,.slice A8z n8z c8z,.slice A9z n9z c9z] 123)) _ _ _ at hx;generalize (wr.alloc (.cells #[q1,.slice A7 n7 c7,.slice A8 n8 c8,.slice A9 n9 c9] 123)).alloc (.cells #[q1z,.slice A7z n7z c7z,.slice A8z n8z c8z,.slice A9z n9z c9z] 123)=w5 at *;generalize wr.heap.size=nx at *;obtain⟨d0,d1,d2,d3⟩:=hx.c4;obtain⟨f0,f1,f2,f3⟩:=hz.c4;clear hx hz;go_wp2_with fail;refine(qE p pq (q1,.slice A7 n7 c7,.slice A8 n8 c8,.slice A9 n9 c9) (q1z,.slice A7z n7z c7z,.slice A8z n8z c8z,.slice A9z n9z c9z) _ (HRE.out.1.below HB5.out) (HRE.out.2.below HB5.out)).mono ?_;rintro e w6 ⟨b,rfl,hb6⟩;have HB6:=hid (HB5.out.trans (hb6.mono HB5.out.size));clear d0 f0 d1 f1 d2 f2 d3 f3 hb6;cases b
   ·go_wp2_with fail
    go_ret;exact⟨_,rfl,HB6.out⟩
   ·go_wp2_with fail
    go_roundw
    case rel=>exact⟨j+1,by omega,by go_num,HB6⟩
    case measure=>simp[intOf];omega
  ·go_wp2_with fail
   go_ret;exact⟨_,rfl,HB.out⟩
end Go.Proofs
namespace Go.Proofs
open Go.RowKit Go.Proofs.Mp Go.Lib
theorem ki{α β:Type}{xs:List α}{ys:List β}{y:α×β}(h:y∈xs.zip ys):y.2∈ys:=(List.of_mem_zip h).2
theorem PlR.lits{w:World}{p:Pn}{m:Mem}(h:PlR w p m):∀y∈p.arcs.zip m.vs,∃A n c,y.2=.slice A n c:=fun y hy=>by
 obtain⟨j,hj,e⟩:=aw (ki hy);obtain⟨A,c,e2,_⟩:=h.via j (by rw[h.len]at hj;exact hj);exact⟨A,_,c,e.symm.trans e2⟩
theorem oR(p q:Pn)(m mq:Mem)(w:World)(hR:PlR w p m)(hLR:LRw p)(hQ:PlR w q mq)(hLQ:LRw q):Calls Tryz.prog 20 #[plV p m,plV q mq] w (bQ w):=by
 have cR:=hid fun W (hb:Below w.heap.size w W)=>gQ p m W (hR.below hb) hLR
 have cQ:=hid fun W (hb:Below w.heap.size w W)=>gQ q mq W (hQ.below hb) hLQ
 have cN:=hid fun W (hb:Below w.heap.size w W)=>sU m.an mq.an m.cn mq.cn p.nodes q.nodes W (hR.below hb).nd (hQ.below hb).nd (by have:=hR.few.n;omega)
 have cA:Hid (∀W,Below w.heap.size w W→Calls Tryz.prog 46 #[.slice m.aa p.arcs.length m.ca,.slice mq.aa q.arcs.length mq.ca,.func (.func 47) #[] #[]] W (bQ W)):=hid fun W hb=>by
  have h1:(p.arcs.zip m.vs).length=p.arcs.length:=by rw[List.length_zip,hR.len,Nat.min_self]
  have h2:(q.arcs.zip mq.vs).length=q.arcs.length:=by rw[List.length_zip,hQ.len,Nat.min_self]
  have:=sS m.aa mq.aa m.ca mq.ca _ _ W (hR.below hb).ar (hQ.below hb).ar (by have:=hR.few.a;omega) hR.lits hQ.lits
  rwa [h1,h2]at this
 have cG:=hid fun W A1 A2 c1 c2 (Y1 Y2:List AT) h1 h2 h3 k1 k2=>sQ A1 A2 c1 c2 Y1 Y2 W h1 h2 h3 p q k1 k2
 have hplV:plV p m=.agg #[.slice m.an p.nodes.length m.cn,.slice m.aa p.arcs.length m.ca,.slice m.af p.faces.length m.cf]:=rfl;have hplQ:plV q mq=.agg #[.slice mq.an q.nodes.length mq.cn,.slice mq.aa q.arcs.length mq.ca,.slice mq.af q.faces.length mq.cf]:=rfl;rw[hplV]at cR ⊢;rw[hplQ]at cQ ⊢;clear hR hplV hLR hQ hLQ hplQ;generalize p.nodes.length=l1 at *;generalize p.arcs.length=l2 at *;generalize p.faces.length=l3 at *;generalize q.nodes.length=k1 at *;generalize q.arcs.length=k2 at *;generalize q.faces.length=k3 at *;obtain⟨an,aa,af,cn,ca,cf,mvs⟩:=m;obtain⟨bn,ba,bf,dn,da,df,nvs⟩:=mq;dsimp only at *;have hs0:=(Bx.new (t:=26) (cs:=[.slice an l1 cn,.slice aa l2 ca,.slice af l3 cf]) w rfl).alloc (.cells #[.slice bn k1 dn,.slice ba k2 da,.slice bf k3 df] 26);have ht0:=Bx.newAt (b:=w.heap.size+1) (t:=26) (cs:=[.slice bn k1 dn,.slice ba k2 da,.slice bf k3 df]) (w.alloc (.cells #[.slice an l1 cn,.slice aa l2 ca,.slice af l3 cf] 26)) (by simp) rfl;have HB:=hid (bwx w (.cells #[.slice an l1 cn,.slice aa l2 ca,.slice af l3 cf] 26) (.cells #[.slice bn k1 dn,.slice ba k2 da,.slice bf k3 df] 26));obtain⟨nb,hnb⟩:∃n,w.heap.size+1=n:=⟨_,rfl⟩;rw[hnb]at ht0;go_enter Tryz.func20,Tryz.ntmps20;go_upto_region 1 with fail;clear hnb;change Bx ((w.alloc (.cells #[.slice an l1 cn,.slice aa l2 ca,.slice af l3 cf] 26)).alloc (.cells #[.slice bn k1 dn,.slice ba k2 da,.slice bf k3 df] 26)) _ _ _ at hs0;generalize (w.alloc (.cells #[.slice an l1 cn,.slice aa l2 ca,.slice af l3 cf] 26)).alloc (.cells #[.slice bn k1 dn,.slice ba k2 da,.slice bf k3 df] 26)=w1 at *;have HX:=hid (And.intro hs0 ht0);obtain⟨x0,x1,x2⟩:=hs0.c3;clear hs0 ht0;go_wp2_with fail;refine(cR.out _ HB.out).mono ?_;rintro e w2 ⟨v,n,rfl,hb2,h2⟩;have HB2:=hid (HB.out.trans (hb2.mono HB.out.size));have HX2:=hid (And.intro (HX.out.1.below hb2) (HX.out.2.below hb2));have HG2:=hid h2;clear x0 x1 x2 hb2 HX h2;obtain⟨y0,hy0⟩:∃y,(n==0)=y:=⟨_,rfl⟩;cases y0
 ·go_wp2_with fail
  go_ret;exact⟨_,rfl,HB2.out⟩
 obtain⟨Y,HY⟩:∃Y,RgQ p w2 v Y:=by
  rcases HG2.out with h|⟨_,_,Y,h⟩
  ·exact absurd (by simpa using hy0) h
  ·exact⟨Y,h⟩
 obtain⟨u0,u1,u2⟩:=HX2.out.2.c3;go_wp2_with fail;refine(cQ.out _ HB2.out).mono ?_;rintro e w3 ⟨v',n',rfl,hb3,h3⟩;have HB3:=hid (HB2.out.trans (hb3.mono HB2.out.size));have HX3:=hid (And.intro (HX2.out.1.below hb3) (HX2.out.2.below hb3));have HG3:=hid h3;have HY3:=hid (HY.below hb3);clear u0 u1 u2 hb3 HX2 h3 HY hy0;obtain⟨y0,hy0⟩:∃y,(n'==0)=y:=⟨_,rfl⟩;cases y0
 ·go_wp2_with fail
  go_ret;exact⟨_,rfl,HB3.out⟩
 obtain⟨Z,HZ⟩:∃Y,RgQ q w3 v' Y:=by
  rcases HG3.out with h|⟨_,_,Y,h⟩
  ·exact absurd (by simpa using hy0) h
  ·exact⟨Y,h⟩
 have HZ3:=hid HZ;obtain⟨A1,c1,rfl,_⟩:=HY3.out.sl;obtain⟨A2,c2,rfl,_⟩:=HZ.sl
 have cG2:Hid (∀W,Below w3.heap.size w3 W→Calls Tryz.prog 49 #[.slice A1 Y.length c1,.slice A2 Z.length c2,.func (.func 50) #[] #[]] W (bQ W)):=hid fun W hb=>by
  have h1:=HY3.out.below hb;have h2:=HZ3.out.below hb;obtain⟨A,c,e,r⟩:=h1.sl;obtain⟨A',c',e',r'⟩:=h2.sl;rw[e,e'];exact cG.out W A A' c c' Y Z r r' (by have:=h1.le;omega) h1.el h2.el
 clear HZ cG;obtain⟨x0,x1,x2⟩:=HX3.out.1.c3;obtain⟨u0,u1,u2⟩:=HX3.out.2.c3;go_wp2_with fail;refine(cN.out _ HB3.out).mono ?_;rintro e w4 ⟨b,rfl,hb4⟩;have HB4:=hid (HB3.out.trans (hb4.mono HB3.out.size));have HX4:=hid (And.intro (HX3.out.1.below hb4) (HX3.out.2.below hb4));have HC4:=hid hb4;clear x0 x1 x2 u0 u1 u2 hb4 HX3;cases b
 ·go_wp2_with fail
  go_ret;exact⟨_,rfl,HB4.out⟩
 obtain⟨x0,x1,x2⟩:=HX4.out.1.c3;obtain⟨u0,u1,u2⟩:=HX4.out.2.c3;go_wp2_with fail;refine(cA.out _ HB4.out).mono ?_;rintro e w5 ⟨b,rfl,hb5⟩;have HB5:=hid (HB4.out.trans (hb5.mono HB4.out.size));have HC5:=hid (HC4.out.trans (hb5.mono HC4.out.size));clear x0 x1 x2 u0 u1 u2 hb5;cases b
 ·go_wp2_with fail
  go_ret;exact⟨_,rfl,HB5.out⟩
 go_wp2_with fail;refine(cG2.out _ HC5.out).mono ?_;rintro e w6 ⟨b,rfl,hb6⟩;have HB6:=hid (HB5.out.trans (hb6.mono HB5.out.size));clear hb6;go_wp2_with fail;go_ret;exact⟨_,rfl,HB6.out⟩
end Go.Proofs
