/- Lemmas and walks; no statement of a law is proved here. -/
import Derived.Test.YtaglmdebikglgaaGreatDoorX12
set_option linter.unusedVariables false
set_option linter.unusedSimpArgs false
set_option maxRecDepth 100000
set_option maxHeartbeats 8000000
open Go.Lib
namespace Go.Proofs
open Go.RowKit Go.Proofs.Mp Go.Lib
theorem Bx.aside{w w':World}{nD B b:Nat}{vd vd':Value}{t:TypeId}{cs:List Value}(h:Bx w b t cs)(ha:jF w w' nD B vd vd')(h1:b≠nD)(h2:b≠B)(h3:vd.ownBlock≠some b):Bx w' b t cs:=(ha.2.1 b h.lt h1 h2 h3).trans h
def cm(p:Pn)(d:Int):Prop:=∃j,j<p.arcs.length∧(d=p.arcs[j]!.id∨d=-p.arcs[j]!.id)
structure ArI(p:Pn)(w0 w:World)(n0 nN nD nT B base:Nat)(cs:List Value)(id:Int)(o:Pt)(vd:Value)(l:List Int)(f:Int→Option Value):Prop where
 am:ArM w0 w nD nT B base l.length vd l f
 pb:Bx w n0 26 cs
 nb:Bx w nN 71 [id,o.1,o.2]
 it:∀d∈l,(∃q,f d=some (ae q)∧Nr q∧q≠o)∧cm p d
 ne:n0<base∧nN<base∧n0≠nD∧n0≠B∧nN≠nD∧nN≠B
section
variable {p:Pn}{w0 w w':World}{n0 nN nD nT B base:Nat}{cs:List Value}{id:Int}{o:Pt}{vd vd':Value}{l:List Int}{f:Int→Option Value}
theorem ArI.below(h:ArI p w0 w n0 nN nD nT B base cs id o vd l f)(hb:Below w.heap.size w w'):ArI p w0 w' n0 nN nD nT B base cs id o vd l f:=
 ⟨h.am.below hb,h.pb.below hb,h.nb.below hb,h.it,h.ne⟩
theorem ArI.add(h:ArI p w0 w n0 nN nD nT B base cs id o vd l f){x:Int}{q:Pt}(ha:ArM w0 w' nD nT B base (l.length+1) vd' (l++[x]) (setV f x (ae q)))(hs:jF w w' nD B vd vd')(hq:Nr q)(hne:q≠o)(hx:cm p x) :
  ArI p w0 w' n0 nN nD nT B base cs id o vd' (l++[x]) (setV f x (ae q)):=by
 obtain⟨e1,e2,e3,e4,e5,e6⟩:=h.ne;have ho:=World.ownsRow.lt h.am.own;refine⟨by rw[List.length_append];exact ha,h.pb.aside hs e3 e4 (fun e=>by have:=(ho _ e).1;omega),h.nb.aside hs e5 e6 (fun e=>by have:=(ho _ e).1;omega),fun d hd=>?_,h.ne⟩
 by_cases e:d=x
 ·subst e
  exact⟨⟨q,setV_same _ _ _,hq,hne⟩,hx⟩
 ·rw[setV_ne e]
  rcases List.mem_append.1 hd with k|k
  ·exact h.it d k
  ·exact absurd (List.mem_singleton.1 k) e
end
def lV(W:World)(nA gp nD B:Nat)(vd:Value):Prop:=(nA≠nD∧nA≠B∧vd.ownBlock≠some nA∧nA<W.heap.size)∧(gp≠nD∧gp≠B∧vd.ownBlock≠some gp∧gp<W.heap.size)
theorem lV.next{w w':World}{nA gp nD B:Nat}{vd vd':Value}(h:lV w nA gp nD B vd)(hs:jF w w' nD B vd vd'):lV w' nA gp nD B vd':=by
 obtain⟨⟨a1,a2,a3,a4⟩,b1,b2,b3,b4⟩:=h;exact⟨⟨a1,a2,hs.2.2 _ a4 a3,Nat.lt_of_lt_of_le a4 hs.1⟩,b1,b2,hs.2.2 _ b4 b3,Nat.lt_of_lt_of_le b4 hs.1⟩
def ptV:Option Value→Pt
 | some (.agg #[.int .i64 x,.int .i64 y])=>(x,y)
 | _=>(0,0)
theorem pC(q:Pt):ptV (some (ae q))=q:=rfl
def sJ(p:Pn)(w:World)(e:Ending)(w':World):Prop:=∃(v:Value) (l:List Int),e=.returned v∧SlI w' v l∧l.length≤1000∧(∀d∈l,cm p d)∧(∀g,v.ownBlock=some g→w.heap.size≤g∧g<w'.heap.size)∧Below w.heap.size w w'
theorem bI{p:Pn}(hC:CheckP p){d:Int}(h:cm p d) : -1073741824≤d∧d≤1073741824∧d≠0:=by
 obtain⟨j,hj,h⟩:=h;have:=hC.ba j (by simpa using hj);rw[aN Ar.id hj]at this;unfold badN at this;simp only[Bool.or_eq_false_iff,decide_eq_false_iff_not]at this;omega
theorem qI{p:Pn}{w0 w:World}{n0 nN nD nT B base c:Nat}{cs:List Value}{id:Int}{o:Pt}{A:Option Addr}{l:List Int}{f:Int→Option Value}(h:ArI p w0 w n0 nN nD nT B base cs id o (.slice A l.length c) l f)(ho:Nr o)(hw:∀d∈l,(Lit.int .i64 d).wf=true)(hl:l.length≤1000000) :
  Calls Tryz.prog 171 #[.slice A l.length c,.func (.func 172) #[] #[.pointer (some ⟨nN,0,none⟩),.pointer (some ⟨nT,0,none⟩)]] w (fun e w'=>e=.returned (.tuple #[])∧∃l',l'.Perm l∧Rd 1 Mp.encI w' A l'∧w.grownBy w' (Value.slice A l.length c).ownBlock):=by
 by_cases h0:l=[]
 ·subst h0
  have hcon:=AnyF.slices_SortFunc_none Tryz.sortI A c (.func (.func 172) #[] #[.pointer (some ⟨nN,0,none⟩),.pointer (some ⟨nT,0,none⟩)]) w;change Calls Tryz.prog 171 _ _ _ at hcon;refine hcon.mono ?_;rintro e w' ⟨he,rfl⟩;exact⟨he,[],List.Perm.refl _,.inl rfl,World.grownBy.refl _ _⟩
 ·obtain⟨g,cap,e,_,_⟩:=aG h.am.own h0
  injection e with e1 _ e3;subst e1 e3;obtain⟨l1,l2,l3,l4,l5,l6,_⟩:=h.am.lt
  exact li o (fun d=>ptV (f d)) l id g _ nN nT B l.length base f w h.am.own h0 hl h.nb h.am.bt h.am.mp ⟨h.ne.2.1,l5,l6⟩ ho (fun d hd=>by
   obtain⟨⟨q,hq,hn,hne⟩,_⟩:=h.it d hd;rw[hq,pC]
   exact⟨rfl,hw d hd,hn,hne⟩)
theorem iJ{W:World}{gp:Nat}{path:List Pt}(h:RdR W (some ⟨gp,0,none⟩) path){j:Nat}(hj:j<path.length):W.cell? ⟨gp,j*2,none⟩=some (.int .i64 path[j]!.1)∧W.cell? ⟨gp,j*2+1,none⟩=some (.int .i64 path[j]!.2):=by
 obtain⟨b',o',e,_,d0,d1⟩:=RdR.get h (Below.refl _ _) hj;injection e with e;injection e with e1 e2;subst e1 e2;rw[Nat.zero_add]at d0 d1;exact⟨d0,d1⟩
theorem mN(p:Pn)(m:Mem)(node:Int)(w:World)(hR:PlR w p m)(hC:CheckP p):Calls Tryz.prog 117 #[plV p m,node] w (sJ p w):=by
 have HA:=hid fun (k:Nat) (hk:k<p.arcs.length) W hb=>hR.arc (W:=W) hb hk
 have cPa:=hid fun id W (hb:Below w.heap.size w W)=>bJ p m id W (hR.below hb)
 have cN:=hid fun W (hb:Below w.heap.size w W)=>iI p m node W (hR.below hb)
 have HCk:=hid hC;have hal:=hC.l2
 have HFN:=hid (show ∀nd,findN p.nodes node=some nd→nd.1=node∧gP p node=nd.2∧Nr nd.2 from fun nd h=>by
  have h1:=List.find?_some h;have h2:=List.mem_of_find?_eq_some h;have h3:nd.1=node:=by simpa using h1
  obtain⟨i,hi,e⟩:=aw h2;refine⟨h3,?_,?_⟩
  ·rw[←h3];exact hC.pre.gP h2
  ·rw[←e];exact iA (dT (hC.pre.pl.1 i hi)))
 have hplV:plV p m=.agg #[.slice m.an p.nodes.length m.cn,.slice m.aa p.arcs.length m.ca,.slice m.af p.faces.length m.cf]:=rfl;rw[hplV]at cPa cN ⊢;clear hR hC hplV;obtain⟨an,aa,af,cn,ca,cf,vs⟩:=m;dsimp only at *;have ha:=(Bx.new (t:=26) (cs:=[.slice an p.nodes.length cn,.slice aa p.arcs.length ca,.slice af p.faces.length cf]) w rfl).alloc (.cells #[.slice none 0 0] 24);have hx:=Bx.newAt (b:=w.heap.size+1) (t:=24) (cs:=[.slice none 0 0]) (c:=#[.slice none 0 0]) (w.alloc (.cells #[.slice an p.nodes.length cn,.slice aa p.arcs.length ca,.slice af p.faces.length cf] 26)) (by simp) rfl;have hw:=(bw1 w (.cells #[.slice an p.nodes.length cn,.slice aa p.arcs.length ca,.slice af p.faces.length cf] 26)).alloc (bw1 _ _).size (.cells #[.slice none 0 0] 24);have hmm:=@run_makeMap Tryz.prog;go_enter Tryz.func117,Tryz.ntmps117;go_upto_region 1 with fail;change Bx ((w.alloc (.cells #[.slice an p.nodes.length cn,.slice aa p.arcs.length ca,.slice af p.faces.length cf] 26)).alloc (.cells #[.slice none 0 0] 24)) _ _ _ at ha;generalize (w.alloc (.cells #[.slice an p.nodes.length cn,.slice aa p.arcs.length ca,.slice af p.faces.length cf] 26)).alloc (.cells #[.slice none 0 0] 24)=w1 at *;obtain⟨nD,hnD⟩:∃n,w.heap.size+1=n:=⟨_,rfl⟩;obtain⟨n0,hn0⟩:∃n,w.heap.size=n:=⟨_,rfl⟩;have HNN:=hid (And.intro hnD hn0);rw[hnD]at hx ⊢;rw[hn0]at ha ⊢;clear hnD hn0;have HW1:=hid hw;have HA1:=hid ha;have HX1:=hid hx;obtain⟨a0,a1,a2⟩:=ha.c3;clear ha hx hw;go_wp2_with fail;refine(cN.out _ HW1.out).mono ?_;rintro e w2 ⟨rfl,hb2⟩;have HW2:=hid (HW1.out.trans (hb2.mono HW1.out.size));have HA2:=hid (HA1.out.below hb2);have HX2:=hid (HX1.out.below hb2);clear a0 a1 a2 hb2;have hfn:=HFN.out;generalize findN p.nodes node=fn at *;cases fn with
 | none=>
  have HX3:=hid (HX2.out.alloc (.cells #[.int .i64 0,.int .i64 0,.int .i64 0] 71));have HW3:=hid (HW2.out.alloc HW2.out.size (.cells #[.int .i64 0,.int .i64 0,.int .i64 0] 71));unfold gr;clear hfn;go_upto_region 2 with fail;generalize w2.alloc (.cells #[.int .i64 0,.int .i64 0,.int .i64 0] 71)=w3 at *;have x0:=HX3.out.c1;have x1:=HX3.out.frozen 0;have x2:=HX3.out.lt;go_wp2_with fail;rw[ac x0];refine bodyPost_ret (v:=.slice none 0 0) (by simp[results,Tryz.results117,go_sem,x0]) rfl ?_;exact⟨_,[],rfl,⟨none,0,rfl,.inl rfl,Nat.le_refl _⟩,by simp,by simp,(fun g e=>by cases e),HW3.out⟩
 | some nd=>
 obtain⟨h1,h2,h3⟩:=hfn nd rfl;clear hfn;obtain⟨ni,o⟩:=nd;dsimp only at h1 h2 h3;subst h1;have HO:=hid (And.intro h2 h3);clear h2 h3;unfold gr;dsimp only;have hN2:=Bx.new (t:=71) (cs:=[.int .i64 ni,.int .i64 o.1,.int .i64 o.2]) w2 rfl;have HA3:=hid (HA2.out.alloc (.cells #[ni,o.1,o.2] 71));have HX3:=hid (HX2.out.alloc (.cells #[ni,o.1,o.2] 71));have HW3:=hid (HW2.out.alloc HW2.out.size (.cells #[ni,o.1,o.2] 71));go_upto_region 2 with fail;generalize w2.alloc (.cells #[ni,o.1,o.2] 71)=w3 at *;obtain⟨nN,hnN⟩:∃n,w2.heap.size=n:=⟨_,rfl⟩;rw[hnN]at hN2 ⊢;have HN3:=hid hN2;have HNX:=hid (show nD<nN∧nN<w3.heap.size from ⟨by have:=HX2.out.lt;omega,hN2.lt⟩);clear hnN hN2
 have hst:ArI p w ((w3.alloc (.map #[] 0)).alloc (.cells #[.map (some w3.heap.size)] 69)) n0 nN nD (w3.heap.size+1) w3.heap.size (w3.heap.size+1+1) [.slice an p.nodes.length cn,.slice aa p.arcs.length ca,.slice af p.faces.length cf] ni o (.slice none 0 0) [] (fun _=>none):=by
  have e1:=HNN.out;have e2:=HNX.out;refine⟨⟨(HX3.out.alloc _).alloc _,Bx.newAt _ (by simp) rfl,Own.nil _ _,(MapV.made (P:=Tryz.prog) (k:=3) w3).below (bw1 _ _),(HW3.out.alloc HW3.out.size _).alloc (by have:=HW3.out.size;simp;omega) _,⟨by omega,by omega,by omega,by omega,by omega,by omega,by omega,by omega,by omega⟩,by simp⟩,(HA3.out.alloc _).alloc _,(HN3.out.alloc _).alloc _,(fun d hd=>by cases hd),⟨by omega,by omega,by omega,by omega,by omega,by omega⟩⟩
 go_upto_region 5 with fail;generalize (w3.alloc (.map #[] 0)).alloc (.cells #[.map (some w3.heap.size)] 69)=w4 at *;generalize w3.heap.size+1+1=base at *;generalize w3.heap.size+1=nT at *;generalize w3.heap.size=B at *;have HST:=hid hst;clear hst hmm;obtain⟨a0,a1,a2⟩:=HST.out.pb.c3;go_wp2_with fail;clear a0 a1 a2;go_loopw [10,11,12,26] (fun _ _ _ i wr=>∃(k:Nat) (vd:Value) (l:List Int) (f:Int→Option Value),k≤p.arcs.length∧i=.int .i64 k∧Hid (ArI p w wr n0 nN nD nT B base [.slice an p.nodes.length cn,.slice aa p.arcs.length ca,.slice af p.faces.length cf] ni o vd l f)∧Hid (l.length≤2*k)) (fun _ _ _ i _=>p.arcs.length-(intOf i).toNat)
 case atStart=>exact⟨0,_,_,_,by omega,rfl,HST,hid (by simp)⟩
 case round=>
  clear HST;obtain⟨k,vd,l,f,hk,rfl,HAR0,HLN⟩:=hrel
  by_cases hlt:k<p.arcs.length
  ·have hli:(k:Int)<(p.arcs.length:Int):=by omega
   obtain⟨b,off,A,c,rfl,hbl,a0,a1,a2,a3,a4,a5,_,_,_⟩:=HA.out k hlt wr HAR0.out.am.hb;have hpk:=HCk.out.pre.path hlt;rw[←HCk.out.pre.pth hlt]at hpk;have HNP:=hid (show ∀j,j<(pth p k).length→Nr (pth p k)[j]! from fun j hj=>HCk.out.pre.ok.pr k hlt j hj);have HPL:=hid (show 2≤(pth p k).length∧(pth p k).length≤66 from by rw[HCk.out.pre.plen hlt];have:=HCk.out.lv k hlt;omega)
   have HQ0:=hid (show p.arcs[k]!.frm=ni→(pth p k)[1]!≠o from fun e h=>by
    have h1:=(HCk.out.plane.arc k hlt).ne 0 (by show 0+1<(pth p k).length;have:=HPL.out;omega);have h2:=HCk.out.pre.p0 hlt;rw[e,HO.out.1]at h2
    exact h1 (h2.trans h.symm))
   have HQ1:=hid (show p.arcs[k]!.dst=ni→(pth p k)[(pth p k).length-2]!≠o from fun e h=>by
    have hp:=HPL.out;have h1:=(HCk.out.plane.arc k hlt).ne ((pth p k).length-2) (by show(pth p k).length-2+1<(pth p k).length;omega);have h2:=HCk.out.pre.pn hlt;rw[e,HO.out.1]at h2;have e3:(pth p k).length-2+1=(pth p k).length-1:=by omega
    have h1:(pth p k)[(pth p k).length-2]!≠(pth p k)[(pth p k).length-2+1]!:=h1;rw[e3,h2]at h1
    exact h1 h)
   have HDP:=hid (show cm p p.arcs[k]!.id∧cm p (-p.arcs[k]!.id)from ⟨⟨k,hlt,.inl rfl⟩,⟨k,hlt,.inr rfl⟩⟩);have hdw:=bI HCk.out HDP.out.1;have HWF:=hid (show(Lit.int .i64 p.arcs[k]!.id).wf=true∧(Lit.int .i64 (-p.arcs[k]!.id)).wf=true from ⟨bz (by omega) (by omega),bz (by omega) (by omega)⟩);have hwn:IntKind.i64.wrap (-p.arcs[k]!.id)=-p.arcs[k]!.id:=IntWalk.i64_in _ (by omega);have cPk:=hid (cPa.out p.arcs[k]!.id);rw[hpk]at cPk;have hpne:pth p k≠[]:=fF hpk;have hpw:IntKind.i64.wrap (((pth p k).length:Int)-2)=((pth p k).length:Int)-2:=IntWalk.i64_in _ (by have:=HPL.out;omega);have hl1:(1:Int)<((pth p k).length:Int):=by have:=HPL.out;omega
   clear hdw;generalize p.arcs[k]! = ar at *;obtain⟨arc,afr,ad,av,al,art⟩:=ar;dsimp only at a0 a1 a2 a3 a4 a5 cPk HQ0 HQ1 HDP HWF hwn;generalize pth p k=path at *;clear hpk;have hA:=Bx.new (t:=58) (cs:=[.int .i64 arc,.int .i64 afr,.int .i64 ad,.slice A av.length c,.int .i64 al,.int .i64 art]) wr rfl;have HAR1:=hid (HAR0.out.below (bw1 wr (.cells #[arc,afr,ad,.slice A av.length c,al,art] 58)));have HNA:=hid (show nD<wr.heap.size∧B<wr.heap.size∧∀g,vd.ownBlock=some g→g<wr.heap.size from ⟨HAR0.out.am.bd.lt,HAR0.out.am.mp.lt,fun g e=>(World.ownsRow.lt HAR0.out.am.own g e).2⟩);clear HAR0;go_upto_region 9 with fail;generalize wr.alloc (.cells #[arc,afr,ad,.slice A av.length c,al,art] 58)=w5 at *;generalize wr.heap.size=nA at *;clear a0 a1 a2 a3 a4 a5;obtain⟨y1,hy1⟩:∃y,(afr==ni)=y:=⟨_,rfl⟩;obtain⟨y2,hy2⟩:∃y,(ad==ni)=y:=⟨_,rfl⟩;have HY:=hid (show(y1=true→afr=ni)∧(y2=true→ad=ni)from ⟨fun e=>by rw[e]at hy1;simpa using hy1,fun e=>by rw[e]at hy2;simpa using hy2⟩)
   obtain⟨a0,a1,a2,_,_,_⟩:=hA.c6;have hne1:(afr != ni)=!y1:=by rw[←hy1];rfl
   have hne2:(ad != ni)=!y2:=by rw[←hy2];rfl
   go_cut [39] from 30 to 38 (fun v wx=>v=.bool (!y1&&!y2)∧w5=wx)
   case first=>
    cases y1<;>cases y2
    all_goals
     go_wp2_with fail;go_meet;exact⟨rfl,rfl⟩
   case rest=>
   obtain⟨rfl,rfl⟩:=hcut;cases hyy:(!y1&&!y2)
   rotate_left
   ·clear a0 a1 a2 hyy hy1 hy2 hne1 hne2
    go_wp2_with fail;go_roundw
    case rel=>exact⟨k+1,_,_,_,by omega,by go_num,HAR1,hid (by have:=HLN.out;omega)⟩
    case measure=>simp[intOf];omega
   obtain⟨p0,p1,p2⟩:=HAR1.out.pb.c3;clear hyy a1 a2;go_wp2_with fail;refine(cPk.out _ HAR1.out.am.hb).mono ?_;rintro e w6 ⟨vq,rfl,hO6,hb6⟩;obtain⟨gp,cp,rfl,hgp1,hgp2⟩:=aG hO6 hpne;have HAR:=hid (HAR1.out.below hb6);have HSS:=hid (show(fun W:World=>Bx W nA 58 [arc,afr,ad,.slice A av.length c,al,art]∧RdR W (some ⟨gp,0,none⟩) path) w6 from ⟨hA.below hb6,Own.rd encR_len hO6⟩)
   have HDQ:=hid (show lV w6 nA gp nD B vd from by
    obtain⟨e1,e2,e3⟩:=HNA.out;have h1:=hA.lt;have h2:=hb6.size
    exact⟨⟨by omega,by omega,fun e=>by have:=e3 _ e;omega,by omega⟩,by omega,by omega,fun e=>by have:=e3 _ e;omega,hgp2⟩)
   have hA6:=hA.below hb6;obtain⟨_,b1,b2,_,_,_⟩:=hA6.c6;clear p0 p1 p2 a0 hO6 hgp1 hgp2 hb6 HAR1 hA hA6 hne1 hne2;go_upto_if 52 with fail;clear b1 b2;go_cut [12] from 53 to 59 (fun v wx=>v=.int .i64 0∧∃(vd:Value) (l:List Int) (f:Int→Option Value),Hid (ArI p w wx n0 nN nD nT B base [.slice an p.nodes.length cn,.slice (some ⟨b,off,none⟩) p.arcs.length ca,.slice af p.faces.length cf] ni o vd l f)∧Hid (l.length≤2*k+1)∧Hid ((fun W:World=>Bx W nA 58 [arc,afr,ad,.slice A av.length c,al,art]∧RdR W (some ⟨gp,0,none⟩) path) wx)∧Hid (lV wx nA gp nD B vd))
   case first=>
    generalize w6=wr at *;cases y1
    ·go_wp2_with fail
     go_meet;exact⟨rfl,vd,l,f,HAR,hid (by have:=HLN.out;omega),HSS,HDQ⟩
    ·have hfe:=HY.out.1 rfl
     have HQ0:=hid (show(true=true→path[1]!≠o)from fun _=>HQ0.out hfe);clear hfe;go_upto_region 13 with fail;obtain⟨ux,uy,hu⟩:∃ux uy,path[1]! = (ux,uy):=⟨_,_,rfl⟩;have HU:=hid hu;clear hu;have hS1:(fun W:World=>Bx W nA 58 [arc,afr,ad,.slice A av.length c,al,art]∧RdR W (some ⟨gp,0,none⟩) path) wr.drew:=HSS.out;have HID:=hid (HAR.out.below (Below.refl _ _).drew);have HDS:=hid (show lV wr.drew nA gp nD B vd from HDQ.out);refine wp_region_held_drew (S:=(fun W:World=>Bx W nA 58 [arc,afr,ad,.slice A av.length c,al,art]∧RdR W (some ⟨gp,0,none⟩) path)) (by kernel_rfl) hS1 (fun hHeld=>?_);clear hHeld;generalize hwd:wr.drew=wd at *;clear hwd;refine kk 0 rfl ?_;refine kk 1 rfl ?_;refine kf 2 (fun W h=>h.1.c6) rfl ?_;refine kk 3 rfl ?_;refine kk 4 rfl ?_;refine kk 5 (hy:=by intro W hSw;obtain⟨d0,d1⟩:=iJ hSw.2 (j:=1) (by have:=HPL.out;omega);rw[HU.out]at d0 d1;clear hSw;go_simp;try with_reducible rfl) rfl ?_
     refine kr 6 rfl fun K hK=>?_
     go_simp;go_at_call 170;refine(oP w wd nD nT B base _ vd l f HID.out.am arc (ux,uy) HWF.out.1 (by have:=HLN.out;omega) (by have:=HLN.out;omega)).mono ?_;rintro e Wra1 ⟨rfl,vd2,ham,has⟩;have hS2:(fun W:World=>Bx W nA 58 [arc,afr,ad,.slice A av.length c,al,art]∧RdR W (some ⟨gp,0,none⟩) path) Wra1:=⟨hS1.1.aside has HDS.out.1.1 HDS.out.1.2.1 HDS.out.1.2.2.1,hS1.2.keepB has.1 (has.2.1 gp HDS.out.2.2.2.2 HDS.out.2.1 HDS.out.2.2.1 HDS.out.2.2.2.1)⟩;have HAI:=hid (HID.out.add ham has (by rw[←HU.out];exact HNP.out _ (by have:=HPL.out;omega)) (by rw[←HU.out];exact(HQ0.out rfl)) HDP.out.1);have HDQ2:=hid (HDS.out.next has);clear ham has hS1;go_wp2_with fail;refine hK.out _ _ hS2 (fun hHeld=>?_);clear hK hHeld K
     try simp only[Act.put,sa,sz,ss]
     refine wpAnyH_done (by kernel_rfl) ?_ _;have HS2:=hid hS2;clear hS2;go_wp2_with fail;go_meet;exact⟨rfl,vd2,_,_,HAI,hid (by rw[List.length_append];have:=HLN.out;show l.length+1≤_;omega),HS2,HDQ2⟩
   case rest=>
   clear HAR HSS HDQ HLN;obtain⟨rfl,vd,l,f,HAR,HLN,HSS,HDQ⟩:=hcut;generalize wc=wr at *;obtain⟨_,_,b2,_,_,_⟩:=HSS.out.1.c6;cases y2
   ·go_wp2_with fail
    go_roundw
    case rel=>exact⟨k+1,_,_,_,by omega,by go_num,HAR,hid (by have:=HLN.out;omega)⟩
    case measure=>simp[intOf];omega
   have hde:=HY.out.2 rfl;have HQ1:=hid (show(true=true→path[path.length-2]!≠o)from fun _=>HQ1.out hde);clear hde;go_upto_region 15 with fail;clear b2;obtain⟨ux,uy,hu⟩:∃ux uy,path[(path.length-2)]! = (ux,uy):=⟨_,_,rfl⟩;have HU:=hid hu;clear hu;have j9:((path.length:Int)-2).toNat=path.length-2:=(by omega);have j8:(path.length:Int)-2<(path.length:Int):=(by omega);have j6:(2:Int)≤(path.length:Int):=(by have:=HPL.out;omega);have hS1:(fun W:World=>Bx W nA 58 [arc,afr,ad,.slice A av.length c,al,art]∧RdR W (some ⟨gp,0,none⟩) path) wr.drew:=HSS.out;have HID:=hid (HAR.out.below (Below.refl _ _).drew);have HDS:=hid (show lV wr.drew nA gp nD B vd from HDQ.out);refine wp_region_held_drew (S:=(fun W:World=>Bx W nA 58 [arc,afr,ad,.slice A av.length c,al,art]∧RdR W (some ⟨gp,0,none⟩) path)) (by kernel_rfl) hS1 (fun hHeld=>?_);clear hHeld;generalize hwd:wr.drew=wd at *;clear hwd;refine kk 0 rfl ?_;refine kk 1 rfl ?_;refine kf 2 (fun W h=>h.1.c6) rfl ?_;refine kk 3 rfl ?_;refine kk 4 rfl ?_;refine kk 5 rfl ?_;refine kk 6 rfl ?_;refine kk 7 rfl ?_;refine kk 8 rfl ?_;refine kk 9 (hy:=by intro W hSw;obtain⟨d0,d1⟩:=iJ hSw.2 (j:=(path.length-2)) (by have:=HPL.out;omega);rw[HU.out]at d0 d1;clear hSw;go_simp;try with_reducible rfl) rfl ?_
   refine kr 10 rfl fun K hK=>?_
   go_simp;go_at_call 170;refine(oP w wd nD nT B base _ vd l f HID.out.am (-arc) (ux,uy) HWF.out.2 (by have:=HLN.out;omega) (by have:=HLN.out;omega)).mono ?_;rintro e Wrb1 ⟨rfl,vd2,ham,has⟩;have hS2:(fun W:World=>Bx W nA 58 [arc,afr,ad,.slice A av.length c,al,art]∧RdR W (some ⟨gp,0,none⟩) path) Wrb1:=⟨hS1.1.aside has HDS.out.1.1 HDS.out.1.2.1 HDS.out.1.2.2.1,hS1.2.keepB has.1 (has.2.1 gp HDS.out.2.2.2.2 HDS.out.2.1 HDS.out.2.2.1 HDS.out.2.2.2.1)⟩;have HAI:=hid (HID.out.add ham has (by rw[←HU.out];exact HNP.out _ (by have:=HPL.out;omega)) (by rw[←HU.out];exact(HQ1.out rfl)) HDP.out.2);have HDQ2:=hid (HDS.out.next has);clear ham has hS1;go_wp2_with fail;refine hK.out _ _ hS2 (fun hHeld=>?_);clear hK hHeld K
   try simp only[Act.put,sa,sz,ss]
   refine wpAnyH_done (by kernel_rfl) ?_ _;have HS2:=hid hS2;clear hS2;go_wp2_with fail;go_roundw
   case rel=>exact⟨k+1,vd2,_,_,by omega,by go_num,HAI,hid (by rw[List.length_append];have:=HLN.out;show l.length+1≤_;omega)⟩
   case measure=>simp[intOf];omega
  ·obtain rfl:p.arcs.length=k:=by omega
   have hge:¬((p.arcs.length:Int)<(p.arcs.length:Int)):=by omega
   obtain⟨A1,c1,rfl⟩:=Own.slice HAR0.out.am.own;have d0:=HAR0.out.am.bd.c1;have cS:=hid (qI HAR0.out HO.out.2 (fun d hd=>by have:=bI HCk.out (HAR0.out.it d hd).2;exact bz (by omega) (by omega)) (by have:=HLN.out;omega));have HOB:=hid (World.ownsRow.lt HAR0.out.am.own);go_wp2_with fail;refine cS.out.mono ?_;rintro e w5 ⟨rfl,l',hp,hr,hg⟩;have hlt9:=HAR0.out.am.lt;have hbd:=HAR0.out.am.bd.grown hg (fun e=>by have:=(HOB.out _ e).1;omega)
   have HRet:=hid (show sJ p w (.returned (.slice A1 l.length c1)) w5 from ⟨_,l',rfl,⟨A1,c1,by rw[hp.length_eq],hr,by
     rw[hp.length_eq]
     rcases HAR0.out.am.own.2 with⟨e1,e2⟩|⟨g,cap,cur,e1,_,_,h3,_⟩
     ·rw[e2];exact Nat.zero_le _
     ·injection e1 with _ _ e3
      rw[e3];exact h3⟩,by rw[hp.length_eq];have:=HLN.out;omega,fun d hd=>(HAR0.out.it d (hp.mem_iff.1 hd)).2,(fun g e=>by have h1:=(HOB.out g e).1;have h2:=(HOB.out g e).2;have h3:=hg.size;omega),
    HAR0.out.am.hb.grown hg HAR0.out.am.hb.size (fun j e=>by have:=(HOB.out j e).1;omega)⟩)
   have f0:=hbd.c1;have f1:=hbd.frozen 0;have f2:=hbd.lt;clear d0 hp hr hg hbd hlt9;go_wp2_with fail;rw[ac f0];refine bodyPost_ret (v:=.slice A1 l.length c1) (by simp[results,Tryz.results117,go_sem,f0]) rfl ?_;exact HRet.out
end Go.Proofs
namespace Go.Proofs
open Go.RowKit Go.Proofs.Mp Go.Lib
def uns(S:List Int)(s:Int→Option Value):Nat:=S.countP fun d=>(s d).isNone
theorem sV(S:List Int)(s:Int→Option Value)(d:Int)(v:Value):uns S (setV s d v)≤uns S s:=by
 induction S with
 | nil=>exact Nat.le_refl _
 | cons x l ih=>
  unfold uns at *;rw[List.countP_cons,List.countP_cons]
  by_cases e:x=d
  ·subst e
   rw[setV_same];simp only[Option.isNone_some,Bool.false_eq_true,if_false];omega
  ·rw[setV_ne e]
   omega
theorem oS{S:List Int}{s:Int→Option Value}{d:Int}(v:Value)(hd:d∈S)(hs:s d=none):uns S (setV s d v)+1≤uns S s:=by
 induction S with
 | nil=>cases hd
 | cons x l ih=>
  have hl:=sV l s d v;unfold uns at *;rw[List.countP_cons,List.countP_cons]
  by_cases e:x=d
  ·subst e
   rw[setV_same,hs];simp only[Option.isNone_some,Option.isNone_none,Bool.false_eq_true,if_false,if_true];omega
  ·have ih:=ih (by rcases List.mem_cons.1 hd with h|h;exact absurd h.symm e;exact h)
   rw[setV_ne e];omega
def lenOf:Value→Nat
 | .slice _ n _=>n
 | _=>0
structure FoM(w:World)(nS nM Bs Bn N M:Nat)(S:List Int)(s g:Int→Option Value):Prop where
 bs:Bx w nS 163 [.map (some Bs)]
 bm:Bx w nM 199 [.map (some Bn)]
 ms:MapV Tryz.prog 3 w Bs N s
 mn:MapV Tryz.prog 3 w Bn M g
 ts:∀x v,s x=some v→v=.bool true
 tg:∀x v,g x=some v→∃z,v=.int .i64 z∧z∈S
 ne:nS≠Bs∧nM≠Bs∧Bn≠Bs
theorem FoM.keep{w w':World}{nS nM Bs Bn N M:Nat}{S:List Int}{s g:Int→Option Value}(h:FoM w nS nM Bs Bn N M S s g){row:Option Nat}(hg:w.grownBy w' row)(h1:row≠some nS)(h2:row≠some nM)(h3:row≠some Bs)(h4:row≠some Bn):FoM w' nS nM Bs Bn N M S s g:=
 ⟨h.bs.grown hg h1,h.bm.grown hg h2,h.ms.kept hg (fun e=>h3 e.symm),h.mn.kept hg (fun e=>h4 e.symm),h.ts,h.tg,h.ne⟩
def uo(w:World)(nS nM Bs Bn N M:Nat)(S:List Int)(s g:Int→Option Value)(d:Int)(e:Ending)(w':World):Prop:=
 ∃(v:Value) (cyc:List Int) (s':Int→Option Value) (N':Nat),e=.returned v∧Own 3 1 Mp.encI w' w.heap.size v cyc∧FoM w' nS nM Bs Bn N' M S s' g∧N'+uns S s'≤N+uns S s∧(s d=none→∃r,cyc=d::r)∧(∀x∈cyc,x∈S)∧cyc.length≤S.length∧w.grownBy w' (some Bs)
theorem mL(S:List Int)(nS nM Bs Bn N M:Nat)(s g:Int→Option Value)(d:Int)(w:World)(h:FoM w nS nM Bs Bn N M S s g)(hd:d∈S)(h0:(0:Int)∈S)(hwf:∀x∈S,(Lit.int .i64 x).wf=true)(hS:S.length≤1000000)(hNu:N+uns S s≤1000000) :
  Calls Tryz.prog 120 #[d,.pointer (some ⟨nS,0,none⟩),.pointer (some ⟨nM,0,none⟩)] w (uo w nS nM Bs Bn N M S s g d):=by
 have HF:=hid h;have HD:=hid (And.intro hd h0);have HWF:=hid hwf;have HU:=hid (show uns S s≤S.length from List.countP_le_length);have HLT:=hid (show nS<w.heap.size∧nM<w.heap.size∧Bs<w.heap.size∧Bn<w.heap.size from ⟨h.bs.lt,h.bm.lt,h.ms.lt,h.mn.lt⟩);have HNE:=hid h.ne;clear h hd h0 hwf;go_enter Tryz.func120,Tryz.ntmps120;go_wp2_with fail;go_loopw [0,4] (fun x c wr=>∃(y:Int) (cyc:List Int) (s':Int→Option Value) (N':Nat),x=.int .i64 y∧Hid (y∈S∧(cyc=[]→y=d∧s'=s)∧(s d=none→cyc≠[]→∃r,cyc=d::r))∧Hid (Own 3 1 Mp.encI wr w.heap.size c cyc)∧Hid (FoM wr nS nM Bs Bn N' M S s' g)∧Hid (N'+uns S s'≤N+uns S s∧cyc.length+uns S s'≤S.length∧∀x∈cyc,x∈S)∧Hid (w.grownBy wr (some Bs))) (fun _ c _=>S.length-lenOf c)
 case atStart=>exact⟨d,[],s,N,rfl,hid ⟨HD.out.1,fun _=>⟨rfl,rfl⟩,fun _ h=>absurd rfl h⟩,hid (Own.nil _ _),HF,hid ⟨Nat.le_refl _,by have:=HU.out;simp;omega,fun x hx=>by cases hx⟩,hid (World.grownBy.refl _ _)⟩
 case round=>
  obtain⟨y,cyc,s',N',rfl,HX,HOW,HFr,HI,HG⟩:=hrel;have hwy:=HWF.out y HX.out.1;have hM:=HFr.out.ms;have k0:=HFr.out.bs.c1;obtain⟨v,hv⟩:∃v,(s' y).getD (.bool false)=v:=⟨_,rfl⟩
  have hvb:v=.bool true∨(v=.bool false∧s' y=none):=by
   cases e:s' y with
   | none=>rw[e]at hv;exact Or.inr ⟨hv.symm,rfl⟩
   | some x=>rw[e]at hv;exact Or.inl (by rw[←hv];exact HFr.out.ts _ _ e)
  have HV:=hid hv;clear hv;obtain⟨A,c,rfl⟩:=Own.slice HOW.out
  rcases hvb with rfl|⟨rfl,hno⟩
  ·go_wp2_with (at_lookup;refine MapV.look hM rfl _ _ rfl Tryz.underlying163 Tryz.underlying3 (Tryz.zeroValue4 _) rfl y rfl hwy HV.out ?_)
   go_ret;refine⟨_,cyc,s',N',rfl,HOW.out,HFr.out,HI.out.1,fun hs=>?_,HI.out.2.2,by have:=HI.out.2.1;omega,HG.out⟩
   by_cases e:cyc=[]
   ·obtain⟨e1,e2⟩:=HX.out.2.1 e
    have:=HV.out;rw[e2,e1,hs]at this;cases this
   ·exact HX.out.2.2 hs e
  ·have HNO:=hid hno
   clear hno;go_upto_region 2 with (at_lookup;refine MapV.look hM rfl _ _ rfl Tryz.underlying163 Tryz.underlying3 (Tryz.zeroValue4 _) rfl y rfl hwy HV.out ?_)
   have hN1:N'+1≤1000000:=by
    have h1:=HI.out.1;have h2:=oS (.bool true) HX.out.1 HNO.out;omega
   go_upto_region 3 with (at_mapUpdate;refine MapV.store hM rfl _ _ _ rfl Tryz.underlying163 Tryz.underlying3 rfl y (.bool true) rfl rfl hwy (M:=N'+1) (.inr (Nat.le_refl _)) (by unfold maxLen;omega) ?_;intro w5 hM5 hg5);have HU2:=hid (oS (.bool true) HX.out.1 HNO.out)
   have HF5:=hid (show FoM w5 nS nM Bs Bn (N'+1) M S (setV s' y (.bool true)) g from by
    obtain⟨e1,e2,e3⟩:=HFr.out.ne;refine⟨HFr.out.bs.grown hg5 (fun e=>e1 (by injection e with e;exact e.symm)),HFr.out.bm.grown hg5 (fun e=>e2 (by injection e with e;exact e.symm)),hM5,HFr.out.mn.kept hg5 (fun e=>e3 (by injection e)),fun x u hu=>?_,HFr.out.tg,HFr.out.ne⟩
    by_cases e:x=y
    ·subst e;rw[setV_same]at hu;injection hu with hu;exact hu.symm
    ·rw[setV_ne e]at hu;exact HFr.out.ts x u hu)
   have HO5:=hid (show Own 3 1 Mp.encI w5 w.heap.size (.slice A cyc.length c) cyc from World.ownsRow.kept HOW.out hg5 (by
    rcases hb:(Value.slice A cyc.length c).ownBlock with _|j
    ·exact .inl rfl
    ·refine .inr fun e=>?_
     have e:j=Bs:=by injection e
     have h1:=(World.ownsRow.lt HOW.out j hb).1;have h2:=HLT.out.2.2.1
     omega))
   have HG5:=hid (HG.out.trans hg5);clear hM hM5 hg5 k0 HV HNO HFr HOW HG;have hown:=HO5.out;have hbs:w.heap.size≤w5.heap.size:=HG5.out.size;have hcl:cyc.length+1≤1000000000:=by have:=HI.out.2.1;omega
   go_upto_region 4 with (at_builtin;refine wpList_plain rfl fun K' hK'=>Tryz.wpI hown y _ _ rfl rfl rfl hcl hbs ?_;intro v9 w9 hO9 hg9 hl9;refine hK' _ _ ?_;obtain⟨A9,c9,rfl⟩:=Own.slice hO9;clear hK');rw[show(cyc++[y]).length=cyc.length+1 by simp]at hO9 hl9;have hob:=World.ownsRow.lt HO5.out;have HF9:=hid (HF5.out.keep hg9 (fun e=>by have:=(hob _ e).1;have:=HLT.out;omega) (fun e=>by have:=(hob _ e).1;have:=HLT.out;omega) (fun e=>by have:=(hob _ e).1;have:=HLT.out;omega) (fun e=>by have:=(hob _ e).1;have:=HLT.out;omega));have HG9:=hid (show w.grownBy w9 (some Bs)from ⟨hg9.os.trans HG5.out.os,hg9.tape.trans HG5.out.tape,hg9.output.trans HG5.out.output,Nat.le_trans HG5.out.size hg9.size,fun q hq hne=>(hg9.block q (Nat.lt_of_lt_of_le hq HG5.out.size) (fun e=>by have:=(hob q e.symm).1;omega)).trans (HG5.out.block q hq hne)⟩);have HO9:=hid hO9;clear hown hO9 hg9 hl9 hob;have hM:=HF9.out.mn;have k0:=HF9.out.bm.c1
   obtain⟨z,hz,hzS⟩:∃z,(g y).getD (.int .i64 0)=.int .i64 z∧z∈S:=by
    cases e:g y with
    | none=>exact⟨0,rfl,HD.out.2⟩
    | some x=>
     obtain⟨z,e1,e2⟩:=HF9.out.tg _ _ e;exact⟨z,by rw[e1];rfl,e2⟩
   have HZ:=hid hz;have HZS:=hid hzS;clear hz hzS;go_wp2_with (at_lookup;refine MapV.look hM rfl _ _ rfl Tryz.underlying199 Tryz.underlying3 (Tryz.zeroValue3 _) rfl y rfl hwy HZ.out ?_);go_roundw
   case rel=>
    refine⟨z,cyc++[y],_,_,rfl,hid ⟨HZS.out,fun e=>by simp at e,fun hs _=>?_⟩,HO9,HF9,hid ⟨by have h1:=HI.out.1;have h2:=HU2.out;omega,by have h1:=HI.out.2.1;have h2:=HU2.out;rw[List.length_append];show cyc.length+1+_≤_;omega,fun x hx=>?_⟩,HG9⟩
    ·by_cases e:cyc=[]
     ·rw[e,(HX.out.2.1 e).1];exact⟨[],rfl⟩
     ·obtain⟨r,hr⟩:=HX.out.2.2 hs e
      exact⟨r++[y],by rw[hr];rfl⟩
    ·rcases List.mem_append.1 hx with k|k
     ·exact HI.out.2.2 x k
     ·rw[List.mem_singleton.1 k];exact HX.out.1
   case measure=>
    have h1:=HI.out.2.1;have h2:=HU2.out
    show S.length-(cyc.length+1)<S.length-cyc.length
    omega
end Go.Proofs
namespace Go.Proofs
open Go.RowKit Go.Proofs.Mp Go.Lib
def dS(p:Pn):List Int:=0::(p.arcs.map Ar.id++p.arcs.map fun a=>-a.id)
theorem mA{p:Pn}{d:Int}(h:cm p d):d∈dS p:=by
 obtain⟨j,hj,h⟩:=h;refine List.mem_cons_of_mem _ (List.mem_append.2 ?_)
 rcases h with h|h
 ·exact .inl (List.mem_map.2 ⟨_,ak hj,h.symm⟩)
 ·exact .inr (List.mem_map.2 ⟨_,ak hj,h.symm⟩)
theorem su{p:Pn}(hC:CheckP p){d:Int}(h:d∈dS p) : -1073741824≤d∧d≤1073741824:=by
 rcases List.mem_cons.1 h with rfl|h
 ·decide
 ·rcases List.mem_append.1 h with h|h
  ·obtain⟨a,ha,rfl⟩:=List.mem_map.1 h
   obtain⟨j,hj,rfl⟩:=aw ha;have:=bI hC ⟨j,hj,.inl rfl⟩;omega
  ·obtain⟨a,ha,rfl⟩:=List.mem_map.1 h
   obtain⟨j,hj,rfl⟩:=aw ha;have:=bI hC ⟨j,hj,.inr rfl⟩;omega
theorem lQ{p:Pn}(hC:CheckP p):(dS p).length≤513:=by
 have:=hC.l2;simp only[dS,List.length_cons,List.length_append,List.length_map];omega
theorem SlI.keep{w w':World}{v:Value}{l:List Int}(h:SlI w v l)(hs:w.heap.size≤w'.heap.size)(hk:∀g,v.ownBlock=some g→w'.heap[g]?=w.heap[g]?):SlI w' v l:=by
 obtain⟨A,c,e,h1,h2⟩:=h;exact⟨A,c,e,h1.keepA hs (fun g o t ea=>hk g (by rw[e,ea];rfl)),h2⟩
structure CyM(p:Pn)(w0 w:World)(n0 nM Bn base M:Nat)(cs:List Value)(vd:Value)(l:List Int)(g:Int→Option Value):Prop where
 pb:Bx w n0 26 cs
 bm:Bx w nM 199 [.map (some Bn)]
 own:Own 3 1 Mp.encI w base vd l
 mn:MapV Tryz.prog 3 w Bn M g
 it:∀d∈l,cm p d
 tg:∀x v,g x=some v→∃z,v=.int .i64 z∧z∈dS p
 hb:Below w0.heap.size w0 w
 lt:w0.heap.size≤n0∧w0.heap.size≤nM∧w0.heap.size≤Bn∧n0<base∧nM<base∧Bn<base∧nM≠Bn∧n0≠Bn
 bs:base≤w.heap.size
section
variable {p:Pn}{w0 w w':World}{n0 nM Bn base M:Nat}{cs:List Value}{vd vd':Value}{l:List Int}{g:Int→Option Value}
theorem CyM.below(h:CyM p w0 w n0 nM Bn base M cs vd l g)(hb:Below w.heap.size w w'):CyM p w0 w' n0 nM Bn base M cs vd l g:=
 ⟨h.pb.below hb,h.bm.below hb,h.own.below hb,h.mn.below hb,h.it,h.tg,h.hb.trans (hb.mono h.hb.size),h.lt,Nat.le_trans h.bs hb.size⟩
theorem CyM.app(h:CyM p w0 w n0 nM Bn base M cs vd l g){x:Int}(ho:Own 3 1 Mp.encI w' base vd' (l++[x]))(hg:w.grownBy w' vd.ownBlock)(hx:cm p x):CyM p w0 w' n0 nM Bn base M cs vd' (l++[x]) g:=by
 obtain⟨l1,l2,l3,l4,l5,l6,_⟩:=h.lt;have hb:=World.ownsRow.lt h.own;have ne:∀q,q<base→vd.ownBlock≠some q:=fun q hq e=>by have:=(hb q e).1;omega
 refine⟨h.pb.grown hg (ne _ l4),h.bm.grown hg (ne _ l5),ho,h.mn.kept hg (fun e=>ne _ l6 e.symm),fun d hd=>?_,h.tg,h.hb.grown hg h.hb.size (fun j e=>by have:=(hb j e).1;omega),h.lt,Nat.le_trans h.bs hg.size⟩
 rcases List.mem_append.1 hd with k|k
 ·exact h.it d k
 ·rw[List.mem_singleton.1 k];exact hx
theorem CyM.mark(h:CyM p w0 w n0 nM Bn base M cs vd l g){x z:Int}(hM:MapV Tryz.prog 3 w' Bn (M+1) (setV g x (.int .i64 z)))(hg:w.grownBy w' (some Bn))(hz:z∈dS p):CyM p w0 w' n0 nM Bn base (M+1) cs vd l (setV g x (.int .i64 z)):=by
 obtain⟨l1,l2,l3,l4,l5,l6,l7,l8⟩:=h.lt;have hb:=World.ownsRow.lt h.own;refine⟨h.pb.grown hg (fun e=>l8 (by injection e with e;exact e.symm)),h.bm.grown hg (fun e=>l7 (by injection e with e;exact e.symm)),World.ownsRow.kept h.own hg ?_,hM,h.it,fun y v hv=>?_,h.hb.grown hg h.hb.size (fun j e=>by injection e;omega),h.lt,Nat.le_trans h.bs hg.size⟩
 ·rcases hbv:vd.ownBlock with _|j
  ·exact .inl rfl
  ·refine .inr fun e=>?_
   have e:j=Bn:=by injection e
   have:=(hb j hbv).1;omega
 ·by_cases e:y=x
  ·subst e;rw[setV_same]at hv;injection hv with hv;exact⟨z,hv.symm,hz⟩
  ·rw[setV_ne e]at hv;exact h.tg y v hv
end
abbrev RI:Rel Value (List Int):=SlF 1 Mp.encI
abbrev SlC(w:World)(v:Value)(L:List (List Int)):Prop:=SlG 1 dj RI w v L (fun _=>True)
theorem Tryz.infoSl:(Tryz.prog.info? 24).map (fun i=>(i.zero,i.size,i.bytes))=some (some (.slice none 0 0),1,24):=by kernel_rfl
theorem Tryz.wpV{w:World}{base:Nat}{v:Value}{xs:List Value}{o:Oper}{a:Act}{K:Act→World→Prop}{Q:Exit→Act→World→Prop}
  (hown:Own 24 1 dj w base v xs)(y:Value)(hy:y.oneCell'=true)(s x:Operand)
  (ho:o.op=.call { callee:=.builtin .append,args:=#[s,x],argTypes:=#[121,121] })(hs:a.eval s=v)(hx:a.eval x=.slice (some ⟨w.heap.size,0,none⟩) 1 1)
  (hN:xs.length+1≤1000000000)(hbase:base≤w.heap.size)
  (h:∀v' w',Own 24 1 dj w' base v' (xs++[y])→w.grownBy w' v.ownBlock→(v'.ownBlock=v.ownBlock∨∃j,v'.ownBlock=some j∧w.heap.size≤j)→K (a.put o.dst v') w') :
  o.wp Tryz.prog a (w.alloc (.cells #[y] 24)) K Q:=by
 obtain⟨i0,hi0,hz0,hz1,hz2⟩:=Mp.info_parts Tryz.infoSl
 exact Own.wpAt 121 i0 (.slice none 0 0) 24 Tryz.underlying121 hi0 hz0 hz1 hz2 rfl (by decide) (by decide) dD y (by
  intro u hu;rw[List.mem_singleton.1 hu]
  exact hy) s x ho hown hs hx (by omega) hbase h
open Go.Sort in
theorem lh{w:World}{base c:Nat}{A:Option Addr}{l:List Int}(h:Own 3 1 Mp.encI w base (.slice A l.length c) l)(hl:l.length≤1000000) :
  Calls Tryz.prog 119 #[.slice A l.length c] w (fun e w'=>e=.returned (.tuple #[])∧∃l',l'.Perm l∧Rd 1 Mp.encI w' A l'∧w.grownBy w' (Value.slice A l.length c).ownBlock):=by
 by_cases h0:l=[]
 ·subst h0
  refine(Tryz.slices_Sort_int_none A c w).mono ?_;rintro e w' ⟨he,rfl⟩;exact⟨he,[],List.Perm.refl _,.inl rfl,World.grownBy.refl _ _⟩
 ·obtain⟨g,cap,e,_,hg⟩:=aG h h0
  injection e with e1 _ e3;subst e1 e3;obtain⟨cur,_,hcur,_⟩:=bW h;have hrd:=Own.rd encI_len h
  have hH:Holds (fun x:Int=>Value.int .i64 x) w g 0 l.toArray:=fun j hj=>by
   have hj':j<l.length:=by simpa using hj
   rw[Nat.zero_add];refine⟨?_,frozen_of_row w g j cur 3 hcur⟩
   rcases hrd with h|⟨b,off,e,_,hc⟩
   ·exact absurd h h0
   ·injection e with e
    injection e with e1 e2;subst e1 e2;have:=hc j hj' 0 _ rfl;rw[show 0+j*1+0=j by omega]at this;have e:l.toArray[j]! = l[j]!:=by simp[getElem!_def]
    rw[e];exact this
  refine(Tryz.slices_Sort_int g 0 _ l w hH hg (by omega)).mono ?_;rintro e w' ⟨he,n,os,hw⟩;have hw:w'=sortWorld (fun x:Int=>Value.int .i64 x) w g 0 n (l.mergeSort fun x y=>decide (x≤y)).toArray os:=hw;have hp:(l.mergeSort fun x y=>decide (x≤y)).Perm l:=List.mergeSort_perm _ _;have hHs:=holds_sortWorld (fun x:Int=>Value.int .i64 x) w g 0 n l.toArray (l.mergeSort fun x y=>decide (x≤y)).toArray os hg hH (by simp[hp.length_eq]);have hgs:=dh (w:=w) (g:=g) (en:=fun x:Int=>Value.int .i64 x) (n:=n) (d:=(l.mergeSort fun x y=>decide (x≤y)).toArray) (os:=os);rw[←hw]at hHs hgs;refine⟨he,_,hp,?_,hgs⟩;have:=fD (en:=id) (Nat.lt_of_lt_of_le hg hgs.size) hHs
  simpa using this
def uv(p:Pn)(w:World)(e:Ending)(w':World):Prop:=∃(n:Int) (v:Value),e=.returned (.tuple #[v,n])∧Below w.heap.size w w'∧((n≠0∧v=.slice none 0 0)∨(n=0∧CheckP p∧∃L:List (List Int),SlC w' v L∧(∀c∈L,(∃d r,c=d::r∧cm p d)∧(∀x∈c,x∈dS p)∧c.length≤513)∧L.length≤1000000))
theorem mM(p:Pn)(m:Mem)(w:World)(hR:PlR w p m):Calls Tryz.prog 76 #[plV p m] w (uv p w):=by
 have HND:=hid fun (k:Nat) (hk:k<p.nodes.length) W hb=>hR.node (W:=W) hb hk
 have cCk:=hid fun W (hb:Below w.heap.size w W)=>eZ p m W (hR.below hb)
 have cAr:=hid fun id (hC:CheckP p) W (hb:Below w.heap.size w W)=>mN p m id W (hR.below hb) hC
 have hplV:plV p m=.agg #[.slice m.an p.nodes.length m.cn,.slice m.aa p.arcs.length m.ca,.slice m.af p.faces.length m.cf]:=rfl;rw[hplV]at cCk cAr ⊢;clear hR hplV;obtain⟨an,aa,af,cn,ca,cf,vs⟩:=m;dsimp only at *;have ha:=Bx.new (t:=26) (cs:=[.slice an p.nodes.length cn,.slice aa p.arcs.length ca,.slice af p.faces.length cf]) w rfl;have HW1:=hid (bw1 w (.cells #[.slice an p.nodes.length cn,.slice aa p.arcs.length ca,.slice af p.faces.length cf] 26));have hmm:=@run_makeMap Tryz.prog;go_enter Tryz.func76,Tryz.ntmps76;go_upto_region 1 with fail;generalize w.alloc (.cells #[.slice an p.nodes.length cn,.slice aa p.arcs.length ca,.slice af p.faces.length cf] 26)=w1 at *;obtain⟨n0,hn0⟩:∃n,w.heap.size=n:=⟨_,rfl⟩;rw[hn0]at ha ⊢;have HN0:=hid hn0;have HA1:=hid ha;obtain⟨a0,a1,a2⟩:=ha.c3;clear ha hn0;go_wp2_with fail;refine(cCk.out _ HW1.out).mono ?_;rintro e w2 ⟨n,rfl,hn,hb2⟩;have HW2:=hid (HW1.out.trans (hb2.mono HW1.out.size));have HA2:=hid (HA1.out.below hb2);have HNC:=hid hn;clear a0 a1 a2 hb2 hn
 by_cases hz:n=0
 rotate_left
 ·have hzz:(n==0)=false:=by rw[beq_eq_false_iff_ne];exact hz
  have HZ:=hid hz;clear hz;go_wp2_with fail;go_ret2;exact⟨n,_,rfl,HW2.out,.inl ⟨HZ.out,rfl⟩⟩
 subst hz;have HCk:=hid (HNC.out.1 rfl);have hnl:=HCk.out.l1
 have hst:CyM p w ((w2.alloc (.map #[] 0)).alloc (.cells #[.map (some w2.heap.size)] 199)) n0 (w2.heap.size+1) w2.heap.size (w2.heap.size+1+1) 0 [.slice an p.nodes.length cn,.slice aa p.arcs.length ca,.slice af p.faces.length cf] (.slice none 0 0) [] (fun _=>none):=by
  have e1:=HN0.out;have e2:=HA2.out.lt;exact⟨(HA2.out.alloc _).alloc _,Bx.newAt _ (by simp) rfl,Own.nil _ _,(MapV.made (P:=Tryz.prog) (k:=3) w2).below (bw1 _ _),(fun d hd=>by cases hd),(fun x v h=>by cases h),(HW2.out.alloc HW2.out.size _).alloc (by have:=HW2.out.size;simp;omega) _,⟨by omega,by have:=HW2.out.size;omega,by have:=HW2.out.size;omega,by omega,by omega,by omega,by omega,by omega⟩,by simp⟩
 go_upto_region 6 with fail;generalize (w2.alloc (.map #[] 0)).alloc (.cells #[.map (some w2.heap.size)] 199)=w4 at *;generalize w2.heap.size+1+1=base at *;generalize w2.heap.size+1=nM at *;generalize w2.heap.size=Bn at *;have HST:=hid hst;obtain⟨a0,a1,a2⟩:=hst.pb.c3;clear hst;go_wp2_with fail;clear a0 a1 a2;go_loopw [4,7,8,10,24] (fun vd _ _ _ i wr=>∃(k M:Nat) (l:List Int) (g:Int→Option Value),k≤p.nodes.length∧i=.int .i64 k∧Hid (CyM p w wr n0 nM Bn base M [.slice an p.nodes.length cn,.slice aa p.arcs.length ca,.slice af p.faces.length cf] vd l g)∧Hid (l.length≤1000*k∧M≤1000*k)) (fun _ _ _ _ i _=>p.nodes.length-(intOf i).toNat)
 case atStart=>exact⟨0,0,[],_,by omega,rfl,HST,hid ⟨by simp,by simp⟩⟩
 case round=>
  clear HST HW1 HA1 HW2 HA2;obtain⟨k,M,l,g,hk,rfl,HCM,HLN⟩:=hrel
  by_cases hlt:k<p.nodes.length
  ·have hli:(k:Int)<(p.nodes.length:Int):=by omega
   obtain⟨b,off,rfl,hbl,a0,a1,a2⟩:=HND.out k hlt wr HCM.out.hb;generalize p.nodes[k]! = nd at *;obtain⟨ni,nx,ny⟩:=nd;dsimp only at a0 a1 a2;have hN:=Bx.new (t:=71) (cs:=[.int .i64 ni,.int .i64 nx,.int .i64 ny]) wr rfl;have HC5:=hid (HCM.out.below (bw1 wr (.cells #[ni,nx,ny] 71)));obtain⟨A1,c1,rfl⟩:=Own.slice HCM.out.own;clear HCM;go_upto_region 9 with fail;generalize wr.alloc (.cells #[ni,nx,ny] 71)=w5 at *;generalize wr.heap.size=nb at *;clear a0 a1 a2;obtain⟨a0,_,_⟩:=hN.c3;obtain⟨p0,p1,p2⟩:=HC5.out.pb.c3;clear hN;go_wp2_with fail;refine(cAr.out _ HCk.out _ HC5.out.hb).mono ?_;rintro e w6 ⟨v8,l8,rfl,hs8,hl8,hd8,hf8,hb6⟩;have HC6:=hid (HC5.out.below hb6);have HS6:=hid hs8;have HD8:=hid hd8
   have HF8:=hid (show ∀q,v8.ownBlock=some q→(Value.slice A1 l.length c1).ownBlock≠some q∧q≠Bn∧q<w6.heap.size from fun q e=>by
    have h1:=hf8 q e;refine⟨fun e2=>?_,?_,h1.2⟩
    ·have:=(World.ownsRow.lt HC5.out.own q e2).2
     omega
    ·have:=HC5.out.mn.lt
     omega)
   obtain⟨A8,c8,rfl,_,_⟩:=hs8;clear a0 p0 p1 p2 hd8 hf8 hb6 HC5;go_wp2_with fail;go_loopw [4,10,34] (fun vd _ i wr=>∃(j M:Nat) (l:List Int) (g:Int→Option Value),j≤l8.length∧i=.int .i64 j∧Hid (CyM p w wr n0 nM Bn base M [.slice (some ⟨b,off,none⟩) p.nodes.length cn,.slice aa p.arcs.length ca,.slice af p.faces.length cf] vd l g)∧Hid (l.length≤1000*k+j∧M≤1000*k+j)∧Hid (SlI wr (.slice A8 l8.length c8) l8)∧Hid (∀q,(Value.slice A8 l8.length c8).ownBlock=some q→vd.ownBlock≠some q∧q≠Bn∧q<wr.heap.size)) (fun _ _ i _=>l8.length-(intOf i).toNat)
   case atStart=>exact⟨0,_,_,_,by omega,rfl,HC6,hid ⟨by have:=HLN.out.1;omega,by have:=HLN.out.2;omega⟩,HS6,HF8⟩
   case round=>
    clear HC6 HS6 HF8;obtain⟨j,M,l,g,hj,rfl,HCM,HLJ,HSL,HFB⟩:=hrel
    by_cases hlj:j<l8.length
    ·have hlj2:(j:Int)<(l8.length:Int):=by omega
     obtain⟨A1,c1,rfl⟩:=Own.slice HCM.out.own;obtain⟨A',c',e,hr8,_⟩:=HSL.out;injection e with e1 _ e3;subst e1 e3;obtain⟨b8,o8,rfl,hb8,d0⟩:=RdI.get hr8 (Below.refl _ _) hlj;have HDX:=hid (HD8.out _ (ak hlj));generalize l8[j]! = d at *;have hdw:=bI HCk.out HDX.out;have hwn:IntKind.i64.wrap (-d)=-d:=IntWalk.i64_in _ (by omega);have hwfn:(Lit.int .i64 (-d)).wf=true:=bz (by omega) (by omega);clear hdw hr8;have hown:=HCM.out.own;have hbs:=HCM.out.bs;have hN1:l.length+1≤1000000000:=by have:=HLJ.out.1;omega
     go_upto_region 14 with (at_builtin;refine wpList_plain rfl fun K' hK'=>Tryz.wpI hown d _ _ rfl rfl rfl hN1 hbs ?_;intro v9 w9 hO9 hg9 hl9;refine hK' _ _ ?_;clear hK')
     have HFB9:=hid (show ∀q,(Value.slice (some ⟨b8,o8,none⟩) l8.length c8).ownBlock=some q→v9.ownBlock≠some q∧q≠Bn∧q<w9.heap.size from fun q e=>by
      obtain⟨h1,h2,h3⟩:=HFB.out q e;refine⟨fun e2=>?_,h2,Nat.lt_of_lt_of_le h3 hg9.size⟩
      rcases hl9 with hl9|⟨i,hl9,hi⟩
      ·exact h1 (hl9.symm.trans e2)
      ·rw[hl9]at e2
       have e2:i=q:=by injection e2
       omega)
     have HS9:=hid (HSL.out.keep hg9.size (fun q e=>hg9.block q (HFB.out q e).2.2 (fun e2=>(HFB.out q e).1 e2.symm)));have HC9:=hid (HCM.out.app hO9 hg9 HDX.out);obtain⟨A9,c9,rfl⟩:=Own.slice hO9;rw[show(l++[d]).length=l.length+1 by simp]at HC9 HFB9;have HF9:=HFB9;clear hO9 hg9 hl9 HFB9 HFB HSL hown hbs d0;have hS1:(fun W:World=>Bx W nM 199 [.map (some Bn)]) w9.drew:=HC9.out.bm;have HCw:=hid (HC9.out.below (Below.refl _ _).drew);have HS9:=hid (show SlI w9.drew (.slice (some ⟨b8,o8,none⟩) l8.length c8) l8 from HS9.out);have HF9:=hid (show ∀q,(Value.slice (some ⟨b8,o8,none⟩) l8.length c8).ownBlock=some q→(Value.slice A9 (l.length+1) c9).ownBlock≠some q∧q≠Bn∧q<w9.drew.heap.size from HF9.out);refine wp_region_held_drew (S:=(fun W:World=>Bx W nM 199 [.map (some Bn)])) (by kernel_rfl) hS1 (fun hHeld=>?_);clear hHeld;generalize hwd:w9.drew=wd at *;clear hwd;refine kk 0 (hy:=by intro W hSw;have d0:=hSw.c1;(try dsimp only at hSw);go_simp;try with_reducible rfl) rfl ?_
     refine kk 1 rfl ?_;refine kk 2 rfl ?_;refine kk 3 rfl ?_;refine kk 4 rfl ?_;refine kr 5 rfl fun K hK=>?_
     go_simp;go_at_call 118;refine(ja l8 _ d _ HS9.out (by omega)).mono ?_;rintro e Wra1 ⟨z,rfl,hz,hbz⟩;have HZ:=hid (show z∈dS p from by rcases hz with rfl|hz;exact List.mem_cons_self;exact mA (HD8.out _ hz));have HCa:=hid (HCw.out.below hbz);have HSa:=hid (HS9.out.below hbz);have HFa:=hid (show ∀q,(Value.slice (some ⟨b8,o8,none⟩) l8.length c8).ownBlock=some q→(Value.slice A9 (l.length+1) c9).ownBlock≠some q∧q≠Bn∧q<Wra1.heap.size from fun q e=>⟨(HF9.out q e).1,(HF9.out q e).2.1,Nat.lt_of_lt_of_le (HF9.out q e).2.2 hbz.size⟩);have hS2:(fun W:World=>Bx W nM 199 [.map (some Bn)]) Wra1:=Bx.below (w:=wd) hS1 hbz;clear hbz hz hS1;go_wp2_with fail;refine hK.out _ _ hS2 (fun hHeld=>?_);clear hK hHeld K
     try simp only[Act.put,sa,sz,ss]
     refine kr 6 rfl fun K hK=>?_
     have hM:=HCa.out.mn;refine wp_step rfl (MapV.wpStore hM _ _ _ rfl Tryz.underlying199 Tryz.underlying3 rfl (-d) (.int .i64 z) rfl rfl hwfn (M:=M+1) (.inr (Nat.le_refl _)) (by have:=HLJ.out.2;unfold maxLen;omega) ?_);intro Wra2 hM2 hg2;have HCb:=hid (HCa.out.mark hM2 hg2 HZ.out);have HSb:=hid (HSa.out.keep hg2.size (fun q e=>hg2.block q (HFa.out q e).2.2 (fun e2=>(HFa.out q e).2.1 (by injection e2))));have HFb:=hid (show ∀q,(Value.slice (some ⟨b8,o8,none⟩) l8.length c8).ownBlock=some q→(Value.slice A9 (l.length+1) c9).ownBlock≠some q∧q≠Bn∧q<Wra2.heap.size from fun q e=>⟨(HFa.out q e).1,(HFa.out q e).2.1,Nat.lt_of_lt_of_le (HFa.out q e).2.2 hg2.size⟩);have hS3:(fun W:World=>Bx W nM 199 [.map (some Bn)]) Wra2:=HCb.out.bm;clear hM hM2 hg2 hS2;refine hK.out _ _ hS3 (fun hHeld=>?_);clear hK hHeld K
     try simp only[Act.put,sa,sz,ss]
     refine wpAnyH_done (by kernel_rfl) ?_ _;clear hS3;go_wp2_with fail;go_roundw
     case rel=>exact⟨j+1,M+1,l++[d],_,by omega,by go_num,HCb,hid ⟨by rw[List.length_append];show l.length+1≤_;have:=HLJ.out.1;omega,by have:=HLJ.out.2;omega⟩,HSb,HFb⟩
     case measure=>simp[intOf];omega
    ·obtain rfl:l8.length=j:=by omega
     have hge:¬((l8.length:Int)<(l8.length:Int)):=by omega
     go_wp2_with fail;go_roundw
     case rel=>exact⟨k+1,M,l,_,by omega,by go_num,HCM,hid ⟨by have:=HLJ.out.1;omega,by have:=HLJ.out.2;omega⟩⟩
     case measure=>simp[intOf];omega
  ·obtain rfl:p.nodes.length=k:=by omega
   have hge:¬((p.nodes.length:Int)<(p.nodes.length:Int)):=by omega
   obtain⟨A1,c1,rfl⟩:=Own.slice HCM.out.own;have cS:=hid (lh HCM.out.own (by have:=HLN.out.1;omega));have HOB:=hid (World.ownsRow.lt HCM.out.own);have HCN:=hid HCM.out.lt;go_wp2_with fail;refine cS.out.mono ?_;rintro e w5 ⟨rfl,l',hp,hr,hg⟩;have HP:=hid hp;have HR5:=hid hr;have ne:∀q,q<base→(Value.slice A1 l.length c1).ownBlock≠some q:=fun q hq e=>by have:=(HOB.out q e).1;omega
   have HBM:=hid (HCM.out.bm.grown hg (ne _ HCN.out.2.2.2.2.1));have HMN:=hid (HCM.out.mn.kept hg (fun e=>ne _ HCN.out.2.2.2.2.2.1 e.symm));have HW5:=hid (HCM.out.hb.grown hg HCM.out.hb.size (fun j e=>by have h1:=(HOB.out j e).1;have h2:=HCN.out;omega));have HAB:=hid (show ∀q o t,A1=some ⟨q,o,t⟩→q<w5.heap.size from fun q o t e=>Nat.lt_of_lt_of_le (HOB.out q (by rw[e];rfl)).2 hg.size);have HTG:=hid HCM.out.tg;have HCIT:=hid HCM.out.it;clear hp hr hg ne cS HCM
   have hst:FoM ((w5.alloc (.map #[] 0)).alloc (.cells #[.map (some w5.heap.size)] 163)) (w5.heap.size+1) nM w5.heap.size Bn 0 M (dS p) (fun _=>none) g:=by
    have h1:=HBM.out.lt;have h2:=HMN.out.lt;exact⟨Bx.newAt _ (by simp) rfl,(HBM.out.alloc _).alloc _,(MapV.made (P:=Tryz.prog) (k:=3) w5).below (bw1 _ _),(HMN.out.below (bw1 _ _)).below (bw1 _ _),(fun x v h=>by cases h),HTG.out,⟨by omega,by omega,by omega⟩⟩
   have HR6:=hid (show Rd 1 Mp.encI ((w5.alloc (.map #[] 0)).alloc (.cells #[.map (some w5.heap.size)] 163)) A1 l' from(HR5.out.below (bw1 _ _)).below (bw1 _ _));have HW6:=hid ((HW5.out.alloc HW5.out.size (.map #[] 0)).alloc (by have:=HW5.out.size;simp;omega) (.cells #[.map (some w5.heap.size)] 163));have HSZ:=hid (show w5.heap.size+1+1≤((w5.alloc (.map #[] 0)).alloc (.cells #[.map (some w5.heap.size)] 163)).heap.size from by simp);have HMB:=hid (show Bn<w5.heap.size∧nM<w5.heap.size∧w.heap.size≤w5.heap.size from ⟨HMN.out.lt,HBM.out.lt,HW5.out.size⟩);have hmm:=@run_makeMap Tryz.prog;go_upto_region 19 with fail;generalize (w5.alloc (.map #[] 0)).alloc (.cells #[.map (some w5.heap.size)] 163)=w6 at *;have HF6:=hid hst;clear hst hmm HR5 HW5 HBM HMN;obtain⟨base2,hb2⟩:∃z,w5.heap.size+1+1=z:=⟨_,rfl⟩;obtain⟨nS,hnS⟩:∃z,w5.heap.size+1=z:=⟨_,rfl⟩;obtain⟨Bs,hBs⟩:∃z,w5.heap.size=z:=⟨_,rfl⟩;rw[hb2]at HSZ;rw[hnS]at HF6 ⊢;rw[hBs]at HF6 HAB HMB;have HQ:=hid (show Bs<base2∧nS<base2∧nM<base2∧Bn<base2∧w.heap.size≤Bs∧w.heap.size≤base2 from by have:=HMB.out;omega);clear hb2 hnS hBs;have hll:l'.length=l.length:=HP.out.length_eq;have HLL:=hid (show l'.length≤256000 from by have:=HLN.out.1;omega);rw[←hll];clear hll;go_wp2_with fail;go_loopw [2,14,56] (fun v2 _ i wr=>∃(k N:Nat) (s:Int→Option Value) (L:List (List Int)),k≤l'.length∧i=.int .i64 k∧Hid (FoM wr nS nM Bs Bn N M (dS p) s g)∧Hid (N+uns (dS p) s≤513)∧Hid (OwG 24 1 dj RI wr base2 v2 L (fun q=>base2≤q))∧Hid (Rd 1 Mp.encI wr A1 l')∧Hid (Below w.heap.size w wr∧base2≤wr.heap.size)∧Hid (L.length≤k∧∀c∈L,(∃d r,c=d::r∧cm p d)∧(∀x∈c,x∈dS p)∧c.length≤513)) (fun _ _ i _=>l'.length-(intOf i).toNat)
   case atStart=>exact⟨0,0,_,[],by omega,rfl,HF6,hid (by have h1:=lQ HCk.out;have h2:uns (dS p) (fun _=>none)≤(dS p).length:=List.countP_le_length;omega),hid (OwG.nil _ _ _),HR6,hid ⟨HW6.out,HSZ.out⟩,hid ⟨by simp,fun c hc=>by cases hc⟩⟩
   case round=>
    clear HF6 HR6 HW6 HSZ;obtain⟨k,N,s,L,hk,rfl,HFM,HNU,HOG,HRD,HBB,HLL2⟩:=hrel;have hk9:l'.length≤256000:=HLL.out;have HBW:=hid HBB.out.2
    by_cases hlk:k<l'.length
    ·have hli:(k:Int)<(l'.length:Int):=by omega
     obtain⟨b1,o1,rfl,hb1,d0⟩:=RdI.get HRD.out (Below.refl _ _) hlk;have HDX:=hid (show cm p l'[k]! from HCIT.out _ (HP.out.mem_iff.1 (ak hlk)));generalize l'[k]! = y at *;have hdw:=bI HCk.out HDX.out;have hwy:(Lit.int .i64 y).wf=true:=bz (by omega) (by omega);clear hdw;have hM:=HFM.out.ms;have k0:=HFM.out.bs.c1;obtain⟨v,hv⟩:∃v,(s y).getD (.bool false)=v:=⟨_,rfl⟩
     have hvb:v=.bool true∨(v=.bool false∧s y=none):=by
      cases e:s y with
      | none=>rw[e]at hv;exact Or.inr ⟨hv.symm,rfl⟩
      | some x=>rw[e]at hv;exact Or.inl (by rw[←hv];exact HFM.out.ts _ _ e)
     have HV:=hid hv;clear hv
     rcases hvb with rfl|⟨rfl,hno⟩
     ·go_wp2_with (at_lookup;refine MapV.look hM rfl _ _ rfl Tryz.underlying163 Tryz.underlying3 (Tryz.zeroValue4 _) rfl y rfl hwy HV.out ?_)
      go_roundw
      case rel=>exact⟨k+1,N,s,L,by omega,by go_num,HFM,HNU,HOG,HRD,HBB,hid ⟨by have:=HLL2.out.1;omega,HLL2.out.2⟩⟩
      case measure=>simp[intOf];omega
     ·have HNO:=hid hno
      clear hno;have cF:=hid (mL (dS p) nS nM Bs Bn N M s g y _ HFM.out (mA HDX.out) List.mem_cons_self (fun x hx=>by have:=su HCk.out hx;exact bz (by omega) (by omega)) (by have:=lQ HCk.out;omega) (by have:=HNU.out;omega));obtain⟨A2,c2,e2⟩:=OwG.slice HOG.out;subst e2;go_wp2_with (at_lookup;refine MapV.look hM rfl _ _ rfl Tryz.underlying163 Tryz.underlying3 (Tryz.zeroValue4 _) rfl y rfl hwy HV.out ?_);refine cF.out.mono ?_;rintro e w7 ⟨vc,cyc,s',N',rfl,hO,hF,hU,hne,hmem,hlen,hg⟩;obtain⟨Ac,cc,rfl⟩:=Own.slice hO;have HO7:=hid hO;have HF7:=hid hF;have HNU7:=hid (show N'+uns (dS p) s'≤513 from by have:=HNU.out;omega)
      have HCY:=hid (show(∃d r,cyc=d::r∧cm p d)∧(∀x∈cyc,x∈dS p)∧cyc.length≤513 from ⟨by
       obtain⟨r,hr⟩:=hne HNO.out
       exact⟨y,r,hr,HDX.out⟩,hmem,by have:=lQ HCk.out;omega⟩)
      have HOG7:=hid (HOG.out.grown (SlF.foot 1 Mp.encI) hg (fun q e=>by
       have e:Bs=q:=by injection e
       have h1:=HQ.out.1
       rintro (⟨_,h⟩|h)<;>omega))
      have HVB:=hid (show ∀q,(Value.slice A2 L.length c2).ownBlock=some q→q<wr.heap.size from fun q e=>(HOG.out.lt e).2)
      have HRD7:=hid (HRD.out.keepA hg.size (fun q o t e=>hg.block q (by
       have h1:=HAB.out q o t e;have h2:=HBB.out.2;have h3:=HQ.out.1;omega) (fun e2=>by
       have e2:q=Bs:=by injection e2
       have h1:=HAB.out q o t e
       omega)))
      have HB7:=hid (show Below w.heap.size w w7∧base2≤w7.heap.size from ⟨HBB.out.1.grown hg HBB.out.1.size (fun j e=>by
       have e:Bs=j:=by injection e
       have:=HQ.out
       omega),Nat.le_trans HBB.out.2 hg.size⟩)
      have HSW:=hid hg.size;clear hM k0 d0 hO hF hU hne hmem hlen hg HFM HOG HRD HBB HNU cF HV HNO;obtain⟨vs2,hv1,hv2,hv3⟩:=HOG7.out;have HV3:=hid hv3;have hbs:=HB7.out.2;have hN1:vs2.length+1≤1000000000:=by have h1:=HLL2.out.1;have h2:=HLL.out;omega
      have HV1:=hid hv1;clear hv3 hv1;go_wp2_with (at_builtin;refine wpList_plain rfl fun K' hK'=>Tryz.wpV hv2 (.slice Ac cyc.length cc) rfl _ _ rfl rfl rfl hN1 hbs ?_;intro v9 w9 hO9 hg9 hl9;refine hK' _ _ ?_;clear hK');have hob:∀q,(Value.slice A2 L.length c2).ownBlock=some q→base2≤q:=fun q e=>(HOG7.out.lt e).1
      have hmore:=OwG.more (SlF.foot 1 Mp.encI) HV1.out HV3.out (ks:=[.slice Ac cyc.length cc]) (K:=[cyc]) rfl (fun i hi=>by
       have hi:i<1:=hi;obtain rfl:i=0:=by omega
       exact SlF.own encI_len HO7.out (fun q h1 h2 _=>⟨by have:=HBW.out;omega,fun e=>by have:=HVB.out q e;omega⟩)) hO9 hg9 hl9
      have hF9:=HF7.out.keep hg9 (fun e=>by have:=hob _ e;have:=HQ.out;omega) (fun e=>by have:=hob _ e;have:=HQ.out;omega) (fun e=>by have:=hob _ e;have:=HQ.out;omega) (fun e=>by have:=hob _ e;have:=HQ.out;omega)
      have hR9:=HRD7.out.keepA hg9.size (fun q o t e=>hg9.block q (by
       have h1:=HAB.out q o t e;have h2:=HB7.out.2;have h3:=HQ.out.1;omega) (fun e2=>by
       have h1:=HAB.out q o t e;have h2:=hob q e2.symm;have h3:=HQ.out.1
       omega))
      have hB9:Below w.heap.size w w9:=HB7.out.1.grown hg9 HB7.out.1.size (fun j e=>by have:=hob j e;have:=HQ.out;omega);go_roundw
      case rel=>exact⟨k+1,N',s',L++[cyc],by omega,by go_num,hid hF9,HNU7,hid hmore,hid hR9,hid ⟨hB9,Nat.le_trans HB7.out.2 hg9.size⟩,hid ⟨by rw[List.length_append];have:=HLL2.out.1;show L.length+1≤_;omega,fun c hc=>by
       rcases List.mem_append.1 hc with k|k
       ·exact HLL2.out.2 c k
       ·rw[List.mem_singleton.1 k];exact HCY.out⟩⟩
      case measure=>simp[intOf];omega
    ·obtain rfl:l'.length=k:=by omega
     have hge:¬((l'.length:Int)<(l'.length:Int)):=by omega
     go_wp2_with fail;go_ret2;exact⟨0,_,rfl,HBB.out.1,.inr ⟨rfl,HCk.out,L,HOG.out.read dD (SlF.foot 1 Mp.encI) (fun _ _ _=>trivial),HLL2.out.2,by have h1:=HLL2.out.1;have h2:=HLL.out;omega⟩⟩
end Go.Proofs
namespace Go.Proofs
open Go.RowKit Go.Proofs.Mp Go.Lib
theorem SlP.keep{w w':World}{v:Value}{l:List Pt}(h:SlP w v l)(hs:w.heap.size≤w'.heap.size)(hk:∀g,v.ownBlock=some g→w'.heap[g]?=w.heap[g]?):SlP w' v l:=by
 obtain⟨A,c,e,h1,h2⟩:=h;exact⟨A,c,e,h1.keepA hs (fun g o t ea=>hk g (by rw[e,ea];rfl)),h2⟩
structure PaM(p:Pn)(w:World)(B N:Nat)(f:Int→Option Value):Prop where
 mp:MapV Tryz.prog 3 w B N f
 vl:∀x v,f x=some v→(∃k,k<p.arcs.length∧SlP w v (pth p k))∧v.ownBlock≠some B∧(∀g,v.ownBlock=some g→g<w.heap.size)
theorem PaM.below{p:Pn}{w w':World}{B N:Nat}{f:Int→Option Value}(h:PaM p w B N f)(hb:Below w.heap.size w w'):PaM p w' B N f:=
 ⟨h.mp.below hb,fun x v e=>by
  obtain⟨⟨k,hk,h1⟩,h2,h3⟩:=h.vl x v e
  exact⟨⟨k,hk,h1.below hb⟩,h2,fun g e=>Nat.lt_of_lt_of_le (h3 g e) hb.size⟩⟩
def ui(p:Pn)(w:World)(e:Ending)(w':World):Prop:=∃(B N:Nat) (f:Int→Option Value),e=.returned (.map (some B))∧PaM p w' B N f∧(∀k,k<p.arcs.length→(f p.arcs[k]!.id).isSome=true)∧Below w.heap.size w w'
theorem pw(p:Pn)(m:Mem)(w:World)(hR:PlR w p m)(hC:CheckP p):Calls Tryz.prog 77 #[plV p m] w (ui p w):=by
 have HA:=hid fun (k:Nat) (hk:k<p.arcs.length) W hb=>hR.arc (W:=W) hb hk
 have cPa:=hid fun id W (hb:Below w.heap.size w W)=>bJ p m id W (hR.below hb)
 have HCk:=hid hC;have hal:=hC.l2;have hplV:plV p m=.agg #[.slice m.an p.nodes.length m.cn,.slice m.aa p.arcs.length m.ca,.slice m.af p.faces.length m.cf]:=rfl;rw[hplV]at cPa ⊢;clear hR hC hplV;obtain⟨an,aa,af,cn,ca,cf,vs⟩:=m;dsimp only at *;have ha:=Bx.new (t:=26) (cs:=[.slice an p.nodes.length cn,.slice aa p.arcs.length ca,.slice af p.faces.length cf]) w rfl;have HW1:=hid (bw1 w (.cells #[.slice an p.nodes.length cn,.slice aa p.arcs.length ca,.slice af p.faces.length cf] 26));have hmm:=@run_makeMap Tryz.prog;go_enter Tryz.func77,Tryz.ntmps77;go_upto_region 1 with fail;generalize w.alloc (.cells #[.slice an p.nodes.length cn,.slice aa p.arcs.length ca,.slice af p.faces.length cf] 26)=w1 at *;obtain⟨n0,hn0⟩:∃n,w.heap.size=n:=⟨_,rfl⟩;rw[hn0]at ha ⊢;have HN0:=hid hn0;have HA1:=hid (ha.alloc (.map #[] 0));have HNB:=hid (show n0<w1.heap.size from ha.lt);have HW2:=hid (HW1.out.alloc HW1.out.size (.map #[] 0));have HM1:=hid (MapV.made (P:=Tryz.prog) (k:=3) w1);clear ha hn0;go_upto_region 2 with fail;generalize w1.alloc (.map #[] 0)=w2 at *;generalize w1.heap.size=B at *;obtain⟨a0,a1,a2⟩:=HA1.out.c3;clear hmm;go_wp2_with fail;clear a0 a1 a2;go_loopw [5,6,7,12] (fun _ _ _ i wr=>∃(k N:Nat) (f:Int→Option Value),k≤p.arcs.length∧i=.int .i64 k∧Hid (PaM p wr B N f)∧Hid (N≤k∧∀j,j<k→(f p.arcs[j]!.id).isSome=true)∧Hid (Bx wr n0 26 [.slice an p.nodes.length cn,.slice aa p.arcs.length ca,.slice af p.faces.length cf])∧Hid (Below w.heap.size w wr)) (fun _ _ _ i _=>p.arcs.length-(intOf i).toNat)
 case atStart=>exact⟨0,0,_,by omega,rfl,hid ⟨HM1.out,fun x v e=>by cases e⟩,hid ⟨Nat.le_refl _,fun j hj=>absurd hj (Nat.not_lt_zero _)⟩,HA1,HW2⟩
 case round=>
  clear HM1 HA1 HW2 HW1;obtain⟨k,N,f,hk,rfl,HPM,HI,HP,HW⟩:=hrel
  by_cases hlt:k<p.arcs.length
  ·have hli:(k:Int)<(p.arcs.length:Int):=by omega
   obtain⟨b,off,A,c,rfl,hbl,a0,a1,a2,a3,a4,a5,_,_,_⟩:=HA.out k hlt wr HW.out;have hpk:=HCk.out.pre.path hlt;rw[←HCk.out.pre.pth hlt]at hpk;have cPk:=hid (cPa.out p.arcs[k]!.id);rw[hpk]at cPk
   have hwk:(Lit.int .i64 p.arcs[k]!.id).wf=true:=by
    have:=bI HCk.out ⟨k,hlt,.inl rfl⟩;exact bz (by omega) (by omega)
   have HIN:=hid (show ∀(f':Int→Option Value),f'=setV f p.arcs[k]!.id (f' p.arcs[k]!.id |>.getD (.bool true))→∀j,j<k+1→(f' p.arcs[j]!.id).isSome=true from fun f' e j hj=>by
    by_cases ej:p.arcs[j]!.id=p.arcs[k]!.id
    ·rw[e,ej,setV_same];rfl
    ·rw[e,setV_ne ej]
     exact HI.out.2 j (by
      rcases Nat.lt_or_ge j k with h|h
      ·exact h
      ·exfalso;exact ej (by rw[show j=k by omega])))
   have HSN:=hid (show ∀v w',SlP w' v (pth p k)→∃q,q<p.arcs.length∧SlP w' v (pth p q)from fun v w' h=>⟨k,hlt,h⟩);generalize p.arcs[k]! = ar at *;obtain⟨ri,rf,rd,rv,rl,rr⟩:=ar;dsimp only at a0 a1 a2 a3 a4 a5 cPk hwk HIN;generalize pth p k=path at *;clear hpk;have hA:=Bx.new (t:=58) (cs:=[.int .i64 ri,.int .i64 rf,.int .i64 rd,.slice A rv.length c,.int .i64 rl,.int .i64 rr]) wr rfl;have hwA:=bw1 wr (.cells #[ri,rf,rd,.slice A rv.length c,rl,rr] 58);have HPM1:=hid (HPM.out.below hwA);have HP1:=hid (HP.out.below hwA);have HWA:=hid (HW.out.trans (hwA.mono HW.out.size));have HNA:=hid (show B<wr.heap.size from HPM.out.mp.lt);clear HPM HP HW hwA;go_upto_region 5 with fail;generalize wr.alloc (.cells #[ri,rf,rd,.slice A rv.length c,rl,rr] 58)=w4 at *;generalize wr.heap.size=nA at *;clear a0 a1 a2 a3 a4 a5;obtain⟨a0,_,_,_,_,_⟩:=hA.c6;obtain⟨p0,p1,p2⟩:=HP1.out.c3;go_wp2_with fail;refine(cPk.out _ HWA.out).mono ?_;rintro e w6 ⟨vq,rfl,hO6,hb6⟩;have HPM6:=hid (HPM1.out.below hb6);have HP6:=hid (HP1.out.below hb6);have HW6:=hid (HWA.out.trans (hb6.mono HWA.out.size));have hA6:=hA.below hb6
   have HVQ:=hid (show SlP w6 vq path∧vq.ownBlock≠some B∧∀g,vq.ownBlock=some g→g<w6.heap.size from ⟨hO6.slp,fun e=>by
    have h1:=(World.ownsRow.lt hO6 B e).1;have h2:=hA.lt;have h3:=HNA.out
    omega,fun g e=>(World.ownsRow.lt hO6 g e).2⟩)
   obtain⟨b0,_,_,_,_,_⟩:=hA6.c6;have hM:=HPM6.out.mp;have hNb:N<maxLen:=by have:=HI.out.1;unfold maxLen;omega
   clear a0 p0 p1 p2 hO6 hb6 hA hA6;go_wp2_with (at_mapUpdate;refine MapV.store hM rfl _ _ _ rfl Tryz.underlying104 Tryz.underlying3 rfl ri vq rfl rfl hwk (M:=N+1) (.inr (Nat.le_refl _)) hNb ?_;intro w7 hM7 hg7);go_roundw
   case rel=>
    refine⟨k+1,N+1,setV f ri vq,by omega,by go_num,hid ⟨hM7,fun x v e=>?_⟩,hid ⟨by have:=HI.out.1;omega,HIN.out _ (by rw[setV_same];rfl)⟩,hid (HP6.out.grown hg7 (fun e=>by injection e with e;have:=HNB.out;omega)),hid (HW6.out.grown hg7 HW6.out.size (fun j e=>by injection e with e;have:=HNB.out;have:=HN0.out;omega))⟩;have hk7:∀u:Value,u.ownBlock≠some B→(∀g,u.ownBlock=some g→g<w6.heap.size)→∀g,u.ownBlock=some g→w7.heap[g]?=w6.heap[g]?:=fun u h1 h2 g e=>hg7.block g (h2 g e) (fun e2=>h1 (by rw[e];exact e2))
    by_cases ex:x=ri
    ·subst ex
     rw[setV_same]at e;injection e with e;subst e;obtain⟨s1,s2,s3⟩:=HVQ.out;exact⟨HSN.out _ _ (s1.keep hg7.size (hk7 _ s2 s3)),s2,fun g e=>Nat.lt_of_lt_of_le (s3 g e) hg7.size⟩
    ·rw[setV_ne ex]at e
     obtain⟨⟨q,hq,h1⟩,h2,h3⟩:=HPM6.out.vl x v e;exact⟨⟨q,hq,h1.keep hg7.size (hk7 _ h2 h3)⟩,h2,fun g e=>Nat.lt_of_lt_of_le (h3 g e) hg7.size⟩
   case measure=>simp[intOf];omega
  ·obtain rfl:p.arcs.length=k:=by omega
   have hge:¬((p.arcs.length:Int)<(p.arcs.length:Int)):=by omega
   go_wp2_with fail;go_ret;exact⟨B,N,f,rfl,HPM.out,HI.out.2,HW.out⟩
structure EnM(w0 w:World)(nA nO nD:Nat)(at':Pt)(a b:Bool):Prop where
 ba:Bx w nA 30 [at'.1,at'.2]
 bo:Bx w nO 4 [.bool a]
 bd:Bx w nD 4 [.bool b]
 hb:Below w0.heap.size w0 w
 lt:w0.heap.size≤nA∧w0.heap.size≤nO∧w0.heap.size≤nD∧nA≠nO∧nA≠nD∧nO≠nD
section
variable {w0 w w':World}{nA nO nD:Nat}{q:Pt}{a b:Bool}
theorem EnM.below(h:EnM w0 w nA nO nD q a b)(hb:Below w.heap.size w w'):EnM w0 w' nA nO nD q a b:=
 ⟨h.ba.below hb,h.bo.below hb,h.bd.below hb,h.hb.trans (hb.mono h.hb.size),h.lt⟩
theorem EnM.on(h:EnM w0 w nA nO nD q a b)(x:Bool):EnM w0 (w.setCell ⟨nO,0,none⟩ (.bool x)) nA nO nD q x b:=by
 obtain⟨l1,l2,l3,l4,l5,l6⟩:=h.lt;exact⟨h.ba.other (by omega) _ _,h.bo.set 0 _,h.bd.other (by omega) _ _,h.bo.setB h.hb l2 0 _,h.lt⟩
theorem EnM.odd(h:EnM w0 w nA nO nD q a b)(x:Bool):EnM w0 (w.setCell ⟨nD,0,none⟩ (.bool x)) nA nO nD q a x:=by
 obtain⟨l1,l2,l3,l4,l5,l6⟩:=h.lt;exact⟨h.ba.other (by omega) _ _,h.bo.other (by omega) _ _,h.bd.set 0 _,h.bd.setB h.hb l3 0 _,h.lt⟩
end
def sI(w0:World)(nA nO nD:Nat)(q:Pt)(e:Ending)(w':World):Prop:=e=.returned (.tuple #[])∧∃a b,EnM w0 w' nA nO nD q a b
theorem qU(w0 w:World)(nA nO nD:Nat)(q x y:Pt)(a b:Bool)(h:EnM w0 w nA nO nD q a b)(hq:Nr q)(hx:Nr x)(hy:Nr y) :
  Calls Tryz.prog 220 #[ae x,ae y,.pointer (some ⟨nA,0,none⟩),.pointer (some ⟨nO,0,none⟩),.pointer (some ⟨nD,0,none⟩)] w (sI w0 nA nO nD q):=by
 have cO:=hid fun W=>bG x y q W hx hy hq
 have cS:=hid fun W=>aY x y q W hx hy hq
 generalize onB x y q=r at *;generalize sd x y q=s at *;obtain⟨qx,qy⟩:=q;obtain⟨xx,xy⟩:=x;obtain⟨yx,yy⟩:=y;unfold ae at *;dsimp only at *;have HE1:=hid ((h.below (bw1 w (.cells #[xx,xy] 30))).below (bw1 _ (.cells #[yx,yy] 30)));have HX1:=hid ((Bx.new (t:=30) (cs:=[.int .i64 xx,.int .i64 xy]) w rfl).alloc (.cells #[yx,yy] 30));have HY1:=hid (Bx.newAt (b:=w.heap.size+1) (t:=30) (cs:=[.int .i64 yx,.int .i64 yy]) (c:=#[.int .i64 yx,.int .i64 yy]) (w.alloc (.cells #[xx,xy] 30)) (by simp) rfl);clear h hq hx hy;go_enter Tryz.func220,Tryz.ntmps220;go_upto_region 1 with fail;change Hid (Bx ((w.alloc (.cells #[xx,xy] 30)).alloc (.cells #[yx,yy] 30)) _ _ _)at HX1;generalize (w.alloc (.cells #[xx,xy] 30)).alloc (.cells #[yx,yy] 30)=w1 at *;obtain⟨k0,k1⟩:=HX1.out.c2;obtain⟨k2,k3⟩:=HY1.out.c2;obtain⟨k4,k5⟩:=HE1.out.ba.c2;go_wp2_with fail;refine(cO.out _).mono ?_;rintro e w2 ⟨rfl,hb2⟩;have HE2:=hid (HE1.out.below hb2);have HX2:=hid (HX1.out.below hb2);have HY2:=hid (HY1.out.below hb2);clear k0 k1 k2 k3 k4 k5 hb2 HE1 HX1 HY1;cases r
 rotate_left
 ·have e0:=HE2.out.bo.c1
  have e1:=HE2.out.bo.frozen 0;have e2:=HE2.out.bo.lt;have HZ:=hid (HE2.out.on true);go_wp2_with fail;refine bodyPost_end (v:=.tuple #[]) (by simp[results,Tryz.results220,go_sem]) rfl ?_;exact⟨rfl,_,_,HZ.out⟩
 obtain⟨t1,g1⟩:∃t,decide (xy≤qy)=t:=⟨_,rfl⟩;obtain⟨t2,g2⟩:∃t,decide (qy<yy)=t:=⟨_,rfl⟩;obtain⟨t3,g3⟩:∃t,decide (yy≤qy)=t:=⟨_,rfl⟩;obtain⟨t4,g4⟩:∃t,decide (qy<xy)=t:=⟨_,rfl⟩;obtain⟨t5,g5⟩:∃t,decide (0<s)=t:=⟨_,rfl⟩;obtain⟨t6,g6⟩:∃t,decide (s<0)=t:=⟨_,rfl⟩;have HEX:∀W,Below w2.heap.size w2 W→EnM w0 W nA nO nD (qx,qy) a b∧Bx W w.heap.size 30 [xx,xy]∧Bx W (w.heap.size+1) 30 [yx,yy]:=fun W hb=>⟨HE2.out.below hb,HX2.out.below hb,HY2.out.below hb⟩
 have HEX:=hid HEX;clear HE2 HX2 HY2;have HB0:=hid (Below.refl w2.heap.size w2);go_upto_region 3 with fail;go_cut [12] from 13 to 31 (fun v wx=>∃r,v=.bool r∧Below w2.heap.size w2 wx)
 case first=>
  obtain⟨e1,e2,e3⟩:=HEX.out _ HB0.out;obtain⟨k0,k1⟩:=e2.c2;obtain⟨k2,k3⟩:=e3.c2;obtain⟨k4,k5⟩:=e1.ba.c2;clear e1 e2 e3;cases t1
  ·go_wp2_with fail
   go_meet;exact⟨_,rfl,HB0.out⟩
  cases t2
  ·go_wp2_with fail
   go_meet;exact⟨_,rfl,HB0.out⟩
  go_wp2_with fail;refine(cS.out _).mono ?_;rintro e w9 ⟨rfl,hb9⟩;have HB9:=hid (HB0.out.trans (hb9.mono HB0.out.size));clear hb9 k0 k1 k2 k3 k4 k5;go_wp2_with fail;go_meet;exact⟨_,rfl,HB9.out⟩
 case rest=>
 obtain⟨r12,rfl,hb12⟩:=hcut;have HB12:=hid hb12;clear hb12;generalize wc=w12 at *;cases r12
 rotate_left
 ·have HZ0:=hid (HEX.out _ HB12.out).1
  have e0:=HZ0.out.bd.c1;have e1:=HZ0.out.bd.frozen 0;have e2:=HZ0.out.bd.lt;have HZ:=hid (HZ0.out.odd (!b));go_wp2_with fail;refine bodyPost_end (v:=.tuple #[]) (by simp[results,Tryz.results220,go_sem]) rfl ?_;exact⟨rfl,_,_,HZ.out⟩
 go_upto_region 5 with fail;go_cut [34] from 35 to 53 (fun v wx=>∃r,v=.bool r∧Below w2.heap.size w2 wx)
 case first=>
  obtain⟨e1,e2,e3⟩:=HEX.out _ HB12.out;obtain⟨k0,k1⟩:=e2.c2;obtain⟨k2,k3⟩:=e3.c2;obtain⟨k4,k5⟩:=e1.ba.c2;clear e1 e2 e3;cases t3
  ·go_wp2_with fail
   go_meet;exact⟨_,rfl,HB12.out⟩
  cases t4
  ·go_wp2_with fail
   go_meet;exact⟨_,rfl,HB12.out⟩
  go_wp2_with fail;refine(cS.out _).mono ?_;rintro e w9 ⟨rfl,hb9⟩;have HB9:=hid (HB12.out.trans (hb9.mono HB12.out.size));clear hb9 k0 k1 k2 k3 k4 k5;go_wp2_with fail;go_meet;exact⟨_,rfl,HB9.out⟩
 case rest=>
 obtain⟨r34,rfl,hb34⟩:=hcut;have HB34:=hid hb34;clear hb34;generalize wc=w34 at *;cases r34
 rotate_left
 ·have HZ0:=hid (HEX.out _ HB34.out).1
  have e0:=HZ0.out.bd.c1;have e1:=HZ0.out.bd.frozen 0;have e2:=HZ0.out.bd.lt;have HZ:=hid (HZ0.out.odd (!b));go_wp2_with fail;refine bodyPost_end (v:=.tuple #[]) (by simp[results,Tryz.results220,go_sem]) rfl ?_;exact⟨rfl,_,_,HZ.out⟩
 have HZ0:=hid (HEX.out _ HB34.out).1;go_wp2_with fail;refine bodyPost_end (v:=.tuple #[]) (by simp[results,Tryz.results220,go_sem]) rfl ?_;exact⟨rfl,_,_,HZ0.out⟩
end Go.Proofs
