/- Lemmas and walks; no statement of a law is proved here. -/
import Derived.Test.YtaglmdebikglgaaGreatDoorX17
import Derived.Test.YtaglmdebikglgaaGreatDoorX21
set_option linter.unusedVariables false
set_option linter.unusedSimpArgs false
set_option maxRecDepth 100000
set_option maxHeartbeats 8000000
open Go.Lib
namespace Go.Proofs
open Go.RowKit Go.Proofs.Mp Go.Lib Go.Proofs.Ed
theorem tL{se:Se}{n:Int}(h:ShOK se n):PB (shBox se n):=by
 have h1:=jd h;have h2:=h.1.a;have h3:=h.1.z;obtain⟨_,_,hw,hh,hc,hr,_,_⟩:=h.1.b;unfold vldB at h2 h3;simp only[Bool.and_eq_true,aI]at h2 h3;exact⟨⟨by unfold Sm;omega,by unfold Sm;omega,by unfold Sm;omega,by unfold Sm;omega⟩,by omega,by omega⟩
def allTo(p:Pn)(se:Se)(k:Nat):List Prt:=(List.range k).map fun i:Nat=>partS p ((i:Int)+1) (shBox se ((i:Int)+1)).to
theorem lT(p:Pn)(se:Se)(k:Nat):allTo p se (k+1)=allTo p se k++[partS p ((k:Int)+1) (shBox se ((k:Int)+1)).to]:=by
 unfold allTo;rw[List.range_succ,List.map_append];rfl
theorem bK(p:Pn)(se:Se)(k:Nat):(allTo p se k).length=k:=by simp[allTo]
abbrev tF(w:World)(base:Nat)(v:Value)(L:List Prt)(ok:Nat→Prop):Prop:=OwG 54 3 iW RPt w base v L ok
abbrev oN:Rel Value (List Prt):=SlG 3 iW RPt
theorem Tryz.infoPt:(Tryz.prog.info? 54).map (fun i=>(i.zero,i.size,i.bytes))=some (some (.agg #[.int .i64 0,.slice none 0 0,.slice none 0 0]),3,56):=by kernel_rfl
theorem Tryz.wpPt{w:World}{base:Nat}{v:Value}{L:List Prt}{ok:Nat→Prop}{o:Oper}{a:Act}{K:Act→World→Prop}{Q:Exit→Act→World→Prop}
  (hown:tF w base v L ok)(y:PtV)(x:Prt)(hel:RPt w y x (fun g=>ok g∧v.ownBlock≠some g))(s r:Operand)
  (ho:o.op=.call { callee:=.builtin .append,args:=#[s,r],argTypes:=#[42,42] })(hs:a.eval s=v)(hx:a.eval r=.slice (some ⟨w.heap.size,0,none⟩) 1 1)
  (hN:L.length+1≤1000000000)(hbase:base≤w.heap.size)
  (h:∀v' w',tF w' base v' (L++[x]) ok→w.grownBy w' v.ownBlock→(v'.ownBlock=v.ownBlock∨∃j,v'.ownBlock=some j∧w.heap.size≤j)→K (a.put o.dst v') w') :
  o.wp Tryz.prog a (w.alloc (.cells #[y.1,y.2.1,y.2.2] 54)) K Q:=by
 obtain⟨i0,hi0,hz0,hz1,hz2⟩:=Mp.info_parts Tryz.infoPt;exact OwG.wp1 42 i0 (.agg #[.int .i64 0,.slice none 0 0,.slice none 0 0]) 56 Tryz.underlying42 hi0 hz0 hz1 hz2 rfl (by decide) (by decide) iV RPt.foot y x hel.one s r ho hown hel hs hx (by omega) hbase h
def qB(w:World)(L:List Prt)(en:Ending)(w':World):Prop:=∃v,en=.returned (.tuple #[v,.int .i64 0])∧oN w' v L (fun g=>w.heap.size≤g)∧Below w.heap.size w w'
theorem kQ(p:Pn)(m:Mem)(se:Se)(w:World)(hR:PlR w p m)(hC:CheckP p)(hS:SeOK se) :
  Calls Tryz.prog 9 #[plV p m,seV se] w (qB w (allTo p se (se.cols*se.rows).toNat)):=by
 have cZ:=hid fun W (hb:Below w.heap.size w W)=>eZ p m W (hR.below hb)
 have cG:=hid fun W=>dP se W
 have cB:=hid fun n W (h:ShOK se n)=>(show Calls Tryz.prog 11 #[seV se,n] W (RetV W (.tuple #[bj (shBox se n),.int .i64 0])) from(ep se n W).mono (by
  rintro e w' ⟨h1|h1,hb⟩
  ·exact⟨h1.2,hb⟩
  ·exact absurd h h1.1))
 have cP:=hid fun n W (hb:Below w.heap.size w W) (h:ShOK se n)=>oG p m n (shBox se n) W (hR.below hb) hC (tL h)
 have HCk:=hid hC;have HSe:=hid hS;have HSH:=hid fun (k:Nat) (h:(k:Int)<se.cols*se.rows)=>(show ShOK se ((k:Int)+1)from ⟨hS,by omega,by omega⟩)
 have hcr:0≤se.cols*se.rows∧se.cols*se.rows≤256:=by
  obtain⟨_,_,_,_,hc,hr,_,_⟩:=hS.b;have h1:=hS.c;have h2:=hS.r;rw[aI]at h1 h2;have:=Int.mul_le_mul h1.2 h2.2 (by omega) (by omega);have:=Int.mul_nonneg (show 0≤se.cols by omega) (show 0≤se.rows by omega);omega
 have HA1:=hid (lT p se);have HAL:=hid (bK p se);have HA0:=hid (show allTo p se 0=[] from rfl);clear hR hC hS;have hplV:plV p m=.agg #[.slice m.an p.nodes.length m.cn,.slice m.aa p.arcs.length m.ca,.slice m.af p.faces.length m.cf]:=rfl;rw[hplV]at cZ cP ⊢;clear hplV;obtain⟨NN,hNN⟩:∃N:Nat,(N:Int)=se.cols*se.rows:=⟨(se.cols*se.rows).toNat,by omega⟩;rw[show(se.cols*se.rows).toNat=NN by omega];have hseV:seV se=.agg #[se.x,se.y,se.wd,se.ht,se.cols,se.rows]:=rfl;rw[hseV]at cG cB ⊢;have hwm:IntKind.i64.wrap (se.cols*se.rows)=(NN:Int):=by rw[IntWalk.i64_in (se.cols*se.rows) (by omega),hNN]
 rw[←hNN]at HSH hcr;have HNN:=hid hNN;clear hseV hNN;generalize allTo p se=AT at *;have ha:=Bx.new (t:=26) (cs:=[.slice m.an p.nodes.length m.cn,.slice m.aa p.arcs.length m.ca,.slice m.af p.faces.length m.cf]) w rfl;have hb:=Bx.newAt (b:=w.heap.size+1) (t:=32) (cs:=[.int .i64 se.x,.int .i64 se.y,.int .i64 se.wd,.int .i64 se.ht,.int .i64 se.cols,.int .i64 se.rows]) (w.alloc (.cells #[.slice m.an p.nodes.length m.cn,.slice m.aa p.arcs.length m.ca,.slice m.af p.faces.length m.cf] 26)) (by simp) rfl;have ha2:=ha.alloc (.cells #[se.x,se.y,se.wd,se.ht,se.cols,se.rows] 32);have hw:=(bw1 w (.cells #[.slice m.an p.nodes.length m.cn,.slice m.aa p.arcs.length m.ca,.slice m.af p.faces.length m.cf] 26)).alloc (bw1 _ _).size (.cells #[se.x,se.y,se.wd,se.ht,se.cols,se.rows] 32);go_enter Tryz.func9,Tryz.ntmps9;go_upto_region 1 with fail;generalize (w.alloc (.cells #[.slice m.an p.nodes.length m.cn,.slice m.aa p.arcs.length m.ca,.slice m.af p.faces.length m.cf] 26)).alloc (.cells #[se.x,se.y,se.wd,se.ht,se.cols,se.rows] 32)=w0 at *;obtain⟨nS,hnS⟩:∃z,w.heap.size+1=z:=⟨_,rfl⟩;rw[hnS]at hb ⊢;have k0:=ha2.cell 0;have k1:=ha2.cell 1;have k2:=ha2.cell 2;simp only[gz,gs]at k0 k1 k2;go_wp2_with fail;refine(cZ.out _ hw).mono ?_;rintro e w2 ⟨z,rfl,hz,hb2⟩;obtain rfl:z=0:=hz.2 HCk.out;have ha3:=ha2.below hb2;have hb3:=hb.below hb2;have hw3:=hw.trans (hb2.mono hw.size);clear ha ha2 hb hb2 hw hz k0 k1 k2 cZ;have k0:=hb3.cell 0;have k1:=hb3.cell 1;have k2:=hb3.cell 2;have k3:=hb3.cell 3;have k4:=hb3.cell 4;have k5:=hb3.cell 5;simp only[gz,gs]at k0 k1 k2 k3 k4 k5;go_wp2_with fail;refine(cG.out _).mono ?_;rintro e w4 ⟨z,rfl,hz,hb4⟩;obtain rfl:z=0:=hz.2 HSe.out;have ha4:=ha3.below hb4;have hb5:=hb3.below hb4;have hw5:=hw3.trans (hb4.mono hw3.size);clear ha3 hb3 hw3 hb4 hz k0 k1 k2 k3 k4 k5 cG;have k4:=hb5.cell 4;have k5:=hb5.cell 5;simp only[gz,gs]at k4 k5;have HBX:=hid (show ∀W,Below w4.heap.size w4 W→Bx W w.heap.size 26 [.slice m.an p.nodes.length m.cn,.slice m.aa p.arcs.length m.ca,.slice m.af p.faces.length m.cf]∧Bx W nS 32 [se.x,se.y,se.wd,se.ht,se.cols,se.rows]∧Below w.heap.size w W from fun W h=>⟨ha4.below h,hb5.below h,hw5.trans (h.mono hw5.size)⟩);have HWS:=hid hw5.size;clear ha4 hb5 hw5 hnS;go_wp2_with fail;go_loopw [4,24] (fun v i wr=>∃k:Nat,k≤NN∧i=.int .i64 k∧tF wr w4.heap.size v (AT k) (fun g=>w4.heap.size≤g)∧Below w4.heap.size w4 wr) (fun _ i _=>NN-(intOf i).toNat)
 case atStart=>exact⟨0,by omega,rfl,by rw[HA0.out];exact OwG.nil _ _ _,Below.refl _ _⟩
 case round=>
  obtain⟨k,hk,rfl,hown,hbr⟩:=hrel
  by_cases hlt:k<NN
  ·have hli:(k:Int)<(NN:Int):=by omega
   have hsh:=HSH.out k hli;obtain⟨hp1,hp2,hp3⟩:=HBX.out wr hbr;have cB1:=hid fun W=>cB.out _ W hsh
   have cP1:=hid fun W hb=>cP.out _ W hb hsh
   have HAS:=hid (HA1.out k);generalize partS p ((k:Int)+1) (shBox se ((k:Int)+1)).to=PX at *;generalize shBox se ((k:Int)+1)=bo at *;obtain⟨x0,y0,x1,y1⟩:=bo;unfold bj at cB1 cP1;dsimp only at cB1 cP1;clear hsh;have q0:=hp2.cell 0;have q1:=hp2.cell 1;have q2:=hp2.cell 2;have q3:=hp2.cell 3;have q4:=hp2.cell 4;have q5:=hp2.cell 5;simp only[gz,gs]at q0 q1 q2 q3 q4 q5;have HO:=hid hown;have HB:=hid hbr;clear hown hbr hp1 hp2 hp3;go_wp2_with fail;refine(cB1.out _).mono ?_;rintro e w5 ⟨rfl,hb5⟩;have hX:=Bx.new (t:=48) (cs:=[.int .i64 x0,.int .i64 y0,.int .i64 x1,.int .i64 y1]) w5 rfl;have hbb:=hb5.trans ((bw1 w5 (.cells #[x0,y0,x1,y1] 48)).mono hb5.size);have HO6:=hid (HO.out.below RPt.foot hbb);have HB6:=hid (HB.out.trans (hbb.mono HB.out.size));clear hb5 hbb HO HB q0 q1 q2 q3 q4 q5;go_upto_region 11 with fail;generalize w5.alloc (.cells #[x0,y0,x1,y1] 48)=w6 at *;generalize w5.heap.size=nX at *;obtain⟨hp1,hp2,hp3⟩:=HBX.out w6 HB6.out;have q0:=hp1.cell 0;have q1:=hp1.cell 1;have q2:=hp1.cell 2;have r0:=hX.cell 0;have r1:=hX.cell 1;have r2:=hX.cell 2;have r3:=hX.cell 3;simp only[gz,gs]at q0 q1 q2 r0 r1 r2 r3;clear hp1 hp2 hX;go_wp2_with fail;refine(cP1.out _ hp3).mono ?_;rintro e w7 ⟨⟨y0',y1',y2'⟩,rfl,hy,hb7⟩;have HY:=hid hy;have hO7:=HO6.out.below RPt.foot hb7;have HB7:=hid (HB6.out.trans (hb7.mono HB6.out.size));have hlt7:=fun j e=>hO7.lt (j:=j) e
   have hel:RPt w7 (y0',y1',y2') PX (fun g=>w4.heap.size≤g∧u4.ownBlock≠some g):=RPt.foot.mono hy (fun g h1 h2=>⟨by have:=HB6.out.size;omega,fun e=>by have:=(HO6.out.lt e).2;omega⟩);obtain⟨hy0,⟨vs1,_,⟨A1,c1,e1,_⟩,_⟩,⟨A2,c2,e2,_⟩⟩:=hy;dsimp only at hy0;subst hy0;obtain⟨m1,hm1⟩:∃z,vs1.length=z:=⟨_,rfl⟩;obtain⟨m2,hm2⟩:∃z,PX.nodes.length=z:=⟨_,rfl⟩;rw[hm1]at e1;rw[hm2]at e2;dsimp only at e1 e2;subst e1 e2;have hN:(AT k).length+1≤1000000000:=by rw[HAL.out];omega
   have hbz:=HB7.out.size;clear hm1 hm2 q0 q1 q2 r0 r1 r2 r3 hb7 hp3;go_wp2_with (at_builtin;refine wpList_plain rfl fun K hK=>Tryz.wpPt hO7 (PX.sheet,.slice A1 m1 c1,.slice A2 m2 c2) PX hel _ _ rfl rfl rfl hN hbz ?_;intro v9 w9 hO9 hg9 hl9;have HO9:=hid hO9;have HB9:=hid (HB7.out.grown hg9 hbz (fun j hj=>(hlt7 j hj).1));refine hK _ _ ?_;clear hK hO9 hg9 hl9);go_roundw
   case rel=>exact⟨k+1,by omega,by go_num,by rw[HAS.out];exact HO9.out,HB9.out⟩
   case measure=>simp[intOf];omega
  ·obtain rfl:k=NN:=by omega
   have hge:¬(k:Int)<(k:Int):=by omega
   have HO:=hid (hown.read iV RPt.foot (ok':=fun g=>w.heap.size≤g) fun g _ h=>by
    have:=HWS.out
    rcases h with⟨_,h⟩|h<;>omega)
   have HB:=hid (HBX.out wr hbr).2.2;clear hown hbr;go_wp2_with fail;go_ret2;exact⟨_,rfl,HO.out,HB.out⟩
end Go.Proofs
namespace Go.Proofs
open Go.RowKit Go.Proofs.Mp Go.Lib Go.Proofs.Ed
structure sf(x:Prt):Prop where
 pcs:uz x.pcs
 nl:x.nodes.length≤100000
 nn:∀k,k<x.nodes.length→Nr x.nodes[k]!.2
def crX(se:Se)(x:Prt)(s:Int):List Cr:=crS (mkEg (shBox se x.sheet) s) (ndAt x.nodes) x.pcs
theorem tn(se:Se)(y:PtV)(x:Prt)(ok:Nat→Prop)(s:Int)(w:World)(hy:RPt w y x ok)(hx:sf x)(hS:ShOK se x.sheet)(hs:s=1∨s=2∨s=3∨s=4) :
  Calls Tryz.prog 66 #[.agg #[y.1,y.2.1,y.2.2],seV se,.int .i64 s] w (i8 w (crX se x s)):=by
 have cB:=hid fun W=>(show Calls Tryz.prog 11 #[seV se,x.sheet] W (RetV W (.tuple #[bj (shBox se x.sheet),.int .i64 0])) from(ep se x.sheet W).mono (by
  rintro e w' ⟨h1|h1,hb⟩
  ·exact⟨h1.2,hb⟩
  ·exact absurd hS h1.1))
 obtain⟨hy0,hy1,hy2⟩:=hy;have cC:=hid fun W (hb:Below w.heap.size w W) A c (e:y.2.2=.slice A x.nodes.length c) (hR:Rd 3 aQ w A x.nodes)=>dQ x.sheet y.2.1 x.pcs ok A c x.nodes (shBox se x.sheet) s W ((SlG.foot 4 dW RPc.foot).keep hy1 hb.size (fun g h _=>hb.block g h)) hx.pcs (hR.below hb) hx.nl hx.nn hs
 obtain⟨vs1,_,⟨A1,c1,e1,_⟩,_⟩:=hy1;obtain⟨A2,c2,e2,_,_,hR2⟩:=hy2;have cC2:=hid fun W hb=>cC.out W hb A2 c2 e2 hR2
 clear cC;unfold crX;generalize crS (mkEg (shBox se x.sheet) s) (ndAt x.nodes) x.pcs=T at *;generalize shBox se x.sheet=bo at *;obtain⟨y0,y1,y2⟩:=y;obtain⟨m1,hm1⟩:∃z,vs1.length=z:=⟨_,rfl⟩;obtain⟨m2,hm2⟩:∃z,x.nodes.length=z:=⟨_,rfl⟩;obtain⟨sh,hsh⟩:∃z,x.sheet=z:=⟨_,rfl⟩;rw[hm1]at e1;rw[hm2]at e2 cC2;rw[hsh]at cC2 cB hy0;dsimp only at *;subst e1 e2 hy0;obtain⟨x0,x1,x2,x3⟩:=bo;unfold bj at cB cC2;have hseV:seV se=.agg #[se.x,se.y,se.wd,se.ht,se.cols,se.rows]:=rfl;rw[hseV]at cB ⊢;dsimp only at cB cC2;clear hm1 hm2 hsh hx hS hs hseV hR2;have ha:=Bx.new (t:=54) (cs:=[.int .i64 y0,.slice A1 m1 c1,.slice A2 m2 c2]) w rfl;have hb:=Bx.newAt (b:=w.heap.size+1) (t:=32) (cs:=[.int .i64 se.x,.int .i64 se.y,.int .i64 se.wd,.int .i64 se.ht,.int .i64 se.cols,.int .i64 se.rows]) (w.alloc (.cells #[y0,.slice A1 m1 c1,.slice A2 m2 c2] 54)) (by simp) rfl;have ha2:=ha.alloc (.cells #[se.x,se.y,se.wd,se.ht,se.cols,se.rows] 32);have hw:=(bw1 w (.cells #[y0,.slice A1 m1 c1,.slice A2 m2 c2] 54)).alloc (bw1 _ _).size (.cells #[se.x,se.y,se.wd,se.ht,se.cols,se.rows] 32);go_enter Tryz.func66,Tryz.ntmps66;go_upto_region 1 with fail;generalize (w.alloc (.cells #[y0,.slice A1 m1 c1,.slice A2 m2 c2] 54)).alloc (.cells #[se.x,se.y,se.wd,se.ht,se.cols,se.rows] 32)=w0 at *;generalize w.heap.size+1=nS at *;have k0:=hb.cell 0;have k1:=hb.cell 1;have k2:=hb.cell 2;have k3:=hb.cell 3;have k4:=hb.cell 4;have k5:=hb.cell 5;have a0:=ha2.cell 0;simp only[gz,gs]at k0 k1 k2 k3 k4 k5 a0;go_wp2_with fail;refine(cB.out _).mono ?_;rintro e w1 ⟨rfl,hb1⟩;have ha3:=(ha2.below hb1).alloc (.cells #[x0,x1,x2,x3] 48);have hx3:=Bx.new (t:=48) (cs:=[.int .i64 x0,.int .i64 x1,.int .i64 x2,.int .i64 x3]) w1 rfl;have HW3:=hid (hw.trans ((hb1.alloc hb1.size (.cells #[x0,x1,x2,x3] 48)).mono hw.size));clear ha hb ha2 hw hb1 k0 k1 k2 k3 k4 k5 a0 cB;go_upto_region 2 with fail;generalize w1.alloc (.cells #[x0,x1,x2,x3] 48)=w3 at *;generalize w1.heap.size=nX at *;have a0:=ha3.cell 0;have a1:=ha3.cell 1;have a2:=ha3.cell 2;have k0:=hx3.cell 0;have k1:=hx3.cell 1;have k2:=hx3.cell 2;have k3:=hx3.cell 3;simp only[gz,gs]at k0 k1 k2 k3 a0 a1 a2;clear ha3 hx3;go_wp2_with fail;refine(cC2.out _ HW3.out).mono ?_;rintro e w4 ⟨v,L,rfl,hp,hs,ho,hb4⟩;obtain⟨A,c,rfl⟩:=Own.slice ho;have HF:=hid (show L.Perm T∧L.Pairwise (fun a b=>¬ltX b a)∧Own 65 3 bc w4 w.heap.size (.slice A L.length c) L∧Below w.heap.size w w4 from ⟨hp,hs,ho.mono HW3.out.size,HW3.out.trans (hb4.mono HW3.out.size)⟩);clear hp hs ho hb4 a0 a1 a2 k0 k1 k2 k3;go_wp2_with fail;go_ret2;exact⟨_,L,rfl,HF.out.1,HF.out.2.1,HF.out.2.2.1,HF.out.2.2.2⟩
end Go.Proofs
namespace Go.Proofs
open Go.RowKit Go.Proofs.Mp Go.Lib Go.Proofs.Ed
theorem ry(a b:Cr)(h1:¬ltX a b)(h2:¬ltX b a):a=b:=by
 obtain⟨a1,a2,a3⟩:=a;obtain⟨b1,b2,b3⟩:=b;unfold ltX at h1 h2;dsimp only at h1 h2;have e1:a1=b1:=by omega
 have e2:a2=b2:=by omega
 have e3:a3=b3:=by omega
 rw[e1,e2,e3]
theorem dK:∀{a b:List Cr},a.Perm b→a.Pairwise (fun x y=>¬ltX y x)→b.Pairwise (fun x y=>¬ltX y x)→a=b
 | [],b,h,_,_=>(List.nil_perm.1 h).symm
 | x::a,[],h,_,_=>absurd h.length_eq (by simp)
 | x::a,y::b,h,h1,h2=>by
  obtain⟨ha1,ha2⟩:=List.pairwise_cons.1 h1;obtain⟨hb1,hb2⟩:=List.pairwise_cons.1 h2
  have e:x=y:=by
   rcases List.mem_cons.1 (h.mem_iff.1 List.mem_cons_self)with e|m1
   ·exact e
   ·rcases List.mem_cons.1 (h.mem_iff.2 List.mem_cons_self)with e|m2
    ·exact e.symm
    ·exact ry x y (hb1 x m1) (ha1 y m2)
  subst e;rw[dK ((List.perm_cons x).1 h) ha2 hb2]
theorem fu{w:World}{v:Value}{L:List Prt}{ok:Nat→Prop}(h:oN w v L ok):∃A c,v=.slice A L.length c∧∀k,k<L.length→∃b off y,A=some ⟨b,off,none⟩∧b<w.heap.size∧RPt w y L[k]! ok ∧
  ∀W,Below w.heap.size w W→W.cell? ⟨b,off+k*3,none⟩=some (.int .i64 y.1)∧W.cell? ⟨b,off+k*3+1,none⟩=some y.2.1∧W.cell? ⟨b,off+k*3+2,none⟩=some y.2.2:=by
 obtain⟨vs,h1,⟨A,c,rfl,h2,_,h3⟩,h4⟩:=h;rw[h1];refine⟨A,c,rfl,fun k hk=>?_⟩;obtain⟨b,off,e,hl,hc⟩:=h3.at_ (j:=k) (by omega);refine⟨b,off,vs[k]!,e,hl,h4 k hk,fun W hb=>?_⟩;have hc2:=fun i u hu=>(hb.cell (p:=⟨b,off+k*3+i,none⟩) hl).trans (hc k (by omega) i u hu)
 exact⟨hc2 0 _ rfl,hc2 1 _ rfl,hc2 2 _ rfl⟩
theorem oB(se:Se)(v:Value)(L:List Prt)(ok:Nat→Prop)(n:Nat)(s:Int)(w:World)(hv:oN w v L ok)(hM:bT w)(hO:∀k,k<L.length→sf L[k]!∧L[k]!.sheet=(k:Int)+1∧ShOK se ((k:Int)+1))(hn:n<L.length)(hs:s=1∨s=2∨s=3∨s=4)(hl:L.length≤1000)
  (hA:∀j,nbS se ((n:Int)+1) s=some j→∃k:Nat,k<L.length∧j=(k:Int)+1∧(crX se L[n]! s).Perm ((crX se L[k]! (faceS s)).map bB))(hlen:∀k t,k<L.length→(crX se L[k]! t).length≤1000000000) :
  Calls Tryz.prog 27 #[v,seV se,.int .i64 ((n:Int)+1),s] w (RetV w (.tuple #[.bool true,.int .i64 0])):=by
 obtain⟨A,c,rfl,hG⟩:=fu hv;have cN:=hid fun W (hb:Below w.heap.size w W)=>eT se ((n:Int)+1) s W (hM.below hb) (hO n hn).2.2 hs
 have hf:faceS s=1∨faceS s=2∨faceS s=3∨faceS s=4:=by rcases hs with rfl|rfl|rfl|rfl<;>decide
 have cF:=hid fun W=>oz s W
 have cC:=hid fun (k:Nat) (t:Int) (hk:k<L.length) (ht:t=1∨t=2∨t=3∨t=4) y W (hb:Below w.heap.size w W) (hy:RPt w y L[k]! ok)=>tn se y L[k]! ok t W (RPt.foot.keep hy hb.size (fun g h _=>hb.block g h)) (hO k hk).1 (by rw[(hO k hk).2.1];exact(hO k hk).2.2) ht
 have HG:=hid hG;have HA:=hid hA;have HLN:=hid hlen;have hseV:seV se=.agg #[se.x,se.y,se.wd,se.ht,se.cols,se.rows]:=rfl;rw[hseV]at cN cC ⊢;clear hv hM hO hG hA hseV hlen;have hb:=Bx.new (t:=32) (cs:=[.int .i64 se.x,.int .i64 se.y,.int .i64 se.wd,.int .i64 se.ht,.int .i64 se.cols,.int .i64 se.rows]) w rfl;have hw:=bw1 w (.cells #[se.x,se.y,se.wd,se.ht,se.cols,se.rows] 32);go_enter Tryz.func27,Tryz.ntmps27;go_upto_region 1 with fail;generalize w.alloc (.cells #[se.x,se.y,se.wd,se.ht,se.cols,se.rows] 32)=w0 at *;obtain⟨nS,hnS⟩:∃z,w.heap.size=z:=⟨_,rfl⟩;have HNS:=hid hnS;rw[hnS]at hb ⊢;clear hnS;have k0:=hb.cell 0;have k1:=hb.cell 1;have k2:=hb.cell 2;have k3:=hb.cell 3;have k4:=hb.cell 4;have k5:=hb.cell 5;simp only[gz,gs]at k0 k1 k2 k3 k4 k5;go_wp2_with fail;refine(cN.out _ hw).mono ?_;rintro e w1 ⟨rfl,hb1⟩;have HB1:=hid (hb.below hb1);have HW1:=hid (hw.trans (hb1.mono hw.size));clear hb hw hb1 k0 k1 k2 k3 k4 k5 cN
 rcases hnb:nbS se ((n:Int)+1) s with _|j
 ·unfold nbV
  dsimp only;clear hnb;go_wp2_with fail;go_ret2;exact⟨rfl,HW1.out⟩
 ·obtain⟨k,hk,rfl,hperm⟩:=HA.out j hnb
  have HPM:=hid hperm;obtain⟨b,off,y1,rfl,hbl,hy1,hc1⟩:=HG.out n hn;obtain⟨b',off',y2,e,hbl2,hy2,hc2⟩:=HG.out k hk;injection e with e;injection e with e1 e2;subst e1 e2;have cC1:=hid fun W hb=>cC.out n s hn hs y1 W hb hy1
  have cC2:=hid fun W hb=>cC.out k (faceS s) hk hf y2 W hb hy2
  have HL1:=hid (HLN.out n s hn);have HL2:=hid (HLN.out k (faceS s) hk);generalize crX se L[n]! s=T1 at *;generalize crX se L[k]! (faceS s)=T2 at *;generalize faceS s=fs at *;have HC1:=hid fun W hb=>hc1 W hb
  have HC2:=hid fun W hb=>hc2 W hb
  obtain⟨hq1,⟨vs1,hq2,⟨A1,c1,e1,_⟩,_⟩,⟨A2,c2,e2,_⟩⟩:=hy1;obtain⟨hq3,⟨vs3,hq4,⟨A3,c3,e3,_⟩,_⟩,⟨A4,c4,e4,_⟩⟩:=hy2;clear hq1 hq2 hq3 hq4;obtain⟨m1,hm1⟩:∃z,vs1.length=z:=⟨_,rfl⟩;obtain⟨m2,hm2⟩:∃z,L[n]!.nodes.length=z:=⟨_,rfl⟩;obtain⟨m3,hm3⟩:∃z,vs3.length=z:=⟨_,rfl⟩;obtain⟨m4,hm4⟩:∃z,L[k]!.nodes.length=z:=⟨_,rfl⟩;rw[hm1]at e1;rw[hm2]at e2;rw[hm3]at e3;rw[hm4]at e4;obtain⟨ys1,yp1,yn1⟩:=y1;obtain⟨ys2,yp2,yn2⟩:=y2;dsimp only at e1 e2 e3 e4 cC1 cC2 HC1 HC2;subst e1 e2 e3 e4
  have HSE:=hid (show ∀W,Below w1.heap.size w1 W→W.cell? ⟨nS,0,none⟩=some (.int .i64 se.x)∧W.cell? ⟨nS,1,none⟩=some (.int .i64 se.y)∧W.cell? ⟨nS,2,none⟩=some (.int .i64 se.wd)∧W.cell? ⟨nS,3,none⟩=some (.int .i64 se.ht)∧W.cell? ⟨nS,4,none⟩=some (.int .i64 se.cols)∧W.cell? ⟨nS,5,none⟩=some (.int .i64 se.rows)∧Below w.heap.size w W from fun W h=>by
   have h2:=HB1.out.below h
   exact⟨h2.cell 0,h2.cell 1,h2.cell 2,h2.cell 3,h2.cell 4,h2.cell 5,HW1.out.trans (h.mono HW1.out.size)⟩)
  unfold nbV;dsimp only;have n1:((n:Int)+1)-1=(n:Int):=by omega
  have n2:=IntWalk.i64_in (((n:Int)+1)-1) (by omega);rw[n1]at n2;have n3:(n:Int)<(L.length:Int):=by omega
  have n4:((k:Int)+1)-1=(k:Int):=by omega
  have n5:=IntWalk.i64_in (((k:Int)+1)-1) (by omega);rw[n4]at n5;have n6:(k:Int)<(L.length:Int):=by omega
  have n7:(0:Int)≤(n:Int):=by omega
  have n8:(0:Int)≤(k:Int):=by omega
  clear hnb hperm hm1 hm2 hm3 hm4 hc1 hc2 hf cC HA;go_upto_region 4 with fail;have hS1:(fun W:World=>Below w1.heap.size w1 W) w1.drew:=(Below.refl _ _).drew;refine wp_region_held_drew (S:=(fun W:World=>Below w1.heap.size w1 W)) (by kernel_rfl) hS1 (fun hHeld=>?_);clear hHeld;generalize hwd:w1.drew=wd at *;clear hwd;refine kk 0 rfl ?_;refine kk 1 rfl ?_;refine kk 2 rfl ?_;refine kk 3 rfl ?_;refine kf 4 (fun W h=>HC1.out W (HSE.out W h).2.2.2.2.2.2) rfl ?_;refine kf 5 HSE.out rfl ?_;refine kk 6 rfl ?_;refine kr 7 rfl fun K hK=>?_
  go_simp;go_at_call 66;refine(cC1.out _ (HSE.out _ hS1).2.2.2.2.2.2).mono ?_;rintro e Wra1 ⟨vx,Lx,rfl,hpx,hsx,hox,hbWra1⟩;obtain⟨Ax,cx,rfl⟩:=Own.slice hox;have HPX:=hid (And.intro hpx hsx);have HOX:=hid (Own.rd aP hox);have hSWra1:=hS1.trans (hbWra1.mono hS1.size);clear hpx hsx hox hS1 hbWra1;go_wp2_with fail;refine hK.out _ _ hSWra1 (fun hHeld=>?_);clear hK hHeld K
  try simp only[Act.put,sa,sz,ss]
  refine kk 8 rfl ?_;refine kk 9 rfl ?_;refine kk 10 rfl ?_;refine kk 11 rfl ?_;refine kk 12 rfl ?_;refine wpAnyH_done (by kernel_rfl) ?_ _;have HZ:=hid hSWra1;clear hSWra1;generalize Wra1=w5 at *;obtain⟨T5,hT5⟩:∃z,Lx=z:=⟨_,rfl⟩;have HP1:=hid HPX.out;have HR1:=hid HOX.out;obtain⟨l1,hl1⟩:∃z,Lx.length=z:=⟨_,rfl⟩;have HL3:=hid hl1;rw[hl1];clear HPX HOX hT5 hl1;go_upto_region 7 with fail;have hS1:(fun W:World=>Below w5.heap.size w5 W) w5.drew:=(Below.refl _ _).drew;refine wp_region_held_drew (S:=(fun W:World=>Below w5.heap.size w5 W)) (by kernel_rfl) hS1 (fun hHeld=>?_);clear hHeld;generalize hwd:w5.drew=wd at *;clear hwd;refine kk 0 rfl ?_;refine kk 1 rfl ?_;refine kk 2 rfl ?_;refine kk 3 rfl ?_;refine kf 4 (fun W h=>HC2.out W (HSE.out W (HZ.out.trans (h.mono HZ.out.size))).2.2.2.2.2.2) rfl ?_;refine kf 5 (fun W h=>HSE.out W (HZ.out.trans (h.mono HZ.out.size))) rfl ?_;refine kk 6 rfl ?_;refine kr 7 rfl fun K hK=>?_
  go_simp;go_at_call 67;refine(cF.out _).mono ?_;rintro e Wrb1 ⟨rfl,hbWrb1⟩;have hSWrb1:=hS1.trans (hbWrb1.mono hS1.size)
  try clear hS1
  clear hbWrb1;go_wp2_with fail;refine hK.out _ _ hSWrb1 (fun hHeld=>?_);clear hK hHeld K
  try simp only[Act.put,sa,sz,ss]
  refine kr 8 rfl fun K hK=>?_
  go_simp;go_at_call 66;refine(cC2.out _ (HSE.out _ (HZ.out.trans (hSWrb1.mono HZ.out.size))).2.2.2.2.2.2).mono ?_;rintro e Wrb2 ⟨vz,Lz,rfl,hpz,hsz,hoz,hbWrb2⟩;obtain⟨Az,cz,rfl⟩:=Own.slice hoz;have HPZ:=hid (And.intro hpz hsz);have HOZ:=hid (Own.rd aP hoz);have hSWrb2:=hSWrb1.trans (hbWrb2.mono hSWrb1.size);clear hpz hsz hoz hSWrb1 hbWrb2;go_wp2_with fail;refine hK.out _ _ hSWrb2 (fun hHeld=>?_);clear hK hHeld K
  try simp only[Act.put,sa,sz,ss]
  refine kk 9 rfl ?_;refine kk 10 rfl ?_;refine kk 11 rfl ?_;refine kk 12 rfl ?_;refine kk 13 rfl ?_;refine wpAnyH_done (by kernel_rfl) ?_ _;have HY:=hid hSWrb2;clear hSWrb2;generalize Wrb2=w6 at *;have HLz:=hid (show Lz.length≤1000000000 from by rw[HPZ.out.1.length_eq];exact HL2.out);have cO:=hid (gv Lz Az cz w6 HOZ.out HLz.out);clear HLz;go_wp2_with fail;refine cO.out.mono ?_;rintro e w7 ⟨v7,L7,rfl,hp7,hs7,ho7,hb7⟩;obtain⟨A7,c7,rfl⟩:=Own.slice ho7;have HEQ:=hid (show L7=Lx from dK ((hp7.trans ((HPZ.out.1).map bB)).trans (HPM.out.symm.trans HP1.out.1.symm)) hs7 HP1.out.2);have HB7:=hid (HZ.out.trans ((HY.out.trans (hb7.mono HY.out.size)).mono HZ.out.size));have hR7:Rd 3 bc w7 A7 L7:=Own.rd aP ho7;have hRx:Rd 3 bc w7 Ax Lx:=HR1.out.below (HY.out.trans (hb7.mono HY.out.size))
  have cS:=hid (show Calls Tryz.prog 68 #[.slice Ax l1 cx,.slice A7 L7.length c7] w7 (RetV w7 (.bool true))from by
   have h:=HEQ.out;subst h;rw[←HL3.out]
   exact qN L7 Ax A7 cx c7 w7 hRx hR7 (by rw[HP1.out.1.length_eq];exact HL1.out))
  clear hp7 hs7 ho7 hb7 hR7 hRx;go_wp2_with fail;refine cS.out.mono ?_;rintro e w8 ⟨rfl,hb8⟩;have HB8:=hid (HW1.out.trans ((HB7.out.trans (hb8.mono HB7.out.size)).mono HW1.out.size));clear hb8;go_wp2_with fail;go_ret2;exact⟨rfl,HB8.out⟩
end Go.Proofs
namespace Go.Proofs
open Go.RowKit Go.Proofs.Mp Go.Lib Go.Proofs.Ed
structure Fit(se:Se)(L:List Prt):Prop where
 ok:SeOK se
 len:(L.length:Int)=se.cols*se.rows
 pt:∀k,k<L.length→sf L[k]!∧L[k]!.sheet=(k:Int)+1
 cl:∀k t,k<L.length→(crX se L[k]! t).length≤1000000000
 fit:∀n s j,n<L.length→(s=1∨s=2∨s=3∨s=4)→nbS se ((n:Int)+1) s=some j→∃k:Nat,k<L.length∧j=(k:Int)+1∧(crX se L[n]! s).Perm ((crX se L[k]! (faceS s)).map bB)
theorem Fit.small{se:Se}{L:List Prt}(h:Fit se L):L.length≤256:=by
 have h0:=h.len;have h1:=h.ok.c;have h2:=h.ok.r;rw[aI]at h1 h2;have:=Int.mul_le_mul h1.2 h2.2 (by omega) (by omega);omega
theorem kF(se:Se)(v:Value)(L:List Prt)(ok:Nat→Prop)(w:World)(hv:oN w v L ok)(hM:bT w)(hF:Fit se L) :
  Calls Tryz.prog 10 #[v,seV se] w (RetV w (.tuple #[.slice none 0 0,.int .i64 0])):=by
 have hsm:=hF.small;have cG:=hid fun W=>dP se W
 have cA:=hid fun (n:Nat) (s:Int) (hn:n<L.length) (hs:s=1∨s=2∨s=3∨s=4) W (hb:Below w.heap.size w W)=>oB se v L ok n s W ((SlG.foot 3 iW RPt.foot).keep hv hb.size (fun g h _=>hb.block g h)) (hM.below hb) (fun k hk=>⟨(hF.pt k hk).1,(hF.pt k hk).2,⟨hF.ok,by omega,by have:=hF.len;omega⟩⟩) hn hs (by omega) (fun j h=>hF.fit n s j hn hs h) hF.cl
 obtain⟨A,c,rfl,hG⟩:=fu hv;have HG:=hid hG;have HF:=hid hF;have hlen:=hF.len;have hseV:seV se=.agg #[se.x,se.y,se.wd,se.ht,se.cols,se.rows]:=rfl;rw[hseV]at cG cA ⊢;have hwm:IntKind.i64.wrap (se.cols*se.rows)=(L.length:Int):=by rw[IntWalk.i64_in (se.cols*se.rows) (by omega),hlen]
 clear hv hM hG hseV hF hlen;have hb:=Bx.new (t:=32) (cs:=[.int .i64 se.x,.int .i64 se.y,.int .i64 se.wd,.int .i64 se.ht,.int .i64 se.cols,.int .i64 se.rows]) w rfl;have hw:=bw1 w (.cells #[se.x,se.y,se.wd,se.ht,se.cols,se.rows] 32);go_enter Tryz.func10,Tryz.ntmps10;go_upto_region 1 with fail;generalize w.alloc (.cells #[se.x,se.y,se.wd,se.ht,se.cols,se.rows] 32)=w0 at *;obtain⟨nS,hnS⟩:∃z,w.heap.size=z:=⟨_,rfl⟩;rw[hnS]at hb ⊢;clear hnS;have k0:=hb.cell 0;have k1:=hb.cell 1;have k2:=hb.cell 2;have k3:=hb.cell 3;have k4:=hb.cell 4;have k5:=hb.cell 5;simp only[gz,gs]at k0 k1 k2 k3 k4 k5;go_wp2_with fail;refine(cG.out _).mono ?_;rintro e w1 ⟨z,rfl,hz,hb1⟩;obtain rfl:z=0:=hz.2 HF.out.ok;have HBX:=hid (show ∀W,Below w1.heap.size w1 W→Bx W nS 32 [se.x,se.y,se.wd,se.ht,se.cols,se.rows]∧Below w.heap.size w W from fun W h=>⟨(hb.below hb1).below h,(hw.trans (hb1.mono hw.size)).trans (h.mono (by have:=hw.size;have:=hb1.size;omega))⟩);clear hb hw hb1 hz k0 k1 k2 k3 k4 k5 cG;obtain⟨hp,_⟩:=HBX.out w1 (Below.refl _ _);have k4:=hp.cell 4;have k5:=hp.cell 5;simp only[gz,gs]at k4 k5;have hll:((L.length:Int) != (L.length:Int))=false:=by simp
 clear hp;go_wp2_with fail;go_loopw [4,27] (fun v i wr=>∃k:Nat,k≤L.length∧v=.slice none 0 0∧i=.int .i64 k∧Below w1.heap.size w1 wr) (fun _ i _=>L.length-(intOf i).toNat)
 case atStart=>exact⟨0,by omega,rfl,rfl,Below.refl _ _⟩
 case round=>
  obtain⟨k,hk,rfl,rfl,hbr⟩:=hrel
  by_cases hlt:k<L.length
  ·have hli:(k:Int)<(L.length:Int):=by omega
   obtain⟨b,off,y,rfl,hbl,hy,hc⟩:=HG.out k hlt;obtain⟨c0,c1,c2⟩:=hc wr (HBX.out wr hbr).2;obtain⟨hq1,⟨vs1,hq2,⟨A1,d1,e1,_⟩,_⟩,⟨A2,d2,e2,_⟩⟩:=hy;have hsh:=(HF.out.pt k hlt).2;rw[←hq1]at hsh;obtain⟨m1,hm1⟩:∃z,vs1.length=z:=⟨_,rfl⟩;obtain⟨m2,hm2⟩:∃z,L[k]!.nodes.length=z:=⟨_,rfl⟩;rw[hm1]at e1;rw[hm2]at e2;obtain⟨y0,y1,y2⟩:=y;dsimp only at e1 e2 hsh c0 c1 c2;subst e1 e2 hsh;clear hq1 hq2 hm1 hm2 hc;have hX:=Bx.new (t:=54) (cs:=[.int .i64 ((k:Int)+1),.slice A1 m1 d1,.slice A2 m2 d2]) wr rfl;have HB:=hid (hbr.trans ((bw1 wr (.cells #[.int .i64 ((k:Int)+1),.slice A1 m1 d1,.slice A2 m2 d2] 54)).mono hbr.size));clear hbr;go_upto_region 9 with fail;generalize wr.alloc (.cells #[.int .i64 ((k:Int)+1),.slice A1 m1 d1,.slice A2 m2 d2] 54)=w2 at *;generalize wr.heap.size=nX at *;have x0:=hX.cell 0;simp only[gz]at x0;have hke:(((k:Int)+1) != ((k:Int)+1))=false:=by simp
   clear c0 c1 c2 hX;go_wp2_with fail;go_roundw
   case rel=>exact⟨k+1,by omega,rfl,by go_num,HB.out⟩
   case measure=>simp[intOf];omega
  ·obtain rfl:k=L.length:=by omega
   have hge:¬(L.length:Int)<(L.length:Int):=by omega
   have HBR:=hid hbr;clear hbr;generalize wr=w3 at *;go_wp2_with fail;go_loopw [4,40] (fun v i wr=>∃k:Nat,k≤L.length∧v=.slice none 0 0∧i=.int .i64 k∧Below w1.heap.size w1 wr) (fun _ i _=>L.length-(intOf i).toNat)
   case atStart=>exact⟨0,by omega,rfl,rfl,HBR.out⟩
   case round=>
    obtain⟨k,hk,rfl,rfl,hbr⟩:=hrel
    by_cases hlt:k<L.length
    ·have hli:(k:Int)<(L.length:Int):=by omega
     have HB1:=hid hbr;clear hbr;generalize wr=w4 at *;go_wp2_with fail;go_loopw [4,9] (fun v i wr=>∃s:Nat,1≤s∧s≤5∧v=.slice none 0 0∧i=.int .i64 s∧Below w1.heap.size w1 wr) (fun _ i _=>5-(intOf i).toNat)
     case atStart=>exact⟨1,by omega,by omega,rfl,rfl,HB1.out⟩
     case round=>
      obtain⟨s,hs1,hs2,rfl,rfl,hbr⟩:=hrel
      by_cases hs:s≤4
      ·have hsi:(s:Int)≤4:=by omega
       have cA1:=hid fun W hb=>cA.out k (s:Int) hlt (by omega) W hb
       obtain⟨hp,_⟩:=HBX.out wr hbr;have q0:=hp.cell 0;have q1:=hp.cell 1;have q2:=hp.cell 2;have q3:=hp.cell 3;have q4:=hp.cell 4;have q5:=hp.cell 5;simp only[gz,gs]at q0 q1 q2 q3 q4 q5;have HB2:=hid hbr;clear hbr hp;go_wp2_with fail;refine(cA1.out _ (HBX.out _ HB2.out).2).mono ?_;rintro e w6 ⟨rfl,hb6⟩;have HB6:=hid (HB2.out.trans (hb6.mono HB2.out.size));clear hb6 q0 q1 q2 q3 q4 q5;go_wp2_with fail;go_roundw
       case rel=>exact⟨s+1,by omega,by omega,rfl,by go_num,HB6.out⟩
       case measure=>simp[intOf];omega
      ·have hsi:¬(s:Int)≤4:=by omega
       have HB2:=hid hbr;clear hbr;go_wp2_with fail;go_roundw
       case rel=>exact⟨k+1,by omega,rfl,by go_num,HB2.out⟩
       case measure=>simp[intOf];omega
    ·obtain rfl:k=L.length:=by omega
     have HB1:=hid (HBX.out _ hbr).2;clear hbr;go_wp2_with fail;go_ret2;exact⟨rfl,HB1.out⟩
end Go.Proofs
