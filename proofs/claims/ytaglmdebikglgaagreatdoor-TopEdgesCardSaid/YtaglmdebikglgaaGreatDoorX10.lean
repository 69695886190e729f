/- Lemmas and walks; no statement of a law is proved here. -/
import Derived.Test.YtaglmdebikglgaaGreatDoorX09
import Derived.WalkMore
import Derived.Laws.EntriesVeiled
set_option linter.unusedVariables false
set_option linter.unusedSimpArgs false
set_option maxRecDepth 100000
set_option maxHeartbeats 8000000
open Go.Lib
namespace Go.Proofs
open Go.RowKit Go.Proofs.Mp Go.Lib Go.Proofs.Ed
structure FreeOK(p:Pn)(a:Ar)(b m h:Pt):Prop where
 loop:a.frm=a.dst→3≤a.via.length
 par:a.via.length=1→∀j,j<p.arcs.length→parB a p.arcs[j]! = false
 nd:∀j,j<p.nodes.length→blkB b m h p.nodes[j]!.2=false
 via:∀j,j<p.arcs.length→∀k,k<p.arcs[j]!.via.length→blkB b m h p.arcs[j]!.via[k]! = false
def eU(w:World)(P:Prop)(e:Ending)(w':World):Prop:=∃r,e=.returned (.bool r)∧(r=true→P)∧Below w.heap.size w w'
theorem eU.no{w w':World}{P:Prop}(h:Below w.heap.size w w'):eU w P (.returned (.bool false)) w':=⟨false,rfl,(fun k=>by cases k),h⟩
theorem uF(w:World)(o1 o2 o3:Obj):Below w.heap.size w (((w.alloc o1).alloc o2).alloc o3).drew:=(bw3 w o1 o2 o3).drew
def uG(wr wx:World)(v1 v2 v3:Value)(a b c:Pt):Prop:=∃n1 n2 n3:Nat,v1=.pointer (some ⟨n1,0,none⟩)∧v2=.pointer (some ⟨n2,0,none⟩)∧v3=.pointer (some ⟨n3,0,none⟩)∧Bx wx n1 30 (cP a)∧Bx wx n2 30 (cP b)∧Bx wx n3 30 (cP c)∧Below wr.heap.size wr wx
theorem three(w:World)(t:TypeId)(x y z:List Value) :
  Bx (((w.alloc (.cells x.toArray t)).alloc (.cells y.toArray t)).alloc (.cells z.toArray t)).drew w.heap.size t x∧Bx (((w.alloc (.cells x.toArray t)).alloc (.cells y.toArray t)).alloc (.cells z.toArray t)).drew (w.heap.size+1) t y ∧
   Bx (((w.alloc (.cells x.toArray t)).alloc (.cells y.toArray t)).alloc (.cells z.toArray t)).drew (w.heap.size+1+1) t z∧Below w.heap.size w (((w.alloc (.cells x.toArray t)).alloc (.cells y.toArray t)).alloc (.cells z.toArray t)).drew:=
 ⟨((Bx.newAt w rfl rfl).alloc _).alloc _,(Bx.newAt (w.alloc _) (by simp) rfl).alloc _,Bx.newAt ((w.alloc _).alloc _) (by simp) rfl,uF _ _ _ _⟩
theorem qL(p:Pn)(m:Mem)(a:Ar)(A:Option Addr)(c:Nat)(path:List Pt)(B:Option Addr)(d:Nat)(i:Nat)(w:World)(hR:PlR w p m)(hB:RdR w B path)(hi:i+2<path.length)(hl:path.length≤1000000)
  (hN:∀j,j<path.length→Nr path[j]!)(hn:∀j,j<p.nodes.length→Nr p.nodes[j]!.2)(hv:∀j,j<p.arcs.length→∀k,k<p.arcs[j]!.via.length→Nr p.arcs[j]!.via[k]!)(ha:a.via.length≤1000000) :
  Calls Tryz.prog 89 #[plV p m,.agg #[a.id,a.frm,a.dst,.slice A a.via.length c,a.lf,a.rt],.slice B path.length d,.int .i64 i] w (eU w (FreeOK p a path[i]! path[i+1]! path[i+2]!)):=by
 have hmf:∀(fn:Fn) (first cap:Array Value) (w:World),(Instr.makeFunc fn first cap).run Tryz.prog w=.ok (.func fn first cap) w:=fun _ _ _ _=>rfl
 have HP:=hid hR;have HNN:=hid hn;have HVN:=hid hv;have cPar:=hid fun W (hb:Below w.heap.size w W)=>jL p m a A c W (hR.below hb)
 have cT:=hid fun W=>jJ path[i]! path[i+1]! path[i+2]! W (hN _ (by omega)) (hN _ (by omega)) (hN _ hi)
 have cV:=hid fun q W=>oX q W
 have cBl:=hid fun q (hq:Nr q) na nm nh nf v W h1 h2 h3 h4 hT=>mR path[i]! path[i+1]! path[i+2]! q na nm nh nf v W h1 h2 h3 h4 hT (hN _ (by omega)) (hN _ (by omega)) (hN _ hi) hq
 have HC:=hid fun (k:Nat) (hk:k<path.length) W (hb:Below w.heap.size w W)=>RdR.get hB hb hk
 have HF:=hid (fun (h1:a.frm=a.dst→3≤a.via.length) h2 h3 h4=>(FreeOK.mk h1 h2 h3 h4:FreeOK p a path[i]! path[i+1]! path[i+2]!));generalize FreeOK p a path[i]! path[i+1]! path[i+2]! = P at *;have hplV:plV p m=.agg #[.slice m.an p.nodes.length m.cn,.slice m.aa p.arcs.length m.ca,.slice m.af p.faces.length m.cf]:=rfl;rw[hplV]at cPar ⊢;have hw:=(bw1 w (.cells #[.slice m.an p.nodes.length m.cn,.slice m.aa p.arcs.length m.ca,.slice m.af p.faces.length m.cf] 26)).alloc (bw1 _ _).size (.cells #[a.id,a.frm,a.dst,.slice A a.via.length c,a.lf,a.rt] 58);have h1:=(Bx.new (t:=26) (cs:=[.slice m.an p.nodes.length m.cn,.slice m.aa p.arcs.length m.ca,.slice m.af p.faces.length m.cf]) w rfl).alloc (.cells #[a.id,a.frm,a.dst,.slice A a.via.length c,a.lf,a.rt] 58);have h2:=Bx.newAt (b:=w.heap.size+1) (t:=58) (cs:=arC a (.slice A a.via.length c)) (c:=#[.int .i64 a.id,.int .i64 a.frm,.int .i64 a.dst,.slice A a.via.length c,.int .i64 a.lf,.int .i64 a.rt]) (w.alloc (.cells #[.slice m.an p.nodes.length m.cn,.slice m.aa p.arcs.length m.ca,.slice m.af p.faces.length m.cf] 26)) (by simp) rfl;clear hR hB hN hn hv hplV;go_enter Tryz.func89,Tryz.ntmps89;go_upto_region 1 with fail;change Bx ((w.alloc (.cells #[.slice m.an p.nodes.length m.cn,.slice m.aa p.arcs.length m.ca,.slice m.af p.faces.length m.cf] 26)).alloc (.cells #[a.id,a.frm,a.dst,.slice A a.via.length c,a.lf,a.rt] 58)) _ _ _ at h1;generalize (w.alloc (.cells #[.slice m.an p.nodes.length m.cn,.slice m.aa p.arcs.length m.ca,.slice m.af p.faces.length m.cf] 26)).alloc (.cells #[a.id,a.frm,a.dst,.slice A a.via.length c,a.lf,a.rt] 58)=w1 at *;generalize hnA:w.heap.size+1=nA at *;have HBX:=hid (show ∀W,Below w1.heap.size w1 W→Bx W w.heap.size 26 [.slice m.an p.nodes.length m.cn,.slice m.aa p.arcs.length m.ca,.slice m.af p.faces.length m.cf]∧Bx W nA 58 (arC a (.slice A a.via.length c))∧Below w.heap.size w W from fun W h=>⟨h1.below h,h2.below h,hw.trans (h.mono hw.size)⟩);obtain⟨bp,off,rfl,hbl,p0,p1⟩:=HC.out i (by omega) w1 hw;obtain⟨b',o',e,_,p2,p3⟩:=HC.out (i+1) (by omega) w1 hw;injection e with e;injection e with e1 e2;subst e1 e2;obtain⟨b',o',e,_,p4,p5⟩:=HC.out (i+2) hi w1 hw;injection e with e;injection e with e1 e2;subst e1 e2;have hbl1:bp<w1.heap.size:=Nat.lt_of_lt_of_le hbl hw.size;have hbl2:bp<w1.heap.size+1:=by omega
 have hbl3:bp<w1.heap.size+1+1:=by omega
 have hbl4:bp≠w1.heap.size:=by omega
 have hbl5:bp≠w1.heap.size+1:=by omega
 have hbl6:bp≠w1.heap.size+1+1:=by omega
 have j1:(i:Int)<(path.length:Int):=by omega
 have j2:(i:Int)+1<(path.length:Int):=by omega
 have j3:(i:Int)+2<(path.length:Int):=by omega
 have j4:(0:Int)≤(i:Int)+1:=by omega
 have j5:(0:Int)≤(i:Int)+2:=by omega
 have j6:(0:Int)≤(i:Int):=by omega
 have j7:=IntWalk.i64_in ((i:Int)+1) (by omega);have j8:=IntWalk.i64_in ((i:Int)+2) (by omega);generalize path[i]! = x at *;generalize path[i+1]! = y at *;generalize path[i+2]! = z at *;obtain⟨xx,xy⟩:=x;obtain⟨yx,yy⟩:=y;obtain⟨zx,zy⟩:=z;dsimp only at p0 p1 p2 p3 p4 p5;clear h1 h2 hw hnA;go_step3;go_upto_region 1 with fail;go_cut [9,10,11] from 21 to 34 (fun v1 v2 v3 wx=>uG w1 wx v1 v2 v3 (xx,xy) (yx,yy) (zx,zy))
 case first=>
  go_region
  all_goals
   go_wp2_with fail;go_meet
   first
    | (have h:=three w1 30 [.int .i64 xx,.int .i64 xy] [.int .i64 yx,.int .i64 yy] [.int .i64 zx,.int .i64 zy];exact⟨_,_,_,rfl,rfl,rfl,h.1,h.2.1,h.2.2.1,h.2.2.2⟩)
    | (have h:=three w1 30 [.int .i64 xx,.int .i64 xy] [.int .i64 zx,.int .i64 zy] [.int .i64 yx,.int .i64 yy];exact⟨_,_,_,rfl,rfl,rfl,h.1,h.2.2.1,h.2.1,h.2.2.2⟩)
    | (have h:=three w1 30 [.int .i64 yx,.int .i64 yy] [.int .i64 xx,.int .i64 xy] [.int .i64 zx,.int .i64 zy];exact⟨_,_,_,rfl,rfl,rfl,h.2.1,h.1,h.2.2.1,h.2.2.2⟩)
    | (have h:=three w1 30 [.int .i64 yx,.int .i64 yy] [.int .i64 zx,.int .i64 zy] [.int .i64 xx,.int .i64 xy];exact⟨_,_,_,rfl,rfl,rfl,h.2.2.1,h.1,h.2.1,h.2.2.2⟩)
    | (have h:=three w1 30 [.int .i64 zx,.int .i64 zy] [.int .i64 xx,.int .i64 xy] [.int .i64 yx,.int .i64 yy];exact⟨_,_,_,rfl,rfl,rfl,h.2.1,h.2.2.1,h.1,h.2.2.2⟩)
    | (have h:=three w1 30 [.int .i64 zx,.int .i64 zy] [.int .i64 yx,.int .i64 yy] [.int .i64 xx,.int .i64 xy];exact⟨_,_,_,rfl,rfl,rfl,h.2.2.1,h.2.1,h.1,h.2.2.2⟩)
 case rest=>
  obtain⟨n1,n2,n3,rfl,rfl,rfl,g1,g2,g3,hb2⟩:=hcut;generalize wc=w2 at *;clear p0 p1 p2 p3 p4 p5 hbl1 hbl2 hbl3 hbl4 hbl5 hbl6 j1 j2 j3 j4 j5 j6 j7 j8
  have HG:=hid (show ∀W,Below w2.heap.size w2 W→Bx W n1 30 [xx,xy]∧Bx W n2 30 [yx,yy]∧Bx W n3 30 [zx,zy]∧Bx W w.heap.size 26 [.slice m.an p.nodes.length m.cn,.slice m.aa p.arcs.length m.ca,.slice m.af p.faces.length m.cf]∧Bx W nA 58 (arC a (.slice A a.via.length c))∧Below w.heap.size w W from fun W h=>
   ⟨g1.below h,g2.below h,g3.below h,HBX.out W (hb2.trans (h.mono hb2.size))⟩)
  have HW2:=hid (Below.refl w2.heap.size w2);clear g1 g2 g3 hb2;obtain⟨k0,k1⟩:=(HG.out w2 HW2.out).1.c2;go_wp2_with fail;refine(cV.out (xx,xy) _).mono ?_;rintro e w3 ⟨rfl,hb⟩;have HW3:=hid (HW2.out.trans (hb.mono HW2.out.size));clear hb k0 k1;generalize vpB (xx,xy)=r at *;cases r
  ·have HZ:=hid (HG.out _ HW3.out).2.2.2.2.2
   go_wp2_with fail;go_ret;exact eU.no HZ.out
  obtain⟨k0,k1⟩:=(HG.out w3 HW3.out).2.1.c2;go_wp2_with fail;refine(cV.out (yx,yy) _).mono ?_;rintro e w4 ⟨rfl,hb⟩;have HW4:=hid (HW3.out.trans (hb.mono HW3.out.size));clear hb k0 k1;generalize vpB (yx,yy)=r at *;cases r
  ·have HZ:=hid (HG.out _ HW4.out).2.2.2.2.2
   go_wp2_with fail;go_ret;exact eU.no HZ.out
  obtain⟨k0,k1⟩:=(HG.out w4 HW4.out).2.2.1.c2;go_wp2_with fail;refine(cV.out (zx,zy) _).mono ?_;rintro e w5 ⟨rfl,hb⟩;have HW5:=hid (HW4.out.trans (hb.mono HW4.out.size));clear hb k0 k1;generalize vpB (zx,zy)=r at *;cases r
  ·have HZ:=hid (HG.out _ HW5.out).2.2.2.2.2
   go_wp2_with fail;go_ret;exact eU.no HZ.out
  go_upto_region 4 with fail;obtain⟨ai,af,ad,av,al,ar⟩:=a;unfold arC at HG;dsimp only at *;obtain⟨mv,hmv⟩:∃z,av.length=z:=⟨_,rfl⟩;have HMV:=hid hmv;rw[hmv]at HG ha cPar ⊢;clear hmv;obtain⟨x1,h1⟩:∃x,(af==ad)=x:=⟨_,rfl⟩;obtain⟨x2,h2⟩:∃x,decide ((mv:Int)<3)=x:=⟨_,rfl⟩;have HX:=hid (And.intro h1 h2);obtain⟨_,a1,a2,a3,_,_⟩:=(HG.out w5 HW5.out).2.2.2.2.1.c6;go_cut [58] from 48 to 57 (fun v58 wx=>v58=.bool (x1&&x2)∧wx=w5)
  case first=>
   cases x1<;>cases x2
   all_goals
    go_wp2_with fail;go_meet;exact⟨rfl,rfl⟩
  case rest=>
   obtain⟨rfl,rfl⟩:=hcut;clear h1 h2 a1 a2 a3;cases hx:(x1&&x2)
   rotate_left
   ·have HZ:=hid (HG.out _ HW5.out).2.2.2.2.2
    clear hx;go_wp2_with fail;go_ret;exact eU.no HZ.out
   have HLO:=hid (show af=ad→3≤av.length from fun h=>by
    obtain⟨e1,e2⟩:=HX.out;have:x1=true:=by rw[←e1];simp[h]
    rw[this,Bool.true_and]at hx;rw[hx,decide_eq_false_iff_not]at e2;have:=HMV.out
    omega)
   clear hx HX;go_upto_region 6 with fail;obtain⟨x3,h3⟩:∃x,((mv:Int)==1)=x:=⟨_,rfl⟩;have HX3:=hid h3;obtain⟨a0,a1,a2,a3,a4,a5⟩:=(HG.out _ HW5.out).2.2.2.2.1.c6;obtain⟨p0,p1,p2⟩:=(HG.out _ HW5.out).2.2.2.1.c3;go_cut [67] from 59 to 66 (fun v67 wx=>∃r,v67=.bool r∧Hid (r=false→av.length=1→∀j,j<p.arcs.length→parB ⟨ai,af,ad,av,al,ar⟩ p.arcs[j]! = false)∧Below w2.heap.size w2 wx)
   case first=>
    cases x3
    ·go_wp2_with fail
     go_meet
     exact⟨false,rfl,hid (fun _ h=>by
      have e:=HX3.out;have:=HMV.out;have:mv=1:=by omega
      rw[this]at e
      cases e),HW5.out⟩
    ·have HZ:=hid (HG.out _ HW5.out).2.2.2.2.2
     go_wp2_with fail;refine(cPar.out _ HZ.out).mono ?_;rintro e w6 ⟨r,rfl,hr,hb6⟩;have HR:=hid hr;have HB6:=hid (HW5.out.trans (hb6.mono HW5.out.size));clear hr hb6 a0 a1 a2 a3 a4 a5 p0 p1 p2;go_wp2_with fail;go_meet;exact⟨r,rfl,hid (fun h _=>HR.out h),HB6.out⟩
   case rest=>
    obtain⟨r,rfl,HPA,hb6⟩:=hcut;generalize wc=w6 at *;have HB6:=hid hb6;clear a0 a1 a2 a3 a4 a5 p0 p1 p2 h3 hb6;cases r
    rotate_left
    ·have HZ:=hid (HG.out _ HB6.out).2.2.2.2.2
     go_wp2_with fail;go_ret;exact eU.no HZ.out
    have HPR:=hid (HPA.out rfl);clear HPA;obtain⟨k0,k1⟩:=(HG.out _ HB6.out).1.c2;obtain⟨q0,q1⟩:=(HG.out _ HB6.out).2.1.c2;obtain⟨r0,r1⟩:=(HG.out _ HB6.out).2.2.1.c2;go_upto_region 8 with fail;go_wp2_with fail;refine(cT.out _).mono ?_;rintro e w7 ⟨v,rfl,hT,hb7⟩;have hT2:=hT;obtain⟨mb,mt,ma,mm,mh,ev,_⟩:=hT2;subst ev;have h7w:=bw1 w7 (.cells #[.func (.func 193) #[] #[.pointer (some ⟨mb,0,none⟩),.pointer (some ⟨mt,0,none⟩),.pointer (some ⟨ma,0,none⟩),.pointer (some ⟨mm,0,none⟩),.pointer (some ⟨mh,0,none⟩)]] 107);have hF:=Bx.new (t:=107) (cs:=[.func (.func 193) #[] #[.pointer (some ⟨mb,0,none⟩),.pointer (some ⟨mt,0,none⟩),.pointer (some ⟨ma,0,none⟩),.pointer (some ⟨mm,0,none⟩),.pointer (some ⟨mh,0,none⟩)]]) w7 rfl;have HB7:=hid (HB6.out.trans ((hb7.trans (h7w.mono hb7.size)).mono HB6.out.size));have HT7:=hid (hT.below h7w);clear hT hb7 h7w k0 k1 q0 q1 r0 r1;go_upto_region 9 with fail;generalize w7.alloc (.cells #[.func (.func 193) #[] #[.pointer (some ⟨mb,0,none⟩),.pointer (some ⟨mt,0,none⟩),.pointer (some ⟨ma,0,none⟩),.pointer (some ⟨mm,0,none⟩),.pointer (some ⟨mh,0,none⟩)]] 107)=w8 at *;generalize w7.heap.size=nF at *
    have HBL:=hid (show ∀q,Nr q→∀W,Below w8.heap.size w8 W→Calls Tryz.prog 145 #[ae q,.pointer (some ⟨n1,0,none⟩),.pointer (some ⟨n2,0,none⟩),.pointer (some ⟨n3,0,none⟩),.pointer (some ⟨nF,0,none⟩)] W (RetV W (.bool (blkB (xx,xy) (yx,yy) (zx,zy) q)))from fun q hq W h=>
     cBl.out q hq n1 n2 n3 nF _ W (HG.out W (HB7.out.trans (h.mono HB7.out.size))).1 (HG.out W (HB7.out.trans (h.mono HB7.out.size))).2.1 (HG.out W (HB7.out.trans (h.mono HB7.out.size))).2.2.1 (hF.below h) (HT7.out.below h))
    have HG8:=hid (show ∀W,Below w8.heap.size w8 W→Bx W w.heap.size 26 [.slice m.an p.nodes.length m.cn,.slice m.aa p.arcs.length m.ca,.slice m.af p.faces.length m.cf]∧Below w.heap.size w W from fun W h=>
     ⟨(HG.out W (HB7.out.trans (h.mono HB7.out.size))).2.2.2.1,(HG.out W (HB7.out.trans (h.mono HB7.out.size))).2.2.2.2.2⟩)
    clear hF cT cV cPar cBl HG HBX;have HND:=hid fun (k:Nat) (hk:k<p.nodes.length) W (hb:Below w8.heap.size w8 W)=>HP.out.node (HG8.out W hb).2 hk
    have HAR:=hid fun (k:Nat) (hk:k<p.arcs.length) W (hb:Below w8.heap.size w8 W)=>HP.out.arc (HG8.out W hb).2 hk
    have hnl:=HP.out.few.n;have hal:=HP.out.few.a;have HVL:=hid HP.out.few.v;clear HP HC HB6 HB7;obtain⟨an,aa,af,cn,ca,cf,vs⟩:=m;dsimp only at *;obtain⟨p0,p1,p2⟩:=(HG8.out w8 (Below.refl _ _)).1.c3;go_wp2_with fail;go_loopw [15,76] (fun _ i wr=>∃k:Nat,k≤p.nodes.length∧i=.int .i64 k∧Hid (∀j,j<k→blkB (xx,xy) (yx,yy) (zx,zy) p.nodes[j]!.2=false)∧Below w8.heap.size w8 wr) (fun _ i _=>p.nodes.length-(intOf i).toNat)
    case atStart=>exact⟨0,by omega,rfl,hid (fun j hj=>absurd hj (Nat.not_lt_zero _)),Below.refl _ _⟩
    case round=>
     obtain⟨k,hk,rfl,HN,hbr⟩:=hrel;have HB:=hid hbr
     by_cases hlt:k<p.nodes.length
     ·have hli:(k:Int)<(p.nodes.length:Int):=by omega
      obtain⟨b,off,rfl,hbl,a0,a1,a2⟩:=HND.out k hlt wr hbr
      have HE:=hid (show blkB (xx,xy) (yx,yy) (zx,zy) p.nodes[k]!.2=false→∀j,j<k+1→blkB (xx,xy) (yx,yy) (zx,zy) p.nodes[j]!.2=false from fun h j hj=>by
       by_cases e:j=k
       ·subst e;exact h
       ·exact HN.out j (by omega))
      have hbn:=bw1 wr (.cells #[.int .i64 p.nodes[k]!.1,.agg #[.int .i64 p.nodes[k]!.2.1,.int .i64 p.nodes[k]!.2.2]] 71);have hC:=hid fun W (hb:Below wr.heap.size wr W)=>HBL.out _ (HNN.out k hlt) W (hbr.trans (hb.mono hbr.size))
      generalize blkB (xx,xy) (yx,yy) (zx,zy) p.nodes[k]!.2=r at *;generalize p.nodes[k]! = nd at *;obtain⟨ni,nx,ny⟩:=nd;dsimp only at a0 a1 a2 hC hbn;clear hbr;go_wp2_with fail;refine(hC.out _ (bw1 wr _)).mono ?_;rintro e w9 ⟨rfl,hb9⟩;have HB9:=hid (HB.out.trans (((bw1 wr _).trans (hb9.mono (bw1 wr _).size)).mono HB.out.size));clear hb9 a0 a1 a2 hC;cases r
      ·have HQ:=hid (HE.out rfl)
       go_wp2_with fail;go_roundw
       case rel=>exact⟨k+1,by omega,by go_num,HQ,HB9.out⟩
       case measure=>simp[intOf];omega
      ·have HZ:=hid (HG8.out _ HB9.out).2
       go_wp2_with fail;go_ret;exact eU.no HZ.out
     ·obtain rfl:p.nodes.length=k:=by omega
      have hge:¬((p.nodes.length:Int)<(p.nodes.length:Int)):=by omega
      obtain⟨p0,p1,p2⟩:=(HG8.out wr hbr).1.c3;clear hbr HND;go_upto_region 16 with fail;go_wp2_with fail;go_step3;go_wp2_with fail;clear p0 p1 p2;go_loopw [16,18,20,88] (fun v _ _ i wq=>∃k:Nat,k≤p.arcs.length∧i=.int .i64 k∧v=.bool true∧Hid (∀j,j<k→∀m,m<p.arcs[j]!.via.length→blkB (xx,xy) (yx,yy) (zx,zy) p.arcs[j]!.via[m]! = false)∧Below w8.heap.size w8 wq) (fun _ _ _ i _=>p.arcs.length-(intOf i).toNat)
      case atStart=>exact⟨0,by omega,rfl,rfl,hid (fun j hj=>absurd hj (Nat.not_lt_zero _)),HB.out⟩
      case round=>
       obtain⟨k,hk,rfl,rfl,HA,hbq⟩:=hrel;have HBQ:=hid hbq
       by_cases hla:k<p.arcs.length
       ·have hli:(k:Int)<(p.arcs.length:Int):=by omega
        obtain⟨b,off,A2,c2,rfl,hbl,a0,a1,a2,a3,a4,a5,hv,hvc,_⟩:=HAR.out k hla wr hbq;have hvl:=HVL.out k hla;have HV2:=hid hv
        have HE:=hid (show(∀m,m<p.arcs[k]!.via.length→blkB (xx,xy) (yx,yy) (zx,zy) p.arcs[k]!.via[m]! = false)→∀j,j<k+1→∀m,m<p.arcs[j]!.via.length→blkB (xx,xy) (yx,yy) (zx,zy) p.arcs[j]!.via[m]! = false from fun h j hj=>by
         by_cases e:j=k
         ·subst e;exact h
         ·exact HA.out j (by omega))
        have HN2:=hid (HVN.out k hla);generalize p.arcs[k]! = ar at *;obtain⟨ri,rf,rd,rv,rl,rr⟩:=ar;dsimp only at a0 a1 a2 a3 a4 a5 hv hvc hvl HV2 HE HN2;have hx:=Bx.new (t:=58) (cs:=[.int .i64 ri,.int .i64 rf,.int .i64 rd,.slice A2 rv.length c2,.int .i64 rl,.int .i64 rr]) wr rfl;have hxb:=bw1 wr (.cells #[ri,rf,rd,.slice A2 rv.length c2,rl,rr] 58);have hba:=hbq.trans (hxb.mono hbq.size);clear hbq hv;go_upto_region 20 with fail;generalize wr.alloc (.cells #[ri,rf,rd,.slice A2 rv.length c2,rl,rr] 58)=wa at *;generalize hnb:wr.heap.size=nb at *;have HV3:=hid (show RdR wa A2 rv from HV2.out.below (by rw[hnb];exact hxb));have HBA:=hid hba;obtain⟨_,_,_,b3,_,_⟩:=hx.c6;clear hxb hba hnb a0 a1 a2 a3 a4 a5 HV2 hx;go_wp2_with fail;clear b3;go_loopw [16,20,95] (fun v _ i wq=>∃k:Nat,k≤rv.length∧i=.int .i64 k∧v=.bool true∧Hid (∀j,j<k→blkB (xx,xy) (yx,yy) (zx,zy) rv[j]! = false)∧Below wa.heap.size wa wq) (fun _ _ i _=>rv.length-(intOf i).toNat)
        case atStart=>exact⟨0,by omega,rfl,rfl,hid (fun j hj=>absurd hj (Nat.not_lt_zero _)),Below.refl _ _⟩
        case round=>
         obtain⟨j,hj,rfl,rfl,HJ,hbs⟩:=hrel;have HBS:=hid hbs
         by_cases hlj:j<rv.length
         ·have hlj2:(j:Int)<(rv.length:Int):=by omega
          obtain⟨b',off',rfl,hbl',d0,d1⟩:=RdR.get HV3.out hbs hlj
          have HE2:=hid (show blkB (xx,xy) (yx,yy) (zx,zy) rv[j]! = false→∀q,q<j+1→blkB (xx,xy) (yx,yy) (zx,zy) rv[q]! = false from fun h q hq=>by
           by_cases e:q=j
           ·subst e;exact h
           ·exact HJ.out q (by omega))
          have HWS:=hid (HBA.out.trans (hbs.mono HBA.out.size));have hC:=hid fun W (hb:Below wr.heap.size wr W)=>HBL.out _ (HN2.out j hlj) W (HWS.out.trans (hb.mono HWS.out.size))
          generalize blkB (xx,xy) (yx,yy) (zx,zy) rv[j]! = r at *;generalize rv[j]! = q at *;obtain⟨qx,qy⟩:=q;dsimp only at d0 d1 hC;clear hbs;go_wp2_with fail;refine(hC.out _ (bw1 wr _)).mono ?_;rintro e w9 ⟨rfl,hb9⟩;have HB9:=hid ((bw1 wr _).trans (hb9.mono (bw1 wr _).size));clear hb9 d0 d1 hC;cases r
          ·have HQ:=hid (HE2.out rfl)
           go_wp2_with fail;go_roundw
           case rel=>exact⟨j+1,by omega,by go_num,rfl,HQ,HBS.out.trans (HB9.out.mono HBS.out.size)⟩
           case measure=>simp[intOf];omega
          ·have HZ:=hid (HG8.out _ (HWS.out.trans (HB9.out.mono HWS.out.size))).2
           go_wp2_with fail
           try simp only[Exit.noGoto_ret]
           go_ret;exact eU.no HZ.out
         ·obtain rfl:rv.length=j:=by omega
          have hge:¬((rv.length:Int)<(rv.length:Int)):=by omega
          have HQ:=hid (HE.out HJ.out);go_wp2_with fail
          try simp only[Exit.noGoto_normal]
          go_wp2_with fail;go_roundw
          case rel=>exact⟨k+1,by omega,by go_num,by first|rfl|trivial,HQ,HBA.out.trans (HBS.out.mono HBA.out.size)⟩
          case measure=>simp[intOf];omega
       ·obtain rfl:p.arcs.length=k:=by omega
        have hge:¬((p.arcs.length:Int)<(p.arcs.length:Int)):=by omega
        have HZ:=hid (HG8.out _ HBQ.out).2;have HPf:=HF.out HLO HPR.out HN.out HA.out;go_wp2_with fail
        try simp only[Exit.noGoto_ret]
        go_ret;exact⟨true,rfl,fun _=>HPf,HZ.out⟩
end Go.Proofs
namespace Go.Proofs
open Go.RowKit Go.Proofs.Mp Go.Lib
theorem pQ(x y z:Int):mnI x y z≤x∧mnI x y z≤y∧mnI x y z≤z:=by
 unfold mnI
 repeat' split
 all_goals omega
theorem pP(x y z:Int):x≤mxI x y z∧y≤mxI x y z∧z≤mxI x y z:=by
 unfold mxI
 repeat' split
 all_goals omega
theorem tI{T A B C x y z q m:Int}(hT:0<T)(hA:0≤A)(hB:0≤B)(hC:0≤C)(e:T*q=A*x+B*y+C*z)(hs:A+B+C=T)(hx:x≤m)(hy:y≤m)(hz:z≤m):q≤m:=by
 have h1:=Int.mul_le_mul_of_nonneg_left hx hA;have h2:=Int.mul_le_mul_of_nonneg_left hy hB;have h3:=Int.mul_le_mul_of_nonneg_left hz hC;have h4:T*m=A*m+B*m+C*m:=by rw[←hs];grind
 exact Int.le_of_mul_le_mul_left (by omega) hT
theorem tH{T A B C x y z q:Int}(hT:T≠0)(hA:0≤T*A)(hB:0≤T*B)(hC:0≤T*C)(e:T*q=A*x+B*y+C*z)(hs:A+B+C=T):mnI x y z≤q∧q≤mxI x y z:=by
 obtain⟨a1,a2,a3⟩:=pQ x y z;obtain⟨b1,b2,b3⟩:=pP x y z;generalize mnI x y z=m at *;generalize mxI x y z=M at *
 have hTT:0<T*T:=by
  rcases Int.lt_or_gt_of_ne hT with h|h
  ·exact Int.mul_pos_of_neg_of_neg h h
  ·exact Int.mul_pos h h
 have e2:T*T*q=T*A*x+T*B*y+T*C*z:=by grind
 have hs2:T*A+T*B+T*C=T*T:=by rw[←Int.mul_add,←Int.mul_add,hs]
 refine⟨?_,tI hTT hA hB hC e2 hs2 b1 b2 b3⟩;have:=tI (x:=-x) (y:=-y) (z:=-z) (q:=-q) (m:=-m) hTT hA hB hC (by grind) hs2 (by omega) (by omega) (by omega);omega
theorem qG{a b c q:Pt}(h:inT a b c q):mnI a.1 b.1 c.1≤q.1∧q.1≤mxI a.1 b.1 c.1∧mnI a.2 b.2 c.2≤q.2∧q.2≤mxI a.2 b.2 c.2:=by
 by_cases hT:tw a b c=0
 ·unfold inT at h
  rw[if_pos ((bL _ _ _).2 hT)]at h;have u1:=pQ a.1 b.1 c.1;have u2:=pP a.1 b.1 c.1;have u3:=pQ a.2 b.2 c.2;have u4:=pP a.2 b.2 c.2
  rcases h with h|h|h
  all_goals
   rw[aM]at h;have h:=h.2;unfold inBx at h;omega
 ·rw[fJ hT]at h
  obtain⟨h1,h2,h3⟩:=h;have hs:tw b c q+tw c a q+tw a b q=tw a b c:=by unfold tw;grind
  have x1:=tH (x:=a.1) (y:=b.1) (z:=c.1) (q:=q.1) hT h2 h3 h1 (by unfold tw;grind) hs;have x2:=tH (x:=a.2) (y:=b.2) (z:=c.2) (q:=q.2) hT h2 h3 h1 (by unfold tw;grind) hs;exact⟨x1.1,x1.2,x2.1,x2.2⟩
theorem oC{l:List Pt}{i:Nat}:(fun k=>(l.eraseIdx (i+1))[k]!)=dG (fun k=>l[k]!) i:=by
 funext k
 unfold dG;simp only[getElem!_def,List.getElem?_eraseIdx]
 by_cases h:k≤i
 ·rw[if_pos (by omega),if_pos h]
 ·rw[if_neg (by omega),if_neg h]
theorem gi{a b c q:Pt}(h:blkB a b c q=false):bU a b c q:=by
 by_cases e1:q=a
 ·exact Or.inl e1
 by_cases e2:q=b
 ·exact Or.inr (Or.inl e2)
 by_cases e3:q=c
 ·exact Or.inr (Or.inr (Or.inl e3))
 refine Or.inr (Or.inr (Or.inr fun hT=>?_));have hb:=qG hT;unfold blkB at h;rw[decide_eq_false e1,decide_eq_false e2,decide_eq_false e3]at h;simp only[Bool.not_false,Bool.true_and]at h;unfold inC kY at h;dsimp only at h;rw[decide_eq_true ⟨hb.1,hb.2.1,hb.2.2.1,hb.2.2.2⟩,Bool.true_and]at h;unfold inT at hT;split at hT
 ·rename_i hz
  rw[if_pos hz]at h;simp only[Bool.or_eq_false_iff]at h
  rcases hT with k|k|k
  ·rw[k]at h;exact absurd h.1.1 (by simp)
  ·rw[k]at h;exact absurd h.1.2 (by simp)
  ·rw[k]at h;exact absurd h.2 (by simp)
 ·rename_i hz
  rw[if_neg hz,decide_eq_true hT.1,decide_eq_true hT.2.1,decide_eq_true hT.2.2]at h;cases h
def fO(a:Ar)(i:Nat):Ar:=⟨a.id,a.frm,a.dst,a.via.eraseIdx i,a.lf,a.rt⟩
def aK(p:Pn)(k i:Nat):Pn:=⟨p.nodes,p.arcs.set k (fO p.arcs[k]! i),p.faces⟩
theorem eE{α:Type}[Inhabited α]{l:List α}{k j:Nat}{a:α}(hk:k<l.length):(l.set k a)[j]! = if k=j then a else l[j]!:=by
 by_cases e:k=j
 ·subst e
  rw[if_pos rfl];simp[hk]
 ·rw[if_neg e]
  simp[getElem!_def,List.getElem?_set,e]
section
variable {p:Pn}{k i:Nat}(hk:k<p.arcs.length)
include hk
theorem js:(aK p k i).arcs[k]! = fO p.arcs[k]! i:=by
 unfold aK;rw[eE hk,if_pos rfl]
omit hk in
theorem aT:(aK p k i).arcs.length=p.arcs.length:=by simp[aK]
theorem jt{j:Nat}(h:j≠k):(aK p k i).arcs[j]! = p.arcs[j]!:=by
 unfold aK;rw[eE hk,if_neg (fun e=>h e.symm)]
theorem ij(j:Nat):(aK p k i).arcs[j]!.id=p.arcs[j]!.id∧(aK p k i).arcs[j]!.frm=p.arcs[j]!.frm∧(aK p k i).arcs[j]!.dst=p.arcs[j]!.dst∧(aK p k i).arcs[j]!.lf=p.arcs[j]!.lf∧(aK p k i).arcs[j]!.rt=p.arcs[j]!.rt:=by
 by_cases h:j=k
 ·subst h
  rw[js hk];exact⟨rfl,rfl,rfl,rfl,rfl⟩
 ·rw[jt hk h]
  exact⟨rfl,rfl,rfl,rfl,rfl⟩
theorem qg{j:Nat}{q:Pt}(h:q∈(aK p k i).arcs[j]!.via):q∈p.arcs[j]!.via:=by
 by_cases e:j=k
 ·subst e
  rw[js hk]at h;exact List.mem_of_mem_eraseIdx h
 ·rwa [jt hk e]at h
theorem rP(j:Nat):(aK p k i).arcs[j]!.via.length≤p.arcs[j]!.via.length:=by
 by_cases e:j=k
 ·subst e
  rw[js hk];unfold fO;exact List.length_eraseIdx_le _ _
 ·rw[jt hk e]
  exact Nat.le_refl _
theorem kI:(aK p k i).arcs.map Ar.id=p.arcs.map Ar.id:=by
 apply List.ext_getElem
 ·simp[aK]
 ·intro n h1 h2
  have h2':n<p.arcs.length:=by simpa using h2
  have g1:n<(aK p k i).arcs.length:=by simpa [aK] using h2'
  rw[List.getElem_map,List.getElem_map,←getElem!_pos (aK p k i).arcs n g1,←getElem!_pos p.arcs n h2'];exact(ij hk n).1
theorem ig(h:aL p):aL (aK p k i) where
 an:=h.an
 aa:=by rw[kI hk];exact h.aa
 bn:=h.bn
 pl:=⟨h.pl.1,fun j hj m hm=>by
  rw[aT]at hj;obtain⟨n,hn,e⟩:=aw (qg hk (ak hm));rw[←e]
  exact h.pl.2 j hj n hn⟩
 cn:=⟨h.cn.1,fun j hj=>by
  rw[aT]at hj;obtain⟨_,e1,e2,_,_⟩:=ij (i:=i) hk j;have:=h.cn.2.1 j hj;unfold okE at *;rw[e1,e2];exact this,fun j hj=>by
  rw[aT]at hj;obtain⟨_,_,_,e1,e2⟩:=ij (i:=i) hk j;have:=h.cn.2.2 j hj;unfold okS at *;rw[e1,e2]
  exact this⟩
theorem kH(h:aL p){j:Nat}(hj:j<p.arcs.length)(e:j≠k):pth (aK p k i) j=pth p j:=by
 rw[(ig hk h).pth (by rw[aT];exact hj),h.pth hj,jt hk e];rfl
theorem iY(h:aL p)(hi:i<p.arcs[k]!.via.length):pth (aK p k i) k=(pth p k).eraseIdx (i+1):=by
 rw[(ig hk h).pth (by rw[aT];exact hk),h.pth hk,js hk,List.eraseIdx_cons_succ,List.eraseIdx_append_of_lt_length hi];rfl
end
theorem lP{p:Pn}{k i:Nat}(h:CheckP p)(hk:k<p.arcs.length)(hi:i<p.arcs[k]!.via.length)(F:FreeOK p p.arcs[k]! (pth p k)[i]! (pth p k)[i+1]! (pth p k)[i+2]!):CheckP (aK p k i):=by
 have hP:=h.pre;have hl:=hP.plen hk;have hN:i+2<pl p k:=by show i+2<(pth p k).length;omega
 have clr:∀j,j<p.arcs.length→∀q∈pth p j,bU (pf p k i) (pf p k (i+1)) (pf p k (i+2)) q:=by
  intro j hj q hq
  have nd:∀id,isN p id→bU (pf p k i) (pf p k (i+1)) (pf p k (i+2)) (gP p id):=by
   rintro id ⟨r,hr⟩;obtain⟨n,hn,e⟩:=aw hr;have:=F.nd n hn;rw[e]at this;rw[hP.gP hr];exact gi this
  rw[hP.pth hj]at hq
  rcases List.mem_cons.1 hq with rfl|hq
  ·exact nd _ (hP.ends hj).1
  rcases List.mem_append.1 hq with hq|hq
  ·obtain⟨n,hn,e⟩:=aw hq
   rw[←e];exact gi (F.via j hj n hn)
  ·rw[List.mem_singleton.1 hq]
   exact nd _ (hP.ends hj).2
 have cnd:∀id,isN p id→bU (pf p k i) (pf p k (i+1)) (pf p k (i+2)) (gP p id):=by
  rintro id ⟨r,hr⟩;obtain⟨n,hn,e⟩:=aw hr;have:=F.nd n hn;rw[e]at this;rw[hP.gP hr];exact gi this
 have clr':∀j,j<p.arcs.length→∀m,m<pl p j→bU (pf p k i) (pf p k (i+1)) (pf p k (i+2)) (pf p j m):=fun j hj m hm=>clr j hj _ (ak hm)
 have h5:lp p k→5≤pl p k:=fun e=>by
  have:=F.loop e
  show 5≤(pth p k).length
  omega
 have fk:pf (aK p k i) k=dG (pf p k) i:=by
  unfold pf;rw[iY hk hP hi];exact oC
 have nk:pl (aK p k i) k=pl p k-1:=by
  unfold pl;rw[iY hk hP hi,List.length_eraseIdx_of_lt (by omega)]
 have fj:∀j,j<p.arcs.length→j≠k→pf (aK p k i) j=pf p j:=fun j hj e=>by
  unfold pf;rw[kH hk hP hj e]
 have nj:∀j,j<p.arcs.length→j≠k→pl (aK p k i) j=pl p j:=fun j hj e=>by
  unfold pl;rw[kH hk hP hj e]
 have ff:=fun j=>(ij (i:=i) hk j).2.1
 have fd:=fun j=>(ij (i:=i) hk j).2.2.1
 have lj:∀j,lp (aK p k i) j=lp p j:=fun j=>by
  unfold lp;rw[ff,fd]
 have hA:=qv (h.plane.arc k hk) hN h5 (clr' k hk)
 have hPr:∀q,q<p.arcs.length→q≠k→gm (gP p) (dG (pf p k) i) (pl p k-1) p.arcs[k]!.frm p.arcs[k]!.dst (pf p q) (pl p q) p.arcs[q]!.frm p.arcs[q]!.dst:=fun q hq e=>
  nC (h.plane.arc k hk) (h.plane.arc q hq) hN (h.plane.ends k hk) (h.plane.ends q hq) (h.plane.node k hk) (h.plane.node q hq) (h.plane.pair k q hk hq (fun x=>e x.symm)) (clr' q hq) (fun e3 e2 hx=>by
   have e3:(pth p k).length=3:=e3;have e2:(pth p q).length=2:=e2;have hlq:=hP.plen hq;have:=F.par (by omega) q hq;unfold parB at this;have hid:p.arcs[q]!.id≠p.arcs[k]!.id:=fun x=>e (hP.ids hq hk x)
   have hv:p.arcs[q]!.via.length=0:=by omega
   rcases hx with⟨x1,x2⟩|⟨x1,x2⟩
   ·rw[bne_iff_ne.2 hid,beq_iff_eq.2 hv,beq_iff_eq.2 x1,beq_iff_eq.2 x2]at this
    cases this
   ·rw[bne_iff_ne.2 hid,beq_iff_eq.2 hv,beq_iff_eq.2 x1,beq_iff_eq.2 x2]at this
    simp at this)
 refine⟨h.l1,by rw[aT];exact h.l2,h.l3,fun j hj=>?_,ig hk hP,h.af,by rw[kI hk];exact h.ba,h.bf,⟨fun j hj=>?_,fun j q hj hq hne=>?_,fun j hj=>?_,fun j hj=>?_⟩⟩
 ·rw[aT]at hj
  exact Nat.le_trans (rP hk j) (h.lv j hj)
 ·rw[aT]at hj
  rw[lj]
  by_cases e:j=k
  ·subst e
   rw[fk,nk];exact hA
  ·rw[fj j hj e,nj j hj e]
   exact h.plane.arc j hj
 ·rw[aT]at hj hq
  rw[ff,fd,ff,fd]
  by_cases e:j=k
  ·subst e
   rw[fk,nk,fj q hq (fun x=>hne x.symm),nj q hq (fun x=>hne x.symm)];exact hPr q hq (fun x=>hne x.symm)
  ·rw[fj j hj e,nj j hj e]
   by_cases e2:q=k
   ·subst e2
    rw[fk,nk];exact nw hA (h.plane.arc j hj) (hPr j hj e)
   ·rw[fj q hq e2,nj q hq e2]
    exact h.plane.pair j q hj hq hne
 ·rw[aT]at hj
  rw[ff,fd]
  by_cases e:j=k
  ·subst e
   rw[fk,nk];exact nK (h.plane.arc j hj) hN (h.plane.ends j hj) (h.plane.node j hj) cnd
  ·rw[fj j hj e,nj j hj e]
   exact h.plane.node j hj
 ·rw[aT]at hj
  rw[ff,fd]
  by_cases e:j=k
  ·subst e
   rw[fk,nk];exact ov hN (h.plane.ends j hj)
  ·rw[fj j hj e,nj j hj e]
   exact h.plane.ends j hj
end Go.Proofs
