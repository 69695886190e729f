/- Lemmas and walks; no statement of a law is proved here. -/
import Derived.Test.YtaglmdebikglgaaGreatDoorX04
import Derived.Laws.EntriesVeiled
set_option linter.unusedVariables false
set_option linter.unusedSimpArgs false
set_option maxRecDepth 100000
set_option maxHeartbeats 8000000
open Go.Lib
namespace Go.Proofs
open Go.RowKit Go.Proofs.Mp Go.Lib Go.Proofs.Ed
def qr:Option (Pt×Pt)→Value
 | some (c,d)=>.tuple #[ae c,ae d,.bool true]
 | none=>.tuple #[ae (0,0),ae (0,0),.bool false]
def Bo.to(b:Bo):Bx4:=⟨b.x0,b.y0,b.x1,b.y1⟩
structure SmB(b:Bo):Prop where
 x0:Sm b.x0
 y0:Sm b.y0
 x1:Sm b.x1
 y1:Sm b.y1
theorem Bx.new'{b:Nat}{t:TypeId}{cs:List Value}{c:Array Value}(w:World)(hb:b=w.heap.size)(hc:c=cs.toArray):Bx (w.alloc (.cells c t)) b t cs:=by subst hb;exact Bx.new w hc
structure gA(w W:World)(na nb nx nc nd nO:Nat)(a b:Pt)(x:Bo):Prop where
 a:az W na a
 b:az W nb b
 x:Bx W nx 48 [x.x0,x.y0,x.x1,x.y1]
 c:az W nc (0,0)
 d:az W nd (0,0)
 bel:Below w.heap.size w W
 lo:w.heap.size≤na∧na<nb∧nb<nx∧nx<nc∧nc<nd∧nd<nO
theorem gA.begin(w:World)(a1 a2 b1 b2 x0 y0 x1 y1:Int):gA w ((((((w.alloc (.cells #[a1,a2] 30)).alloc (.cells #[b1,b2] 30)).alloc (.cells #[x0,y0,x1,y1] 48)).alloc (.cells #[.int .i64 0,.int .i64 0] 30)).alloc (.cells #[.int .i64 0,.int .i64 0] 30)).alloc (.cells #[.bool false] 4)) w.heap.size (w.heap.size+1) (w.heap.size+1+1) (w.heap.size+1+1+1) (w.heap.size+1+1+1+1) (w.heap.size+1+1+1+1+1) (a1,a2) (b1,b2) ⟨x0,y0,x1,y1⟩ ∧
  Bx ((((((w.alloc (.cells #[a1,a2] 30)).alloc (.cells #[b1,b2] 30)).alloc (.cells #[x0,y0,x1,y1] 48)).alloc (.cells #[.int .i64 0,.int .i64 0] 30)).alloc (.cells #[.int .i64 0,.int .i64 0] 30)).alloc (.cells #[.bool false] 4)) (w.heap.size+1+1+1+1+1) 4 [.bool false]:=by
 have k1:az (w.alloc (.cells #[a1,a2] 30)) w.heap.size (a1,a2):=az.new w (a1,a2);have k2:=Bx.new' (b:=w.heap.size+1) (t:=30) (cs:=[.int .i64 b1,.int .i64 b2]) (w.alloc (.cells #[a1,a2] 30)) (by simp) rfl;have k3:=Bx.new' (b:=w.heap.size+1+1) (t:=48) (cs:=[.int .i64 x0,.int .i64 y0,.int .i64 x1,.int .i64 y1]) ((w.alloc (.cells #[a1,a2] 30)).alloc (.cells #[b1,b2] 30)) (by simp) rfl;have k4:=Bx.new' (b:=w.heap.size+1+1+1) (t:=30) (cs:=[.int .i64 0,.int .i64 0]) (((w.alloc (.cells #[a1,a2] 30)).alloc (.cells #[b1,b2] 30)).alloc (.cells #[x0,y0,x1,y1] 48)) (by simp) rfl;have k5:=Bx.new' (b:=w.heap.size+1+1+1+1) (t:=30) (cs:=[.int .i64 0,.int .i64 0]) ((((w.alloc (.cells #[a1,a2] 30)).alloc (.cells #[b1,b2] 30)).alloc (.cells #[x0,y0,x1,y1] 48)).alloc (.cells #[.int .i64 0,.int .i64 0] 30)) (by simp) rfl;have k6:=Bx.new' (b:=w.heap.size+1+1+1+1+1) (t:=4) (cs:=[.bool false]) (((((w.alloc (.cells #[a1,a2] 30)).alloc (.cells #[b1,b2] 30)).alloc (.cells #[x0,y0,x1,y1] 48)).alloc (.cells #[.int .i64 0,.int .i64 0] 30)).alloc (.cells #[.int .i64 0,.int .i64 0] 30)) (by simp) rfl;refine⟨⟨((((k1.alloc _).alloc _).alloc _).alloc _).alloc _,(((k2.alloc _).alloc _).alloc _).alloc _,((k3.alloc _).alloc _).alloc _,(k4.alloc _).alloc _,k5.alloc _,?_,by omega⟩,k6⟩;exact((bw4 w _ _ _ _).trans ((bw1 _ _).mono (bw4 w _ _ _ _).size)).trans ((bw1 _ _).mono ((bw4 w _ _ _ _).trans ((bw1 _ _).mono (bw4 w _ _ _ _).size)).size)
theorem gA.below{w W W':World}{na nb nx nc nd nO:Nat}{a b:Pt}{x:Bo}(h:gA w W na nb nx nc nd nO a b x)(hb:Below nO W W'):gA w W' na nb nx nc nd nO a b x:=by
 have:=h.lo;exact⟨(hb.block _ (by omega)).trans h.a,(hb.block _ (by omega)).trans h.b,Row.below h.x hb (by omega),(hb.block _ (by omega)).trans h.c,(hb.block _ (by omega)).trans h.d,h.bel.trans (hb.mono (by omega)),h.lo⟩
theorem bD.ab{w:World}{nO:Nat}{k:Bool}(h:Bx w nO 4 [.bool k])(s:Cl):bD nO nO w.heap.size (w.heap.size+1) w (((w.setCell ⟨nO,0,none⟩ (.bool s.2.2)).alloc (.cells #[s.1.1,s.1.2.1,s.1.2.2.1,s.1.2.2.2] 222)).alloc (.cells #[s.2.1.1,s.2.1.2.1,s.2.1.2.2.1,s.2.1.2.2.2] 222)).drew s:=by
 have h1:=h.set 0 (.bool s.2.2);have hz:(w.setCell ⟨nO,0,none⟩ (.bool s.2.2)).heap.size=w.heap.size:=by simp
 have hl:=h.lt;have hb:=h.setB (Below.refl nO w) (Nat.le_refl _) 0 (.bool s.2.2);refine⟨(((hb.alloc (by omega) _).alloc (by simp;omega) _)).drew,(h1.alloc _).alloc _,(Bx.new' (b:=w.heap.size) (cs:=plC s.1) _ (by omega) rfl).alloc _,Bx.new' (cs:=plC s.2.1) _ (by simp) rfl⟩
theorem bD.ba{w:World}{nO:Nat}{k:Bool}(h:Bx w nO 4 [.bool k])(s:Cl):bD nO nO (w.heap.size+1) w.heap.size w (((w.setCell ⟨nO,0,none⟩ (.bool s.2.2)).alloc (.cells #[s.2.1.1,s.2.1.2.1,s.2.1.2.2.1,s.2.1.2.2.2] 222)).alloc (.cells #[s.1.1,s.1.2.1,s.1.2.2.1,s.1.2.2.2] 222)).drew s:=by
 have h1:=h.set 0 (.bool s.2.2);have hz:(w.setCell ⟨nO,0,none⟩ (.bool s.2.2)).heap.size=w.heap.size:=by simp
 have hl:=h.lt;have hb:=h.setB (Below.refl nO w) (Nat.le_refl _) 0 (.bool s.2.2);refine⟨(((hb.alloc (by omega) _).alloc (by simp;omega) _)).drew,(h1.alloc _).alloc _,Bx.new' (cs:=plC s.1) _ (by simp) rfl,(Bx.new' (b:=w.heap.size) (cs:=plC s.2.1) _ (by omega) rfl).alloc _⟩
theorem az.bx{W:World}{n:Nat}{p:Pt}(h:az W n p):Bx W n 30 [p.1,p.2]:=h
theorem gA.ret{w W:World}{na nb nx nc nd nO:Nat}{a b:Pt}{x:Bo}{k':Bool}(h:gA w W na nb nx nc nd nO a b x)(hO:Bx W nO 4 [.bool k'])(c d:Pt)(k:Bool) :
  ∃W',W'=(setP (setP W nc c) nd d).setCell ⟨nO,0,none⟩ (.bool k)∧W'.cell? ⟨nc,0,none⟩=some (.int .i64 c.1)∧W'.cell? ⟨nc,1,none⟩=some (.int .i64 c.2)∧W'.cell? ⟨nd,0,none⟩=some (.int .i64 d.1)∧W'.cell? ⟨nd,1,none⟩=some (.int .i64 d.2)∧W'.cell? ⟨nO,0,none⟩=some (.bool k)∧Below w.heap.size w W':=by
 have hl:=h.lo;have h1:=(((h.c.bx.set 0 (.int .i64 c.1)).set 1 (.int .i64 c.2)).other (n:=nd) (by omega) 0 (.int .i64 d.1)).other (n:=nd) (by omega) 1 (.int .i64 d.2) |>.other (n:=nO) (by omega) 0 (.bool k);have h2:=((((h.d.bx.other (n:=nc) (by omega) 0 (.int .i64 c.1)).other (n:=nc) (by omega) 1 (.int .i64 c.2)).set 0 (.int .i64 d.1)).set 1 (.int .i64 d.2)).other (n:=nO) (by omega) 0 (.bool k);have h3:=((((hO.other (n:=nc) (by omega) 0 (.int .i64 c.1)).other (n:=nc) (by omega) 1 (.int .i64 c.2)).other (n:=nd) (by omega) 0 (.int .i64 d.1)).other (n:=nd) (by omega) 1 (.int .i64 d.2)).set 0 (.bool k);refine⟨_,rfl,h1.cell 0,h1.cell 1,h2.cell 0,h2.cell 1,h3.cell 0,?_⟩;exact((((h.bel.setCell (p:=⟨nc,0,none⟩) (by show w.heap.size≤nc;omega) _).setCell (p:=⟨nc,1,none⟩) (by show w.heap.size≤nc;omega) _).setCell (p:=⟨nd,0,none⟩) (by show w.heap.size≤nd;omega) _).setCell (p:=⟨nd,1,none⟩) (by show w.heap.size≤nd;omega) _).setCell (p:=⟨nO,0,none⟩) (by show w.heap.size≤nO;omega) _
theorem qh(a b:Pt)(x:Bo)(w:World)(ha:Nr a)(hb:Nr b)(hx:SmB x):Calls Tryz.prog 110 #[ae a,ae b,bj x] w (RetV w (qr (clipS a b x.to))):=by
 have cA:=hid fun W n hn cap=>ub a b ha hb W n hn cap
 have HR:=hid (show ∀s1 s,s1=limS a.1 (b.1-a.1) x.x0 x.x1 (fun v=>(v,atX a b v)) ((0,1,a),(1,1,b),true)→s=limS a.2 (b.2-a.2) x.y0 x.y1 (fun v=>(atY a b v,v)) s1 →
  clipS a b x.to=if s.2.2=false∨lessS (s.2.1.1,s.2.1.2.1) (s.1.1,s.1.2.1)=true then none else some (s.1.2.2,s.2.1.2.2)from fun s1 s e1 e2=>by rw[e2,e1];rfl)
 have hmf:∀(fn:Fn) (first cap:Array Value) (w:World),(Instr.makeFunc fn first cap).run Tryz.prog w=.ok (.func fn first cap) w:=fun _ _ _ _=>rfl
 have HA:=hid ha;have HB:=hid hb;have HX:=hid hx;clear ha hb hx;generalize clipS a b x.to=R at *;obtain⟨a1,a2⟩:=a;obtain⟨b1,b2⟩:=b;obtain⟨x0,y0,x1,y1⟩:=x;unfold ae bj at *;dsimp only at *;go_enter Tryz.func110,Tryz.ntmps110;go_upto_region 1 with fail;obtain⟨hcb,hO⟩:=gA.begin w a1 a2 b1 b2 x0 y0 x1 y1;generalize ((((((w.alloc (.cells #[a1,a2] 30)).alloc (.cells #[b1,b2] 30)).alloc (.cells #[x0,y0,x1,y1] 48)).alloc (.cells #[.int .i64 0,.int .i64 0] 30)).alloc (.cells #[.int .i64 0,.int .i64 0] 30)).alloc (.cells #[.bool false] 4))=wA at *;generalize w.heap.size+1+1+1+1+1=nO at *;generalize w.heap.size+1+1+1+1=nd at *;generalize w.heap.size+1+1+1=nc at *;generalize w.heap.size+1+1=nx at *;generalize w.heap.size+1=nb at *;generalize hna:w.heap.size=na at *;have HNA:=hid hna;clear hna;have k1:=hcb.a.c0;have k2:=hcb.a.c1;have k3:=hcb.b.c0;have k4:=hcb.b.c1;dsimp only at k1 k2 k3 k4;go_wp2_with fail;refine(cA.out _ _ (by simp) _).mono ?_;rintro e w1 ⟨rfl,hb1⟩;have hb2:=(bw1 wA (.cells #[a1,a2,b1,b2] 30)).trans (hb1.mono (bw1 wA _).size);have hsz:nO<wA.heap.size:=hO.lt;have hcb1:=hcb.below (hb2.mono (Nat.le_of_lt hsz));have hO1:=hO.below hb2;have hs1:nO<w1.heap.size:=hO1.lt;clear hb1 k1 k2 k3 k4 hb2 hcb hO cA hsz;go_upto_region 3 with fail;go_cut [9,10] (fun v9 v10 wx=>∃nF nL,v9=.pointer (some ⟨nF,0,none⟩)∧v10=.pointer (some ⟨nL,0,none⟩)∧nO<nF∧nO<nL∧nF≠nL∧bD nO nO nF nL w1 wx ((0,1,(a1,a2)),(1,1,(b1,b2)),true))
 case first=>
  have k1:=hcb1.a.c0;have k2:=hcb1.a.c1;have k3:=hcb1.b.c0;have k4:=hcb1.b.c1;have k5:=hO1.cell 0;have f5:=hO1.frozen 0;simp only[gz]at k5;dsimp only at k1 k2 k3 k4;have l1:=hcb1.a.lt;have l2:=hcb1.b.lt;clear HR HA HB HX HNA hcb1;go_region
  all_goals
   go_wp2_with fail;go_meet
  ·exact⟨_,_,rfl,rfl,hs1,Nat.lt_succ_of_lt hs1,by omega,bD.ab hO1 ((0,1,(a1,a2)),(1,1,(b1,b2)),true)⟩
  ·exact⟨_,_,rfl,rfl,Nat.lt_succ_of_lt hs1,hs1,by omega,bD.ba hO1 ((0,1,(a1,a2)),(1,1,(b1,b2)),true)⟩
 case rest=>
  obtain⟨nF,nL,rfl,rfl,h1,h2,h3,hL0⟩:=hcut;generalize wc=w2 at *;have HL0:=hid hL0;have hd:lW nO nO nF nL:=⟨Nat.le_refl _,Nat.le_of_lt h1,Nat.le_of_lt h2,Nat.ne_of_lt h1,Nat.ne_of_lt h2,h3⟩;have HD:=hid hd;have hs0:SmC ((0,1,(a1,a2)),(1,1,(b1,b2)),true):=⟨by unfold Sm;dsimp only;omega,by unfold Sm;dsimp only;omega,by unfold Sm;dsimp only;omega,by unfold Sm;dsimp only;omega⟩;obtain⟨ha1,ha2,ha3,ha4⟩:=HA.out;obtain⟨hb1,hb2,hb3,hb4⟩:=HB.out;dsimp only at ha1 ha2 ha3 ha4 hb1 hb2 hb3 hb4;have HCB:=hid hcb1;have hw1:IntKind.i64.wrap (b1-a1)=b1-a1:=IntWalk.i64_in _ (by omega);have hw2:IntKind.i64.wrap (b2-a2)=b2-a2:=IntWalk.i64_in _ (by omega)
  have cL1:=hid (fun W hL=>oI (c:=fun v=>(v,atX (a1,a2) (b1,b2) v)) a1 (b1-a1) x0 x1 na nb nO nF nL nO ((0,1,(a1,a2)),(1,1,(b1,b2)),true) w1 W ⟨ha1,ha2⟩ (by omega) HX.out.x0 HX.out.x1 hs0 hd
   (fun v W' hw hv hb=>by
    have k:=HCB.out.below hb
    exact qq (a1,a2) (b1,b2) v na nb W' HA.out HB.out (by dsimp only;omega) (by dsimp only;omega) (by dsimp only;omega) k.a k.b) hL)
  have HS1:=hid (pV (a:=a1) (w:=b1-a1) (f:=x0) (t:=x1) (c:=fun v=>(v,atX (a1,a2) (b1,b2) v)) ⟨ha1,ha2⟩ (by omega) hs0);have HR1:=hid (fun s=>HR.out _ s rfl);generalize limS a1 (b1-a1) x0 x1 (fun v=>(v,atX (a1,a2) (b1,b2) v)) ((0,1,(a1,a2)),(1,1,(b1,b2)),true)=s1 at *
  have cL2:=hid (fun W hL=>oH (c:=fun v=>(atY (a1,a2) (b1,b2) v,v)) a2 (b2-a2) y0 y1 na nb nO nF nL nO s1 w1 W ⟨ha3,ha4⟩ (by omega) HX.out.y0 HX.out.y1 HS1.out hd
   (fun v W' hw hv hb=>by
    have k:=HCB.out.below hb
    exact qp (a1,a2) (b1,b2) v na nb W' HA.out HB.out (by dsimp only;omega) (by dsimp only;omega) (by dsimp only;omega) k.a k.b) hL)
  have HS2:=hid (pV (a:=a2) (w:=b2-a2) (f:=y0) (t:=y1) (c:=fun v=>(atY (a1,a2) (b1,b2) v,v)) ⟨ha3,ha4⟩ (by omega) HS1.out);have HR2:=hid (HR1.out _ rfl);generalize limS a2 (b2-a2) y0 y1 (fun v=>(atY (a1,a2) (b1,b2) v,v)) s1=s2 at *;clear HR HR1 hs0 hd HA HB HX hL0 ha1 ha2 ha3 ha4 hb1 hb2 hb3 hb4 h1 h2 h3 hO1 hs1 HS1;have hcb2:=hcb1.below HL0.out.bel;have k1:=hcb2.a.c0;have k2:=hcb2.a.c1;have k3:=hcb2.b.c0;have k4:=hcb2.b.c1;have k5:=hcb2.x.cell 0;have k6:=hcb2.x.cell 2;simp only[gz,gs]at k5 k6;dsimp only at k1 k2 k3 k4;clear hcb2;go_wp2_with fail;refine(cL1.out _ HL0.out).mono ?_;rintro e w3 ⟨rfl,hL1⟩;have HL1:=hid hL1;have hcb2:=hcb1.below HL1.out.bel;clear hL1 HL0 cL1 k1 k2 k3 k4 k5 k6;have k1:=hcb2.a.c0;have k2:=hcb2.a.c1;have k3:=hcb2.b.c0;have k4:=hcb2.b.c1;have k5:=hcb2.x.cell 1;have k6:=hcb2.x.cell 3;simp only[gz,gs]at k5 k6;dsimp only at k1 k2 k3 k4;clear hcb2;go_wp2_with fail;refine(cL2.out _ HL1.out).mono ?_;rintro e w4 ⟨rfl,hL2⟩;have HL2:=hid hL2;have hcb2:=hcb1.below HL2.out.bel;clear hL2 HL1 cL2 k1 k2 k3 k4 k5 k6;have ho1:=HL2.out.o;obtain⟨⟨n1,m1,c1,c2⟩,⟨n2,m2,d1,d2⟩,ok⟩:=s2;dsimp only at HR2 ho1;have g1:=hcb2.c.c0;have g2:=hcb2.c.c1;have g3:=hcb2.d.c0;have g4:=hcb2.d.c1;have f1:=hcb2.c.f0;have f2:=hcb2.c.f1;have f3:=hcb2.d.f0;have f4:=hcb2.d.f1;have g5:=ho1.cell 0;have f5:=ho1.frozen 0;simp only[gz]at g5;obtain⟨l1,l2,l3,l4,l5,l6⟩:=hcb2.lo;cases ok
  ·obtain⟨w5,hw5,r1,r2,r3,r4,r5,hbel⟩:=hcb2.ret ho1 (0,0) (0,0) false
   obtain rfl:R=none:=by rw[HR2.out,if_pos (Or.inl rfl)]
   have HR5:=hid (And.intro r1 (And.intro r2 (And.intro r3 (And.intro r4 r5))));have HW5:=hid hw5;clear r1 r2 r3 r4 r5 hw5 hcb1 hcb2 HL2 HR2 HS2 HCB;go_wp2_with fail;change bodyPost _ _ _ _ _ ((setP (setP w4 nc (0,0)) nd (0,0)).setCell ⟨nO,0,none⟩ (.bool false));rw[←HW5.out];obtain⟨r1,r2,r3,r4,r5⟩:=HR5.out;refine bodyPost_ret (v:=.tuple #[ae (0,0),ae (0,0),.bool false]) (by simp[results,Tryz.results110,go_sem,r1,r2,r3,r4,r5,ae]) rfl ?_;exact⟨rfl,hbel⟩
  ·have k0:=HL2.out.f.cell 0
   have k1:=HL2.out.f.cell 1;have k2:=HL2.out.f.cell 2;have k3:=HL2.out.f.cell 3;have p0:=HL2.out.l.cell 0;have p1:=HL2.out.l.cell 1;have p2:=HL2.out.l.cell 2;have p3:=HL2.out.l.cell 3;unfold plC at k0 k1 k2 k3 p0 p1 p2 p3;simp only[gz,gs]at k0 k1 k2 k3 p0 p1 p2 p3;have cS:=hid (fun W=>ez n2 m2 n1 m1 (d1,d2) (c1,c2) W HS2.out.2.2.1 HS2.out.2.2.2 HS2.out.1 HS2.out.2.1);unfold plE at cS;dsimp only at cS;have HL2':=hid HL2.out;clear g1 g2 g3 g4 f1 f2 f3 f4 f5 hcb2 ho1;go_wp2_with fail;refine(cS.out _).mono ?_;rintro e w5 ⟨rfl,hb5⟩;have HL5:=hid (HL2.out.below HD.out hb5);have hcb2:=hcb1.below HL5.out.bel;have ho1:=HL5.out.o;clear k0 k1 k2 k3 p0 p1 p2 p3 hb5 HL2 HL2' g5;have g1:=hcb2.c.c0;have g2:=hcb2.c.c1;have g3:=hcb2.d.c0;have g4:=hcb2.d.c1;have f1:=hcb2.c.f0;have f2:=hcb2.c.f1;have f3:=hcb2.d.f0;have f4:=hcb2.d.f1;have g5:=ho1.cell 0;have f5:=ho1.frozen 0;simp only[gz]at g5;generalize hls:lessS (n2,m2) (n1,m1)=ls at *;cases ls
   ·obtain⟨w6,hw6,r1,r2,r3,r4,r5,hbel⟩:=hcb2.ret ho1 (c1,c2) (d1,d2) true
    obtain rfl:R=some ((c1,c2),(d1,d2)):=by rw[HR2.out,if_neg (by simp)]
    have HR5:=hid (And.intro r1 (And.intro r2 (And.intro r3 (And.intro r4 r5))));have HW5:=hid hw6;have k2:=HL5.out.f.cell 2;have k3:=HL5.out.f.cell 3;have p2:=HL5.out.l.cell 2;have p3:=HL5.out.l.cell 3;unfold plC at k2 k3 p2 p3;simp only[gz,gs]at k2 k3 p2 p3;clear r1 r2 r3 r4 r5 hw6 hcb1 hcb2 HL5 HR2 HS2 HCB hls cS ho1;go_wp2_with fail;go_region
    all_goals
     go_wp2_with fail;change bodyPost _ _ _ _ _ (((setP (setP w5 nc (c1,c2)) nd (d1,d2)).setCell ⟨nO,0,none⟩ (.bool true)).drew);rw[←HW5.out];obtain⟨r1,r2,r3,r4,r5⟩:=HR5.out;replace r1:w6.drew.cell? ⟨nc,0,none⟩=some (.int .i64 c1):=r1;replace r2:w6.drew.cell? ⟨nc,1,none⟩=some (.int .i64 c2):=r2;replace r3:w6.drew.cell? ⟨nd,0,none⟩=some (.int .i64 d1):=r3;replace r4:w6.drew.cell? ⟨nd,1,none⟩=some (.int .i64 d2):=r4;replace r5:w6.drew.cell? ⟨nO,0,none⟩=some (.bool true):=r5;refine bodyPost_ret (v:=.tuple #[ae (c1,c2),ae (d1,d2),.bool true]) (by simp[results,Tryz.results110,go_sem,r1,r2,r3,r4,r5,ae]) rfl ?_;exact⟨rfl,hbel.drew⟩
   ·obtain⟨w6,hw6,r1,r2,r3,r4,r5,hbel⟩:=hcb2.ret ho1 (0,0) (0,0) false
    obtain rfl:R=none:=by rw[HR2.out,if_pos (Or.inr rfl)]
    have HR5:=hid (And.intro r1 (And.intro r2 (And.intro r3 (And.intro r4 r5))));have HW5:=hid hw6;clear r1 r2 r3 r4 r5 hw6 hcb1 hcb2 HL5 HR2 HS2 HCB hls cS ho1;go_wp2_with fail;change bodyPost _ _ _ _ _ ((setP (setP w5 nc (0,0)) nd (0,0)).setCell ⟨nO,0,none⟩ (.bool false));rw[←HW5.out];obtain⟨r1,r2,r3,r4,r5⟩:=HR5.out;refine bodyPost_ret (v:=.tuple #[ae (0,0),ae (0,0),.bool false]) (by simp[results,Tryz.results110,go_sem,r1,r2,r3,r4,r5,ae]) rfl ?_;exact⟨rfl,hbel⟩
end Go.Proofs
namespace Go.Proofs
open Go.RowKit Go.Proofs.Mp Go.Proofs.Ed
def faceS(s:Int):Int:=if s=1 then 3 else if s=3 then 1 else if s=2 then 4 else 2
theorem oz(s:Int)(w:World):Calls Tryz.prog 67 #[s] w (RetV w (.int .i64 (faceS s))):=by
 have HR:=hid (show faceS s=if s=1 then 3 else if s=3 then 1 else if s=2 then 4 else 2 from rfl);generalize faceS s=r at *
 by_cases h1:s=1
 ·subst h1
  obtain rfl:r=3:=HR.out;go_enter Tryz.func67,Tryz.ntmps67;go_wp2;go_ret;exact RetV.int rfl (Below.refl _ _)
 by_cases h3:s=3
 ·subst h3
  obtain rfl:r=1:=HR.out;go_enter Tryz.func67,Tryz.ntmps67;go_wp2;go_ret;exact RetV.int rfl (Below.refl _ _)
 by_cases h2:s=2
 ·subst h2
  obtain rfl:r=4:=HR.out;go_enter Tryz.func67,Tryz.ntmps67;go_wp2;go_ret;exact RetV.int rfl (Below.refl _ _)
 obtain rfl:r=2:=by rw[HR.out,if_neg h1,if_neg h3,if_neg h2]
 have b1:(s==1)=false:=by simp[h1]
 have b2:(s==2)=false:=by simp[h2]
 have b3:(s==3)=false:=by simp[h3]
 clear HR;go_enter Tryz.func67,Tryz.ntmps67;go_wp2;go_ret;exact RetV.int rfl (Below.refl _ _)
structure Eg where
 side:Int
 up:Bool
 line:Int
 lo:Int
 hi:Int
def egE(e:Eg):Value:=.agg #[e.side,.bool e.up,e.line,e.lo,e.hi]
def Eg.u(e:Eg)(p:Pt):Int:=if e.up=true then p.2 else p.1
theorem bwx(w:World)(o1 o2:Obj):Below w.heap.size w ((w.alloc o1).alloc o2):=(bw1 _ _).trans ((bw1 _ _).mono (bw1 _ _).size)
theorem fN(e:Eg)(p:Pt)(w:World):Calls Tryz.prog 37 #[egE e,ae p] w (RetV w (.int .i64 (e.u p))):=by
 obtain⟨sd,up,ln,lo,hi⟩:=e;obtain⟨x,y⟩:=p;unfold egE ae Eg.u;dsimp only;cases up
 ·go_enter Tryz.func37,Tryz.ntmps37
  go_wp2;go_ret;exact RetV.int rfl (bwx _ _ _)
 ·go_enter Tryz.func37,Tryz.ntmps37
  go_wp2;go_ret;exact RetV.int rfl (bwx _ _ _)
def cmpI(a b:Int):Int:=if a<b then -1 else if b<a then 1 else 0
theorem tc(a:Int)(w:World):Calls Tryz.prog 116 #[a] w (RetV w (.bool false)):=by
 go_enter Tryz.func116,Tryz.ntmps116;go_wp2;go_ret;exact RetV.bool (by simp) (Below.refl _ _)
theorem kK(a b:Int)(w:World):Calls Tryz.prog 75 #[a,b] w (RetV w (.int .i64 (cmpI a b))):=by
 have c1:=hid fun x W=>tc x W
 have HR:=hid (show cmpI a b=if a<b then -1 else if b<a then 1 else 0 from rfl);generalize cmpI a b=r at *
 have main:(a<b∧r=-1)∨(¬a<b∧b<a∧r=1)∨(¬a<b∧¬b<a∧r=0):=by
  rw[HR.out];split
  ·exact Or.inl ⟨by assumption,rfl⟩
  ·split
   ·exact Or.inr (Or.inl ⟨by assumption,by assumption,rfl⟩)
   ·exact Or.inr (Or.inr ⟨by assumption,by assumption,rfl⟩)
 clear HR
 rcases main with⟨h1,rfl⟩|⟨h1,h2,rfl⟩|⟨h1,h2,rfl⟩
 all_goals
  go_enter Tryz.func75,Tryz.ntmps75;go_wp2_with fail;refine(c1.out _ _).mono ?_;rintro e w1 ⟨rfl,hb1⟩;go_wp2_with fail;refine(c1.out _ _).mono ?_;rintro e w2 ⟨rfl,hb2⟩;have h0:=hb1.trans (hb2.mono hb1.size);go_wp2;go_ret;exact RetV.int rfl h0
def Eg.off(e:Eg)(p:Pt):Int:=if e.side=1∨e.side=2 then cmpI (if e.up=true then p.1 else p.2) e.line else cmpI e.line (if e.up=true then p.1 else p.2)
theorem jr(e:Eg)(p:Pt)(w:World):Calls Tryz.prog 69 #[egE e,ae p] w (RetV w (.int .i64 (e.off p))):=by
 have c1:=hid fun a b W=>kK a b W
 obtain⟨sd,up,ln,lo,hi⟩:=e;obtain⟨x,y⟩:=p;unfold egE ae Eg.off;dsimp only
 by_cases h1:sd=1
 ·subst h1
  rw[if_pos (Or.inl rfl)];cases up
  all_goals
   go_enter Tryz.func69,Tryz.ntmps69;go_wp2_with fail;refine(c1.out _ _ _).mono ?_;rintro e w1 ⟨rfl,hb⟩;go_wp2;go_ret;exact RetV.int rfl ((bwx _ _ _).trans (hb.mono (bwx _ _ _).size))
 by_cases h2:sd=2
 ·subst h2
  rw[if_pos (Or.inr rfl)];cases up
  all_goals
   go_enter Tryz.func69,Tryz.ntmps69;go_wp2_with fail;refine(c1.out _ _ _).mono ?_;rintro e w1 ⟨rfl,hb⟩;go_wp2;go_ret;exact RetV.int rfl ((bwx _ _ _).trans (hb.mono (bwx _ _ _).size))
 rw[if_neg (by omega)];have b1:(sd==1)=false:=by simp[h1]
 have b2:(sd==2)=false:=by simp[h2]
 cases up
 all_goals
  go_enter Tryz.func69,Tryz.ntmps69;go_wp2_with fail;refine(c1.out _ _ _).mono ?_;rintro e w1 ⟨rfl,hb⟩;go_wp2;go_ret;exact RetV.int rfl ((bwx _ _ _).trans (hb.mono (bwx _ _ _).size))
def mkEg(b:Bo)(s:Int):Eg:=if s=1 then ⟨1,true,b.x0,b.y0,b.y1⟩ else if s=2 then ⟨2,false,b.y0,b.x0,b.x1⟩ else if s=3 then ⟨3,true,b.x1,b.y0,b.y1⟩ else ⟨4,false,b.y1,b.x0,b.x1⟩
theorem gw(b:Bo)(s:Int)(w:World)(h:s=1∨s=2∨s=3∨s=4):Calls Tryz.prog 33 #[bj b,s] w (RetV w (.tuple #[egE (mkEg b s),.bool true])):=by
 obtain⟨x0,y0,x1,y1⟩:=b;unfold bj;dsimp only
 rcases h with h1|h2|h3|h4
 ·subst h1
  go_enter Tryz.func33,Tryz.ntmps33;go_wp2;refine bodyPost_ret (v:=.tuple #[.agg #[.int .i64 1,.bool true,x0,y0,y1],.bool true]) ?_ rfl ?_
  ·simp[results,Tryz.results33,go_sem]
  ·exact⟨rfl,bwx _ _ _⟩
 ·subst h2
  go_enter Tryz.func33,Tryz.ntmps33;go_wp2;refine bodyPost_ret (v:=.tuple #[.agg #[.int .i64 2,.bool false,y0,x0,x1],.bool true]) ?_ rfl ?_
  ·simp[results,Tryz.results33,go_sem]
  ·exact⟨rfl,bwx _ _ _⟩
 ·subst h3
  go_enter Tryz.func33,Tryz.ntmps33;go_wp2;refine bodyPost_ret (v:=.tuple #[.agg #[.int .i64 3,.bool true,x1,y0,y1],.bool true]) ?_ rfl ?_
  ·simp[results,Tryz.results33,go_sem]
  ·exact⟨rfl,bwx _ _ _⟩
 ·subst h4
  go_enter Tryz.func33,Tryz.ntmps33;go_wp2;refine bodyPost_ret (v:=.tuple #[.agg #[.int .i64 4,.bool false,y1,x0,x1],.bool true]) ?_ rfl ?_
  ·simp[results,Tryz.results33,go_sem]
  ·exact⟨rfl,bwx _ _ _⟩
end Go.Proofs
namespace Go.Proofs
open Go.RowKit Go.Proofs.Mp Go.Proofs.Ed
def Eg.mt(g:Eg)(p q:Pt):Pt:=if g.up=true then (g.line,atX p q g.line) else (atY p q g.line,g.line)
def Eg.ok(g:Eg)(p q:Pt):Prop:=if g.up=true then p.1≠q.1∧min p.1 q.1≤g.line∧g.line≤max p.1 q.1 else p.2≠q.2∧min p.2 q.2≤g.line∧g.line≤max p.2 q.2
theorem rL(g:Eg)(p q:Pt)(w:World)(hp:Nr p)(hq:Nr q)(h:g.ok p q):Calls Tryz.prog 70 #[egE g,ae p,ae q] w (RetV w (ae (g.mt p q))):=by
 obtain⟨sd,up,ln,lo,hi⟩:=g;unfold Eg.ok at h;unfold Eg.mt egE;dsimp only at *;cases up
 ·rw[if_neg (by decide)]at h ⊢
  have c1:=hid fun W=>mB p q ln W hp hq h.1 h.2.1 h.2.2
  generalize atY p q ln=r at *;clear h hp hq;obtain⟨p1,p2⟩:=p;obtain⟨q1,q2⟩:=q;unfold ae at *;dsimp only at *;have hg0:=(((Bx.new (t:=91) (cs:=[.int .i64 sd,.bool false,.int .i64 ln,.int .i64 lo,.int .i64 hi]) w rfl).alloc (.cells #[p1,p2] 30)).alloc (.cells #[q1,q2] 30)).alloc (.cells #[.int .i64 0,.int .i64 0] 30);have hp0:=((Bx.newAt (b:=w.heap.size+1) (t:=30) (cs:=[.int .i64 p1,.int .i64 p2]) (w.alloc (.cells #[sd,.bool false,ln,lo,hi] 91)) (by simp) rfl).alloc (.cells #[q1,q2] 30)).alloc (.cells #[.int .i64 0,.int .i64 0] 30);have hq0:=(Bx.newAt (b:=w.heap.size+1+1) (t:=30) (cs:=[.int .i64 q1,.int .i64 q2]) ((w.alloc (.cells #[sd,.bool false,ln,lo,hi] 91)).alloc (.cells #[p1,p2] 30)) (by simp) rfl).alloc (.cells #[.int .i64 0,.int .i64 0] 30);have hz0:=Bx.newAt (b:=w.heap.size+1+1+1) (t:=30) (cs:=[.int .i64 0,.int .i64 0]) (((w.alloc (.cells #[sd,.bool false,ln,lo,hi] 91)).alloc (.cells #[p1,p2] 30)).alloc (.cells #[q1,q2] 30)) (by simp) rfl;have hb0:=bw4 w (.cells #[sd,.bool false,ln,lo,hi] 91) (.cells #[p1,p2] 30) (.cells #[q1,q2] 30) (.cells #[.int .i64 0,.int .i64 0] 30);go_enter Tryz.func70,Tryz.ntmps70;go_upto_region 1 with fail;generalize (((w.alloc (.cells #[sd,.bool false,ln,lo,hi] 91)).alloc (.cells #[p1,p2] 30)).alloc (.cells #[q1,q2] 30)).alloc (.cells #[.int .i64 0,.int .i64 0] 30)=w1 at *;have hle:w.heap.size≤w.heap.size+1+1+1:=by omega
  have hne:w.heap.size≠w.heap.size+1+1+1:=by omega
  generalize w.heap.size+1+1+1=nz at *;generalize w.heap.size+1+1=nq at *;generalize w.heap.size+1=np at *;have k0:=hg0.cell 1;have k1:=hg0.cell 2;have k2:=hp0.cell 0;have k3:=hp0.cell 1;have k4:=hq0.cell 0;have k5:=hq0.cell 1;simp only[gz,gs]at k0 k1 k2 k3 k4 k5;go_wp2_with fail;refine(c1.out _).mono ?_;rintro e w2 ⟨rfl,hb2⟩;have hb2':=hb0.trans (hb2.mono hb0.size);have hg2:=hg0.below hb2;have hz2:=hz0.below hb2;clear hg0 hp0 hq0 hz0 hb0 hb2 k0 k1 k2 k3 k4 k5;have k1:=hg2.cell 2;have q0:=hz2.cell 0;have q1:=hz2.cell 1;have f0:=hz2.frozen 0;have f1:=hz2.frozen 1;simp only[gz,gs]at k1 q0 q1;have hz3:=(hz2.set 0 (.int .i64 r)).set 1 (.int .i64 ln);have hb3:=(hz2.set 0 (.int .i64 r)).setB (hz2.setB hb2' hle 0 (.int .i64 r)) hle 1 (.int .i64 ln);go_wp2_with fail;generalize (w2.setCell ⟨nz,0,none⟩ (.int .i64 r)).setCell ⟨nz,1,none⟩ (.int .i64 ln)=w3 at *;have r0:=hz3.cell 0;have r1:=hz3.cell 1;simp only[sz,ss,gz,gs]at r0 r1;refine bodyPost_ret (v:=.agg #[r,ln]) (by simp[results,Tryz.results70,go_sem,r0,r1]) rfl ?_;exact⟨rfl,hb3⟩
 ·rw[if_pos rfl]at h ⊢
  have c1:=hid fun W=>ju p q ln W hp hq h.1 h.2.1 h.2.2
  generalize atX p q ln=r at *;clear h hp hq;obtain⟨p1,p2⟩:=p;obtain⟨q1,q2⟩:=q;unfold ae at *;dsimp only at *;have hg0:=(((Bx.new (t:=91) (cs:=[.int .i64 sd,.bool true,.int .i64 ln,.int .i64 lo,.int .i64 hi]) w rfl).alloc (.cells #[p1,p2] 30)).alloc (.cells #[q1,q2] 30)).alloc (.cells #[.int .i64 0,.int .i64 0] 30);have hp0:=((Bx.newAt (b:=w.heap.size+1) (t:=30) (cs:=[.int .i64 p1,.int .i64 p2]) (w.alloc (.cells #[sd,.bool true,ln,lo,hi] 91)) (by simp) rfl).alloc (.cells #[q1,q2] 30)).alloc (.cells #[.int .i64 0,.int .i64 0] 30);have hq0:=(Bx.newAt (b:=w.heap.size+1+1) (t:=30) (cs:=[.int .i64 q1,.int .i64 q2]) ((w.alloc (.cells #[sd,.bool true,ln,lo,hi] 91)).alloc (.cells #[p1,p2] 30)) (by simp) rfl).alloc (.cells #[.int .i64 0,.int .i64 0] 30);have hz0:=Bx.newAt (b:=w.heap.size+1+1+1) (t:=30) (cs:=[.int .i64 0,.int .i64 0]) (((w.alloc (.cells #[sd,.bool true,ln,lo,hi] 91)).alloc (.cells #[p1,p2] 30)).alloc (.cells #[q1,q2] 30)) (by simp) rfl;have hb0:=bw4 w (.cells #[sd,.bool true,ln,lo,hi] 91) (.cells #[p1,p2] 30) (.cells #[q1,q2] 30) (.cells #[.int .i64 0,.int .i64 0] 30);go_enter Tryz.func70,Tryz.ntmps70;go_upto_region 1 with fail;generalize (((w.alloc (.cells #[sd,.bool true,ln,lo,hi] 91)).alloc (.cells #[p1,p2] 30)).alloc (.cells #[q1,q2] 30)).alloc (.cells #[.int .i64 0,.int .i64 0] 30)=w1 at *;have hle:w.heap.size≤w.heap.size+1+1+1:=by omega
  have hne:w.heap.size≠w.heap.size+1+1+1:=by omega
  generalize w.heap.size+1+1+1=nz at *;generalize w.heap.size+1+1=nq at *;generalize w.heap.size+1=np at *;have k0:=hg0.cell 1;have k1:=hg0.cell 2;have k2:=hp0.cell 0;have k3:=hp0.cell 1;have k4:=hq0.cell 0;have k5:=hq0.cell 1;simp only[gz,gs]at k0 k1 k2 k3 k4 k5;go_wp2_with fail;refine(c1.out _).mono ?_;rintro e w2 ⟨rfl,hb2⟩;have hb2':=hb0.trans (hb2.mono hb0.size);have hg2:=hg0.below hb2;have hz2:=hz0.below hb2;clear hg0 hp0 hq0 hz0 hb0 hb2 k0 k1 k2 k3 k4 k5;have k1:=hg2.cell 2;have q0:=hz2.cell 0;have q1:=hz2.cell 1;have f0:=hz2.frozen 0;have f1:=hz2.frozen 1;simp only[gz,gs]at k1 q0 q1;have hz3:=(hz2.set 0 (.int .i64 ln)).set 1 (.int .i64 r);have hb3:=(hz2.set 0 (.int .i64 ln)).setB (hz2.setB hb2' hle 0 (.int .i64 ln)) hle 1 (.int .i64 r);go_wp2_with fail;generalize (w2.setCell ⟨nz,0,none⟩ (.int .i64 ln)).setCell ⟨nz,1,none⟩ (.int .i64 r)=w3 at *;have r0:=hz3.cell 0;have r1:=hz3.cell 1;simp only[sz,ss,gz,gs]at r0 r1;refine bodyPost_ret (v:=.agg #[ln,r]) (by simp[results,Tryz.results70,go_sem,r0,r1]) rfl ?_;exact⟨rfl,hb3⟩
end Go.Proofs
