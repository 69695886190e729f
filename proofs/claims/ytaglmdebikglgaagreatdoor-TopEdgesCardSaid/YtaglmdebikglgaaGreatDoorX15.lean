/- Lemmas and walks; no statement of a law is proved here. -/
import Derived.Test.YtaglmdebikglgaaGreatDoorX12
set_option linter.unusedVariables false
set_option linter.unusedSimpArgs false
set_option maxRecDepth 100000
set_option maxHeartbeats 8000000
open Go.Lib
namespace Go.Proofs
open Go.RowKit Go.Proofs.Mp Go.Lib
def F1(W:World)(f:Value):Prop:=∃k lo la sc n,Bx W n 28 (prC k lo la sc)∧(f=.func (.func 128) #[] #[.pointer (some ⟨n,0,none⟩)]∨f=.func (.func 131) #[] #[.pointer (some ⟨n,0,none⟩)])
def F2(W:World)(f:Value):Prop:=(∃k lo la sc n,Bx W n 28 (prC k lo la sc)∧f=.func (.func 130) #[] #[.pointer (some ⟨n,0,none⟩)]) ∨
 (∃nf nc c,Bx W nf 140 [.func (.func 134) #[] #[]]∧Bx W nc 3 [.int .i64 c]∧f=.func (.func 137) #[] #[.pointer (some ⟨nf,0,none⟩),.pointer (some ⟨nc,0,none⟩)]) ∨
 ∃nc c,Bx W nc 3 [.int .i64 c]∧f=.func (.func 138) #[] #[.pointer (some ⟨nc,0,none⟩)]
structure RuS(w W:World)(n:Nat)(cs:List Value)(f1 f2:Value):Prop where
 a:Bx W n 28 cs
 b:Bx W (n+1) 155 [Value.nilFunc,Value.nilFunc]
 c:Bx W (n+2) 155 [f1,f2]
 hb:Below n w W
section
variable {w W W':World}{n:Nat}{cs:List Value}{f1 f2:Value}
theorem RuS.below(h:RuS w W n cs f1 f2)(hb:Below W.heap.size W W')(hn:w.heap.size=n):RuS w W' n cs f1 f2:=
 ⟨h.a.below hb,h.b.below hb,h.c.below hb,by have:=h.hb.size;subst hn;exact h.hb.trans (hb.mono this)⟩
theorem RuS.s0(h:RuS w W n cs f1 f2)(v:Value):RuS w (W.setCell ⟨n+2,0,none⟩ v) n cs v f2:=
 ⟨h.a.other (by omega) _ _,h.b.other (by omega) _ _,h.c.set 0 v,h.c.setB h.hb (by omega) _ _⟩
theorem RuS.s1(h:RuS w W n cs f1 f2)(v:Value):RuS w (W.setCell ⟨n+2,1,none⟩ v) n cs f1 v:=
 ⟨h.a.other (by omega) _ _,h.b.other (by omega) _ _,h.c.set 1 v,h.c.setB h.hb (by omega) _ _⟩
end
def st2(w:World)(b:Nat)(v0 v1:Value):World:=(w.setCell ⟨b,0,none⟩ v0).setCell ⟨b,1,none⟩ v1
def sC(w:World)(e:Ending)(w':World):Prop:=∃f1 f2,e=.returned (.agg #[f1,f2])∧F1 w' f1∧F2 w' f2∧Below w.heap.size w w'
theorem RuS.fin{w W:World}{n:Nat}{cs:List Value}{f1 f2:Value}(hn:w.heap.size=n)(h:RuS w W n cs f1 f2)(hf:∀W',(∀q t l,q≠n+1→Bx W q t l→Bx W' q t l)→F1 W' f1∧F2 W' f2) :
  Bx (st2 W (n+1) f1 f2) (n+1) 155 [f1,f2]∧sC w (.returned (.agg #[f1,f2])) (st2 W (n+1) f1 f2):=by
 obtain⟨q1,q2⟩:=hf (st2 W (n+1) f1 f2) (fun q t l hq hB=>(hB.other (fun e=>hq (by first|exact e|exact e.symm)) _ _).other (fun e=>hq (by first|exact e|exact e.symm)) _ _);refine⟨(h.b.set 0 f1).set 1 f2,f1,f2,rfl,q1,q2,?_⟩;rw[hn];exact(h.b.set 0 f1).setB (h.b.setB h.hb (by omega) _ _) (by omega) _ _
theorem m8(k lo la sc:Int)(w:World):Calls Tryz.prog 81 #[prV k lo la sc] w (sC w):=by
 have hx:=Bx.new (t:=28) (cs:=prC k lo la sc) w rfl;have hw:=bw1 w (.cells #[.int .i64 k,.int .i64 lo,.int .i64 la,.int .i64 sc] 28);unfold prV;unfold prC at hx;go_enter Tryz.func81,Tryz.ntmps81;go_upto_region 1 with fail;obtain⟨n,hn⟩:∃n,w.heap.size=n:=⟨_,rfl⟩;have hr:=Bx.newAt (b:=n+1) (t:=155) (cs:=[Value.nilFunc,Value.nilFunc]) (c:=#[Value.nilFunc,Value.nilFunc]) (w.alloc (.cells #[.int .i64 k,.int .i64 lo,.int .i64 la,.int .i64 sc] 28)) (by simp[hn]) rfl;have hx2:=hx.alloc (.cells #[Value.nilFunc,Value.nilFunc] 155);have hw2:=hw.alloc hw.size (.cells #[Value.nilFunc,Value.nilFunc] 155);have hs2:((w.alloc (.cells #[.int .i64 k,.int .i64 lo,.int .i64 la,.int .i64 sc] 28)).alloc (.cells #[Value.nilFunc,Value.nilFunc] 155)).heap.size=n+2:=by simp[hn]
 rw[hn]at hx2 hw2 ⊢;have HN:=hid hn;clear hx hw hn;generalize (w.alloc (.cells #[.int .i64 k,.int .i64 lo,.int .i64 la,.int .i64 sc] 28)).alloc (.cells #[Value.nilFunc,Value.nilFunc] 155)=w2 at *;go_upto_region 2 with fail
 have hst:RuS w (w2.alloc (.cells #[.func (.func 128) #[] #[.pointer (some ⟨n,0,none⟩)],.func (.func 130) #[] #[.pointer (some ⟨n,0,none⟩)]] 155)) n [.int .i64 k,.int .i64 lo,.int .i64 la,.int .i64 sc] (.func (.func 128) #[] #[.pointer (some ⟨n,0,none⟩)]) (.func (.func 130) #[] #[.pointer (some ⟨n,0,none⟩)]):=
  ⟨hx2.alloc _,hr.alloc _,Bx.newAt w2 hs2.symm rfl,hw2.alloc (by omega) _⟩
 clear hx2 hr hw2 hs2;generalize w2.alloc (.cells #[.func (.func 128) #[] #[.pointer (some ⟨n,0,none⟩)],.func (.func 130) #[] #[.pointer (some ⟨n,0,none⟩)]] 155)=w3 at *;have HS:=hid hst;obtain⟨a0,a1,a2,a3⟩:=hst.a.c4;obtain⟨b0,b1⟩:=hst.b.c2;obtain⟨c0,c1⟩:=hst.c.c2;have fb0:=hst.b.frozen 0;have fb1:=hst.b.frozen 1;have fl:=hst.b.lt;have fc0:=hst.c.frozen 0;have fc1:=hst.c.frozen 1;have fl2:=hst.c.lt;clear hst;obtain⟨y2,h2⟩:∃y,(k==2)=y:=⟨_,rfl⟩;cases y2
 ·obtain⟨y3,h3⟩:∃y,(k==3)=y:=⟨_,rfl⟩
  cases y3
  ·obtain⟨y4,h4⟩:∃y,(k==4)=y:=⟨_,rfl⟩
   cases y4
   ·go_upto_region 12 with fail
    clear a0 a1 a2 a3 b0 b1 c0 c1 fb0 fb1 fl fc0 fc1 fl2;obtain⟨b0,b1⟩:=HS.out.b.c2;obtain⟨c0,c1⟩:=HS.out.c.c2;have fb0:=HS.out.b.frozen 0;have fb1:=HS.out.b.frozen 1;have fl:=HS.out.b.lt;have fin:=RuS.fin HN.out HS.out (fun W' hk=>⟨⟨k,lo,la,sc,n,hk n _ _ (by omega) HS.out.a,.inl rfl⟩,.inl ⟨k,lo,la,sc,n,hk n _ _ (by omega) HS.out.a,rfl⟩⟩);have HFI:=hid fin;clear fin;go_wp2_with fail;change bodyPost _ _ _ _ _ (st2 w3 (n+1) (.func (.func 128) #[] #[.pointer (some ⟨n,0,none⟩)]) (.func (.func 130) #[] #[.pointer (some ⟨n,0,none⟩)]));generalize st2 w3 (n+1) (.func (.func 128) #[] #[.pointer (some ⟨n,0,none⟩)]) (.func (.func 130) #[] #[.pointer (some ⟨n,0,none⟩)])=w9 at *;obtain⟨r0,r1⟩:=HFI.out.1.c2;refine bodyPost_ret (v:=.agg #[.func (.func 128) #[] #[.pointer (some ⟨n,0,none⟩)],.func (.func 130) #[] #[.pointer (some ⟨n,0,none⟩)]]) (by simp[results,Tryz.results81,go_sem,r0,r1]) rfl ?_;exact HFI.out.2
   ·go_wp2_with fail
    refine(jg la w3).mono ?_;rintro e w4 ⟨z,rfl,hb4⟩;have HS4:=hid (HS.out.below (hb4.trans ((bw1 w4 (.cells #[.int .i64 z] 3)).mono hb4.size)) HN.out);have HC:=hid (Bx.new (t:=3) (cs:=[.int .i64 z]) w4 rfl);have HNE:=hid (show n+2<w4.heap.size from Nat.lt_of_lt_of_le HS.out.c.lt hb4.size);clear a0 a1 a2 a3 b0 b1 c0 c1 fb0 fb1 fl fc0 fc1 fl2 hb4;go_upto_region 11 with fail;generalize w4.alloc (.cells #[.int .i64 z] 3)=w5 at *;generalize w4.heap.size=nc at *;obtain⟨a0,a1,a2,a3⟩:=HS4.out.a.c4;obtain⟨b0,b1⟩:=HS4.out.b.c2;obtain⟨c0,c1⟩:=HS4.out.c.c2;have fb0:=HS4.out.b.frozen 0;have fb1:=HS4.out.b.frozen 1;have fl:=HS4.out.b.lt;have fc0:=HS4.out.c.frozen 0;have fc1:=HS4.out.c.frozen 1;have fl2:=HS4.out.c.lt;have HS5:=hid (HS4.out.s1 (.func (.func 138) #[] #[.pointer (some ⟨nc,0,none⟩)]));have HC5:=hid (HC.out.other (n:=n+2) (by have:=HNE.out;omega) 1 (.func (.func 138) #[] #[.pointer (some ⟨nc,0,none⟩)]));go_upto_region 12 with fail;clear a0 a1 a2 a3 b0 b1 c0 c1 fb0 fb1 fl fc0 fc1 fl2;obtain⟨b0,b1⟩:=HS5.out.b.c2;obtain⟨c0,c1⟩:=HS5.out.c.c2;have fb0:=HS5.out.b.frozen 0;have fb1:=HS5.out.b.frozen 1;have fl:=HS5.out.b.lt;have fin:=RuS.fin HN.out HS5.out (fun W' hk=>⟨⟨k,lo,la,sc,n,hk n _ _ (by omega) HS5.out.a,.inl rfl⟩,.inr (.inr ⟨nc,z,hk nc _ _ (by have:=HNE.out;omega) HC5.out,rfl⟩)⟩);have HFI:=hid fin;clear fin;generalize w5.setCell ⟨n+2,1,none⟩ (.func (.func 138) #[] #[.pointer (some ⟨nc,0,none⟩)])=w8 at *;go_wp2_with fail;change bodyPost _ _ _ _ _ (st2 w8 (n+1) (.func (.func 128) #[] #[.pointer (some ⟨n,0,none⟩)]) (.func (.func 138) #[] #[.pointer (some ⟨nc,0,none⟩)]));generalize st2 w8 (n+1) (.func (.func 128) #[] #[.pointer (some ⟨n,0,none⟩)]) (.func (.func 138) #[] #[.pointer (some ⟨nc,0,none⟩)])=w9 at *;obtain⟨r0,r1⟩:=HFI.out.1.c2;refine bodyPost_ret (v:=.agg #[.func (.func 128) #[] #[.pointer (some ⟨n,0,none⟩)],.func (.func 138) #[] #[.pointer (some ⟨nc,0,none⟩)]]) (by simp[results,Tryz.results81,go_sem,r0,r1]) rfl ?_;exact HFI.out.2
  ·have HS1:=hid (HS.out.below (bw1 w3 (.cells #[.func (.func 134) #[] #[]] 140)) HN.out)
   have hf1:=Bx.new (t:=140) (cs:=[.func (.func 134) #[] #[]]) w3 rfl;have HNE:=hid (show n+2<w3.heap.size from HS.out.c.lt);go_upto_region 7 with fail;clear a0 a1 a2 a3 b0 b1 c0 c1 fb0 fb1 fl fc0 fc1 fl2 HS;generalize w3.alloc (.cells #[.func (.func 134) #[] #[]] 140)=w4 at *;generalize w3.heap.size=nf at *;have HF1:=hid hf1;obtain⟨a0,a1,a2,a3⟩:=HS1.out.a.c4;have g0:=hf1.c1;clear hf1;go_wp2_with fail;refine(ml la w4).mono ?_;rintro e w5 ⟨z,rfl,hb5⟩;have HS2:=hid (HS1.out.below (hb5.trans ((bw1 w5 (.cells #[.int .i64 z] 3)).mono hb5.size)) HN.out);have HF2:=hid (HF1.out.below (hb5.trans ((bw1 w5 (.cells #[.int .i64 z] 3)).mono hb5.size)));have HC:=hid (Bx.new (t:=3) (cs:=[.int .i64 z]) w5 rfl);have HNC:=hid (show n+2<w5.heap.size∧nf<w5.heap.size from ⟨Nat.lt_of_lt_of_le HS1.out.c.lt hb5.size,Nat.lt_of_lt_of_le HF1.out.lt hb5.size⟩);clear a0 a1 a2 a3 g0 hb5 HS1 HF1;go_upto_region 8 with fail;generalize w5.alloc (.cells #[.int .i64 z] 3)=w6 at *;generalize w5.heap.size=nc at *;obtain⟨a0,a1,a2,a3⟩:=HS2.out.a.c4;obtain⟨b0,b1⟩:=HS2.out.b.c2;obtain⟨c0,c1⟩:=HS2.out.c.c2;have fb0:=HS2.out.b.frozen 0;have fb1:=HS2.out.b.frozen 1;have fl:=HS2.out.b.lt;have fc0:=HS2.out.c.frozen 0;have fc1:=HS2.out.c.frozen 1;have fl2:=HS2.out.c.lt;have HS5:=hid (HS2.out.s1 (.func (.func 137) #[] #[.pointer (some ⟨nf,0,none⟩),.pointer (some ⟨nc,0,none⟩)]));have HF5:=hid (HF2.out.other (n:=n+2) (by have:=HNE.out;omega) 1 (.func (.func 137) #[] #[.pointer (some ⟨nf,0,none⟩),.pointer (some ⟨nc,0,none⟩)]));have HC5:=hid (HC.out.other (n:=n+2) (by have:=HNC.out;omega) 1 (.func (.func 137) #[] #[.pointer (some ⟨nf,0,none⟩),.pointer (some ⟨nc,0,none⟩)]));go_upto_region 12 with fail;clear a0 a1 a2 a3 b0 b1 c0 c1 fb0 fb1 fl fc0 fc1 fl2;obtain⟨b0,b1⟩:=HS5.out.b.c2;obtain⟨c0,c1⟩:=HS5.out.c.c2;have fb0:=HS5.out.b.frozen 0;have fb1:=HS5.out.b.frozen 1;have fl:=HS5.out.b.lt;have fin:=RuS.fin HN.out HS5.out (fun W' hk=>⟨⟨k,lo,la,sc,n,hk n _ _ (by omega) HS5.out.a,.inl rfl⟩,.inr (.inl ⟨nf,nc,z,hk nf _ _ (by have:=HNE.out;omega) HF5.out,hk nc _ _ (by have:=HNC.out;omega) HC5.out,rfl⟩)⟩);have HFI:=hid fin;clear fin;generalize w6.setCell ⟨n+2,1,none⟩ (.func (.func 137) #[] #[.pointer (some ⟨nf,0,none⟩),.pointer (some ⟨nc,0,none⟩)])=w8 at *;go_wp2_with fail;change bodyPost _ _ _ _ _ (st2 w8 (n+1) (.func (.func 128) #[] #[.pointer (some ⟨n,0,none⟩)]) (.func (.func 137) #[] #[.pointer (some ⟨nf,0,none⟩),.pointer (some ⟨nc,0,none⟩)]));generalize st2 w8 (n+1) (.func (.func 128) #[] #[.pointer (some ⟨n,0,none⟩)]) (.func (.func 137) #[] #[.pointer (some ⟨nf,0,none⟩),.pointer (some ⟨nc,0,none⟩)])=w9 at *;obtain⟨r0,r1⟩:=HFI.out.1.c2;refine bodyPost_ret (v:=.agg #[.func (.func 128) #[] #[.pointer (some ⟨n,0,none⟩)],.func (.func 137) #[] #[.pointer (some ⟨nf,0,none⟩),.pointer (some ⟨nc,0,none⟩)]]) (by simp[results,Tryz.results81,go_sem,r0,r1]) rfl ?_;exact HFI.out.2
 ·have HS4:=hid (HS.out.s0 (.func (.func 131) #[] #[.pointer (some ⟨n,0,none⟩)]))
  go_upto_region 12 with fail;clear a0 a1 a2 a3 b0 b1 c0 c1 fb0 fb1 fl fc0 fc1 fl2;obtain⟨b0,b1⟩:=HS4.out.b.c2;obtain⟨c0,c1⟩:=HS4.out.c.c2;have fb0:=HS4.out.b.frozen 0;have fb1:=HS4.out.b.frozen 1;have fl:=HS4.out.b.lt;have fin:=RuS.fin HN.out HS4.out (fun W' hk=>⟨⟨k,lo,la,sc,n,hk n _ _ (by omega) HS4.out.a,.inr rfl⟩,.inl ⟨k,lo,la,sc,n,hk n _ _ (by omega) HS4.out.a,rfl⟩⟩);have HFI:=hid fin;clear fin;generalize w3.setCell ⟨n+2,0,none⟩ (.func (.func 131) #[] #[.pointer (some ⟨n,0,none⟩)])=w8 at *;go_wp2_with fail;change bodyPost _ _ _ _ _ (st2 w8 (n+1) (.func (.func 131) #[] #[.pointer (some ⟨n,0,none⟩)]) (.func (.func 130) #[] #[.pointer (some ⟨n,0,none⟩)]));generalize st2 w8 (n+1) (.func (.func 131) #[] #[.pointer (some ⟨n,0,none⟩)]) (.func (.func 130) #[] #[.pointer (some ⟨n,0,none⟩)])=w9 at *;obtain⟨r0,r1⟩:=HFI.out.1.c2;refine bodyPost_ret (v:=.agg #[.func (.func 131) #[] #[.pointer (some ⟨n,0,none⟩)],.func (.func 130) #[] #[.pointer (some ⟨n,0,none⟩)]]) (by simp[results,Tryz.results81,go_sem,r0,r1]) rfl ?_;exact HFI.out.2
structure ToS(w W:World)(n:Nat)(cs fs xs:List Value):Prop where
 a:Bx W n 28 cs
 b:Bx W (n+1) 155 fs
 c:Bx W (n+2) 30 xs
 d:∃u v:Int,Bx W (n+3) 30 [.int .i64 u,.int .i64 v]
 hb:Below n w W
 hn:w.heap.size=n
section
variable {w W W':World}{n:Nat}{cs fs xs:List Value}
theorem ToS.below(h:ToS w W n cs fs xs)(hb:Below W.heap.size W W'):ToS w W' n cs fs xs:=by
 obtain⟨h1,h2,h3,⟨u,v,h4⟩,h5,rfl⟩:=h;exact⟨h1.below hb,h2.below hb,h3.below hb,⟨u,v,h4.below hb⟩,h5.trans (hb.mono h5.size),rfl⟩
theorem ToS.hbw(h:ToS w W n cs fs xs):Below w.heap.size w W:=by
 obtain⟨h1,h2,h3,h4,h5,rfl⟩:=h;exact h5
theorem ToS.st(h:ToS w W n cs fs xs)(u v:Int):ToS w (st2 W (n+3) (.int .i64 u) (.int .i64 v)) n cs fs xs∧Bx (st2 W (n+3) (.int .i64 u) (.int .i64 v)) (n+3) 30 [.int .i64 u,.int .i64 v]:=by
 obtain⟨h1,h2,h3,⟨u',v',h4⟩,h5,h6⟩:=h;have hd:=(h4.set 0 (.int .i64 u)).set 1 (.int .i64 v);exact⟨⟨(h1.other (by omega) _ _).other (by omega) _ _,(h2.other (by omega) _ _).other (by omega) _ _,(h3.other (by omega) _ _).other (by omega) _ _,⟨u,v,hd⟩,(h4.set 0 (.int .i64 u)).setB (h4.setB h5 (by omega) _ _) (by omega) _ _,h6⟩,hd⟩
end
def mJ(w:World)(e:Ending)(w':World):Prop:=∃a b n:Int,e=.returned (.tuple #[.agg #[.int .i64 a,.int .i64 b],.int .i64 n])∧Below w.heap.size w w'
theorem ToS.ret{w W:World}{n:Nat}{cs fs xs:List Value}(h:ToS w W n cs fs xs)(a b m:Int):mJ w (.returned (.tuple #[.agg #[.int .i64 a,.int .i64 b],.int .i64 m])) W:=⟨a,b,m,rfl,h.hbw⟩
theorem tN(k lo la sc x y:Int)(f1 f2:Value)(w:World)(h1:F1 w f1)(h2:F2 w f2):Calls Tryz.prog 80 #[prV k lo la sc,.agg #[f1,f2],.agg #[.int .i64 x,.int .i64 y]] w (mJ w):=by
 have C0:=hid fun n W=>m7 k lo la sc n W
 obtain⟨n,hn⟩:∃n,w.heap.size=n:=⟨_,rfl⟩;unfold prV at *;have HF1:=hid h1;have HF2:=hid h2;clear h1 h2
 have hS:ToS w ((((w.alloc (.cells #[.int .i64 k,.int .i64 lo,.int .i64 la,.int .i64 sc] 28)).alloc (.cells #[f1,f2] 155)).alloc (.cells #[.int .i64 x,.int .i64 y] 30)).alloc (.cells #[.int .i64 0,.int .i64 0] 30)) n [.int .i64 k,.int .i64 lo,.int .i64 la,.int .i64 sc] [f1,f2] [.int .i64 x,.int .i64 y]:=by
  subst hn;refine⟨(((Bx.new w rfl).alloc _).alloc _).alloc _,((Bx.newAt _ (by simp) rfl).alloc _).alloc _,(Bx.newAt _ (by simp) rfl).alloc _,⟨0,0,Bx.newAt _ (by simp) rfl⟩,((((bw1 _ _).alloc (by simp) _).alloc (by simp;omega) _).alloc (by simp;omega) _),rfl⟩
 have hF1:(∃na,f1=.func (.func 128) #[] #[.pointer (some ⟨na,0,none⟩)]∧∀a b W,Below w.heap.size w W→Calls Tryz.prog 128 #[.int .i64 a,.int .i64 b,.pointer (some ⟨na,0,none⟩)] W (dm W))∨(∃na,f1=.func (.func 131) #[] #[.pointer (some ⟨na,0,none⟩)]∧∀a b W,Below w.heap.size w W→Calls Tryz.prog 131 #[.int .i64 a,.int .i64 b,.pointer (some ⟨na,0,none⟩)] W (dm W)):=by
  obtain⟨_,_,_,_,na,hb,h|h⟩:=HF1.out
  ·exact .inl ⟨na,h,fun a b W hW=>rj a b _ _ _ _ na W (hb.below hW)⟩
  ·exact .inr ⟨na,h,fun a b W hW=>rc a b _ _ _ _ na W (hb.below hW)⟩
 have hF2:(∃nb,f2=.func (.func 130) #[] #[.pointer (some ⟨nb,0,none⟩)]∧∀a W,Below w.heap.size w W→Calls Tryz.prog 130 #[.int .i64 a,.pointer (some ⟨nb,0,none⟩)] W (dm W)) ∨
   (∃nf nc,f2=.func (.func 137) #[] #[.pointer (some ⟨nf,0,none⟩),.pointer (some ⟨nc,0,none⟩)]∧∀a W,Below w.heap.size w W→Calls Tryz.prog 137 #[.int .i64 a,.pointer (some ⟨nf,0,none⟩),.pointer (some ⟨nc,0,none⟩)] W (dm W)) ∨
   (∃nc,f2=.func (.func 138) #[] #[.pointer (some ⟨nc,0,none⟩)]∧∀a W,Below w.heap.size w W→Calls Tryz.prog 138 #[.int .i64 a,.pointer (some ⟨nc,0,none⟩)] W (dm W)):=by
  rcases HF2.out with⟨_,_,_,_,nb,hb,h⟩|⟨nf,nc,_,hb,hc,h⟩|⟨nc,_,hc,h⟩
  ·exact .inl ⟨nb,h,fun a W hW=>rg a _ _ _ _ nb W (hb.below hW)⟩
  ·exact .inr (.inl ⟨nf,nc,h,fun a W hW=>q8 a _ nf nc W (hb.below hW) (hc.below hW)⟩)
  ·exact .inr (.inr ⟨nc,h,fun a W hW=>q7 a _ nc W (hc.below hW)⟩)
 have HS0:=hid hS;clear hS HF1 HF2;have HN:=hid hn;go_enter Tryz.func80,Tryz.ntmps80;go_upto_region 1 with fail;rw[show n+1+1+1=n+3 from rfl,show n+1+1=n+2 from rfl];clear hn;generalize (((w.alloc (.cells #[.int .i64 k,.int .i64 lo,.int .i64 la,.int .i64 sc] 28)).alloc (.cells #[f1,f2] 155)).alloc (.cells #[.int .i64 x,.int .i64 y] 30)).alloc (.cells #[.int .i64 0,.int .i64 0] 30)=w1 at *;obtain⟨c0,c1⟩:=HS0.out.c.c2;go_wp2_with fail;refine(jI x y w1).mono ?_;rintro e w2 ⟨b,rfl,hb2⟩;have HS2:=hid (HS0.out.below hb2);clear c0 c1 hb2 HS0;cases b
 ·obtain⟨s1,s2⟩:=HS2.out.st 0 0
  have HZ:=hid (And.intro s1 s2);obtain⟨u,v,hd⟩:=HS2.out.d;obtain⟨d0,d1⟩:=hd.c2;have fd0:=hd.frozen 0;have fd1:=hd.frozen 1;have fl:=hd.lt;clear s1 s2 hd;go_wp2_with fail;change bodyPost _ _ _ _ _ (st2 w2 (n+3) (.int .i64 0) (.int .i64 0));generalize st2 w2 (n+3) (.int .i64 0) (.int .i64 0)=w9 at *;obtain⟨r0,r1⟩:=HZ.out.2.c2;refine bodyPost_ret (v:=.tuple #[.agg #[.int .i64 0,.int .i64 0],.int .i64 2]) (by simp[results,Tryz.results80,go_sem,r0,r1]) rfl ?_;exact HZ.out.1.ret 0 0 2
 rcases hF1 with⟨na,rfl,C1⟩|⟨na,rfl,C1⟩
 all_goals
  have C1:=hid C1
  rcases hF2 with⟨nb,rfl,C2⟩|⟨nb,nc,rfl,C2⟩|⟨nb,rfl,C2⟩
 all_goals
  have C2:=hid C2;go_wp2_with fail;have hS1:=HS2.out.below (Below.refl _ _).drew;refine wp_region_held_drew (S:=fun W:World=>ToS w W n _ _ _) (by kernel_rfl) hS1 (fun hHeld=>?_);clear hHeld;generalize hwd:w2.drew=wd at *;clear hwd;refine kf 0 (fun W h=>h.a.c4) rfl ?_;refine kk 1 rfl ?_;refine kf 2 (fun W h=>h.b.c2) rfl ?_;refine kk 3 rfl ?_;refine kf 4 (fun W h=>h.c.c2) rfl ?_;refine kk 5 rfl ?_;refine kf 6 (fun W h=>h.c.c2) rfl ?_;refine kf 9 (fun W h=>h.a.c4) rfl ?_;refine kk 10 rfl ?_;refine kf 11 (fun W h=>h.b.c2) rfl ?_;refine kk 12 rfl ?_;refine kf 13 (fun W h=>h.c.c2) rfl ?_;refine kr 7 rfl fun K hK=>?_
  go_simp
  first|go_at_call 128|go_at_call 131
  refine(C1.out _ _ _ hS1.hbw).mono ?_;rintro e Wrc1 ⟨zWrc1,rfl,hbz⟩;have hSWrc1:=ToS.below hS1 hbz;clear hbz hS1;go_wp2_with fail;refine hK.out _ _ hSWrc1 (fun hHeld=>?_);clear hK hHeld K
  try simp only[Act.put,sa,sz,ss]
  refine kr 8 rfl fun K hK=>?_
  go_simp;go_at_call 126;refine(C0.out _ _).mono ?_;rintro e Wrc2 ⟨zWrc2,rfl,hbz⟩;have hSWrc2:=ToS.below hSWrc1 hbz;clear hbz hSWrc1;go_wp2_with fail;refine hK.out _ _ hSWrc2 (fun hHeld=>?_);clear hK hHeld K
  try simp only[Act.put,sa,sz,ss]
  refine kr 14 rfl fun K hK=>?_
  go_simp
  first|go_at_call 130|go_at_call 137|go_at_call 138
  refine(C2.out _ _ hSWrc2.hbw).mono ?_;rintro e Wrc3 ⟨zWrc3,rfl,hbz⟩;have hSWrc3:=ToS.below hSWrc2 hbz;clear hbz hSWrc2;go_wp2_with fail;refine hK.out _ _ hSWrc3 (fun hHeld=>?_);clear hK hHeld K
  try simp only[Act.put,sa,sz,ss]
  refine kr 15 rfl fun K hK=>?_
  go_simp;go_at_call 126;refine(C0.out _ _).mono ?_;rintro e Wrc4 ⟨zWrc4,rfl,hbz⟩;have hSWrc4:=ToS.below hSWrc3 hbz;clear hbz hSWrc3;go_wp2_with fail;refine hK.out _ _ hSWrc4 (fun hHeld=>?_);clear hK hHeld K
  try simp only[Act.put,sa,sz,ss]
  refine kk 16 rfl ?_;refine kr 17 rfl fun K hK=>?_
  obtain⟨u,v,hd⟩:=hSWrc4.d;obtain⟨d0,d1⟩:=hd.c2;have fd0:=hd.frozen 0;have fd1:=hd.frozen 1;have fl:=hd.lt;clear hd;go_simp;clear d0 d1 fd0 fd1 fl;have HS5:=hid (hSWrc4.st zWrc2 zWrc4).1;refine hK.out _ _ HS5.out (fun hHeld=>?_);unfold st2 at HS5;clear hK hHeld K
  try simp only[Act.put,sa,sz,ss]
  refine wpAnyH_done (by kernel_rfl) ?_ _;generalize (Wrc4.setCell ⟨n+3,0,none⟩ (.int .i64 zWrc2)).setCell ⟨n+3,1,none⟩ (.int .i64 zWrc4)=w5 at *;obtain⟨u,v,hd⟩:=HS5.out.d;have HD:=hid hd;obtain⟨d0,d1⟩:=hd.c2;clear hd;go_wp2_with fail;refine(pD u v _).mono ?_;rintro e w6 ⟨b,rfl,hb6⟩;have HS6:=hid (HS5.out.below hb6);have hd:=HD.out.below hb6;clear d0 d1 hb6 HS5 HD;obtain⟨d0,d1⟩:=hd.c2;have fd0:=hd.frozen 0;have fd1:=hd.frozen 1;have fl:=hd.lt;clear hd;cases b
  ·have HZ:=hid (HS6.out.st 0 0)
   go_wp2_with fail;change bodyPost _ _ _ _ _ (st2 w6 (n+3) (.int .i64 0) (.int .i64 0));generalize st2 w6 (n+3) (.int .i64 0) (.int .i64 0)=w9 at *;obtain⟨r0,r1⟩:=HZ.out.2.c2;refine bodyPost_ret (v:=.tuple #[.agg #[.int .i64 0,.int .i64 0],.int .i64 2]) (by simp[results,Tryz.results80,go_sem,r0,r1]) rfl ?_;exact HZ.out.1.ret 0 0 2
  ·have HZ:=hid (HS6.out.st u v)
   go_wp2_with fail;change bodyPost _ _ _ _ _ (st2 w6 (n+3) (.int .i64 u) (.int .i64 v));generalize st2 w6 (n+3) (.int .i64 u) (.int .i64 v)=w9 at *;obtain⟨r0,r1⟩:=HZ.out.2.c2;refine bodyPost_ret (v:=.tuple #[.agg #[.int .i64 u,.int .i64 v],.int .i64 0]) (by simp[results,Tryz.results80,go_sem,r0,r1]) rfl ?_;exact HZ.out.1.ret u v 0
end Go.Proofs
