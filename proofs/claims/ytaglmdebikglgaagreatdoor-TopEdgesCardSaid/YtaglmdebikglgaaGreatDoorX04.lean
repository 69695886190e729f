/- Lemmas and walks; no statement of a law is proved here. -/
import Derived.Test.YtaglmdebikglgaaGreatDoorX02
set_option linter.unusedVariables false
set_option linter.unusedSimpArgs false
set_option maxRecDepth 100000
set_option maxHeartbeats 8000000
open Go.Lib
namespace Go.Proofs
open Go.RowKit Go.Proofs.Mp Go.Lib Go.Proofs.Ed
section
variable {w w':World}{b n:Nat}{t:TypeId}{cs:List Value}{c0 c1 c2 c3:Value}
def st4(w:World)(b:Nat)(v0 v1 v2 v3:Value):World:=(((w.setCell ⟨b,0,none⟩ v0).setCell ⟨b,1,none⟩ v1).setCell ⟨b,2,none⟩ v2).setCell ⟨b,3,none⟩ v3
theorem Bx.set4(h:Bx w b t [c0,c1,c2,c3])(v0 v1 v2 v3:Value):Bx (st4 w b v0 v1 v2 v3) b t [v0,v1,v2,v3]:=
 (((h.set 0 v0).set 1 v1).set 2 v2).set 3 v3
theorem Bx.set4B(h:Bx w b t [c0,c1,c2,c3]){B:Nat}{a:World}(hb:Below B a w)(hB:B≤b)(v0 v1 v2 v3:Value):Below B a (st4 w b v0 v1 v2 v3):=by
 have h1:=h.set 0 v0;have h2:=h1.set 1 v1;have h3:=h2.set 2 v2;exact h3.setB (h2.setB (h1.setB (h.setB hb hB 0 v0) hB 1 v1) hB 2 v2) hB 3 v3
theorem Bx.other4(h:Bx w b t cs)(hne:b≠n)(v0 v1 v2 v3:Value):Bx (st4 w n v0 v1 v2 v3) b t cs:=
 (((h.other hne 0 v0).other hne 1 v1).other hne 2 v2).other hne 3 v3
end
def plC(p:Pl):List Value:=[.int .i64 p.1,.int .i64 p.2.1,.int .i64 p.2.2.1,.int .i64 p.2.2.2]
structure bD(B nO nF nL:Nat)(w0 w:World)(s:Cl):Prop where
 bel:Below B w0 w
 o:Bx w nO 4 [.bool s.2.2]
 f:Bx w nF 222 (plC s.1)
 l:Bx w nL 222 (plC s.2.1)
structure lW(B nO nF nL:Nat):Prop where
 o:B≤nO
 f:B≤nF
 l:B≤nL
 ofn:nO≠nF
 ol:nO≠nL
 fl:nF≠nL
section
variable {B nO nF nL:Nat}{w0 w w':World}{s:Cl}
theorem bD.below(h:bD B nO nF nL w0 w s)(d:lW B nO nF nL)(hb:Below w.heap.size w w'):bD B nO nF nL w0 w' s:=
 ⟨h.bel.trans (hb.mono (Nat.le_trans d.o (Nat.le_of_lt h.o.lt))),h.o.below hb,h.f.below hb,h.l.below hb⟩
theorem bD.setO(h:bD B nO nF nL w0 w s)(d:lW B nO nF nL)(k:Bool):bD B nO nF nL w0 (w.setCell ⟨nO,0,none⟩ (.bool k)) (s.1,s.2.1,k):=
 ⟨h.o.setB h.bel d.o 0 _,h.o.set 0 _,h.f.other d.ofn.symm 0 _,h.l.other d.ol.symm 0 _⟩
theorem bD.setF(h:bD B nO nF nL w0 w s)(d:lW B nO nF nL)(n m x y:Int):bD B nO nF nL w0 (st4 w nF (.int .i64 n) (.int .i64 m) (.int .i64 x) (.int .i64 y)) ((n,m,x,y),s.2.1,s.2.2):=
 ⟨h.f.set4B h.bel d.f _ _ _ _,h.o.other4 d.ofn _ _ _ _,h.f.set4 _ _ _ _,h.l.other4 d.fl.symm _ _ _ _⟩
theorem bD.setL(h:bD B nO nF nL w0 w s)(d:lW B nO nF nL)(n m x y:Int):bD B nO nF nL w0 (st4 w nL (.int .i64 n) (.int .i64 m) (.int .i64 x) (.int .i64 y)) (s.1,(n,m,x,y),s.2.2):=
 ⟨h.l.set4B h.bel d.l _ _ _ _,h.o.other4 d.ol _ _ _ _,h.f.other4 d.fl _ _ _ _,h.l.set4 _ _ _ _⟩
theorem bD.oth{n:Nat}{t:TypeId}{cs:List Value}(h:bD B nO nF nL w0 w s)(hk:Bx w n t cs)(hB:B≤n)(h1:nO≠n)(h2:nF≠n)(h3:nL≠n)(j:Nat)(v:Value):bD B nO nF nL w0 (w.setCell ⟨n,j,none⟩ v) s:=
 ⟨hk.setB h.bel hB j v,h.o.other h1 j v,h.f.other h2 j v,h.l.other h3 j v⟩
end
def SmC(s:Cl):Prop:=Sm s.1.1∧Sm s.1.2.1∧Sm s.2.1.1∧Sm s.2.1.2.1
theorem dq{a w v:Int}(ha : -2097152≤a∧a≤2097152)(hw : -4194304≤w∧w≤4194304):Sm (reachS a w v).1.1∧Sm (reachS a w v).1.2:=by
 unfold reachS Sm;split
 ·split<;>(dsimp only;omega)
 ·split<;>(dsimp only;omega)
theorem gZ{a w v:Int}{c:Pt}{s:Cl}(ha : -2097152≤a∧a≤2097152)(hw : -4194304≤w∧w≤4194304)(h:SmC s):SmC (enterS (reachS a w v) c s):=by
 have hr:=dq (v:=v) ha hw;unfold enterS;split
 ·exact h
 ·split
  ·exact⟨hr.1,hr.2,h.2.2.1,h.2.2.2⟩
  ·exact h
theorem pW{a w v:Int}{c:Pt}{s:Cl}(ha : -2097152≤a∧a≤2097152)(hw : -4194304≤w∧w≤4194304)(h:SmC s):SmC (leaveS (reachS a w v) c s):=by
 have hr:=dq (v:=v) ha hw;unfold leaveS;split
 ·exact h
 ·split
  ·exact⟨h.1,h.2.1,hr.1,hr.2⟩
  ·exact h
theorem pV{a w f t:Int}{c:Int→Pt}{s:Cl}(ha : -2097152≤a∧a≤2097152)(hw : -4194304≤w∧w≤4194304)(h:SmC s):SmC (limS a w f t c s):=by
 unfold limS;split
 ·exact h
 ·exact pW ha hw (gZ ha hw h)
theorem fC{a w v:Int}(h:(reachS a w v).2=true):min a (a+w)≤v∧v≤max a (a+w):=by
 unfold reachS at h;split at h
 ·assumption
 ·split at h<;>cases h
theorem oI{c:Int→Pt}(a w f t:Int)(na nb nO nF nL B:Nat)(s:Cl)(w0 wq:World)(ha : -2097152≤a∧a≤2097152)(hw : -4194304≤w∧w≤4194304)(hf:Sm f)(ht:Sm t)(hs:SmC s)(d:lW B nO nF nL)
  (hc:∀(v:Int) (W:World),w≠0→min a (a+w)≤v∧v≤max a (a+w)→Below B w0 W→Calls Tryz.prog 156 #[v,.pointer (some ⟨na,0,none⟩),.pointer (some ⟨nb,0,none⟩)] W (RetV W (ae (c v))))
  (hL:bD B nO nF nL w0 wq s) :
  Calls Tryz.prog 153 #[.int .i64 a,.int .i64 w,.int .i64 f,.int .i64 t,.func (.func 156) #[] #[.pointer (some ⟨na,0,none⟩),.pointer (some ⟨nb,0,none⟩)],.pointer (some ⟨nO,0,none⟩),.pointer (some ⟨nF,0,none⟩),.pointer (some ⟨nL,0,none⟩)] wq
   (fun e W=>e=.returned (.tuple #[])∧bD B nO nF nL w0 W (limS a w f t c s)):=by
 have HD:=hid d;have CC:=hid hc;have HL:=hid hL;have HS:=hid hs;have cR:=hid fun v (hv:Sm v) W=>iZ a w v W (by unfold Sm;omega) (by unfold Sm;omega) hv
 clear d hc hs
 have HO:=hid (fun (k:Bool) (h:w=0∨t<f) (hk:k=(s.2.2&&(decide (f≤a)&&decide (a≤t))))=>(by
  have e:limS a w f t c s=(s.1,s.2.1,s.2.2&&(decide (f≤a)&&decide (a≤t))):=by unfold limS;rw[if_pos h]
  rw[e,←hk]
  exact HL.out.setO HD.out k:bD B nO nF nL w0 (wq.setCell ⟨nO,0,none⟩ (.bool k)) (limS a w f t c s)))
 by_cases h0:w=0
 ·subst h0
  clear cR CC hf ht ha hw;have k1:=hL.o.cell 0;have f1:=hL.o.frozen 0;simp only[gz]at k1;have HO2:=hid (fun k=>HO.out k (Or.inl rfl));generalize limS a 0 f t c s=R at *;obtain⟨s1,s2,ok⟩:=s;dsimp only at k1;clear hL HO HL HS;cases ok
  all_goals (
   go_enter Tryz.func153,Tryz.ntmps153;go_wp2_with fail
   all_goals (
    refine bodyPost_ret (v:=.tuple #[]) (by simp[results,Tryz.results153,go_sem]) rfl ?_
    exact⟨rfl,HO2.out _ (by simp<;>omega)⟩))
 by_cases h1:t<f
 ·clear cR CC hf ht ha hw
  have k1:=hL.o.cell 0;have f1:=hL.o.frozen 0;simp only[gz]at k1;have HO2:=hid (fun k=>HO.out k (Or.inr h1));generalize limS a w f t c s=R at *;obtain⟨s1,s2,ok⟩:=s;dsimp only at k1;clear hL HO HL HS;have b0:(w==0)=false:=by simp[h0]
  cases ok
  all_goals (
   go_enter Tryz.func153,Tryz.ntmps153;go_wp2_with fail
   all_goals (
    refine bodyPost_ret (v:=.tuple #[]) (by simp[results,Tryz.results153,go_sem]) rfl ?_
    exact⟨rfl,HO2.out _ (by simp<;>omega)⟩))
 have HX:=hid (show ∀e l,e=(if w<0 then t else f)→l=(if w<0 then f else t)→limS a w f t c s=leaveS (reachS a w l) (c l) (enterS (reachS a w e) (c e) s)from fun e l he hl=>by unfold limS;rw[if_neg (by omega),he,hl]);have b0:(w==0)=false:=by simp[h0]
 clear HO;have HHF:=hid hf;have HHT:=hid ht;have HHA:=hid ha;have HHW:=hid hw;clear hf ht ha hw hL;go_enter Tryz.func153,Tryz.ntmps153;go_upto_if 40 with fail;generalize he:(if w<0 then t else f)=e at HX;generalize hl:(if w<0 then f else t)=l at HX;go_cut [13,14] (fun v13 v14 wx=>v13=.int .i64 e∧v14=.int .i64 l∧wx=wq)
 case first=>
  clear HX HHF HHT HHA HHW CC cR HS HL HD
  by_cases h2:w<0
  ·rw[if_pos h2]at he hl
   subst he hl;go_wp2_with fail;go_meet;exact⟨rfl,rfl,rfl⟩
  ·rw[if_neg h2]at he hl
   subst he hl;go_wp2_with fail;go_meet;exact⟨rfl,rfl,rfl⟩
 case rest=>
  obtain⟨rfl,rfl,rfl⟩:=hcut;have he2:Sm e:=by rw[←he];exact(by split;exact HHT.out;exact HHF.out)
  have hl2:Sm l:=by rw[←hl];exact(by split;exact HHF.out;exact HHT.out)
  have HX2:=hid (HX.out e l rfl rfl);have cE:=hid (cR.out e he2);have cL:=hid (cR.out l hl2);have HSE:=hid (gZ (v:=e) (c:=c e) HHA.out HHW.out HS.out);have HRE:=hid (dq (a:=a) (w:=w) (v:=e) HHA.out HHW.out);have HRL:=hid (dq (a:=a) (w:=w) (v:=l) HHA.out HHW.out);have HCE:=hid (fun W (hi:(reachS a w e).2=true) hb=>CC.out e W h0 (fC hi) hb);have HCL:=hid (fun W (hi:(reachS a w l).2=true) hb=>CC.out l W h0 (fC hi) hb);clear he hl HX he2 hl2 cR CC HHA HHW HHF HHT;generalize hR:limS a w f t c s=R at *;have HRR:=hid hR;clear hR;generalize reachS a w e=re at *;generalize reachS a w l=rl at *;generalize c e=pe at *;generalize c l=pl at *;obtain⟨⟨n1,m1⟩,i1⟩:=re;obtain⟨⟨n2,m2⟩,i2⟩:=rl;obtain⟨x1,y1⟩:=pe;obtain⟨x2,y2⟩:=pl;unfold b2v plE ae at *;dsimp only at *;go_wp2_with fail;refine(cE.out _).mono ?_;rintro e1 w1 ⟨rfl,hb1⟩;have HL1:=hid (HL.out.below HD.out hb1);clear cE hb1;have HP1:=hid (Bx.new (t:=222) (cs:=[.int .i64 n1,.int .i64 m1,.int .i64 0,.int .i64 0]) w1 rfl);have HL2:=hid (HL1.out.below HD.out (bw1 w1 (.cells #[n1,m1,.int .i64 0,.int .i64 0] 222)));have HQ1:=hid (And.intro HL1.out.o.lt (And.intro HL1.out.f.lt HL1.out.l.lt));go_upto_if 51 with fail;generalize w1.alloc (.cells #[n1,m1,.int .i64 0,.int .i64 0] 222)=w2 at *;generalize w1.heap.size=np at *;go_cut [] (fun wx=>bD B nO nF nL w0 wx (enterS ((n1,m1),i1) (x1,y1) s))
  case first=>
   clear HX2 HSE HCL HRL cL;obtain⟨⟨a1,a2,a3,a4⟩,⟨b1,b2,b3,b4⟩,ok⟩:=s;cases i1
   ·have k1:=HL2.out.o.cell 0
    have f1:=HL2.out.o.frozen 0;have k2:=HP1.out.cell 0;simp only[gz]at k1 k2;cases ok
    all_goals (
     go_wp2_with fail
     all_goals (
      go_meet;have hX:=HL2.out.setO HD.out
      exact hX _))
   ·have cS:=hid (fun W=>ez a1 a2 n1 m1 (a3,a4) (0,0) W HS.out.1 HS.out.2.1 HRE.out.1 HRE.out.2)
    unfold plE at *;dsimp only at *;have k0:=HL2.out.f.cell 0;have k1:=HL2.out.f.cell 1;have k2:=HL2.out.f.cell 2;have k3:=HL2.out.f.cell 3;have p0:=HP1.out.cell 0;have p1:=HP1.out.cell 1;have p2:=HP1.out.cell 2;have p3:=HP1.out.cell 3;unfold plC at k0 k1 k2 k3;simp only[gz,gs]at k0 k1 k2 k3 p0 p1 p2 p3;go_wp2_with fail;refine(cS.out _).mono ?_;rintro e1 w3 ⟨rfl,hb3⟩;have HL3:=hid (HL2.out.below HD.out hb3);have HP3:=hid (HP1.out.below hb3);clear k0 k1 k2 k3 p0 p1 p2 p3 hb3;generalize hls:lessS (a1,a2) (n1,m1)=ls at cS ⊢;have HLs:=hid hls;clear hls;cases ls
    ·go_wp2_with fail
     go_meet;have he:enterS ((n1,m1),true) (x1,y1) ((a1,a2,a3,a4),(b1,b2,b3,b4),ok)=((a1,a2,a3,a4),(b1,b2,b3,b4),ok):=by unfold enterS;dsimp only;rw[if_neg (by decide),if_neg (by rw[HLs.out];decide)]
     rw[he];exact HL3.out
    ·go_wp2_with fail
     refine(HCE.out _ (by trivial) HL3.out.bel).mono ?_;rintro e1 w4 ⟨rfl,hb4⟩;have HL4:=hid (HL3.out.below HD.out hb4);have HP4:=HP3.out.below hb4;have p0:=HP4.cell 0;have p1:=HP4.cell 1;have p2:=HP4.cell 2;have p3:=HP4.cell 3;have g0:=HP4.frozen 0;have g1:=HP4.frozen 1;have g2:=HP4.frozen 2;have g3:=HP4.frozen 3;have gl:=HP4.lt;have k0:=HL4.out.f.cell 0;have k1:=HL4.out.f.cell 1;have k2:=HL4.out.f.cell 2;have k3:=HL4.out.f.cell 3;have q0:=HL4.out.f.frozen 0;have q1:=HL4.out.f.frozen 1;have q2:=HL4.out.f.frozen 2;have q3:=HL4.out.f.frozen 3;have hnp:nF≠np:=by have:=HQ1.out.2.1;omega
     unfold plC at k0 k1 k2 k3;simp only[gz,gs]at k0 k1 k2 k3 p0 p1 p2 p3;clear hb4;go_wp2_with fail;go_meet;have he:enterS ((n1,m1),true) (x1,y1) ((a1,a2,a3,a4),(b1,b2,b3,b4),ok)=((n1,m1,x1,y1),(b1,b2,b3,b4),ok):=by unfold enterS;dsimp only;rw[if_neg (by decide),if_pos HLs.out]
     rw[he];have z1:=Nat.ne_of_lt HQ1.out.1;have z3:=Nat.ne_of_lt HQ1.out.2.2;have hB:B≤np:=Nat.le_trans HD.out.f (Nat.le_of_lt HQ1.out.2.1);exact((HL4.out.oth HP4 hB z1 hnp z3 2 (.int .i64 x1)).oth (HP4.set 2 _) hB z1 hnp z3 3 (.int .i64 y1)).setF HD.out n1 m1 x1 y1
  case rest=>
   have HLC:=hid hcut;generalize enterS ((n1,m1),i1) (x1,y1) s=s' at *;clear HL HS HRE HCE HL1 HP1 HL2 HQ1 hcut;generalize wc=w5 at *;go_wp2_with fail;refine(cL.out _).mono ?_;rintro e1 w6 ⟨rfl,hb6⟩;have HL6:=hid (HLC.out.below HD.out hb6);clear cL hb6 HLC;have HP1:=hid (Bx.new (t:=222) (cs:=[.int .i64 n2,.int .i64 m2,.int .i64 0,.int .i64 0]) w6 rfl);have HL2:=hid (HL6.out.below HD.out (bw1 w6 (.cells #[n2,m2,.int .i64 0,.int .i64 0] 222)));have HQ1:=hid (And.intro HL6.out.o.lt (And.intro HL6.out.f.lt HL6.out.l.lt));go_upto_if 74 with fail;generalize w6.alloc (.cells #[n2,m2,.int .i64 0,.int .i64 0] 222)=w7 at *;generalize w6.heap.size=np at *;obtain⟨⟨a1,a2,a3,a4⟩,⟨b1,b2,b3,b4⟩,ok⟩:=s';cases i2
   ·have k1:=HL2.out.o.cell 0
    have f1:=HL2.out.o.frozen 0;have k2:=HP1.out.cell 0;simp only[gz]at k1 k2;cases ok
    all_goals (
     go_wp2_with fail
     all_goals (
      refine bodyPost_end (v:=.tuple #[]) (by simp[results,Tryz.results153,go_sem]) rfl ?_;have hX:=HL2.out.setO HD.out;refine⟨rfl,?_⟩;rw[HRR.out,HX2.out]
      exact hX _))
   ·have cS:=hid (fun W=>ez n2 m2 b1 b2 (0,0) (b3,b4) W HRL.out.1 HRL.out.2 HSE.out.2.2.1 HSE.out.2.2.2)
    unfold plE at *;dsimp only at *;have k0:=HL2.out.l.cell 0;have k1:=HL2.out.l.cell 1;have k2:=HL2.out.l.cell 2;have k3:=HL2.out.l.cell 3;have p0:=HP1.out.cell 0;have p1:=HP1.out.cell 1;have p2:=HP1.out.cell 2;have p3:=HP1.out.cell 3;unfold plC at k0 k1 k2 k3;simp only[gz,gs]at k0 k1 k2 k3 p0 p1 p2 p3;go_wp2_with fail;refine(cS.out _).mono ?_;rintro e1 w8 ⟨rfl,hb8⟩;have HL3:=hid (HL2.out.below HD.out hb8);have HP3:=hid (HP1.out.below hb8);clear k0 k1 k2 k3 p0 p1 p2 p3 hb8;generalize hls:lessS (n2,m2) (b1,b2)=ls at cS ⊢;have HLs:=hid hls;clear hls;cases ls
    ·go_wp2_with fail
     refine bodyPost_end (v:=.tuple #[]) (by simp[results,Tryz.results153,go_sem]) rfl ?_;refine⟨rfl,?_⟩;rw[HRR.out,HX2.out];have he:leaveS ((n2,m2),true) (x2,y2) ((a1,a2,a3,a4),(b1,b2,b3,b4),ok)=((a1,a2,a3,a4),(b1,b2,b3,b4),ok):=by unfold leaveS;dsimp only;rw[if_neg (by decide),if_neg (by rw[HLs.out];decide)]
     rw[he];exact HL3.out
    ·go_wp2_with fail
     refine(HCL.out _ (by trivial) HL3.out.bel).mono ?_;rintro e1 w9 ⟨rfl,hb9⟩;have HL4:=hid (HL3.out.below HD.out hb9);have HP4:=HP3.out.below hb9;have p0:=HP4.cell 0;have p1:=HP4.cell 1;have p2:=HP4.cell 2;have p3:=HP4.cell 3;have g0:=HP4.frozen 0;have g1:=HP4.frozen 1;have g2:=HP4.frozen 2;have g3:=HP4.frozen 3;have gl:=HP4.lt;have k0:=HL4.out.l.cell 0;have k1:=HL4.out.l.cell 1;have k2:=HL4.out.l.cell 2;have k3:=HL4.out.l.cell 3;have q0:=HL4.out.l.frozen 0;have q1:=HL4.out.l.frozen 1;have q2:=HL4.out.l.frozen 2;have q3:=HL4.out.l.frozen 3;have hnp:nL≠np:=by have:=HQ1.out.2.2;omega
     unfold plC at k0 k1 k2 k3;simp only[gz,gs]at k0 k1 k2 k3 p0 p1 p2 p3;clear hb9;go_wp2_with fail;refine bodyPost_end (v:=.tuple #[]) (by simp[results,Tryz.results153,go_sem]) rfl ?_;refine⟨rfl,?_⟩;have he:leaveS ((n2,m2),true) (x2,y2) ((a1,a2,a3,a4),(b1,b2,b3,b4),ok)=((a1,a2,a3,a4),(n2,m2,x2,y2),ok):=by unfold leaveS;dsimp only;rw[if_neg (by decide),if_pos HLs.out]
     rw[HRR.out,HX2.out,he];have z1:=Nat.ne_of_lt HQ1.out.1;have z2:=Nat.ne_of_lt HQ1.out.2.1;have hB:B≤np:=Nat.le_trans HD.out.f (Nat.le_of_lt HQ1.out.2.1);exact((HL4.out.oth HP4 hB z1 z2 hnp 2 (.int .i64 x2)).oth (HP4.set 2 _) hB z1 z2 hnp 3 (.int .i64 y2)).setL HD.out n2 m2 x2 y2
theorem oH{c:Int→Pt}(a w f t:Int)(na nb nO nF nL B:Nat)(s:Cl)(w0 wq:World)(ha : -2097152≤a∧a≤2097152)(hw : -4194304≤w∧w≤4194304)(hf:Sm f)(ht:Sm t)(hs:SmC s)(d:lW B nO nF nL)
  (hc:∀(v:Int) (W:World),w≠0→min a (a+w)≤v∧v≤max a (a+w)→Below B w0 W→Calls Tryz.prog 157 #[v,.pointer (some ⟨na,0,none⟩),.pointer (some ⟨nb,0,none⟩)] W (RetV W (ae (c v))))
  (hL:bD B nO nF nL w0 wq s) :
  Calls Tryz.prog 153 #[.int .i64 a,.int .i64 w,.int .i64 f,.int .i64 t,.func (.func 157) #[] #[.pointer (some ⟨na,0,none⟩),.pointer (some ⟨nb,0,none⟩)],.pointer (some ⟨nO,0,none⟩),.pointer (some ⟨nF,0,none⟩),.pointer (some ⟨nL,0,none⟩)] wq
   (fun e W=>e=.returned (.tuple #[])∧bD B nO nF nL w0 W (limS a w f t c s)):=by
 have HD:=hid d;have CC:=hid hc;have HL:=hid hL;have HS:=hid hs;have cR:=hid fun v (hv:Sm v) W=>iZ a w v W (by unfold Sm;omega) (by unfold Sm;omega) hv
 clear d hc hs
 have HO:=hid (fun (k:Bool) (h:w=0∨t<f) (hk:k=(s.2.2&&(decide (f≤a)&&decide (a≤t))))=>(by
  have e:limS a w f t c s=(s.1,s.2.1,s.2.2&&(decide (f≤a)&&decide (a≤t))):=by unfold limS;rw[if_pos h]
  rw[e,←hk]
  exact HL.out.setO HD.out k:bD B nO nF nL w0 (wq.setCell ⟨nO,0,none⟩ (.bool k)) (limS a w f t c s)))
 by_cases h0:w=0
 ·subst h0
  clear cR CC hf ht ha hw;have k1:=hL.o.cell 0;have f1:=hL.o.frozen 0;simp only[gz]at k1;have HO2:=hid (fun k=>HO.out k (Or.inl rfl));generalize limS a 0 f t c s=R at *;obtain⟨s1,s2,ok⟩:=s;dsimp only at k1;clear hL HO HL HS;cases ok
  all_goals (
   go_enter Tryz.func153,Tryz.ntmps153;go_wp2_with fail
   all_goals (
    refine bodyPost_ret (v:=.tuple #[]) (by simp[results,Tryz.results153,go_sem]) rfl ?_
    exact⟨rfl,HO2.out _ (by simp<;>omega)⟩))
 by_cases h1:t<f
 ·clear cR CC hf ht ha hw
  have k1:=hL.o.cell 0;have f1:=hL.o.frozen 0;simp only[gz]at k1;have HO2:=hid (fun k=>HO.out k (Or.inr h1));generalize limS a w f t c s=R at *;obtain⟨s1,s2,ok⟩:=s;dsimp only at k1;clear hL HO HL HS;have b0:(w==0)=false:=by simp[h0]
  cases ok
  all_goals (
   go_enter Tryz.func153,Tryz.ntmps153;go_wp2_with fail
   all_goals (
    refine bodyPost_ret (v:=.tuple #[]) (by simp[results,Tryz.results153,go_sem]) rfl ?_
    exact⟨rfl,HO2.out _ (by simp<;>omega)⟩))
 have HX:=hid (show ∀e l,e=(if w<0 then t else f)→l=(if w<0 then f else t)→limS a w f t c s=leaveS (reachS a w l) (c l) (enterS (reachS a w e) (c e) s)from fun e l he hl=>by unfold limS;rw[if_neg (by omega),he,hl]);have b0:(w==0)=false:=by simp[h0]
 clear HO;have HHF:=hid hf;have HHT:=hid ht;have HHA:=hid ha;have HHW:=hid hw;clear hf ht ha hw hL;go_enter Tryz.func153,Tryz.ntmps153;go_upto_if 40 with fail;generalize he:(if w<0 then t else f)=e at HX;generalize hl:(if w<0 then f else t)=l at HX;go_cut [13,14] (fun v13 v14 wx=>v13=.int .i64 e∧v14=.int .i64 l∧wx=wq)
 case first=>
  clear HX HHF HHT HHA HHW CC cR HS HL HD
  by_cases h2:w<0
  ·rw[if_pos h2]at he hl
   subst he hl;go_wp2_with fail;go_meet;exact⟨rfl,rfl,rfl⟩
  ·rw[if_neg h2]at he hl
   subst he hl;go_wp2_with fail;go_meet;exact⟨rfl,rfl,rfl⟩
 case rest=>
  obtain⟨rfl,rfl,rfl⟩:=hcut;have he2:Sm e:=by rw[←he];exact(by split;exact HHT.out;exact HHF.out)
  have hl2:Sm l:=by rw[←hl];exact(by split;exact HHF.out;exact HHT.out)
  have HX2:=hid (HX.out e l rfl rfl);have cE:=hid (cR.out e he2);have cL:=hid (cR.out l hl2);have HSE:=hid (gZ (v:=e) (c:=c e) HHA.out HHW.out HS.out);have HRE:=hid (dq (a:=a) (w:=w) (v:=e) HHA.out HHW.out);have HRL:=hid (dq (a:=a) (w:=w) (v:=l) HHA.out HHW.out);have HCE:=hid (fun W (hi:(reachS a w e).2=true) hb=>CC.out e W h0 (fC hi) hb);have HCL:=hid (fun W (hi:(reachS a w l).2=true) hb=>CC.out l W h0 (fC hi) hb);clear he hl HX he2 hl2 cR CC HHA HHW HHF HHT;generalize hR:limS a w f t c s=R at *;have HRR:=hid hR;clear hR;generalize reachS a w e=re at *;generalize reachS a w l=rl at *;generalize c e=pe at *;generalize c l=pl at *;obtain⟨⟨n1,m1⟩,i1⟩:=re;obtain⟨⟨n2,m2⟩,i2⟩:=rl;obtain⟨x1,y1⟩:=pe;obtain⟨x2,y2⟩:=pl;unfold b2v plE ae at *;dsimp only at *;go_wp2_with fail;refine(cE.out _).mono ?_;rintro e1 w1 ⟨rfl,hb1⟩;have HL1:=hid (HL.out.below HD.out hb1);clear cE hb1;have HP1:=hid (Bx.new (t:=222) (cs:=[.int .i64 n1,.int .i64 m1,.int .i64 0,.int .i64 0]) w1 rfl);have HL2:=hid (HL1.out.below HD.out (bw1 w1 (.cells #[n1,m1,.int .i64 0,.int .i64 0] 222)));have HQ1:=hid (And.intro HL1.out.o.lt (And.intro HL1.out.f.lt HL1.out.l.lt));go_upto_if 51 with fail;generalize w1.alloc (.cells #[n1,m1,.int .i64 0,.int .i64 0] 222)=w2 at *;generalize w1.heap.size=np at *;go_cut [] (fun wx=>bD B nO nF nL w0 wx (enterS ((n1,m1),i1) (x1,y1) s))
  case first=>
   clear HX2 HSE HCL HRL cL;obtain⟨⟨a1,a2,a3,a4⟩,⟨b1,b2,b3,b4⟩,ok⟩:=s;cases i1
   ·have k1:=HL2.out.o.cell 0
    have f1:=HL2.out.o.frozen 0;have k2:=HP1.out.cell 0;simp only[gz]at k1 k2;cases ok
    all_goals (
     go_wp2_with fail
     all_goals (
      go_meet;have hX:=HL2.out.setO HD.out
      exact hX _))
   ·have cS:=hid (fun W=>ez a1 a2 n1 m1 (a3,a4) (0,0) W HS.out.1 HS.out.2.1 HRE.out.1 HRE.out.2)
    unfold plE at *;dsimp only at *;have k0:=HL2.out.f.cell 0;have k1:=HL2.out.f.cell 1;have k2:=HL2.out.f.cell 2;have k3:=HL2.out.f.cell 3;have p0:=HP1.out.cell 0;have p1:=HP1.out.cell 1;have p2:=HP1.out.cell 2;have p3:=HP1.out.cell 3;unfold plC at k0 k1 k2 k3;simp only[gz,gs]at k0 k1 k2 k3 p0 p1 p2 p3;go_wp2_with fail;refine(cS.out _).mono ?_;rintro e1 w3 ⟨rfl,hb3⟩;have HL3:=hid (HL2.out.below HD.out hb3);have HP3:=hid (HP1.out.below hb3);clear k0 k1 k2 k3 p0 p1 p2 p3 hb3;generalize hls:lessS (a1,a2) (n1,m1)=ls at cS ⊢;have HLs:=hid hls;clear hls;cases ls
    ·go_wp2_with fail
     go_meet;have he:enterS ((n1,m1),true) (x1,y1) ((a1,a2,a3,a4),(b1,b2,b3,b4),ok)=((a1,a2,a3,a4),(b1,b2,b3,b4),ok):=by unfold enterS;dsimp only;rw[if_neg (by decide),if_neg (by rw[HLs.out];decide)]
     rw[he];exact HL3.out
    ·go_wp2_with fail
     refine(HCE.out _ (by trivial) HL3.out.bel).mono ?_;rintro e1 w4 ⟨rfl,hb4⟩;have HL4:=hid (HL3.out.below HD.out hb4);have HP4:=HP3.out.below hb4;have p0:=HP4.cell 0;have p1:=HP4.cell 1;have p2:=HP4.cell 2;have p3:=HP4.cell 3;have g0:=HP4.frozen 0;have g1:=HP4.frozen 1;have g2:=HP4.frozen 2;have g3:=HP4.frozen 3;have gl:=HP4.lt;have k0:=HL4.out.f.cell 0;have k1:=HL4.out.f.cell 1;have k2:=HL4.out.f.cell 2;have k3:=HL4.out.f.cell 3;have q0:=HL4.out.f.frozen 0;have q1:=HL4.out.f.frozen 1;have q2:=HL4.out.f.frozen 2;have q3:=HL4.out.f.frozen 3;have hnp:nF≠np:=by have:=HQ1.out.2.1;omega
     unfold plC at k0 k1 k2 k3;simp only[gz,gs]at k0 k1 k2 k3 p0 p1 p2 p3;clear hb4;go_wp2_with fail;go_meet;have he:enterS ((n1,m1),true) (x1,y1) ((a1,a2,a3,a4),(b1,b2,b3,b4),ok)=((n1,m1,x1,y1),(b1,b2,b3,b4),ok):=by unfold enterS;dsimp only;rw[if_neg (by decide),if_pos HLs.out]
     rw[he];have z1:=Nat.ne_of_lt HQ1.out.1;have z3:=Nat.ne_of_lt HQ1.out.2.2;have hB:B≤np:=Nat.le_trans HD.out.f (Nat.le_of_lt HQ1.out.2.1);exact((HL4.out.oth HP4 hB z1 hnp z3 2 (.int .i64 x1)).oth (HP4.set 2 _) hB z1 hnp z3 3 (.int .i64 y1)).setF HD.out n1 m1 x1 y1
  case rest=>
   have HLC:=hid hcut;generalize enterS ((n1,m1),i1) (x1,y1) s=s' at *;clear HL HS HRE HCE HL1 HP1 HL2 HQ1 hcut;generalize wc=w5 at *;go_wp2_with fail;refine(cL.out _).mono ?_;rintro e1 w6 ⟨rfl,hb6⟩;have HL6:=hid (HLC.out.below HD.out hb6);clear cL hb6 HLC;have HP1:=hid (Bx.new (t:=222) (cs:=[.int .i64 n2,.int .i64 m2,.int .i64 0,.int .i64 0]) w6 rfl);have HL2:=hid (HL6.out.below HD.out (bw1 w6 (.cells #[n2,m2,.int .i64 0,.int .i64 0] 222)));have HQ1:=hid (And.intro HL6.out.o.lt (And.intro HL6.out.f.lt HL6.out.l.lt));go_upto_if 74 with fail;generalize w6.alloc (.cells #[n2,m2,.int .i64 0,.int .i64 0] 222)=w7 at *;generalize w6.heap.size=np at *;obtain⟨⟨a1,a2,a3,a4⟩,⟨b1,b2,b3,b4⟩,ok⟩:=s';cases i2
   ·have k1:=HL2.out.o.cell 0
    have f1:=HL2.out.o.frozen 0;have k2:=HP1.out.cell 0;simp only[gz]at k1 k2;cases ok
    all_goals (
     go_wp2_with fail
     all_goals (
      refine bodyPost_end (v:=.tuple #[]) (by simp[results,Tryz.results153,go_sem]) rfl ?_;have hX:=HL2.out.setO HD.out;refine⟨rfl,?_⟩;rw[HRR.out,HX2.out]
      exact hX _))
   ·have cS:=hid (fun W=>ez n2 m2 b1 b2 (0,0) (b3,b4) W HRL.out.1 HRL.out.2 HSE.out.2.2.1 HSE.out.2.2.2)
    unfold plE at *;dsimp only at *;have k0:=HL2.out.l.cell 0;have k1:=HL2.out.l.cell 1;have k2:=HL2.out.l.cell 2;have k3:=HL2.out.l.cell 3;have p0:=HP1.out.cell 0;have p1:=HP1.out.cell 1;have p2:=HP1.out.cell 2;have p3:=HP1.out.cell 3;unfold plC at k0 k1 k2 k3;simp only[gz,gs]at k0 k1 k2 k3 p0 p1 p2 p3;go_wp2_with fail;refine(cS.out _).mono ?_;rintro e1 w8 ⟨rfl,hb8⟩;have HL3:=hid (HL2.out.below HD.out hb8);have HP3:=hid (HP1.out.below hb8);clear k0 k1 k2 k3 p0 p1 p2 p3 hb8;generalize hls:lessS (n2,m2) (b1,b2)=ls at cS ⊢;have HLs:=hid hls;clear hls;cases ls
    ·go_wp2_with fail
     refine bodyPost_end (v:=.tuple #[]) (by simp[results,Tryz.results153,go_sem]) rfl ?_;refine⟨rfl,?_⟩;rw[HRR.out,HX2.out];have he:leaveS ((n2,m2),true) (x2,y2) ((a1,a2,a3,a4),(b1,b2,b3,b4),ok)=((a1,a2,a3,a4),(b1,b2,b3,b4),ok):=by unfold leaveS;dsimp only;rw[if_neg (by decide),if_neg (by rw[HLs.out];decide)]
     rw[he];exact HL3.out
    ·go_wp2_with fail
     refine(HCL.out _ (by trivial) HL3.out.bel).mono ?_;rintro e1 w9 ⟨rfl,hb9⟩;have HL4:=hid (HL3.out.below HD.out hb9);have HP4:=HP3.out.below hb9;have p0:=HP4.cell 0;have p1:=HP4.cell 1;have p2:=HP4.cell 2;have p3:=HP4.cell 3;have g0:=HP4.frozen 0;have g1:=HP4.frozen 1;have g2:=HP4.frozen 2;have g3:=HP4.frozen 3;have gl:=HP4.lt;have k0:=HL4.out.l.cell 0;have k1:=HL4.out.l.cell 1;have k2:=HL4.out.l.cell 2;have k3:=HL4.out.l.cell 3;have q0:=HL4.out.l.frozen 0;have q1:=HL4.out.l.frozen 1;have q2:=HL4.out.l.frozen 2;have q3:=HL4.out.l.frozen 3;have hnp:nL≠np:=by have:=HQ1.out.2.2;omega
     unfold plC at k0 k1 k2 k3;simp only[gz,gs]at k0 k1 k2 k3 p0 p1 p2 p3;clear hb9;go_wp2_with fail;refine bodyPost_end (v:=.tuple #[]) (by simp[results,Tryz.results153,go_sem]) rfl ?_;refine⟨rfl,?_⟩;have he:leaveS ((n2,m2),true) (x2,y2) ((a1,a2,a3,a4),(b1,b2,b3,b4),ok)=((a1,a2,a3,a4),(n2,m2,x2,y2),ok):=by unfold leaveS;dsimp only;rw[if_neg (by decide),if_pos HLs.out]
     rw[HRR.out,HX2.out,he];have z1:=Nat.ne_of_lt HQ1.out.1;have z2:=Nat.ne_of_lt HQ1.out.2.1;have hB:B≤np:=Nat.le_trans HD.out.f (Nat.le_of_lt HQ1.out.2.1);exact((HL4.out.oth HP4 hB z1 z2 hnp 2 (.int .i64 x2)).oth (HP4.set 2 _) hB z1 z2 hnp 3 (.int .i64 y2)).setL HD.out n2 m2 x2 y2
end Go.Proofs
namespace Go.Proofs
def inT(a b c q:Pt):Prop:=
 if sd a b c=0 then onB a b q=true∨onB b c q=true∨onB c a q=true
 else 0≤sd a b c*sd a b q∧0≤sd a b c*sd b c q∧0≤sd a b c*sd c a q
theorem ph{x y:Int}:0≤sg x*sg y↔0≤x*y:=by
 have h:=(eW (-x) y).1;have e:sg (-x)=- sg x:=by unfold sg;split<;>split<;>(try split)<;>omega
 rw[e]at h;constructor
 ·intro k
  have:=h.1 (by rw[Int.neg_mul];omega);rw[Int.neg_mul]at this;omega
 ·intro k
  have:=h.2 (by rw[Int.neg_mul];omega);rw[Int.neg_mul]at this;omega
theorem fJ{a b c q:Pt}(h:tw a b c≠0):inT a b c q↔0≤tw a b c*tw a b q∧0≤tw a b c*tw b c q∧0≤tw a b c*tw c a q:=by
 unfold inT;rw[if_neg (by rw[bL];exact h)];unfold sd;rw[ph,ph,ph]
theorem aB{a b c d:Pt}:aE a b c d=false↔onB a b c=false∧onB a b d=false∧onB c d a=false∧onB c d b=false∧¬(tw a b c*tw a b d<0∧tw c d a*tw c d b<0):=by
 unfold aE;simp only[Bool.or_eq_false_iff,Bool.and_eq_false_iff,decide_eq_false_iff_not];unfold sd;rw[(eW (tw a b c) (tw a b d)).2,(eW (tw c d a) (tw c d b)).2];constructor
 ·rintro⟨⟨⟨⟨h1,h2⟩,h3⟩,h4⟩,h5⟩
  exact⟨h1,h2,h3,h4,fun k=>by rcases h5 with h5|h5;exact h5 k.1;exact h5 k.2⟩
 ·rintro⟨h1,h2,h3,h4,h5⟩
  refine⟨⟨⟨⟨h1,h2⟩,h3⟩,h4⟩,?_⟩
  rcases Int.lt_or_le (tw a b c*tw a b d) 0 with k|k
  ·exact Or.inr fun k2=>h5 ⟨k,k2⟩
  ·exact Or.inl (by omega)
theorem aA{x y:Int}:x*y<0↔(x<0∧0<y)∨(0<x∧y<0):=by
 constructor
 ·intro h
  rcases Int.lt_trichotomy x 0 with k|k|k
  ·rcases Int.lt_or_le 0 y with g|g
   ·exact Or.inl ⟨k,g⟩
   ·have:=Int.mul_nonneg (show 0≤-x by omega) (show 0≤-y by omega)
    grind
  ·rw[k]at h;omega
  ·rcases Int.lt_or_le y 0 with g|g
   ·exact Or.inr ⟨k,g⟩
   ·have:=Int.mul_nonneg (show 0≤x by omega) g
    omega
 ·rintro (⟨h1,h2⟩|⟨h1,h2⟩)
  ·have:=Int.mul_pos (show 0 < -x by omega) h2
   grind
  ·have:=Int.mul_pos h1 (show 0 < -y by omega)
   grind
theorem fa{c d m:Pt}{f0 fc fm fd:Int}(hcol:tw c d m=0)(hx:(m.1-c.1)*(fd-fc)=(d.1-c.1)*(fm-fc))(hy:(m.2-c.2)*(fd-fc)=(d.2-c.2)*(fm-fc))(h1:fd<fm)(h2:fm<fc):onB c d m=true:=by
 rw[aM];refine⟨hcol,?_⟩
 have key:∀u v:Int,u*(fd-fc)=v*(fm-fc)→min 0 v≤u∧u≤max 0 v:=by
  intro u v h;have h:u*(fc-fd)=v*(fc-fm):=by grind
  have hp:0<fc-fd:=by omega
  rcases Int.lt_or_le v 0 with k|k
  ·have k1:=Int.mul_pos (show 0 < -v by omega) (show 0<fc-fm by omega)
   have k2:=Int.mul_pos (show 0 < -v by omega) (show 0<fm-fd by omega)
   have a1:u<0:=by
    rcases Int.lt_or_le u 0 with g|g
    ·exact g
    ·have:=Int.mul_nonneg g (Int.le_of_lt hp);grind
   have a2:v<u:=by
    rcases Int.lt_or_le v u with g|g
    ·exact g
    ·have:=Int.mul_nonneg (show 0≤v-u by omega) (Int.le_of_lt hp);grind
   omega
  ·have k1:=Int.mul_nonneg k (show 0≤fc-fm by omega)
   have k2:=Int.mul_nonneg k (show 0≤fm-fd by omega)
   have a1:0≤u:=by
    rcases Int.lt_or_le u 0 with g|g
    ·have:=Int.mul_pos (show 0 < -u by omega) hp;grind
    ·exact g
   have a2:u≤v:=by
    rcases Int.lt_or_le v u with g|g
    ·have:=Int.mul_pos (show 0<u-v by omega) hp;grind
    ·exact g
   omega
 have kx:=key _ _ hx;have ky:=key _ _ hy;unfold inBx;omega
theorem ik{b m h c d:Pt}(hT:0<tw b m h)(hc:0<tw h b c)(hd:tw h b d<0)(hg:tw c d b*tw c d h<0)(hin:¬(0≤tw b m c∧0≤tw m h c))
  (h1:¬(tw b m c*tw b m d<0∧tw c d b*tw c d m<0))(h2:¬(tw m h c*tw m h d<0∧tw c d m*tw c d h<0))(h3:onB c d m=false):False:=by
 have i0:tw c d b-tw c d h=tw h b c-tw h b d:=by unfold tw;grind
 have ic:tw c d h*tw b m c+tw c d b*tw m h c+tw c d m*tw h b c=0:=by unfold tw;grind
 have i2:tw h b c*tw m h d-tw h b d*tw m h c=- (tw b m h*tw c d h):=by unfold tw;grind
 have i3:tw b m c*tw h b d-tw b m d*tw h b c=- (tw b m h*tw c d b):=by unfold tw;grind
 have i4:tw b m c+tw m h c+tw h b c=tw b m h:=by unfold tw;grind
 have i5:tw h b m=tw b m h:=by unfold tw;grind
 have ix:tw c d m=0→(m.1-c.1)*(tw h b d-tw h b c)=(d.1-c.1)*(tw h b m-tw h b c):=by unfold tw;grind
 have iy:tw c d m=0→(m.2-c.2)*(tw h b d-tw h b c)=(d.2-c.2)*(tw h b m-tw h b c):=by unfold tw;grind
 have hb:0<tw c d b∧tw c d h<0:=by
  rcases aA.1 hg with⟨k1,k2⟩|⟨k1,k2⟩
  ·omega
  ·exact⟨k1,k2⟩
 obtain⟨gb,gh⟩:=hb;have hcol:=@fa c d m 0 (tw h b c) (tw h b m) (tw h b d);generalize tw b m h=T at *;generalize tw h b m=T' at *;generalize tw h b c=Cc at *;generalize tw h b d=Cd at *;generalize tw b m c=Ac at *;generalize tw b m d=Ad at *;generalize tw m h c=Bc at *;generalize tw m h d=Bd at *;generalize tw c d b=G1 at *;generalize tw c d h=G2 at *;generalize tw c d m=G3 at *
 rcases Int.lt_trichotomy G3 0 with k|k|k
 ·
  have hA:Ac<0:=by
   rcases Int.lt_or_le Ac 0 with g|g
   ·exact g
   ·exfalso
    have e1:=Int.mul_nonneg g (show 0≤-G2 by omega);have e2:=Int.mul_pos (show 0 < -G3 by omega) hc
    have:0≤Bc:=by
     rcases Int.lt_or_le Bc 0 with g2|g2
     ·have:=Int.mul_pos gb (show 0 < -Bc by omega)
      grind
     ·exact g2
    exact hin ⟨g,this⟩
  have hAd:Ad≤0:=by
   rcases Int.lt_or_le 0 Ad with g|g
   ·exact absurd ⟨aA.2 (Or.inl ⟨hA,g⟩),aA.2 (Or.inr ⟨gb,k⟩)⟩ h1
   ·exact g
  have e1:=Int.mul_pos (show 0 < -Ac by omega) (show 0 < -Cd by omega);have e2:=Int.mul_nonneg (show 0≤-Ad by omega) (Int.le_of_lt hc);have e3:=Int.mul_pos hT gb;grind
 ·
  subst k
  have hneg:Ac<0∧Bc<0:=by
   have e:G1*Bc=-G2*Ac:=by grind
   rcases Int.lt_or_le Ac 0 with g|g
   ·refine⟨g,?_⟩
    rcases Int.lt_or_le Bc 0 with g2|g2
    ·exact g2
    ·have:=Int.mul_nonneg (Int.le_of_lt gb) g2
     have:=Int.mul_pos (show 0 < -G2 by omega) (show 0 < -Ac by omega);grind
   ·exfalso
    apply hin;refine⟨g,?_⟩
    rcases Int.lt_or_le Bc 0 with g2|g2
    ·have:=Int.mul_pos gb (show 0 < -Bc by omega)
     have:=Int.mul_nonneg (show 0≤-G2 by omega) g;grind
    ·exact g2
  have:=hcol rfl (ix rfl) (iy rfl) (by omega) (by omega);rw[h3]at this;cases this
 ·
  have hB:Bc<0:=by
   rcases Int.lt_or_le Bc 0 with g|g
   ·exact g
   ·exfalso
    have e1:=Int.mul_nonneg (Int.le_of_lt gb) g;have e2:=Int.mul_pos k hc
    have:0≤Ac:=by
     rcases Int.lt_or_le Ac 0 with g2|g2
     ·have:=Int.mul_pos (show 0 < -G2 by omega) (show 0 < -Ac by omega)
      grind
     ·exact g2
    exact hin ⟨this,g⟩
  have hBd:Bd≤0:=by
   rcases Int.lt_or_le 0 Bd with g|g
   ·exact absurd ⟨aA.2 (Or.inl ⟨hB,g⟩),aA.2 (Or.inr ⟨k,gh⟩)⟩ h2
   ·exact g
  have e1:=Int.mul_pos (show 0 < -Cd by omega) (show 0 < -Bc by omega);have e2:=Int.mul_nonneg (Int.le_of_lt hc) (show 0≤-Bd by omega);have e3:=Int.mul_pos hT (show 0 < -G2 by omega);grind
theorem au(a b c:Pt):tw b a c=- tw a b c:=by unfold tw;grind
theorem bF{a b p:Pt}:onB a b p=onB b a p:=by
 have h:onB a b p=true↔onB b a p=true:=by
  rw[aM,aM,au];unfold inBx;omega
 cases h1:onB a b p<;>cases h2:onB b a p<;>simp_all
theorem dJ{a b c d:Pt}:aE a b c d=false↔aE b a c d=false:=by
 rw[aB,aB,bF (a:=a) (b:=b) (p:=c),bF (a:=a) (b:=b) (p:=d),au b a c,au b a d];have e1 : -tw b a c*-tw b a d=tw b a c*tw b a d:=by grind
 have e2:tw c d a*tw c d b=tw c d b*tw c d a:=by grind
 rw[e1,e2];exact⟨fun ⟨h1,h2,h3,h4,h5⟩=>⟨h1,h2,h4,h3,h5⟩,fun ⟨h1,h2,h3,h4,h5⟩=>⟨h1,h2,h4,h3,h5⟩⟩
theorem kt{a b c q:Pt}:inT a b c q↔inT c b a q:=by
 have e:tw c b a=- tw a b c:=by unfold tw;grind
 by_cases h:tw a b c=0
 ·unfold inT
  rw[if_pos ((bL _ _ _).2 h),if_pos ((bL _ _ _).2 (by omega)),bF (a:=c) (b:=b),bF (a:=b) (b:=a),bF (a:=a) (b:=c)];exact⟨fun h=>by rcases h with h|h|h;exact Or.inr (Or.inl h);exact Or.inl h;exact Or.inr (Or.inr h),fun h=>by rcases h with h|h|h;exact Or.inr (Or.inl h);exact Or.inl h;exact Or.inr (Or.inr h)⟩
 ·rw[fJ h,fJ (by omega),e,au b c q,au a b q,au c a q]
  simp only[Int.neg_mul_neg];exact⟨fun ⟨h1,h2,h3⟩=>⟨h2,h1,h3⟩,fun ⟨h1,h2,h3⟩=>⟨h2,h1,h3⟩⟩
theorem fE{u v A T:Int}(hu:u≠0)(h:u*A=v*T)(hs:0≤u*v):0≤T*A:=by
 rcases Int.lt_or_le (T*A) 0 with k|k
 ·exfalso
  have h1:0<u*u:=by rcases Int.lt_or_gt_of_ne hu with g|g;exact Int.mul_pos_of_neg_of_neg g g;exact Int.mul_pos g g
  have h2:=Int.mul_pos h1 (show 0 < -(T*A) by omega);have h3:=Int.mul_nonneg hs (show 0≤T*T by exact eD T)
  have e:u*u*(T*A)=u*v*(T*T):=by
   have:u*T*(u*A)=u*T*(v*T):=by rw[h]
   grind
  have e2:u*u*-(T*A)=-(u*u*(T*A)):=by grind
  omega
 ·exact k
theorem rO{b m h q:Pt}(hT:tw b m h≠0)(hq:onB b h q=true):inT b m h q:=by
 obtain⟨h1,h2⟩:=aM.1 hq;have hbh:b≠h:=by intro e;apply hT;rw[e];unfold tw;grind
 rw[fJ hT];have hz:tw h b q=0:=by rw[au];omega
 rw[hz];have ax:(h.1-b.1)*tw b m q=(q.1-b.1)*tw b m h:=by unfold tw at *;grind
 have ay:(h.2-b.2)*tw b m q=(q.2-b.2)*tw b m h:=by unfold tw at *;grind
 have bx:(h.1-b.1)*tw m h q=(h.1-q.1)*tw b m h:=by unfold tw at *;grind
 have bY:(h.2-b.2)*tw m h q=(h.2-q.2)*tw b m h:=by unfold tw at *;grind
 unfold inBx at h2
 have sx:0≤(h.1-b.1)*(q.1-b.1)∧0≤(h.1-b.1)*(h.1-q.1):=by
  rcases Int.lt_or_le b.1 h.1 with k|k
  ·exact⟨Int.mul_nonneg (by omega) (by omega),Int.mul_nonneg (by omega) (by omega)⟩
  ·exact⟨Int.mul_nonneg_of_nonpos_of_nonpos (by omega) (by omega),Int.mul_nonneg_of_nonpos_of_nonpos (by omega) (by omega)⟩
 have sy:0≤(h.2-b.2)*(q.2-b.2)∧0≤(h.2-b.2)*(h.2-q.2):=by
  rcases Int.lt_or_le b.2 h.2 with k|k
  ·exact⟨Int.mul_nonneg (by omega) (by omega),Int.mul_nonneg (by omega) (by omega)⟩
  ·exact⟨Int.mul_nonneg_of_nonpos_of_nonpos (by omega) (by omega),Int.mul_nonneg_of_nonpos_of_nonpos (by omega) (by omega)⟩
 rcases Decidable.em (h.1-b.1=0)with k|k
 ·have k2:h.2-b.2≠0:=by intro k2;exact hbh (Prod.ext (by omega) (by omega))
  exact⟨fE k2 ay sy.1,fE k2 bY sy.2,by omega⟩
 ·exact⟨fE k ax sx.1,fE k bx sx.2,by omega⟩
theorem bH{b m h q:Pt}(hq:onB b h q=true):inT b m h q:=by
 by_cases hT:tw b m h=0
 ·unfold inT
  rw[if_pos ((bL _ _ _).2 hT)];exact Or.inr (Or.inr (by rw[bF];exact hq))
 ·exact rO hT hq
theorem mc{u u' X Y X' Y':Int}(hu:u≠0)(hu':u'≠0)(h1:u*X=u'*X')(h2:u*Y=u'*Y')(h:X'*Y'<0):X*Y<0:=by
 have p1:0<u*u:=by rcases Int.lt_or_gt_of_ne hu with g|g;exact Int.mul_pos_of_neg_of_neg g g;exact Int.mul_pos g g
 have p2:0<u'*u':=by rcases Int.lt_or_gt_of_ne hu' with g|g;exact Int.mul_pos_of_neg_of_neg g g;exact Int.mul_pos g g
 rcases Int.lt_or_le (X*Y) 0 with k|k
 ·exact k
 ·exfalso
  have:=Int.mul_nonneg (Int.le_of_lt p1) k;have:=Int.mul_pos p2 (show 0 < -(X'*Y') by omega)
  have e:u*u*(X*Y)=u'*u'*(X'*Y'):=by
   have:(u*X)*(u*Y)=(u'*X')*(u'*Y'):=by rw[h1,h2]
   grind
  grind
theorem fP{b m h c d:Pt}(hT:tw b m h=0)(hbm:b≠m)(hbh:b≠h)(hs:tw b h c*tw b h d<0):tw b m c*tw b m d<0:=by
 have x1:∀q,(h.1-b.1)*tw b m q=(m.1-b.1)*tw b h q:=by intro q;unfold tw at *;grind
 have y1:∀q,(h.2-b.2)*tw b m q=(m.2-b.2)*tw b h q:=by intro q;unfold tw at *;grind
 have e:(m.1-b.1)*(h.2-b.2)=(m.2-b.2)*(h.1-b.1):=by unfold tw at hT;grind
 rcases Decidable.em (h.1-b.1=0)with k|k
 ·have k2:h.2-b.2≠0:=by intro k2;exact hbh (Prod.ext (by omega) (by omega))
  have k3:m.2-b.2≠0:=by
   intro k3;rw[k3,k,Int.zero_mul]at e
   rcases Int.mul_eq_zero.1 e with g|g
   ·exact hbm (Prod.ext (by omega) (by omega))
   ·exact k2 g
  exact mc k2 k3 (y1 c) (y1 d) hs
 ·have k3:m.1-b.1≠0:=by
   intro k3;rw[k3,Int.zero_mul]at e
   rcases Int.mul_eq_zero.1 e.symm with g|g
   ·exact hbm (Prod.ext (by omega) (by omega))
   ·exact k g
  exact mc k k3 (x1 c) (x1 d) hs
theorem mP{b m h c d:Pt}(hbm:b≠m)(hmh:m≠h)(n1:aE b m c d=false)(n2:aE m h c d=false)(hc:¬inT b m h c)(hd:¬inT b m h d):aE b h c d=false:=by
 obtain⟨a1,a2,a3,a4,a5⟩:=aB.1 n1;obtain⟨b1,b2,b3,b4,b5⟩:=aB.1 n2;rw[aB];refine⟨?_,?_,a3,b4,?_⟩
 ·cases k:onB b h c
  ·rfl
  ·exact absurd (bH k) hc
 ·cases k:onB b h d
  ·rfl
  ·exact absurd (bH k) hd
 rintro⟨hs,hg⟩
 by_cases hT:tw b m h=0
 ·
  have hbh:b≠h:=by intro e;rw[e]at hg;have:=eD (tw c d h);omega
  by_cases hm:tw c d m=0
  ·have hz:tw h b m=0:=by have:tw h b m=tw b m h:=(by unfold tw;grind);omega
   have ix:(m.1-c.1)*(tw h b d-tw h b c)=(d.1-c.1)*(tw h b m-tw h b c):=by unfold tw at *;grind
   have iy:(m.2-c.2)*(tw h b d-tw h b c)=(d.2-c.2)*(tw h b m-tw h b c):=by unfold tw at *;grind
   have:onB c d m=true:=by
    rw[au h b c,au h b d]at hs
    rcases aA.1 hs with⟨k1,k2⟩|⟨k1,k2⟩
    ·exact fa (f0:=0) hm ix iy (by omega) (by omega)
    ·exact fa (f0:=0) (fc:=- tw h b c) (fm:=- tw h b m) (fd:=- tw h b d) hm (by grind) (by grind) (by omega) (by omega)
   rw[a4]at this;cases this
  ·rcases aA.1 hg with⟨k1,k2⟩|⟨k1,k2⟩
   ·rcases Int.lt_or_gt_of_ne hm with k|k
    ·exact b5 ⟨by
      have:=fP (b:=h) (m:=m) (h:=b) (c:=c) (d:=d) (by unfold tw at *;grind) (fun e=>hmh e.symm) (fun e=>hbh e.symm) (by rw[au b h c,au b h d,Int.neg_mul_neg];exact hs);rw[au m h c,au m h d,Int.neg_mul_neg]at this
      exact this,aA.2 (Or.inl ⟨k,k2⟩)⟩
    ·exact a5 ⟨fP hT hbm hbh hs,aA.2 (Or.inl ⟨k1,k⟩)⟩
   ·rcases Int.lt_or_gt_of_ne hm with k|k
    ·exact a5 ⟨fP hT hbm hbh hs,aA.2 (Or.inr ⟨k1,k⟩)⟩
    ·exact b5 ⟨by
      have:=fP (b:=h) (m:=m) (h:=b) (c:=c) (d:=d) (by unfold tw at *;grind) (fun e=>hmh e.symm) (fun e=>hbh e.symm) (by rw[au b h c,au b h d,Int.neg_mul_neg];exact hs);rw[au m h c,au m h d,Int.neg_mul_neg]at this
      exact this,aA.2 (Or.inr ⟨k,k2⟩)⟩
 ·
  have pos:∀b m h c d:Pt,0<tw b m h→tw b h c*tw b h d<0→tw c d b*tw c d h<0→¬inT b m h c→¬inT b m h d→aE b m c d=false→aE m h c d=false→False:=by
   intro b m h c d hT hs hg hc hd n1 n2;obtain⟨a1,a2,a3,a4,a5⟩:=aB.1 n1;obtain⟨b1,b2,b3,b4,b5⟩:=aB.1 n2
   have hin:∀q,0<tw h b q→¬inT b m h q→¬(0≤tw b m q∧0≤tw m h q):=by
    intro q hq hn ⟨k1,k2⟩;apply hn;rw[fJ (by omega)];exact⟨Int.mul_nonneg (by omega) k1,Int.mul_nonneg (by omega) k2,Int.mul_nonneg (by omega) (by omega)⟩
   rw[au h b c,au h b d]at hs
   rcases aA.1 hs with⟨k1,k2⟩|⟨k1,k2⟩
   ·exact ik hT (by omega) (by omega) hg (hin c (by omega) hc) a5 b5 a4
   ·refine ik (c:=d) (d:=c) hT (by omega) (by omega) ?_ (hin d (by omega) hd) ?_ ?_ (by rw[bF];exact a4)
    ·rw[au c d b,au c d h,Int.neg_mul_neg];exact hg
    ·rw[au c d b,au c d m,Int.neg_mul_neg,Int.mul_comm (tw b m d)];exact a5
    ·rw[au c d m,au c d h,Int.neg_mul_neg,Int.mul_comm (tw m h d)];exact b5
  rcases Int.lt_or_gt_of_ne hT with k|k
  ·refine pos h m b c d (by have:tw h m b=- tw b m h:=(by unfold tw;grind);omega) ?_ ?_ (fun k=>hc (kt.1 k)) (fun k=>hd (kt.1 k)) (dJ.1 n2) (dJ.1 n1)
   ·rw[au b h c,au b h d,Int.neg_mul_neg];exact hs
   ·rw[Int.mul_comm];exact hg
  ·exact pos b m h c d k hs hg hc hd n1 n2
end Go.Proofs
namespace Go.Proofs
theorem du(a b:Pt):onB a b a=true:=by rw[aM];exact⟨(cY a b).2,by unfold inBx;omega⟩
theorem fY(a b:Pt):onB a b b=true:=by rw[aM];exact⟨(cY a b).1,by unfold inBx;omega⟩
theorem bq{a b c d:Pt}(h:aE a b c d=false):a≠c∧a≠d∧b≠c∧b≠d:=by
 obtain⟨h1,h2,h3,h4,_⟩:=aB.1 h;refine⟨fun e=>?_,fun e=>?_,fun e=>?_,fun e=>?_⟩
 ·rw[←e,du]at h1;cases h1
 ·rw[←e,du]at h2;cases h2
 ·rw[←e,fY]at h1;cases h1
 ·rw[←e,fY]at h2;cases h2
def bU(b m h q:Pt):Prop:=q=b∨q=m∨q=h∨¬inT b m h q
theorem bC{b m h q:Pt}(hc:bU b m h q)(h1:q≠b)(h2:q≠m)(h3:q≠h):¬inT b m h q:=by
 rcases hc with k|k|k|k
 ·exact absurd k h1
 ·exact absurd k h2
 ·exact absurd k h3
 ·exact k
theorem fZ{b m h c d:Pt}(hb:Nr b)(hh:Nr h)(hcn:Nr c)(hdn:Nr d)(hbm:b≠m)(hmh:m≠h)(hbh:b≠h)(hcd:c≠d)(n1:aE b m c d=false)(n2:aE m h c d=false)(hc:bU b m h c)(hd:bU b m h d):meetN b h c d=0:=by
 obtain⟨e1,e2,e3,e4⟩:=bq n1;obtain⟨e5,e6,e7,e8⟩:=bq n2;rw[bw hb hh hcn hdn hbh hcd];exact mP hbm hmh n1 n2 (bC hc (Ne.symm e1) (Ne.symm e3) (Ne.symm e7)) (bC hd (Ne.symm e2) (Ne.symm e4) (Ne.symm e8))
theorem lC{u b m h:Pt}(hu:Nr u)(hb:Nr b)(hh:Nr h)(hub:u≠b)(hbh:b≠h)(n2:aE u b m h=false)(hc:bU b m h u):meetN u b b h=1:=by
 obtain⟨e1,e2,e3,e4⟩:=bq n2;rw[dw hu hb hh hub hbh];refine⟨(aB.1 n2).2.1,?_⟩;cases k:onB b h u
 ·rfl
 ·exact absurd (bH k) (bC hc hub e1 e2)
theorem lB{b m h v:Pt}(hb:Nr b)(hh:Nr h)(hv:Nr v)(hbh:b≠h)(hhv:h≠v)(n1:aE b m h v=false)(hc:bU b m h v):meetN b h h v=1:=by
 obtain⟨e1,e2,e3,e4⟩:=bq n1;rw[dw hb hh hv hbh hhv];refine⟨?_,(aB.1 n1).2.2.1⟩;cases k:onB b h v
 ·rfl
 ·exact absurd (bH k) (bC hc (Ne.symm e2) (Ne.symm e4) (Ne.symm hhv))
def Adj(loop:Prop)(N j k:Nat):Prop:=j+1=k∨(loop∧j=0∧k+2=N)
structure dH(loop:Prop)(f:Nat→Pt)(N:Nat):Prop where
 two:2≤N
 nr:∀k,k<N→Nr (f k)
 four:loop→4≤N∧f (N-1)=f 0
 ne:∀k,k+1<N→f k≠f (k+1)
 adj:∀j k,j<k→k+1<N→Adj loop N j k→meetN (f j) (f (j+1)) (f k) (f (k+1))=1
 far:∀j k,j<k→k+1<N→¬Adj loop N j k→meetN (f j) (f (j+1)) (f k) (f (k+1))=0
def dG(f:Nat→Pt)(i:Nat)(k:Nat):Pt:=if k≤i then f k else f (k+1)
theorem ap{f:Nat→Pt}{i k:Nat}(h:k≤i):dG f i k=f k:=if_pos h
theorem aq{f:Nat→Pt}{i k:Nat}(h:i<k):dG f i k=f (k+1):=if_neg (by omega)
theorem dH.apart{loop:Prop}{f:Nat→Pt}{N:Nat}(h:dH loop f N){j k:Nat}(h1:j<k)(h2:k+1<N)(h3:¬Adj loop N j k):aE (f j) (f (j+1)) (f k) (f (k+1))=false:=
 (bw (h.nr _ (by omega)) (h.nr _ (by omega)) (h.nr _ (by omega)) (h.nr _ (by omega)) (h.ne j (by omega)) (h.ne k (by omega))).1 (h.far j k h1 h2 h3)
theorem dH.three{loop:Prop}{f:Nat→Pt}{N:Nat}(h:dH loop f N){i:Nat}(hi:i+2<N):f i≠f (i+2):=by
 intro e;have h1:=h.adj i (i+1) (by omega) (by omega) (Or.inl rfl);rw[dw (h.nr _ (by omega)) (h.nr _ (by omega)) (h.nr _ (by omega)) (h.ne i (by omega)) (h.ne (i+1) (by omega))]at h1;rw[show i+1+1=i+2 from rfl,←e,du]at h1;cases h1.1
theorem qv{loop:Prop}{f:Nat→Pt}{N i:Nat}(h:dH loop f N)(hi:i+2<N)(h5:loop→5≤N)(hc:∀k,k<N→bU (f i) (f (i+1)) (f (i+2)) (f k)):dH loop (dG f i) (N-1):=by
 have hbm:=h.ne i (by omega);have hmh:=h.ne (i+1) (by omega);have hbh:=h.three hi;have nb:=h.nr i (by omega);have nm:=h.nr (i+1) (by omega);have nh:=h.nr (i+2) (by omega);have segi:dG f i i=f i∧dG f i (i+1)=f (i+2):=⟨ap (Nat.le_refl _),aq (by omega)⟩;refine⟨by omega,fun k hk=>?_,fun hl=>?_,fun k hk=>?_,fun j k hjk hk ha=>?_,fun j k hjk hk ha=>?_⟩
 ·unfold dG;split
  ·exact h.nr _ (by omega)
  ·exact h.nr _ (by omega)
 ·have:=h.four hl
  have:=h5 hl;refine⟨by omega,?_⟩;rw[aq (by omega),ap (by omega),show N-1-1+1=N-1 by omega];exact(h.four hl).2
 ·rcases Nat.lt_trichotomy k i with g|g|g
  ·rw[ap (by omega),ap (by omega)];exact h.ne k (by omega)
  ·rw[g,segi.1,segi.2];exact hbh
  ·rw[aq g,aq (by omega)];exact h.ne (k+1) (by omega)
 ·
  rcases Nat.lt_trichotomy k i with g|g|g
  ·
   rw[ap (by omega),ap (by omega),ap (by omega),ap (by omega)];refine h.adj j k hjk (by omega) ?_
   rcases ha with ha|⟨hl,h0,h1⟩
   ·exact Or.inl ha
   ·omega
  ·rw[g]at hjk hk ha ⊢
   rw[segi.1,segi.2,ap (by omega),ap (by omega)]
   rcases ha with ha|⟨hl,h0,h1⟩
   ·subst ha
    have n2:=h.apart (j:=j) (k:=j+1+1) (by omega) (by omega) (by
     rintro (k|⟨hl,k1,k2⟩)
     ·omega
     ·have:=h5 hl;omega)
    exact lC (h.nr _ (by omega)) nb nh (h.ne j (by omega)) hbh n2 (hc j (by omega))
   ·subst h0
    have hcl:=(h.four hl).2;have he:f (i+2)=f 0:=by rw[←hcl,show N-1=i+2 by omega]
    have h5':=h5 hl
    have n1:=h.apart (j:=0) (k:=i) (by omega) (by omega) (by
     rintro (k|⟨hl,k1,k2⟩)<;>omega)
    have n2:=h.adj 0 (i+1) (by omega) (by omega) (Or.inr ⟨hl,rfl,by omega⟩);rw[show i+1+1=i+2 from rfl,he]at n2;rw[f8 (h.nr 0 (by omega)) (h.nr 1 (by omega)) nm (h.ne 0 (by omega)) (by rw[←he];exact hmh)]at n2;rw[he,f8 (h.nr 0 (by omega)) (h.nr 1 (by omega)) nb (h.ne 0 (by omega)) (by rw[←he];exact hbh)];refine⟨?_,(aB.1 n1).1⟩;cases k:onB (f i) (f 0) (f (0+1))
    ·rfl
    ·obtain⟨e1,e2,e3,e4⟩:=bq n1
     exact absurd (bH (by rw[he];exact k)) (bC (hc 1 (by omega)) e3 e4 (by rw[he];exact(h.ne 0 (by omega)).symm))
  ·rcases Nat.lt_trichotomy j i with g2|g2|g2
   ·rw[ap (by omega),ap (by omega),aq (by omega),aq (by omega)]
    refine h.adj j (k+1) (by omega) (by omega) ?_
    rcases ha with ha|⟨hl,h0,h1⟩
    ·omega
    ·exact Or.inr ⟨hl,h0,by omega⟩
   ·rw[g2]at hjk ha ⊢
    rw[segi.1,segi.2,aq (by omega),aq (by omega)]
    rcases ha with ha|⟨hl,h0,h1⟩
    ·subst ha
     have n1:=h.apart (j:=i) (k:=i+1+1) (by omega) (by omega) (by
      rintro (k|⟨hl,k1,k2⟩)
      ·omega
      ·have:=h5 hl;omega)
     exact lB nb nh (h.nr _ (by omega)) hbh (h.ne (i+2) (by omega)) n1 (hc (i+3) (by omega))
    ·subst h0
     have hcl:=(h.four hl).2;have he:f (k+1+1)=f 0:=by rw[←hcl,show N-1=k+1+1 by omega]
     have h5':=h5 hl
     have n2:=h.apart (j:=0+1) (k:=k+1) (by omega) (by omega) (by
      rintro (k|⟨hl,k1,k2⟩)<;>omega)
     have n1:=h.adj 0 (k+1) (by omega) (by omega) (Or.inr ⟨hl,rfl,by omega⟩);rw[he]at n1 n2 ⊢;have hne:f (k+1)≠f 0:=by rw[←he];exact h.ne (k+1) (by omega)
     rw[f8 nb nh (h.nr (k+1) (by omega)) hbh hne];obtain⟨e1,e2,e3,e4⟩:=bq n2;refine⟨?_,?_⟩
     ·rw[bF]
      have:=(aB.1 n2).2.2.2.1;rw[bF];exact this
     ·cases k2:onB (f 0) (f (0+2)) (f (k+1))
      ·rfl
      ·exact absurd (bH k2) (bC (hc (k+1) (by omega)) hne e1.symm e3.symm)
   ·rw[aq (by omega),aq (by omega),aq (by omega),aq (by omega)]
    refine h.adj (j+1) (k+1) (by omega) (by omega) ?_
    rcases ha with ha|⟨hl,h0,h1⟩
    ·exact Or.inl (by omega)
    ·omega
 ·
  rcases Nat.lt_trichotomy k i with g|g|g
  ·rw[ap (by omega),ap (by omega),ap (by omega),ap (by omega)]
   refine h.far j k hjk (by omega) ?_;rintro (k1|⟨hl,h0,h1⟩)
   ·exact ha (Or.inl k1)
   ·omega
  ·rw[g]at hjk hk ha ⊢
   rw[segi.1,segi.2,ap (by omega),ap (by omega)]
   have a1:¬Adj loop N j i:=by
    rintro (k1|⟨hl,h0,h1⟩)
    ·exact ha (Or.inl k1)
    ·omega
   have a2:¬Adj loop N j (i+1):=by
    rintro (k1|⟨hl,h0,h1⟩)
    ·omega
    ·exact ha (Or.inr ⟨hl,h0,by omega⟩)
   have n1:=h.apart (j:=j) (k:=i) (by omega) (by omega) a1;have n2:=h.apart (j:=j) (k:=i+1) (by omega) (by omega) a2;rw[dI]at n1 n2;have:=fZ nb nh (h.nr j (by omega)) (h.nr (j+1) (by omega)) hbm hmh hbh (h.ne j (by omega)) n1 n2 (hc j (by omega)) (hc (j+1) (by omega));rw[bw nb nh (h.nr j (by omega)) (h.nr (j+1) (by omega)) hbh (h.ne j (by omega)),dI]at this;rw[bw (h.nr j (by omega)) (h.nr (j+1) (by omega)) nb nh (h.ne j (by omega)) hbh];exact this
  ·rcases Nat.lt_trichotomy j i with g2|g2|g2
   ·rw[ap (by omega),ap (by omega),aq (by omega),aq (by omega)]
    refine h.far j (k+1) (by omega) (by omega) ?_;rintro (k1|⟨hl,h0,h1⟩)
    ·omega
    ·exact ha (Or.inr ⟨hl,h0,by omega⟩)
   ·rw[g2]at hjk ha ⊢
    rw[segi.1,segi.2,aq (by omega),aq (by omega)]
    have a1:¬Adj loop N i (k+1):=by
     rintro (k1|⟨hl,h0,h1⟩)
     ·omega
     ·exact ha (Or.inr ⟨hl,h0,by omega⟩)
    have a2:¬Adj loop N (i+1) (k+1):=by
     rintro (k1|⟨hl,h0,h1⟩)
     ·exact ha (Or.inl (by omega))
     ·omega
    exact fZ nb nh (h.nr (k+1) (by omega)) (h.nr (k+1+1) (by omega)) hbm hmh hbh (h.ne (k+1) (by omega)) (h.apart (j:=i) (k:=k+1) (by omega) (by omega) a1) (h.apart (j:=i+1) (k:=k+1) (by omega) (by omega) a2) (hc (k+1) (by omega)) (hc (k+1+1) (by omega))
   ·rw[aq (by omega),aq (by omega),aq (by omega),aq (by omega)]
    refine h.far (j+1) (k+1) (by omega) (by omega) ?_;rintro (k1|⟨hl,h0,h1⟩)
    ·exact ha (Or.inl (by omega))
    ·omega
end Go.Proofs
namespace Go.Proofs
theorem eI{a b c d:Pt}(ha:Nr a)(hb:Nr b)(hc:Nr c)(hd:Nr d)(hab:a≠b)(hcd:c≠d):meetN a b c d=meetN c d a b:=by
 by_cases h:tw a b c=0∧tw a b d=0
 ·have k:=fH hab h.1 h.2
  rw[cj hab hcd h.1 h.2,cj hcd hab k.1 k.2,bu ha hb hc hd,bu hc hd ha hb,Int.max_comm (min (keyP a) (keyP b)),Int.min_comm (max (keyP a) (keyP b))]
 ·have h':¬(tw c d a=0∧tw c d b=0):=fun k=>h (fH hcd k.1 k.2)
  rw[ch hab hcd h,ch hcd hab h',Bool.and_comm]
theorem f7{a b c d:Pt}(ha:Nr a)(hb:Nr b)(hc:Nr c)(hd:Nr d)(hab:a≠b)(hcd:c≠d):meetN a b c d=meetN b a c d:=by
 have e1:tw b a c=- tw a b c:=au a b c;have e2:tw b a d=- tw a b d:=au a b d
 by_cases h:tw a b c=0∧tw a b d=0
 ·rw[cj hab hcd h.1 h.2,cj hab.symm hcd (by omega) (by omega),bu ha hb hc hd,bu hb ha hc hd,Int.max_comm (keyP b),Int.min_comm (keyP b)]
 ·rw[ch hab hcd h,ch hab.symm hcd (by omega),e1,e2,Int.neg_mul_neg,Int.mul_comm (tw c d a)]
theorem gu{a b d:Pt}(ha:Nr a)(hb:Nr b)(hd:Nr d)(hab:a≠b)(had:a≠d):meetN a b a d=1↔onB a b d=false∧onB a d b=false:=by
 rw[f7 ha hb ha hd hab had,dw hb ha hd hab.symm had,bF (a:=b) (b:=a)]
theorem lG{a b c d:Pt}(ha:Nr a)(hb:Nr b)(hc:Nr c)(hd:Nr d)(hab:a≠b)(hcd:c≠d):meetN a b c d=meetN a b d c:=by
 rw[eI ha hb hc hd hab hcd,f7 hc hd ha hb hcd hab,eI hd hc ha hb hcd.symm hab]
section
variable (pt:Int→Pt)(nodes:Int→Prop)
def fq(f:Nat→Pt)(N:Nat)(frm dst:Int):Prop:=∀id j,nodes id→j+1<N→onB (f j) (f (j+1)) (pt id)=true→(j=0∧frm=id)∨(j+2=N∧dst=id)
def gm(f:Nat→Pt)(N:Nat)(frm dst:Int)(g:Nat→Pt)(M:Nat)(frm' dst':Int):Prop:=∀j k,j+1<N→k+1<M →
 meetN (f j) (f (j+1)) (g k) (g (k+1))=0∨(meetN (f j) (f (j+1)) (g k) (g (k+1))=1∧∃id,(id=frm∨id=dst)∧(id=frm'∨id=dst')∧onB (f j) (f (j+1)) (pt id)=true∧onB (g k) (g (k+1)) (pt id)=true)
structure kW(f:Nat→Pt)(N:Nat)(frm dst:Int):Prop where
 a:f 0=pt frm
 b:f (N-1)=pt dst
 na:nodes frm
 nb:nodes dst
end
variable {pt:Int→Pt}{nodes:Int→Prop}
theorem nK{loop:Prop}{f:Nat→Pt}{N i:Nat}{frm dst:Int}(h:dH loop f N)(hi:i+2<N)(he:kW pt nodes f N frm dst)(hn:fq pt nodes f N frm dst)(hc:∀id,nodes id→bU (f i) (f (i+1)) (f (i+2)) (pt id)) :
  fq pt nodes (dG f i) (N-1) frm dst:=by
 intro id j hid hj hon
 rcases Nat.lt_trichotomy j i with g|g|g
 ·rw[ap (by omega),ap (by omega)]at hon
  rcases hn id j hid (by omega) hon with k|k
  ·exact Or.inl k
  ·omega
 ·subst g
  rw[ap (by omega),aq (by omega)]at hon
  rcases hc id hid with k|k|k|k
  ·rcases hn id j hid (by omega) (by rw[k];exact du _ _)with k2|k2
   ·exact Or.inl k2
   ·omega
  ·rcases hn id j hid (by omega) (by rw[k];exact fY _ _)with k2|k2
   ·exfalso
    have:=h.ne j (by omega);rw[←k,←k2.2,←he.a,k2.1]at this;exact this rfl
   ·omega
  ·rcases hn id (j+1) hid (by omega) (by rw[k];exact fY _ _)with k2|k2
   ·omega
   ·exact Or.inr ⟨by omega,k2.2⟩
  ·exact absurd (bH hon) k
 ·rw[aq (by omega),aq (by omega)]at hon
  rcases hn id (j+1) hid (by omega) hon with k|k
  ·omega
  ·exact Or.inr ⟨by omega,k.2⟩
theorem gI{g:Nat→Pt}{M k:Nat}{frm' dst' id:Int}(he:kW pt nodes g M frm' dst')(hn:fq pt nodes g M frm' dst')(hid:nodes id)(hk:k+1<M)(hon:onB (g k) (g (k+1)) (pt id)=true) :
  (k=0∧frm'=id∧g k=pt id)∨(k+2=M∧dst'=id∧g (k+1)=pt id):=by
 rcases hn id k hid hk hon with⟨h1,h2⟩|⟨h1,h2⟩
 ·exact Or.inl ⟨h1,h2,by rw[h1,←h2];exact he.a⟩
 ·exact Or.inr ⟨h1,h2,by rw[←h2,←he.b];congr 1;omega⟩
theorem iM{b m h c d s o:Pt}(hb:Nr b)(hh:Nr h)(hc:Nr c)(hd:Nr d)(hbh:b≠h)(hcd:c≠d)(hs:s=b∧o=h∨s=h∧o=b)(hsc:c=s∨d=s)
  (n:aE m o c d=false)(kc:bU b m h c)(kd:bU b m h d):meetN b h c d=1:=by
 have main:∀t,Nr t→s≠t→aE m o s t=false→bU b m h t→meetN b h s t=1:=by
  intro t ht hst hn hk;obtain⟨e1,e2,e3,e4⟩:=bq hn;obtain⟨t1,t2,t3,t4,t5⟩:=aB.1 hn
  rcases hs with⟨rfl,rfl⟩|⟨rfl,rfl⟩
  ·rw[gu hb hh ht hbh hst]
   refine⟨?_,t4⟩;cases k:onB s o t
   ·rfl
   ·exact absurd (bH k) (bC hk hst.symm (Ne.symm e2) (Ne.symm e4))
  ·rw[f7 hb hh hh ht hbh hst,gu hh hb ht hbh.symm hst]
   refine⟨?_,t4⟩;cases k:onB s o t
   ·rfl
   ·exact absurd (bH (by rw[bF];exact k)) (bC hk (Ne.symm e4) (Ne.symm e2) hst.symm)
 rcases hsc with rfl|rfl
 ·exact main d hd hcd n kd
 ·rw[lG hb hh hc hd hbh hcd]
  exact main c hc hcd.symm (by rw[dI,←dJ,dI];exact n) kc
theorem nC{loop loop':Prop}{f g:Nat→Pt}{N M i:Nat}{frm dst frm' dst':Int}(h:dH loop f N)(hg:dH loop' g M)(hi:i+2<N)(he:kW pt nodes f N frm dst)(he':kW pt nodes g M frm' dst')
  (hn:fq pt nodes f N frm dst)(hn':fq pt nodes g M frm' dst')(hp:gm pt f N frm dst g M frm' dst')(hc:∀k,k<M→bU (f i) (f (i+1)) (f (i+2)) (g k))
  (hpar:N=3→M=2→¬(frm'=frm∧dst'=dst∨frm'=dst∧dst'=frm)):gm pt (dG f i) (N-1) frm dst g M frm' dst':=by
 intro j k hj hk
 rcases Nat.lt_trichotomy j i with q|q|q
 ·rw[ap (by omega),ap (by omega)]
  exact hp j k (by omega) hk
 ·subst q
  rw[ap (by omega),aq (by omega)];have hbm:=h.ne j (by omega);have hmh:=h.ne (j+1) (by omega);have hbh:=h.three hi;have nb:=h.nr j (by omega);have nm:=h.nr (j+1) (by omega);have nh:=h.nr (j+2) (by omega);have nc:=hg.nr k (by omega);have nd:=hg.nr (k+1) (by omega);have hcd:=hg.ne k hk;have kc:=hc k (by omega);have kd:=hc (k+1) (by omega);have idn:∀id,(id=frm'∨id=dst')→nodes id:=fun id h=>by rcases h with rfl|rfl;exact he'.na;exact he'.nb
  have sec:∀z,z=0∨(z=1∧∃id,(id=frm∨id=dst)∧(id=frm'∨id=dst')∧onB (f (j+1)) (f (j+2)) (pt id)=true∧onB (g k) (g (k+1)) (pt id)=true)→z=meetN (f (j+1)) (f (j+2)) (g k) (g (k+1)) →
    (aE (f (j+1)) (f (j+2)) (g k) (g (k+1))=false)∨∃id,j+3=N∧dst=id∧f (j+2)=pt id∧((k=0∧frm'=id∧g k=pt id)∨(k+2=M∧dst'=id∧g (k+1)=pt id)):=by
   rintro z (hz|⟨hz,id,i1,i2,i3,i4⟩) e
   ·exact Or.inl ((bw nm nh nc nd hmh hcd).1 (by rw[←e];exact hz))
   ·right
    rcases hn id (j+1) (idn id i2) (by omega) i3 with k1|⟨k1,k2⟩
    ·omega
    ·exact⟨id,by omega,k2,by rw[←k2,←he.b];congr 1;omega,gI he' hn' (idn id i2) hk i4⟩
  have s2:=sec _ (hp (j+1) k (by omega) hk) rfl
  rcases hp j k (by omega) hk with h1|⟨h1,id,i1,i2,i3,i4⟩
  ·have t1:=(bw nb nm nc nd hbm hcd).1 h1
   rcases s2 with t2|⟨id2,a1,a2,a3,a4⟩
   ·left
    exact fZ nb nh nc nd hbm hmh hbh hcd t1 t2 kc kd
   ·right
    have hon:onB (g k) (g (k+1)) (pt id2)=true:=by
     rcases a4 with⟨_,_,e⟩|⟨_,_,e⟩<;>rw[←e]
     ·exact du _ _
     ·exact fY _ _
    refine⟨iM (m:=f (j+1)) (s:=f (j+2)) (o:=f j) nb nh nc nd hbh hcd (Or.inr ⟨rfl,rfl⟩) ?_ (dJ.1 t1) kc kd,id2,Or.inr a2.symm,?_,by rw[←a3];exact fY _ _,hon⟩
    ·rcases a4 with⟨_,_,e⟩|⟨_,_,e⟩
     ·exact Or.inl (by rw[e,a3])
     ·exact Or.inr (by rw[e,a3])
    ·rcases a4 with⟨_,e,_⟩|⟨_,e,_⟩
     ·exact Or.inl e.symm
     ·exact Or.inr e.symm
  ·rcases hn id j (idn id i2) (by omega) i3 with⟨k1,k2⟩|k1
   rotate_left
   ·omega
   have hb0:f j=pt id:=by rw[←k2,←he.a,k1]
   have a4:=gI he' hn' (idn id i2) hk i4
   rcases s2 with t2|⟨id2,c1,c2,c3,c4⟩
   ·right
    refine⟨iM (m:=f (j+1)) (s:=f j) (o:=f (j+2)) nb nh nc nd hbh hcd (Or.inl ⟨rfl,rfl⟩) ?_ t2 kc kd,id,i1,i2,by rw[←hb0];exact du _ _,i4⟩
    rcases a4 with⟨_,_,e⟩|⟨_,_,e⟩
    ·exact Or.inl (by rw[e,hb0])
    ·exact Or.inr (by rw[e,hb0])
   ·exfalso
    rcases a4 with⟨b1,b2,b3⟩|⟨b1,b2,b3⟩<;>rcases c4 with⟨d1,d2,d3⟩|⟨d1,d2,d3⟩
    ·exact hbh (by rw[hb0,c3,←b3,←d3])
    ·exact hpar (by omega) (by omega) (Or.inl ⟨by rw[b2,k2],by rw[d2,c2]⟩)
    ·exact hpar (by omega) (by omega) (Or.inr ⟨by rw[d2,c2],by rw[b2,k2]⟩)
    ·exact hbh (by rw[hb0,c3,←b3,←d3])
 ·rw[aq (by omega),aq (by omega)]
  exact hp (j+1) k (by omega) hk
theorem ov{f:Nat→Pt}{N i:Nat}{frm dst:Int}(hi:i+2<N)(he:kW pt nodes f N frm dst):kW pt nodes (dG f i) (N-1) frm dst:=by
 refine⟨by rw[ap (by omega)];exact he.a,?_,he.na,he.nb⟩;rw[aq (by omega),←he.b]
 congr 1
 omega
theorem nw{loop loop':Prop}{f g:Nat→Pt}{N M:Nat}{frm dst frm' dst':Int}(h:dH loop f N)(hg:dH loop' g M)(hp:gm pt f N frm dst g M frm' dst'):gm pt g M frm' dst' f N frm dst:=by
 intro k j hk hj;have e:=eI (h.nr j (by omega)) (h.nr (j+1) (by omega)) (hg.nr k (by omega)) (hg.nr (k+1) (by omega)) (h.ne j hj) (hg.ne k hk);rw[←e]
 rcases hp j k hj hk with h1|⟨h1,id,i1,i2,i3,i4⟩
 ·exact Or.inl h1
 ·exact Or.inr ⟨h1,id,i2,i1,i4,i3⟩
end Go.Proofs
namespace Go.Proofs
open Go.RowKit Go.Proofs.Mp Go.Lib Go.Proofs.Ed
def vpB(q:Pt):Bool:=decide (-1048576≤q.1∧q.1≤1048576∧-1048576≤q.2∧q.2≤1048576)
theorem oX(q:Pt)(w:World):Calls Tryz.prog 142 #[ae q] w (RetV w (.bool (vpB q))):=by
 have c:=hid fun W=>fK ⟨-1048576,-1048576,1048576,1048576⟩ q W
 unfold vpB;dsimp only at c;generalize decide (-1048576≤q.1∧q.1≤1048576∧-1048576≤q.2∧q.2≤1048576)=r at *;obtain⟨x,y⟩:=q;unfold ae bj at *;have hb:=bw1 w (.cells #[x,y] 30);have h0:=Bx.new (t:=30) (cs:=[.int .i64 x,.int .i64 y]) w rfl;go_enter Tryz.func142,Tryz.ntmps142;go_upto_region 1 with fail;generalize w.alloc (.cells #[x,y] 30)=w1 at *;obtain⟨k0,k1⟩:=h0.c2;have HB:=hid hb;clear hb h0;go_wp2_with fail;refine(c.out _).mono ?_;rintro e w2 ⟨rfl,hb2⟩;have HB2:=hid (HB.out.trans (hb2.mono HB.out.size));clear hb2;go_wp2_with fail;go_ret;exact⟨rfl,HB2.out⟩
def inC(bx:Bo)(a b c q:Pt):Bool:=decide (bx.x0≤q.1∧q.1≤bx.x1∧bx.y0≤q.2∧q.2≤bx.y1)&&(if sd a b c=0 then onB a b q||onB b c q||onB c a q else decide (0≤sd a b c*sd a b q)&&decide (0≤sd a b c*sd b c q)&&decide (0≤sd a b c*sd c a q))
theorem eh{x y:Int}(hx : -1≤x∧x≤1)(hy : -1≤y∧y≤1) : -1≤x*y∧x*y≤1:=by
 have:x=-1∨x=0∨x=1:=by omega
 rcases this with rfl|rfl|rfl<;>omega
theorem tJ(bx:Bo)(a b c q:Pt)(nb nt na nm nh:Nat)(w:World)(h1:Bx w nb 48 (rX bx))(h2:Bx w nt 3 [.int .i64 (sd a b c)])(h3:Bx w na 30 [a.1,a.2])(h4:Bx w nm 30 [b.1,b.2])(h5:Bx w nh 30 [c.1,c.2])
  (ha:Nr a)(hb:Nr b)(hc:Nr c)(hq:Nr q):Calls Tryz.prog 193 #[ae q,.pointer (some ⟨nb,0,none⟩),.pointer (some ⟨nt,0,none⟩),.pointer (some ⟨na,0,none⟩),.pointer (some ⟨nm,0,none⟩),.pointer (some ⟨nh,0,none⟩)] w (RetV w (.bool (inC bx a b c q))):=by
 have cI:=hid fun W=>fK bx q W
 have o1:=hid fun W=>bG a b q W ha hb hq
 have o2:=hid fun W=>bG b c q W hb hc hq
 have o3:=hid fun W=>bG c a q W hc ha hq
 have c1:=hid fun W=>aY a b q W ha hb hq
 have c2:=hid fun W=>aY b c q W hb hc hq
 have c3:=hid fun W=>aY c a q W hc ha hq
 have i0:=gq a b c;have i1:=gq a b q;have i2:=gq b c q;have i3:=gq c a q;have HR:=hid (show inC bx a b c q=(decide (bx.x0≤q.1∧q.1≤bx.x1∧bx.y0≤q.2∧q.2≤bx.y1)&&(if sd a b c=0 then onB a b q||onB b c q||onB c a q else decide (0≤sd a b c*sd a b q)&&decide (0≤sd a b c*sd b c q)&&decide (0≤sd a b c*sd c a q)))from rfl);generalize inC bx a b c q=R at *;generalize decide (bx.x0≤q.1∧q.1≤bx.x1∧bx.y0≤q.2∧q.2≤bx.y1)=rb at *;generalize onB a b q=b1 at *;generalize onB b c q=b2 at *;generalize onB c a q=b3 at *;generalize sd a b c=s0 at *;generalize sd a b q=s1 at *;generalize sd b c q=s2 at *;generalize sd c a q=s3 at *;have m1:=IntWalk.i64_in (s0*s1) (by have:=eh i0 i1;omega);have m2:=IntWalk.i64_in (s0*s2) (by have:=eh i0 i2;omega);have m3:=IntWalk.i64_in (s0*s3) (by have:=eh i0 i3;omega);obtain⟨qx,qy⟩:=q;obtain⟨ax,ay⟩:=a;obtain⟨mx,my⟩:=b;obtain⟨hx,hy⟩:=c;obtain⟨x0,y0,x1,y1⟩:=bx;unfold ae rX at *;unfold bj at *;dsimp only at *;have hQ:=Bx.new (t:=30) (cs:=[.int .i64 qx,.int .i64 qy]) w rfl;have hw:=bw1 w (.cells #[qx,qy] 30)
 have HL0:=hid (show ∀W,Below (w.alloc (.cells #[qx,qy] 30)).heap.size (w.alloc (.cells #[qx,qy] 30)) W→Bx W nb 48 [x0,y0,x1,y1]∧Bx W nt 3 [s0]∧Bx W na 30 [ax,ay]∧Bx W nm 30 [mx,my]∧Bx W nh 30 [hx,hy]∧Bx W w.heap.size 30 [qx,qy]∧Below w.heap.size w W from fun W h=>
  ⟨(h1.below hw).below h,(h2.below hw).below h,(h3.below hw).below h,(h4.below hw).below h,(h5.below hw).below h,hQ.below h,hw.trans (h.mono hw.size)⟩)
 clear ha hb hc hq h1 h2 h3 h4 h5 hQ hw i0 i1 i2 i3;go_enter Tryz.func193,Tryz.ntmps193;go_upto_region 1 with fail;generalize w.alloc (.cells #[qx,qy] 30)=w1 at *;generalize hnq:w.heap.size=nq at *;have HNQ:=hid hnq;clear hnq;obtain⟨u1,_,_,_,_,u6,_⟩:=HL0.out w1 (Below.refl _ _);obtain⟨k0,k1,k2,k3⟩:=u1.c4;obtain⟨q0,q1⟩:=u6.c2;clear u1 u6;go_wp2_with fail;refine(cI.out _).mono ?_;rintro e w2 ⟨rfl,hb2⟩;have HB2:=hid hb2;clear k0 k1 k2 k3 q0 q1 hb2;cases rb
 ·have HZ:=hid (HL0.out w2 HB2.out).2.2.2.2.2.2
  have HR2:=hid (show R=false from by rw[HR.out];rfl);go_wp2_with fail;go_ret;exact⟨by rw[HR2.out];rfl,by rw[HNQ.out];exact HZ.out⟩
 have HR1:=hid (HR.out.trans (Bool.true_and _));obtain⟨_,u2,u3,u4,u5,u6,_⟩:=HL0.out w2 HB2.out;have k0:=u2.c1
 by_cases hs:s0=0
 ·subst hs
  have HR3:=hid (HR1.out.trans (if_pos rfl));obtain⟨a0,a1⟩:=u3.c2;obtain⟨b0,b9⟩:=u4.c2;obtain⟨d0,d1⟩:=u5.c2;obtain⟨q0,q1⟩:=u6.c2;clear u2 u3 u4 u5 u6 HR HR1 m1 m2 m3;go_wp2_with fail;refine(o1.out _).mono ?_;rintro e w3 ⟨rfl,hb3⟩;have HB3:=hid (HB2.out.trans (hb3.mono HB2.out.size));clear hb3 k0 a0 a1 b0 b9 d0 d1 q0 q1;cases b1
  rotate_left
  ·have HR4:=hid (show R=true from by rw[HR3.out];rfl)
   have HZ:=hid (HL0.out w3 HB3.out).2.2.2.2.2.2;go_wp2_with fail;go_ret;exact⟨by rw[HR4.out];rfl,by rw[HNQ.out];exact HZ.out⟩
  obtain⟨_,_,u3,u4,u5,u6,_⟩:=HL0.out w3 HB3.out;obtain⟨a0,a1⟩:=u3.c2;obtain⟨b0,b9⟩:=u4.c2;obtain⟨d0,d1⟩:=u5.c2;obtain⟨q0,q1⟩:=u6.c2;clear u3 u4 u5 u6;go_wp2_with fail;refine(o2.out _).mono ?_;rintro e w4 ⟨rfl,hb4⟩;have HB4:=hid (HB3.out.trans (hb4.mono HB3.out.size));clear hb4 a0 a1 b0 b9 d0 d1 q0 q1;cases b2
  rotate_left
  ·have HR4:=hid (show R=true from by rw[HR3.out];rfl)
   have HZ:=hid (HL0.out w4 HB4.out).2.2.2.2.2.2;go_wp2_with fail;go_ret;exact⟨by rw[HR4.out];rfl,by rw[HNQ.out];exact HZ.out⟩
  obtain⟨_,_,u3,u4,u5,u6,_⟩:=HL0.out w4 HB4.out;obtain⟨a0,a1⟩:=u3.c2;obtain⟨b0,b9⟩:=u4.c2;obtain⟨d0,d1⟩:=u5.c2;obtain⟨q0,q1⟩:=u6.c2;clear u3 u4 u5 u6;go_wp2_with fail;refine(o3.out _).mono ?_;rintro e w5 ⟨rfl,hb5⟩;have HZ:=hid (HL0.out w5 (HB4.out.trans (hb5.mono HB4.out.size))).2.2.2.2.2.2;have HR4:=hid (show R=b3 from by rw[HR3.out];rfl);clear hb5 a0 a1 b0 b9 d0 d1 q0 q1;go_wp2_with fail;go_ret;exact⟨by rw[HR4.out];rfl,by rw[HNQ.out];exact HZ.out⟩
 have hsb:(s0==0)=false:=by simp[hs]
 have HR3:=hid (HR1.out.trans (if_neg hs))
 have HL:=hid (show ∀W,Below w2.heap.size w2 W→Bx W nt 3 [s0]∧Bx W na 30 [ax,ay]∧Bx W nm 30 [mx,my]∧Bx W nh 30 [hx,hy]∧Bx W nq 30 [qx,qy] from fun W h=>by
  obtain⟨_,a,b,c,d,e,_⟩:=HL0.out W (HB2.out.trans (h.mono HB2.out.size))
  exact⟨a,b,c,d,e⟩)
 have HB4:=hid (show Below w.heap.size w w2 from by rw[HNQ.out];exact(HL0.out w2 HB2.out).2.2.2.2.2.2);clear u2 u3 u4 u5 u6 HR HR1 hs;go_upto_region 5 with fail;generalize w2=w4 at *;clear k0 hsb
 by_cases p1:0≤s0*s1
 rotate_left
 ·have HR4:=hid (show R=false from by rw[HR3.out,decide_eq_false p1];rfl)
  have z1:decide (0≤s0*s1)=false:=decide_eq_false p1;clear p1;have hS1:(fun W:World=>Below w4.heap.size w4 W) w4.drew:=(Below.refl _ _).drew;refine wp_region_held_drew (S:=(fun W:World=>Below w4.heap.size w4 W)) (by kernel_rfl) hS1 (fun hHeld=>?_);clear hHeld;generalize hwd:w4.drew=wd at *;clear hwd;refine kf 0 (fun W h=>(HL.out W h |>.1).c1) rfl ?_;refine kf 1 (fun W h=>(HL.out W h |>.2.1).c2) rfl ?_;refine kf 2 (fun W h=>(HL.out W h |>.2.2.1).c2) rfl ?_;refine kf 3 (fun W h=>(HL.out W h |>.2.2.2.2).c2) rfl ?_;refine kr 4 rfl fun K hK=>?_
  go_simp;go_at_call 192;refine(c1.out _).mono ?_;rintro e Wra1 ⟨rfl,hbWra1⟩;have hSWra1:=hS1.trans (hbWra1.mono hS1.size)
  try clear hS1
  clear hbWra1;go_wp2_with fail;refine hK.out _ _ hSWra1 (fun hHeld=>?_);clear hK hHeld K
  try simp only[Act.put,sa,sz,ss]
  refine kk 5 rfl ?_;refine kk 6 rfl ?_;refine kk 7 rfl ?_;refine ku 8 rfl ?_;refine ku 9 rfl ?_;refine ku 10 rfl ?_;refine ku 11 rfl ?_;refine ku 12 rfl ?_;refine ku 13 rfl ?_;refine ku 14 rfl ?_;refine kk 15 rfl ?_;refine kk 16 rfl ?_;refine ku 17 rfl ?_;refine ku 18 rfl ?_;refine ku 19 rfl ?_;refine ku 20 rfl ?_;refine ku 21 rfl ?_;refine ku 22 rfl ?_;refine ku 23 rfl ?_;refine kk 24 rfl ?_;refine kk 25 rfl ?_;refine wpAnyH_done (by kernel_rfl) ?_ _;have HZ:=hid (HB4.out.trans (hSWra1.mono HB4.out.size));clear hSWra1;go_wp2_with fail;go_ret;exact⟨by rw[HR4.out];rfl,HZ.out⟩
 have HR4:=hid (show R=(decide (0≤s0*s2)&&decide (0≤s0*s3))from by rw[HR3.out,decide_eq_true p1];rfl);have z1:decide (0≤s0*s1)=true:=decide_eq_true p1;clear p1
 by_cases p2:0≤s0*s2
 rotate_left
 ·have HR5:=hid (show R=false from by rw[HR4.out,decide_eq_false p2];rfl)
  have z2:decide (0≤s0*s2)=false:=decide_eq_false p2;clear p2;have hS1:(fun W:World=>Below w4.heap.size w4 W) w4.drew:=(Below.refl _ _).drew;refine wp_region_held_drew (S:=(fun W:World=>Below w4.heap.size w4 W)) (by kernel_rfl) hS1 (fun hHeld=>?_);clear hHeld;generalize hwd:w4.drew=wd at *;clear hwd;refine kf 0 (fun W h=>(HL.out W h |>.1).c1) rfl ?_;refine kf 1 (fun W h=>(HL.out W h |>.2.1).c2) rfl ?_;refine kf 2 (fun W h=>(HL.out W h |>.2.2.1).c2) rfl ?_;refine kf 3 (fun W h=>(HL.out W h |>.2.2.2.2).c2) rfl ?_;refine kr 4 rfl fun K hK=>?_
  go_simp;go_at_call 192;refine(c1.out _).mono ?_;rintro e Wrb1 ⟨rfl,hbWrb1⟩;have hSWrb1:=hS1.trans (hbWrb1.mono hS1.size)
  try clear hS1
  clear hbWrb1;go_wp2_with fail;refine hK.out _ _ hSWrb1 (fun hHeld=>?_);clear hK hHeld K
  try simp only[Act.put,sa,sz,ss]
  refine kk 5 rfl ?_;refine kk 6 rfl ?_;refine kk 7 rfl ?_;refine kf 8 (fun W h=>(HL.out W h |>.1).c1) rfl ?_;refine kf 9 (fun W h=>(HL.out W h |>.2.2.1).c2) rfl ?_;refine kf 10 (fun W h=>(HL.out W h |>.2.2.2.1).c2) rfl ?_;refine kf 11 (fun W h=>(HL.out W h |>.2.2.2.2).c2) rfl ?_;refine kr 12 rfl fun K hK=>?_
  go_simp;go_at_call 192;refine(c2.out _).mono ?_;rintro e Wrb2 ⟨rfl,hbWrb2⟩;have hSWrb2:=hSWrb1.trans (hbWrb2.mono hSWrb1.size)
  try clear hSWrb1
  clear hbWrb2;go_wp2_with fail;refine hK.out _ _ hSWrb2 (fun hHeld=>?_);clear hK hHeld K
  try simp only[Act.put,sa,sz,ss]
  refine kk 13 rfl ?_;refine kk 14 rfl ?_;refine kk 15 rfl ?_;refine kk 16 rfl ?_;refine ku 17 rfl ?_;refine ku 18 rfl ?_;refine ku 19 rfl ?_;refine ku 20 rfl ?_;refine ku 21 rfl ?_;refine ku 22 rfl ?_;refine ku 23 rfl ?_;refine kk 24 rfl ?_;refine kk 25 rfl ?_;refine wpAnyH_done (by kernel_rfl) ?_ _;have HZ:=hid (HB4.out.trans (hSWrb2.mono HB4.out.size));clear hSWrb2;go_wp2_with fail;go_ret;exact⟨by rw[HR5.out];rfl,HZ.out⟩
 have HR5:=hid (show R=decide (0≤s0*s3)from by rw[HR4.out,decide_eq_true p2];rfl);have z2:decide (0≤s0*s2)=true:=decide_eq_true p2;clear p2;have hS1:(fun W:World=>Below w4.heap.size w4 W) w4.drew:=(Below.refl _ _).drew;refine wp_region_held_drew (S:=(fun W:World=>Below w4.heap.size w4 W)) (by kernel_rfl) hS1 (fun hHeld=>?_);clear hHeld;generalize hwd:w4.drew=wd at *;clear hwd;refine kf 0 (fun W h=>(HL.out W h |>.1).c1) rfl ?_;refine kf 1 (fun W h=>(HL.out W h |>.2.1).c2) rfl ?_;refine kf 2 (fun W h=>(HL.out W h |>.2.2.1).c2) rfl ?_;refine kf 3 (fun W h=>(HL.out W h |>.2.2.2.2).c2) rfl ?_;refine kr 4 rfl fun K hK=>?_
 go_simp;go_at_call 192;refine(c1.out _).mono ?_;rintro e Wrc1 ⟨rfl,hbWrc1⟩;have hSWrc1:=hS1.trans (hbWrc1.mono hS1.size)
 try clear hS1
 clear hbWrc1;go_wp2_with fail;refine hK.out _ _ hSWrc1 (fun hHeld=>?_);clear hK hHeld K
 try simp only[Act.put,sa,sz,ss]
 refine kk 5 rfl ?_;refine kk 6 rfl ?_;refine kk 7 rfl ?_;refine kf 8 (fun W h=>(HL.out W h |>.1).c1) rfl ?_;refine kf 9 (fun W h=>(HL.out W h |>.2.2.1).c2) rfl ?_;refine kf 10 (fun W h=>(HL.out W h |>.2.2.2.1).c2) rfl ?_;refine kf 11 (fun W h=>(HL.out W h |>.2.2.2.2).c2) rfl ?_;refine kr 12 rfl fun K hK=>?_
 go_simp;go_at_call 192;refine(c2.out _).mono ?_;rintro e Wrc2 ⟨rfl,hbWrc2⟩;have hSWrc2:=hSWrc1.trans (hbWrc2.mono hSWrc1.size)
 try clear hSWrc1
 clear hbWrc2;go_wp2_with fail;refine hK.out _ _ hSWrc2 (fun hHeld=>?_);clear hK hHeld K
 try simp only[Act.put,sa,sz,ss]
 refine kk 13 rfl ?_;refine kk 14 rfl ?_;refine kk 15 rfl ?_;refine kk 16 rfl ?_;refine kf 17 (fun W h=>(HL.out W h |>.1).c1) rfl ?_;refine kf 18 (fun W h=>(HL.out W h |>.2.2.2.1).c2) rfl ?_;refine kf 19 (fun W h=>(HL.out W h |>.2.1).c2) rfl ?_;refine kf 20 (fun W h=>(HL.out W h |>.2.2.2.2).c2) rfl ?_;refine kr 21 rfl fun K hK=>?_
 go_simp;go_at_call 192;refine(c3.out _).mono ?_;rintro e Wrc3 ⟨rfl,hbWrc3⟩;have hSWrc3:=hSWrc2.trans (hbWrc3.mono hSWrc2.size)
 try clear hSWrc2
 clear hbWrc3;go_wp2_with fail;refine hK.out _ _ hSWrc3 (fun hHeld=>?_);clear hK hHeld K
 try simp only[Act.put,sa,sz,ss]
 refine kk 22 rfl ?_;refine kk 23 rfl ?_;refine kk 24 rfl ?_;refine kk 25 rfl ?_;refine wpAnyH_done (by kernel_rfl) ?_ _;have HZ:=hid (HB4.out.trans (hSWrc3.mono HB4.out.size));clear hSWrc3;go_wp2_with fail;go_ret;exact⟨by rw[HR5.out];rfl,HZ.out⟩
end Go.Proofs
namespace Go.Proofs
open Go.RowKit Go.Proofs.Mp Go.Lib Go.Proofs.Ed
def mnI(x y z:Int):Int:=if z<if y<x then y else x then z else if y<x then y else x
def mxI(x y z:Int):Int:=if (if x<y then y else x)<z then z else if x<y then y else x
def kY(a b c:Pt):Bo:=⟨mnI a.1 b.1 c.1,mnI a.2 b.2 c.2,mxI a.1 b.1 c.1,mxI a.2 b.2 c.2⟩
def cP(p:Pt):List Value:=[.int .i64 p.1,.int .i64 p.2]
def lU(w:World)(a b c:Pt)(v:Value):Prop:=∃nb nt na nm nh:Nat,v=.func (.func 193) #[] #[.pointer (some ⟨nb,0,none⟩),.pointer (some ⟨nt,0,none⟩),.pointer (some ⟨na,0,none⟩),.pointer (some ⟨nm,0,none⟩),.pointer (some ⟨nh,0,none⟩)] ∧
 Bx w nb 48 (rX (kY a b c))∧Bx w nt 3 [.int .i64 (sd a b c)]∧Bx w na 30 (cP a)∧Bx w nm 30 (cP b)∧Bx w nh 30 (cP c)
theorem lU.below{w w':World}{a b c:Pt}{v:Value}(h:lU w a b c v)(hb:Below w.heap.size w w'):lU w' a b c v:=by
 obtain⟨nb,nt,na,nm,nh,e,h1,h2,h3,h4,h5⟩:=h;exact⟨nb,nt,na,nm,nh,e,h1.below hb,h2.below hb,h3.below hb,h4.below hb,h5.below hb⟩
theorem jJ(a b c:Pt)(w:World)(ha:Nr a)(hb:Nr b)(hc:Nr c):Calls Tryz.prog 144 #[ae a,ae b,ae c] w (fun e w'=>∃v,e=.returned v∧lU w' a b c v∧Below w.heap.size w w'):=by
 have hmf:∀(fn:Fn) (first cap:Array Value) (w:World),(Instr.makeFunc fn first cap).run Tryz.prog w=.ok (.func fn first cap) w:=fun _ _ _ _=>rfl
 have cS:=hid fun W=>aY a b c W ha hb hc
 have HT:=hid (show ∀W v,Below w.heap.size w W→lU W a b c v→∃v',Ending.returned v=.returned v'∧lU W a b c v'∧Below w.heap.size w W from fun W v h1 h2=>⟨v,rfl,h2,h1⟩);have hsd:=hid (show ∃s,s=sd a b c from ⟨_,rfl⟩);obtain⟨s,hs⟩:=hsd.out;rw[←hs]at cS;have HS:=hid hs;clear hsd hs ha hb hc;obtain⟨ax,ay⟩:=a;obtain⟨bx,by_⟩:=b;obtain⟨cx,cy⟩:=c;unfold ae at *;dsimp only at *;have h1:=Bx.new (t:=30) (cs:=[.int .i64 ax,.int .i64 ay]) w rfl;have h2:=Bx.newAt (b:=w.heap.size+1) (t:=30) (cs:=[.int .i64 bx,.int .i64 by_]) (w.alloc (.cells #[ax,ay] 30)) (by simp) rfl;have h3:=Bx.newAt (b:=w.heap.size+1+1) (t:=30) (cs:=[.int .i64 cx,.int .i64 cy]) ((w.alloc (.cells #[ax,ay] 30)).alloc (.cells #[bx,by_] 30)) (by simp) rfl;have h1':=(h1.alloc (.cells #[bx,by_] 30)).alloc (.cells #[cx,cy] 30);have h2':=h2.alloc (.cells #[cx,cy] 30);have hw:=((bw1 w (.cells #[ax,ay] 30)).alloc (bw1 _ _).size (.cells #[bx,by_] 30)).alloc (by simp;omega) (.cells #[cx,cy] 30);go_enter Tryz.func144,Tryz.ntmps144;go_upto_region 1 with fail;generalize ((w.alloc (.cells #[ax,ay] 30)).alloc (.cells #[bx,by_] 30)).alloc (.cells #[cx,cy] 30)=w1 at *;generalize hn3:w.heap.size+1+1=n3 at *;generalize hn2:w.heap.size+1=n2 at *;obtain⟨k0,k1⟩:=h1'.c2;obtain⟨q0,q1⟩:=h2'.c2;obtain⟨r0,r1⟩:=h3.c2;have HB:=hid (And.intro h1' (And.intro h2' (And.intro h3 hw)));clear hn3 hn2 h1 h2 h3 h1' h2' hw;go_upto_region 2 with fail
 rw[show(if cx<if bx<ax then bx else ax then cx else if bx<ax then bx else ax)=mnI ax bx cx from rfl,show(if cy<if by_<ay then by_ else ay then cy else if by_<ay then by_ else ay)=mnI ay by_ cy from rfl,
  show(if (if ax<bx then bx else ax)<cx then cx else if ax<bx then bx else ax)=mxI ax bx cx from rfl,show(if (if ay<by_ then by_ else ay)<cy then cy else if ay<by_ then by_ else ay)=mxI ay by_ cy from rfl]
 have HTB:=hid (show rX (kY (ax,ay) (bx,by_) (cx,cy))=[.int .i64 (mnI ax bx cx),.int .i64 (mnI ay by_ cy),.int .i64 (mxI ax bx cx),.int .i64 (mxI ay by_ cy)] from rfl);generalize mnI ax bx cx=t0 at *;generalize mnI ay by_ cy=t1 at *;generalize mxI ax bx cx=t2 at *;generalize mxI ay by_ cy=t3 at *;have h4:=Bx.new (t:=48) (cs:=[.int .i64 t0,.int .i64 t1,.int .i64 t2,.int .i64 t3]) w1 rfl;have h4w:=bw1 w1 (.cells #[t0,t1,t2,t3] 48);have HB4:=hid (show _∧_∧_∧_∧_ from ⟨HB.out.1.below h4w,HB.out.2.1.below h4w,HB.out.2.2.1.below h4w,h4,HB.out.2.2.2.trans (h4w.mono HB.out.2.2.2.size)⟩);clear h4 h4w HB k0 k1 q0 q1 r0 r1;generalize w1.alloc (.cells #[t0,t1,t2,t3] 48)=w2 at *;generalize w1.heap.size=n4 at *;obtain⟨u1,u2,u3,_⟩:=HB4.out;obtain⟨k0,k1⟩:=u1.c2;obtain⟨q0,q1⟩:=u2.c2;obtain⟨r0,r1⟩:=u3.c2;clear u1 u2 u3;go_wp2_with fail;refine(cS.out _).mono ?_;rintro e w3 ⟨rfl,hb3⟩;have h5:=Bx.new (t:=3) (cs:=[.int .i64 s]) w3 rfl;have h5w:=hb3.trans ((bw1 w3 (.cells #[s] 3)).mono hb3.size);have HB5:=hid (show _∧_∧_∧_∧_∧_ from ⟨HB4.out.1.below h5w,HB4.out.2.1.below h5w,HB4.out.2.2.1.below h5w,HB4.out.2.2.2.1.below h5w,h5,HB4.out.2.2.2.2.trans (h5w.mono HB4.out.2.2.2.2.size)⟩);clear hb3 h5 h5w HB4 k0 k1 q0 q1 r0 r1;go_upto_region 3 with fail;generalize w3.alloc (.cells #[s] 3)=w4 at *;generalize w3.heap.size=n5 at *;go_wp2_with fail;go_ret;obtain⟨u1,u2,u3,u4,u5,u6⟩:=HB5.out;refine HT.out _ _ u6 ⟨n4,n5,_,n2,n3,rfl,by rw[HTB.out];exact u4,by rw[←HS.out];exact u5,u1,u2,u3⟩
end Go.Proofs
namespace Go.Proofs
open Go.RowKit Go.Proofs.Mp Go.Lib
def dm(w:World)(e:Ending)(w':World):Prop:=∃z:Int,e=.returned (.int .i64 z)∧Below w.heap.size w w'
def kT(w:World)(e:Ending)(w':World):Prop:=∃z n:Int,e=.returned (.tuple #[z,n])∧Below w.heap.size w w'
def sizU(n:Int):Int:=if n<0 then IntKind.u64.wrap (-(IntKind.u64.wrap n)) else IntKind.u64.wrap n
theorem o6(n:Int)(w:World):Calls Tryz.prog 178 #[n] w (RetV w (.int .u64 (sizU n))):=by
 by_cases h:n<0
 ·have HR:=hid (show sizU n=IntKind.u64.wrap (-(IntKind.u64.wrap n))from if_pos h)
  go_enter Tryz.func178,Tryz.ntmps178;go_wp2_with fail;go_ret;exact⟨by rw[HR.out];rfl,Below.refl _ _⟩
 ·have HR:=hid (show sizU n=IntKind.u64.wrap n from if_neg h)
  go_enter Tryz.func178,Tryz.ntmps178;go_wp2_with fail;go_ret;exact⟨by rw[HR.out];rfl,Below.refl _ _⟩
theorem t7(a b:Int)(w:World)(hb:0<b):Calls Tryz.prog 221 #[a,b] w (RetV w (.int .i64 0)):=by
 have d1:(b==0)=false:=by rw[beq_eq_false_iff_ne];omega
 have d2:(b==-1)=false:=by rw[beq_eq_false_iff_ne];omega
 obtain⟨x,h⟩:∃x,(a==-9223372036854775808)=x:=⟨_,rfl⟩;go_enter Tryz.func221,Tryz.ntmps221;cases x
 all_goals
  go_wp2_with fail;go_ret;exact RetV.int rfl (Below.refl _ _)
theorem rG(a b:Int)(w:World)(hb:0<b):Calls Tryz.prog 177 #[a,b] w (kT w):=by
 have cC:=hid fun W=>t7 a b W hb
 have h0:b≠0:=by omega
 have hn:¬b<0:=by omega
 go_enter Tryz.func177,Tryz.ntmps177;go_wp2_with fail;refine(cC.out _).mono ?_;rintro e w1 ⟨rfl,hb1⟩;have HB:=hid hb1;clear hb1;go_wp2_with fail
 all_goals
  go_ret2;exact⟨_,_,rfl,HB.out⟩
theorem fB(a b:Int)(w:World)(hb:0<b):Calls Tryz.prog 132 #[a,b] w (kT w):=by
 have cF:=hid fun W=>rG a b W hb
 have cS:=hid o6;clear hb;go_enter Tryz.func132,Tryz.ntmps132;go_wp2_with fail;refine(cF.out _).mono ?_;rintro e w1 ⟨q,n,rfl,hb1⟩;have HB:=hid hb1;clear hb1
 by_cases hn:n=0
 rotate_left
 ·go_wp2_with fail
  go_ret2;exact⟨_,_,rfl,HB.out⟩
 subst hn;go_wp2_with fail;refine(cS.out _ _).mono ?_;rintro e w2 ⟨rfl,hb2⟩;have HB2:=hid (HB.out.trans (hb2.mono HB.out.size));clear hb2;generalize sizU (IntKind.i64.wrap (a-IntKind.i64.wrap (q*b)))=u at *;go_wp2_with fail;refine(cS.out _ _).mono ?_;rintro e w3 ⟨rfl,hb3⟩;have HB3:=hid (HB2.out.trans (hb3.mono HB2.out.size));clear hb3;generalize sizU b=v at *;go_wp2_with fail
 all_goals
  go_ret2;exact⟨_,_,rfl,HB3.out⟩
theorem ll(x:Int)(w:World):Calls Tryz.prog 129 #[x] w (dm w):=by
 have cR:=hid fun a W=>fB a 648000 W (by omega)
 have HB0:=hid (Below.refl w.heap.size w);obtain⟨y,h1⟩:∃y,decide (x < -2147483648)=y:=⟨_,rfl⟩;obtain⟨z,h2⟩:∃z,decide (2147483648<x)=z:=⟨_,rfl⟩;go_enter Tryz.func129,Tryz.ntmps129;cases y
 ·cases z
  ·go_wp2_with fail
   refine(cR.out _ _).mono ?_;rintro e w1 ⟨q,n,rfl,hb1⟩;have HB:=hid hb1;clear hb1;go_wp2_with fail;go_ret;exact⟨_,rfl,HB.out⟩
  ·go_wp2_with fail
   go_ret;exact⟨_,rfl,HB0.out⟩
 ·go_wp2_with fail
  go_ret;exact⟨_,rfl,HB0.out⟩
def turnV(x:Int):Int:=if x.tmod 1296000<0 then x.tmod 1296000+1296000 else x.tmod 1296000
theorem oU(x:Int):0≤turnV x∧turnV x<1296000:=by
 have h:=Int.natAbs_tmod x 1296000;have:x.natAbs%(1296000:Int).natAbs<1296000:=Nat.mod_lt _ (by decide);unfold turnV;split<;>omega
theorem oV{x:Int}(h1:0≤x)(h2:x<1296000):turnV x=x:=by
 unfold turnV;rw[Int.tmod_eq_of_lt h1 h2,if_neg (by omega)]
theorem jf(x:Int)(w:World):Calls Tryz.prog 179 #[x] w (RetV w (.int .i64 (turnV x))):=by
 have h:=Int.natAbs_tmod x 1296000;have:x.natAbs%(1296000:Int).natAbs<1296000:=Nat.mod_lt _ (by decide);have hw2:IntKind.i64.wrap (x.tmod 1296000+1296000)=x.tmod 1296000+1296000:=IntWalk.i64_in _ (by omega);clear h this;obtain⟨y,hy⟩:∃y,decide (x.tmod 1296000<0)=y:=⟨_,rfl⟩;go_enter Tryz.func179,Tryz.ntmps179;cases y
 ·have HR:=hid (show turnV x=x.tmod 1296000 from if_neg (of_decide_eq_false hy))
  go_wp2_with fail;go_ret;exact⟨by rw[HR.out];rfl,Below.refl _ _⟩
 ·have HR:=hid (show turnV x=x.tmod 1296000+1296000 from if_pos (of_decide_eq_true hy))
  go_wp2_with fail;go_ret;exact⟨by rw[HR.out];first|rfl|simp[hw2],Below.refl _ _⟩
end Go.Proofs
namespace Go.Proofs.Ed
open Go.Proofs
theorem mono_line{u v w:Int}(huv:u≠v)(hvw:v≠w)(h1:¬(min u v≤w∧w≤max u v))(h2:¬(min v w≤u∧u≤max v w)):0<(v-u)*(w-v):=by
 rcases Int.lt_or_gt_of_ne huv with k|k
 ·exact Int.mul_pos (by omega) (by omega)
 ·exact Int.mul_pos_of_neg_of_neg (by omega) (by omega)
theorem fold_x{p q s:Pt}{x:Int}(hp:p.1=x)(hq:q.1=x)(hs:s.1=x)(hpq:p≠q)(hqs:q≠s)(h1:onB p q s=false)(h2:onB q s p=false):0<(q.2-p.2)*(s.2-q.2):=by
 have t1:tw p q s=0:=by unfold tw;rw[hp,hq,hs];grind
 have t2:tw q s p=0:=by unfold tw;rw[hp,hq,hs];grind
 apply mono_line
 ·intro e;exact hpq (Prod.ext (by omega) e)
 ·intro e;exact hqs (Prod.ext (by omega) e)
 ·intro k
  have:=aM.2 ⟨t1,(show inBx p q s by unfold inBx;omega)⟩;rw[h1]at this;cases this
 ·intro k
  have:=aM.2 ⟨t2,(show inBx q s p by unfold inBx;omega)⟩;rw[h2]at this;cases this
theorem fold_y{p q s:Pt}{y:Int}(hp:p.2=y)(hq:q.2=y)(hs:s.2=y)(hpq:p≠q)(hqs:q≠s)(h1:onB p q s=false)(h2:onB q s p=false):0<(q.1-p.1)*(s.1-q.1):=by
 have t1:tw p q s=0:=by unfold tw;rw[hp,hq,hs];grind
 have t2:tw q s p=0:=by unfold tw;rw[hp,hq,hs];grind
 apply mono_line
 ·intro e;exact hpq (Prod.ext e (by omega))
 ·intro e;exact hqs (Prod.ext e (by omega))
 ·intro k
  have:=aM.2 ⟨t1,(show inBx p q s by unfold inBx;omega)⟩;rw[h1]at this;cases this
 ·intro k
  have:=aM.2 ⟨t2,(show inBx q s p by unfold inBx;omega)⟩;rw[h2]at this;cases this
def Clean:List Pt→Prop
 | p::q::r=>p≠q∧(∀s,r.head?=some s→onB p q s=false∧onB q s p=false)∧Clean (q::r)
 | _=>True
theorem good_of{U S:Pt→Int}(h:∀p q s:Pt,S p=0→S q=0→S s=0→p≠q→q≠s→onB p q s=false→onB q s p=false→0<(U q-U p)*(U s-U q)):∀l,Clean l→Good U S l
 | [],_=>trivial
 | [_],_=>trivial
 | p::q::r,hc=>by
  refine⟨hc.1,fun s hs h1 h2 h3=>?_,good_of h (q::r) hc.2.2⟩
  have hqs:q≠s:=by
   cases r with
   | nil=>cases hs
   | cons s' r'=>
    injection hs with e;rw[←e];exact hc.2.2.1
  obtain⟨k1,k2⟩:=hc.2.1 s hs;exact h p q s h1 h2 h3 hc.1 hqs k1 k2
theorem good1(b:Bx4)(l:List Pt)(h:Clean l):Good (fun p=>p.2) (fun p=>p.1-b.x0) l:=good_of (fun p q s h1 h2 h3 n1 n2 k1 k2=>fold_x (x:=b.x0) (by omega) (by omega) (by omega) n1 n2 k1 k2) l h
theorem good2(b:Bx4)(l:List Pt)(h:Clean l):Good (fun p=>p.1) (fun p=>p.2-b.y0) l:=good_of (fun p q s h1 h2 h3 n1 n2 k1 k2=>fold_y (y:=b.y0) (by omega) (by omega) (by omega) n1 n2 k1 k2) l h
theorem good3(b:Bx4)(l:List Pt)(h:Clean l):Good (fun p=>p.2) (fun p=>b.x1-p.1) l:=good_of (fun p q s h1 h2 h3 n1 n2 k1 k2=>fold_x (x:=b.x1) (by omega) (by omega) (by omega) n1 n2 k1 k2) l h
theorem good4(b:Bx4)(l:List Pt)(h:Clean l):Good (fun p=>p.1) (fun p=>b.y1-p.2) l:=good_of (fun p q s h1 h2 h3 n1 n2 k1 k2=>fold_y (y:=b.y1) (by omega) (by omega) (by omega) n1 n2 k1 k2) l h
theorem clean_arc{loop:Prop}{l:List Pt}(h:dH loop (fun k=>l[k]!) l.length):Clean l:=by
 have main:∀m k,k+m=l.length→Clean (l.drop k):=by
  intro m
  induction m with
  | zero=>intro k hk;rw[List.drop_of_length_le (by omega)];trivial
  | succ m ih=>
   intro k hk;rw[List.drop_eq_getElem_cons (by omega)]
   by_cases h1:k+1<l.length
   ·have ih':=ih (k+1) (by omega)
    rw[List.drop_eq_getElem_cons h1]at ih' ⊢;have e0:l[k]! = l[k]:=getElem!_pos l k (by omega);have e1:l[k+1]! = l[k+1]:=getElem!_pos l (k+1) h1;refine⟨by have:=h.ne k h1;rw[e0,e1]at this;exact this,fun s hs=>?_,ih'⟩
    by_cases h2:k+1+1<l.length
    ·rw[List.drop_eq_getElem_cons h2]at hs
     injection hs with hs;have e2:l[k+1+1]! = l[k+1+1]:=getElem!_pos l (k+1+1) h2;have:=h.adj k (k+1) (by omega) h2 (Or.inl rfl);rw[dw (h.nr _ (by omega)) (h.nr _ (by omega)) (h.nr _ h2) (h.ne k h1) (h.ne (k+1) h2)]at this;rw[e0,e1,e2,hs]at this;exact this
    ·rw[List.drop_of_length_le (by omega)]at hs
     cases hs
   ·rw[List.drop_of_length_le (by omega)]
    trivial
 have:=main l.length 0 (by omega)
 rwa [List.drop_zero]at this
section
variable {U S:Pt→Int}{lo hi:Int}{mt:Pt→Pt→Pt}{nd nd':Pt→Bool}
theorem ev_nodes{o:Int}{run:List Pt}(hr:∀p∈run,S p=0)(hn:∀p,S p=0→lo<U p→U p<hi→nd p=nd' p):ev U lo hi nd o run=ev U lo hi nd' o run:=by
 have hc:∀p∈run,clo U lo hi nd p=clo U lo hi nd' p:=by
  intro p hp;unfold clo
  by_cases h1:U p≤lo
  ·rw[decide_eq_true h1];rfl
  ·by_cases h2:hi≤U p
   ·rw[decide_eq_true h2];simp
   ·rw[hn p (hr p hp) (by omega) (by omega)]
 unfold ev
 have:opn U lo hi nd run=opn U lo hi nd' run:=by
  unfold opn;cases run with
  | nil=>rfl
  | cons p r=>
   dsimp only;rw[hc p (List.mem_cons_self ..),hc _ (List.getLast_mem _)]
 rw[this]
theorem ex_nodes(hmt:∀p q,(0<S p∧S q<0)∨(S p<0∧0<S q)→S (mt p q)=0)(hn:∀p,S p=0→lo<U p→U p<hi→nd p=nd' p) :
  ∀(l:List Pt) (last:Option Pt) (run:List Pt),(∀p∈run,S p=0)→exF U S lo hi mt nd last run l=exF U S lo hi mt nd' last run l
 | [],last,run,hr=>by cases last<;>rfl
 | q::r,last,run,hr=>by
  rw[exF_cons,exF_cons]
  by_cases h:S q=0
  ·rw[if_pos h,if_pos h]
   exact ex_nodes hmt hn r last (run++[q]) (all_app hr h)
  ·rw[if_neg h,if_neg h,ex_nodes hmt hn r (some q) [] (by simp)]
   congr 1
   cases last with
   | none=>rfl
   | some p=>
    dsimp only
    by_cases h2:(0<S p∧S q<0)∨(S p<0∧0<S q)
    ·rw[if_pos h2,if_pos h2]
     apply ev_nodes (S:=S) _ hn;split
     ·intro x hx;rw[List.mem_singleton.1 hx];exact hmt p q h2
     ·exact hr
    ·rw[if_neg h2,if_neg h2]
def flipE(e:Evt):Evt:=(e.1,1-e.2)
theorem ev_flip{o:Int}{run:List Pt}:(ev U lo hi nd o run).map flipE=ev U lo hi nd (1-o) run:=by
 unfold ev;split<;>rfl
theorem ex_flip(S':Pt→Int)(hS:∀p,S' p=- S p):∀(l:List Pt) (last:Option Pt) (run:List Pt),exF U S' lo hi mt nd last run l=(exF U S lo hi mt nd last run l).map flipE
 | [],last,run=>by cases last<;>rfl
 | q::r,last,run=>by
  rw[exF_cons,exF_cons];have hq:=hS q
  by_cases h:S q=0
  ·rw[if_pos h,if_pos (by omega),ex_flip S' hS r]
  ·rw[if_neg h,if_neg (by omega),ex_flip S' hS r (some q) [],List.map_append]
   congr 1
   cases last with
   | none=>rfl
   | some p=>
    dsimp only;have hp:=hS p
    by_cases h2:(0<S p∧S q<0)∨(S p<0∧0<S q)
    ·rw[if_pos h2,if_pos (by omega),ev_flip]
     congr 1
     rcases h2 with h2|h2
     ·rw[if_pos (by omega),if_neg (by omega)];rfl
     ·rw[if_neg (by omega),if_pos (by omega)];rfl
    ·rw[if_neg h2,if_neg (by omega)];rfl
end
end Go.Proofs.Ed
