/- Lemmas and walks; no statement of a law is proved here. -/
import Derived.Test.YtaglmdebikglgaaGreatDoorX05
import Derived.Test.YtaglmdebikglgaaGreatDoorX20
set_option linter.unusedVariables false
set_option linter.unusedSimpArgs false
set_option maxRecDepth 100000
set_option maxHeartbeats 8000000
open Go.Lib
namespace Go.Proofs
open Go.RowKit Go.Proofs.Mp Go.Lib
theorem SeOK.b{s:Se}(h:SeOK s):(-1048576≤s.x∧s.x≤1048576)∧(-1048576≤s.y∧s.y≤1048576)∧(1≤s.wd∧s.wd≤65536)∧(1≤s.ht∧s.ht≤65536)∧(1≤s.cols∧s.cols≤16)∧(1≤s.rows∧s.rows≤16) ∧
  (s.x+s.cols*s.wd≤1048576)∧(s.y+s.rows*s.ht≤1048576):=by
 have h1:=h.a;have h2:=h.z;unfold vldB at h1 h2;rw[Bool.and_eq_true,aI,aI]at h1 h2;exact⟨h1.1,h1.2,aI.1 h.w,aI.1 h.h,aI.1 h.c,aI.1 h.r,h2.1.2,h2.2.2⟩
def ShOK(s:Se)(n:Int):Prop:=SeOK s∧1≤n∧n≤s.cols*s.rows
def RetFi(w:World)(s:Se)(n:Int)(en:Ending)(w':World):Prop:=
 ((ShOK s n∧en=.returned (.tuple #[.int .i64 ((n-1)%s.cols),.int .i64 ((n-1)/s.cols),.int .i64 0]))∨(¬ShOK s n∧∃c r z,z≠0∧en=.returned (.tuple #[.int .i64 c,.int .i64 r,.int .i64 z])))∧Below w.heap.size w w'
theorem iQ(s:Se)(n:Int)(w:World):Calls Tryz.prog 28 #[seV s,.int .i64 n] w (RetFi w s n):=by
 have HF:=hid (show ∀c r z en w',¬ShOK s n→z≠0→en=.returned (.tuple #[.int .i64 c,.int .i64 r,.int .i64 z])→Below w.heap.size w w'→RetFi w s n en w' from fun c r z en w' h1 h2 h3 h4=>⟨Or.inr ⟨h1,c,r,z,h2,h3⟩,h4⟩);have HT:=hid (show ∀en w',ShOK s n→en=.returned (.tuple #[.int .i64 ((n-1)%s.cols),.int .i64 ((n-1)/s.cols),.int .i64 0])→Below w.heap.size w w'→RetFi w s n en w' from fun en w' h1 h3 h4=>⟨Or.inl ⟨h1,h3⟩,h4⟩);have HS:=hid (show ShOK s n↔SeOK s∧1≤n∧n≤s.cols*s.rows from Iff.rfl);have HB:=hid (show SeOK s→(1≤s.cols∧s.cols≤16)∧(1≤s.rows∧s.rows≤16)from fun h=>⟨h.b.2.2.2.2.1,h.b.2.2.2.2.2.1⟩);have cC:=hid fun W=>dP s W
 generalize RetFi w s n=R at *;generalize ShOK s n=S at *;generalize SeOK s=E at *;unfold seV at *;obtain⟨x,y,wd,ht,cols,rows⟩:=s;dsimp only at *;have hs0:=Bx.new (t:=32) (cs:=[.int .i64 x,.int .i64 y,.int .i64 wd,.int .i64 ht,.int .i64 cols,.int .i64 rows]) w rfl;have hb0:=bw1 w (.cells #[.int .i64 x,.int .i64 y,.int .i64 wd,.int .i64 ht,.int .i64 cols,.int .i64 rows] 32);go_enter Tryz.func28,Tryz.ntmps28;go_upto_region 1 with fail;generalize w.alloc (.cells #[.int .i64 x,.int .i64 y,.int .i64 wd,.int .i64 ht,.int .i64 cols,.int .i64 rows] 32)=w1 at *;have k0:=hs0.cell 0;have k1:=hs0.cell 1;have k2:=hs0.cell 2;have k3:=hs0.cell 3;have k4:=hs0.cell 4;have k5:=hs0.cell 5;simp only[gz,gs]at k0 k1 k2 k3 k4 k5;go_wp2_with fail;refine(cC.out w1).mono ?_;rintro e w2 ⟨en,rfl,hen,hb2⟩;have HB2:=hid (hb0.trans (hb2.mono hb0.size));have hs2:=hs0.below hb2;clear hb0 hb2 hs0 k0 k1 k2 k3 k4 k5
 by_cases he:en=0
 rotate_left
 ·have HP:=hid (show ¬S from fun h=>he (hen.2 (HS.out.1 h).1))
  have heb:(en != 0)=true:=by simp[he]
  go_wp2_with fail;refine bodyPost_ret (v:=.tuple #[.int .i64 0,.int .i64 0,.int .i64 en]) (by simp[results,Tryz.results28,go_sem]) rfl ?_;exact HF.out _ _ _ _ _ HP.out he rfl HB2.out
 subst he;have HE:=hid (hen.1 rfl);clear hen;obtain⟨hc,hr⟩:=HB.out HE.out;have k3:=hs2.cell 4;have k4:=hs2.cell 5;simp only[gz,gs]at k3 k4;have m1:=aF (a:=cols) (b:=rows) (n:=16) (m:=16) (by omega) (by omega) (by omega) (by omega) (by omega);have hw1:=IntWalk.i64_in (cols*rows) (by omega)
 by_cases h1:n<1
 ·have HP:=hid (show ¬S from fun h=>by have:=(HS.out.1 h).2.1;omega)
  go_wp2_with fail;refine bodyPost_ret (v:=.tuple #[.int .i64 0,.int .i64 0,.int .i64 7]) (by simp[results,Tryz.results28,go_sem]) rfl ?_;exact HF.out _ _ _ _ _ HP.out (by decide) rfl HB2.out
 by_cases h2:cols*rows<n
 ·have HP:=hid (show ¬S from fun h=>by have:=(HS.out.1 h).2.2;omega)
  go_wp2_with fail;refine bodyPost_ret (v:=.tuple #[.int .i64 0,.int .i64 0,.int .i64 7]) (by simp[results,Tryz.results28,go_sem]) rfl ?_;exact HF.out _ _ _ _ _ HP.out (by decide) rfl HB2.out
 have HP:=hid (HS.out.2 ⟨HE.out,by omega,by omega⟩);have hw2:=IntWalk.i64_in (n-1) (by omega);have t1:(n-1).tmod cols=(n-1)%cols:=Int.tmod_eq_emod_of_nonneg (by omega);have t2:(n-1).tdiv cols=(n-1)/cols:=Int.tdiv_eq_ediv_of_nonneg (by omega);have hcz:¬cols=0:=by omega
 have hw3:IntKind.i64.wrap ((n-1)/cols)=(n-1)/cols:=IntWalk.i64_in _ (by
  have q1:=Int.ediv_nonneg (show 0≤n-1 by omega) (show 0≤cols by omega);have q2:=Int.ediv_le_self cols (show 0≤n-1 by omega)
  omega)
 have hw4:IntKind.i64.wrap ((n-1)%cols)=(n-1)%cols:=IntWalk.i64_in _ (by
  have q1:=Int.emod_nonneg (n-1) hcz;have q2:=Int.emod_lt_of_pos (n-1) (show 0<cols by omega)
  omega)
 go_wp2_with fail;go_quiet (fail);go_wp2_with fail;refine bodyPost_ret (v:=.tuple #[.int .i64 ((n-1)%cols),.int .i64 ((n-1)/cols),.int .i64 0]) (by simp[results,Tryz.results28,go_sem]) rfl ?_;exact HT.out _ _ HP.out rfl (below_drewN HB2.out nq)
def shBox(s:Se)(n:Int):Bo:=⟨s.x+(n-1)%s.cols*s.wd,s.y+(n-1)/s.cols*s.ht,s.x+(n-1)%s.cols*s.wd+s.wd,s.y+(n-1)/s.cols*s.ht+s.ht⟩
def RetBx(w:World)(s:Se)(n:Int)(en:Ending)(w':World):Prop:=
 ((ShOK s n∧en=.returned (.tuple #[bj (shBox s n),.int .i64 0]))∨(¬ShOK s n∧∃z,z≠0∧en=.returned (.tuple #[bj ⟨0,0,0,0⟩,.int .i64 z])))∧Below w.heap.size w w'
theorem fw{s:Se}{n:Int}(h:ShOK s n):0≤(n-1)%s.cols∧(n-1)%s.cols+1≤s.cols∧0≤(n-1)/s.cols∧(n-1)/s.cols+1≤s.rows:=by
 obtain⟨h1,h2,h3⟩:=h;obtain⟨_,_,_,_,hc,hr,_,_⟩:=h1.b;refine⟨Int.emod_nonneg _ (by omega),?_,Int.ediv_nonneg (by omega) (by omega),?_⟩
 ·have:=Int.emod_lt_of_pos (n-1) (show 0<s.cols by omega)
  omega
 ·have:(n-1)/s.cols<s.rows:=Int.ediv_lt_of_lt_mul (by omega) (by rw[Int.mul_comm];omega)
  omega
theorem jd{s:Se}{n:Int}(h:ShOK s n):s.x≤(shBox s n).x0∧s.y≤(shBox s n).y0∧(shBox s n).x1≤s.x+s.cols*s.wd∧(shBox s n).y1≤s.y+s.rows*s.ht∧(shBox s n).x1=(shBox s n).x0+s.wd∧(shBox s n).y1=(shBox s n).y0+s.ht:=by
 obtain⟨h1,h2,h3,h4⟩:=fw h;obtain⟨_,_,hw,hh,hc,hr,_,_⟩:=h.1.b;unfold shBox;dsimp only;have p1:=Int.mul_nonneg h1 (show 0≤s.wd by omega);have p2:=Int.mul_nonneg h3 (show 0≤s.ht by omega);have p3:=Int.mul_le_mul_of_nonneg_right h2 (show 0≤s.wd by omega);have p4:=Int.mul_le_mul_of_nonneg_right h4 (show 0≤s.ht by omega);rw[Int.add_mul,Int.one_mul]at p3 p4;omega
end Go.Proofs
namespace Go.Proofs
open Go.RowKit Go.Proofs.Mp Go.Lib
theorem ep(s:Se)(n:Int)(w:World):Calls Tryz.prog 11 #[seV s,n] w (RetBx w s n):=by
 have HF:=hid (show ∀z en w',¬ShOK s n→z≠0→en=.returned (.tuple #[.agg #[.int .i64 0,.int .i64 0,.int .i64 0,.int .i64 0],.int .i64 z])→Below w.heap.size w w'→RetBx w s n en w' from fun z en w' h1 h2 h3 h4=>⟨Or.inr ⟨h1,z,h2,h3⟩,h4⟩);have HT:=hid (show ∀en w',ShOK s n→en=.returned (.tuple #[bj (shBox s n),.int .i64 0])→Below w.heap.size w w'→RetBx w s n en w' from fun en w' h1 h3 h4=>⟨Or.inl ⟨h1,h3⟩,h4⟩);have HG:=hid (show ShOK s n→_ from fun h=>And.intro (jd h) (And.intro (fw h) h.1.b));have cC:=hid fun W=>iQ s n W
 unfold RetFi at cC;unfold bj shBox at *;generalize RetBx w s n=R at *;generalize ShOK s n=S at *;unfold seV at *;obtain⟨x,y,wd,ht,cols,rows⟩:=s;dsimp only at *;have hs0:=(Bx.new (t:=32) (cs:=[.int .i64 x,.int .i64 y,.int .i64 wd,.int .i64 ht,.int .i64 cols,.int .i64 rows]) w rfl).alloc (.cells #[.int .i64 0,.int .i64 0,.int .i64 0,.int .i64 0] 48);have hf0:=Bx.newAt (b:=w.heap.size+1) (t:=48) (cs:=[.int .i64 0,.int .i64 0,.int .i64 0,.int .i64 0]) (w.alloc (.cells #[x,y,wd,ht,cols,rows] 32)) (by simp) rfl;have hb0:=(bw1 w (.cells #[x,y,wd,ht,cols,rows] 32)).trans ((bw1 _ (.cells #[.int .i64 0,.int .i64 0,.int .i64 0,.int .i64 0] 48)).mono (bw1 w (.cells #[x,y,wd,ht,cols,rows] 32)).size);go_enter Tryz.func11,Tryz.ntmps11;go_upto_region 1 with fail;generalize (w.alloc (.cells #[x,y,wd,ht,cols,rows] 32)).alloc (.cells #[.int .i64 0,.int .i64 0,.int .i64 0,.int .i64 0] 48)=w1 at *;have hne:w.heap.size≠w.heap.size+1:=by omega
 have hle:w.heap.size≤w.heap.size+1:=by omega
 generalize w.heap.size+1=nf at *;generalize hns:w.heap.size=ns at *;clear hns;have k0:=hs0.cell 0;have k1:=hs0.cell 1;have k2:=hs0.cell 2;have k3:=hs0.cell 3;have k4:=hs0.cell 4;have k5:=hs0.cell 5;simp only[gz,gs]at k0 k1 k2 k3 k4 k5;go_wp2_with fail;refine(cC.out w1).mono ?_;rintro e w2 ⟨hen,hb2⟩;have hb2':=hb0.trans (hb2.mono (Nat.le_of_lt hs0.lt));have HB2:=hid hb2';have hs2:=hs0.below hb2;have hf2:=hf0.below hb2;clear hb0 hb2 hs0 hf0 k0 k1 k2 k3 k4 k5
 rcases hen with⟨hS,rfl⟩|⟨hS,c,r,z,hz,rfl⟩
 rotate_left
 ·have HP:=hid hS
  have heb:(z != 0)=true:=by simp[hz]
  have f0:=hf2.frozen 0;have f1:=hf2.frozen 1;have f2:=hf2.frozen 2;have f3:=hf2.frozen 3;have q0:=hf2.cell 0;have q1:=hf2.cell 1;have q2:=hf2.cell 2;have q3:=hf2.cell 3;simp only[gz,gs]at q0 q1 q2 q3;go_wp2_with fail;have hf3:=(((hf2.set 0 (.int .i64 0)).set 1 (.int .i64 0)).set 2 (.int .i64 0)).set 3 (.int .i64 0);have hB3:=((hf2.set 0 (.int .i64 0)).set 1 (.int .i64 0) |>.set 2 (.int .i64 0)).setB (((hf2.set 0 (.int .i64 0)).set 1 (.int .i64 0)).setB ((hf2.set 0 (.int .i64 0)).setB (hf2.setB HB2.out hle 0 (.int .i64 0)) hle 1 (.int .i64 0)) hle 2 (.int .i64 0)) hle 3 (.int .i64 0);generalize (((w2.setCell ⟨nf,0,none⟩ (.int .i64 0)).setCell ⟨nf,1,none⟩ (.int .i64 0)).setCell ⟨nf,2,none⟩ (.int .i64 0)).setCell ⟨nf,3,none⟩ (.int .i64 0)=w3 at *;have r0:=hf3.cell 0;have r1:=hf3.cell 1;have r2:=hf3.cell 2;have r3:=hf3.cell 3;simp only[sz,ss,gz,gs]at r0 r1 r2 r3;refine bodyPost_ret (v:=.tuple #[.agg #[.int .i64 0,.int .i64 0,.int .i64 0,.int .i64 0],.int .i64 z]) (by simp[results,Tryz.results11,go_sem,r0,r1,r2,r3]) rfl ?_;exact HF.out _ _ _ HP.out hz rfl hB3
 obtain⟨⟨g1,g2,g3,g4,g5,g6⟩,⟨g7,g8,g9,g10⟩,g11,g12,g13,g14,g15,g16,g17,g18⟩:=HG.out hS;obtain⟨c,hc⟩:∃z,(n-1)%cols=z:=⟨_,rfl⟩;obtain⟨r,hr⟩:∃z,(n-1)/cols=z:=⟨_,rfl⟩;rw[hc,hr]at HT ⊢;rw[hc]at g1 g3 g7 g8;rw[hr]at g2 g4 g9 g10;have HP:=hid hS;clear HG hc hr hS;have a1:=IntWalk.i64_in (c*wd) (by omega);have a2:=IntWalk.i64_in (x+c*wd) (by omega);have a3:=IntWalk.i64_in (r*ht) (by omega);have a4:=IntWalk.i64_in (y+r*ht) (by omega);have a5:=IntWalk.i64_in (x+c*wd+wd) (by omega);have a6:=IntWalk.i64_in (y+r*ht+ht) (by omega);clear g1 g2 g3 g4 g5 g6 g7 g8 g9 g10 g11 g12 g13 g14 g15 g16 g17 g18;have k0:=hs2.cell 0;have k1:=hs2.cell 1;have k2:=hs2.cell 2;have k3:=hs2.cell 3;have q0:=hf2.cell 0;have q1:=hf2.cell 1;have q2:=hf2.cell 2;have q3:=hf2.cell 3;have f0:=hf2.frozen 0;have f1:=hf2.frozen 1;have f2:=hf2.frozen 2;have f3:=hf2.frozen 3;simp only[gz,gs]at k0 k1 k2 k3 q0 q1 q2 q3;have hs3:=hs2.other (n:=nf) hne 0 (.int .i64 (x+c*wd));have hf3:=hf2.set 0 (.int .i64 (x+c*wd));have hb3:=hf2.setB hb2' hle 0 (.int .i64 (x+c*wd));simp only[sz,ss]at hf3;clear hf2 hs2 hb2';go_upto_region 5 with fail;generalize w2.setCell ⟨nf,0,none⟩ (.int .i64 (x+c*wd))=w3 at *;clear k0 k1 k2 k3 q0 q1 q2 q3 f0 f1 f2 f3;have k0:=hs3.cell 0;have k1:=hs3.cell 1;have k2:=hs3.cell 2;have k3:=hs3.cell 3;have q0:=hf3.cell 0;have q1:=hf3.cell 1;have q2:=hf3.cell 2;have q3:=hf3.cell 3;have f0:=hf3.frozen 0;have f1:=hf3.frozen 1;have f2:=hf3.frozen 2;have f3:=hf3.frozen 3;simp only[gz,gs]at k0 k1 k2 k3 q0 q1 q2 q3;have hs4:=hs3.other (n:=nf) hne 1 (.int .i64 (y+r*ht));have hf4:=hf3.set 1 (.int .i64 (y+r*ht));have hb4:=hf3.setB hb3 hle 1 (.int .i64 (y+r*ht));simp only[sz,ss]at hf4;clear hf3 hs3 hb3;go_upto_region 6 with fail;generalize w3.setCell ⟨nf,1,none⟩ (.int .i64 (y+r*ht))=w4 at *;clear k0 k1 k2 k3 q0 q1 q2 q3 f0 f1 f2 f3;have k0:=hs4.cell 0;have k1:=hs4.cell 1;have k2:=hs4.cell 2;have k3:=hs4.cell 3;have q0:=hf4.cell 0;have q1:=hf4.cell 1;have q2:=hf4.cell 2;have q3:=hf4.cell 3;have f0:=hf4.frozen 0;have f1:=hf4.frozen 1;have f2:=hf4.frozen 2;have f3:=hf4.frozen 3;simp only[gz,gs]at k0 k1 k2 k3 q0 q1 q2 q3;have hs5:=hs4.other (n:=nf) hne 2 (.int .i64 (x+c*wd+wd));have hf5:=hf4.set 2 (.int .i64 (x+c*wd+wd));have hb5:=hf4.setB hb4 hle 2 (.int .i64 (x+c*wd+wd));simp only[sz,ss]at hf5;clear hf4 hs4 hb4;go_upto_region 7 with fail;generalize w4.setCell ⟨nf,2,none⟩ (.int .i64 (x+c*wd+wd))=w5 at *;clear k0 k1 k2 k3 q0 q1 q2 q3 f0 f1 f2 f3;have k0:=hs5.cell 0;have k1:=hs5.cell 1;have k2:=hs5.cell 2;have k3:=hs5.cell 3;have q0:=hf5.cell 0;have q1:=hf5.cell 1;have q2:=hf5.cell 2;have q3:=hf5.cell 3;have f0:=hf5.frozen 0;have f1:=hf5.frozen 1;have f2:=hf5.frozen 2;have f3:=hf5.frozen 3;simp only[gz,gs]at k0 k1 k2 k3 q0 q1 q2 q3;have hs6:=hs5.other (n:=nf) hne 3 (.int .i64 (y+r*ht+ht));have hf6:=hf5.set 3 (.int .i64 (y+r*ht+ht));have hb6:=hf5.setB hb5 hle 3 (.int .i64 (y+r*ht+ht));simp only[sz,ss]at hf6;clear hf5 hs5 hb5;go_upto_region 8 with fail;generalize w5.setCell ⟨nf,3,none⟩ (.int .i64 (y+r*ht+ht))=w6 at *;clear k0 k1 k2 k3 q0 q1 q2 q3 f0 f1 f2 f3;have k0:=hs6.cell 0;have k1:=hs6.cell 1;have k2:=hs6.cell 2;have k3:=hs6.cell 3;have q0:=hf6.cell 0;have q1:=hf6.cell 1;have q2:=hf6.cell 2;have q3:=hf6.cell 3;have f0:=hf6.frozen 0;have f1:=hf6.frozen 1;have f2:=hf6.frozen 2;have f3:=hf6.frozen 3;simp only[gz,gs]at k0 k1 k2 k3 q0 q1 q2 q3;have hf7:=(((hf6.set 0 (.int .i64 (x+c*wd))).set 1 (.int .i64 (y+r*ht))).set 2 (.int .i64 (x+c*wd+wd))).set 3 (.int .i64 (y+r*ht+ht));have hb7:=((hf6.set 0 (.int .i64 (x+c*wd))).set 1 (.int .i64 (y+r*ht)) |>.set 2 (.int .i64 (x+c*wd+wd))).setB (((hf6.set 0 (.int .i64 (x+c*wd))).set 1 (.int .i64 (y+r*ht))).setB ((hf6.set 0 (.int .i64 (x+c*wd))).setB (hf6.setB hb6 hle 0 (.int .i64 (x+c*wd))) hle 1 (.int .i64 (y+r*ht))) hle 2 (.int .i64 (x+c*wd+wd))) hle 3 (.int .i64 (y+r*ht+ht));go_wp2_with fail;generalize (((w6.setCell ⟨nf,0,none⟩ (.int .i64 (x+c*wd))).setCell ⟨nf,1,none⟩ (.int .i64 (y+r*ht))).setCell ⟨nf,2,none⟩ (.int .i64 (x+c*wd+wd))).setCell ⟨nf,3,none⟩ (.int .i64 (y+r*ht+ht))=w7 at *
 have r0:=hf7.cell 0;have r1:=hf7.cell 1;have r2:=hf7.cell 2;have r3:=hf7.cell 3;simp only[sz,ss,gz,gs]at r0 r1 r2 r3;refine bodyPost_ret (v:=.tuple #[.agg #[.int .i64 (x+c*wd),.int .i64 (y+r*ht),.int .i64 (x+c*wd+wd),.int .i64 (y+r*ht+ht)],.int .i64 0]) (by simp[results,Tryz.results11,go_sem,r0,r1,r2,r3]) rfl ?_;exact HT.out _ _ HP.out rfl hb7
end Go.Proofs
namespace Go.Proofs
open Go.RowKit Go.Proofs.Mp Go.Lib
def mvC:List Value:=[.int .i64 (-1),.int .i64 0,.int .i64 0,.int .i64 (-1),.int .i64 1,.int .i64 0,.int .i64 0,.int .i64 1]
def bT(w:World):Prop:=∃t r,w.heap[0]?=some (.cells mvC.toArray t r)
theorem bT.below{w w':World}(h:bT w)(hb:Below w.heap.size w w'):bT w':=by
 obtain⟨t,r,h⟩:=h;exact⟨t,r,(hb.block 0 (Array.getElem?_eq_some_iff.1 h).1).trans h⟩
theorem bT.cell{w:World}(h:bT w)(j:Nat):w.cell? ⟨0,j,none⟩=mvC[j]?:=by
 obtain⟨t,r,h⟩:=h;simp[World.cell?,h]
def nbX(d:Int):Int:=if d=1 then -1 else if d=3 then 1 else 0
def nbY(d:Int):Int:=if d=2 then -1 else if d=4 then 1 else 0
def nbS(s:Se)(n d:Int):Option Int:=
 if (n-1)%s.cols+nbX d<0∨s.cols≤(n-1)%s.cols+nbX d∨(n-1)/s.cols+nbY d<0∨s.rows≤(n-1)/s.cols+nbY d then none else some (((n-1)/s.cols+nbY d)*s.cols+((n-1)%s.cols+nbX d)+1)
def nbV:Option Int→Value
 | none=>.tuple #[.int .i64 0,.bool false]
 | some z=>.tuple #[.int .i64 z,.bool true]
theorem eT(s:Se)(n d:Int)(w:World)(hM:bT w)(hS:ShOK s n)(hd:d=1∨d=2∨d=3∨d=4):Calls Tryz.prog 31 #[seV s,n,d] w (RetV w (nbV (nbS s n d))):=by
 have HG:=hid (And.intro (fw hS) hS.1.b);have cC:=hid fun W=>iQ s n W
 have HR:=hid (show nbS s n d=if (n-1)%s.cols+nbX d<0∨s.cols≤(n-1)%s.cols+nbX d∨(n-1)/s.cols+nbY d<0∨s.rows≤(n-1)/s.cols+nbY d then none else some (((n-1)/s.cols+nbY d)*s.cols+((n-1)%s.cols+nbX d)+1)from rfl);have HSH:=hid hS;unfold RetFi at cC;generalize nbS s n d=R at *;unfold seV at *;obtain⟨x,y,wd,ht,cols,rows⟩:=s;dsimp only at *;have hs0:=Bx.new (t:=32) (cs:=[.int .i64 x,.int .i64 y,.int .i64 wd,.int .i64 ht,.int .i64 cols,.int .i64 rows]) w rfl;have hb0:=bw1 w (.cells #[x,y,wd,ht,cols,rows] 32);have hm0:=hM.below hb0;clear hS hM;go_enter Tryz.func31,Tryz.ntmps31;go_upto_region 1 with fail;generalize w.alloc (.cells #[x,y,wd,ht,cols,rows] 32)=w1 at *;have k0:=hs0.cell 0;have k1:=hs0.cell 1;have k2:=hs0.cell 2;have k3:=hs0.cell 3;have k4:=hs0.cell 4;have k5:=hs0.cell 5;simp only[gz,gs]at k0 k1 k2 k3 k4 k5;go_wp2_with fail;refine(cC.out w1).mono ?_;rintro e w2 ⟨hen,hb2⟩;have HB2:=hid (hb0.trans (hb2.mono hb0.size));have hs2:=hs0.below hb2;have hm2:=hm0.below hb2;clear hb0 hb2 hs0 hm0 k0 k1 k2 k3 k4 k5
 rcases hen with⟨_,rfl⟩|⟨hS,_⟩
 rotate_left
 ·exact absurd HSH.out hS
 obtain⟨⟨g1,g2,g3,g4⟩,_,_,_,_,g5,g6,_⟩:=HG.out;obtain⟨c,hc⟩:∃z,(n-1)%cols=z:=⟨_,rfl⟩;obtain⟨r,hr⟩:∃z,(n-1)/cols=z:=⟨_,rfl⟩;rw[hc,hr]at HR ⊢;rw[hc]at g1 g2;rw[hr]at g3 g4;have k4:=hs2.cell 4;have k5:=hs2.cell 5;simp only[gz,gs]at k4 k5;have e0:=hm2.cell 0;have e1:=hm2.cell 1;have e2:=hm2.cell 2;have e3:=hm2.cell 3;have e4:=hm2.cell 4;have e5:=hm2.cell 5;have e6:=hm2.cell 6;have e7:=hm2.cell 7;simp only[mvC,gz,gs]at e0 e1 e2 e3 e4 e5 e6 e7;have k0:=hs2.cell 0;simp only[gz,gs]at k0;clear HG HSH cC hc hr hm2
 rcases hd with rfl|rfl|rfl|rfl
 ·have a1:=IntWalk.i64_in (c+-1) (by omega)
  have a2:=IntWalk.i64_in r (by omega)
  have HR2:Hid (R=if (c+-1)<0∨cols≤(c+-1)∨r<0∨rows≤r then none else some (r*cols+(c+-1)+1)):=hid (by
   have h:=HR.out;rw[show nbX 1=-1 from rfl,show nbY 1=0 from rfl]at h;rw[h]
   try rw[Int.add_zero])
  clear HR;go_upto_region 6 with fail
  by_cases h1:(c+-1)<0
  ·have HE:=hid (show R=none from by rw[HR2.out,if_pos (Or.inl h1)])
   go_wp2_with fail;refine bodyPost_ret (v:=.tuple #[.int .i64 0,.bool false]) (by simp[results,Tryz.results31,go_sem]) rfl ?_;exact⟨by rw[HE.out];rfl,HB2.out⟩
  by_cases h2:cols≤(c+-1)
  ·exfalso;omega
  by_cases h3:r<0
  ·exfalso;omega
  by_cases h4:rows≤r
  ·exfalso;omega
  have HE:=hid (show R=some (r*cols+(c+-1)+1)from by rw[HR2.out,if_neg (by omega)]);have m1:=aF (a:=r) (b:=cols) (n:=16) (m:=16) (by omega) (by omega) (by omega) (by omega) (by omega);have b1:=IntWalk.i64_in (r*cols) (by omega);have b2:=IntWalk.i64_in (r*cols+(c+-1)) (by omega);have b3:=IntWalk.i64_in (r*cols+(c+-1)+1) (by omega);go_wp2_with fail;refine bodyPost_ret (v:=.tuple #[.int .i64 (r*cols+(c+-1)+1),.bool true]) (by simp[results,Tryz.results31,go_sem]) rfl ?_;exact⟨by rw[HE.out];rfl,HB2.out⟩
 ·have a1:=IntWalk.i64_in c (by omega)
  have a2:=IntWalk.i64_in (r+-1) (by omega)
  have HR2:Hid (R=if c<0∨cols≤c∨(r+-1)<0∨rows≤(r+-1) then none else some ((r+-1)*cols+c+1)):=hid (by
   have h:=HR.out;rw[show nbX 2=0 from rfl,show nbY 2=-1 from rfl]at h;rw[h]
   try rw[Int.add_zero])
  clear HR;go_upto_region 6 with fail
  by_cases h1:c<0
  ·exfalso;omega
  by_cases h2:cols≤c
  ·exfalso;omega
  by_cases h3:(r+-1)<0
  ·have HE:=hid (show R=none from by rw[HR2.out,if_pos (Or.inr (Or.inr (Or.inl h3)))])
   go_wp2_with fail;refine bodyPost_ret (v:=.tuple #[.int .i64 0,.bool false]) (by simp[results,Tryz.results31,go_sem]) rfl ?_;exact⟨by rw[HE.out];rfl,HB2.out⟩
  by_cases h4:rows≤(r+-1)
  ·exfalso;omega
  have HE:=hid (show R=some ((r+-1)*cols+c+1)from by rw[HR2.out,if_neg (by omega)]);have m1:=aF (a:=(r+-1)) (b:=cols) (n:=16) (m:=16) (by omega) (by omega) (by omega) (by omega) (by omega);have b1:=IntWalk.i64_in ((r+-1)*cols) (by omega);have b2:=IntWalk.i64_in ((r+-1)*cols+c) (by omega);have b3:=IntWalk.i64_in ((r+-1)*cols+c+1) (by omega);go_wp2_with fail;refine bodyPost_ret (v:=.tuple #[.int .i64 ((r+-1)*cols+c+1),.bool true]) (by simp[results,Tryz.results31,go_sem]) rfl ?_;exact⟨by rw[HE.out];rfl,HB2.out⟩
 ·have a1:=IntWalk.i64_in (c+1) (by omega)
  have a2:=IntWalk.i64_in r (by omega)
  have HR2:Hid (R=if (c+1)<0∨cols≤(c+1)∨r<0∨rows≤r then none else some (r*cols+(c+1)+1)):=hid (by
   have h:=HR.out;rw[show nbX 3=1 from rfl,show nbY 3=0 from rfl]at h;rw[h]
   try rw[Int.add_zero])
  clear HR;go_upto_region 6 with fail
  by_cases h1:(c+1)<0
  ·exfalso;omega
  by_cases h2:cols≤(c+1)
  ·have HE:=hid (show R=none from by rw[HR2.out,if_pos (Or.inr (Or.inl h2))])
   go_wp2_with fail;refine bodyPost_ret (v:=.tuple #[.int .i64 0,.bool false]) (by simp[results,Tryz.results31,go_sem]) rfl ?_;exact⟨by rw[HE.out];rfl,HB2.out⟩
  by_cases h3:r<0
  ·exfalso;omega
  by_cases h4:rows≤r
  ·exfalso;omega
  have HE:=hid (show R=some (r*cols+(c+1)+1)from by rw[HR2.out,if_neg (by omega)]);have m1:=aF (a:=r) (b:=cols) (n:=16) (m:=16) (by omega) (by omega) (by omega) (by omega) (by omega);have b1:=IntWalk.i64_in (r*cols) (by omega);have b2:=IntWalk.i64_in (r*cols+(c+1)) (by omega);have b3:=IntWalk.i64_in (r*cols+(c+1)+1) (by omega);go_wp2_with fail;refine bodyPost_ret (v:=.tuple #[.int .i64 (r*cols+(c+1)+1),.bool true]) (by simp[results,Tryz.results31,go_sem]) rfl ?_;exact⟨by rw[HE.out];rfl,HB2.out⟩
 ·have a1:=IntWalk.i64_in c (by omega)
  have a2:=IntWalk.i64_in (r+1) (by omega)
  have HR2:Hid (R=if c<0∨cols≤c∨(r+1)<0∨rows≤(r+1) then none else some ((r+1)*cols+c+1)):=hid (by
   have h:=HR.out;rw[show nbX 4=0 from rfl,show nbY 4=1 from rfl]at h;rw[h]
   try rw[Int.add_zero])
  clear HR;go_upto_region 6 with fail
  by_cases h1:c<0
  ·exfalso;omega
  by_cases h2:cols≤c
  ·exfalso;omega
  by_cases h3:(r+1)<0
  ·exfalso;omega
  by_cases h4:rows≤(r+1)
  ·have HE:=hid (show R=none from by rw[HR2.out,if_pos (Or.inr (Or.inr (Or.inr h4)))])
   go_wp2_with fail;refine bodyPost_ret (v:=.tuple #[.int .i64 0,.bool false]) (by simp[results,Tryz.results31,go_sem]) rfl ?_;exact⟨by rw[HE.out];rfl,HB2.out⟩
  have HE:=hid (show R=some ((r+1)*cols+c+1)from by rw[HR2.out,if_neg (by omega)]);have m1:=aF (a:=(r+1)) (b:=cols) (n:=16) (m:=16) (by omega) (by omega) (by omega) (by omega) (by omega);have b1:=IntWalk.i64_in ((r+1)*cols) (by omega);have b2:=IntWalk.i64_in ((r+1)*cols+c) (by omega);have b3:=IntWalk.i64_in ((r+1)*cols+c+1) (by omega);go_wp2_with fail;refine bodyPost_ret (v:=.tuple #[.int .i64 ((r+1)*cols+c+1),.bool true]) (by simp[results,Tryz.results31,go_sem]) rfl ?_;exact⟨by rw[HE.out];rfl,HB2.out⟩
end Go.Proofs
