/- Lemmas and walks; no statement of a law is proved here. -/
import Derived.Test.YtaglmdebikglgaaGreatDoorX02
import Derived.Laws.EntriesVeiled
set_option linter.unusedVariables false
set_option linter.unusedSimpArgs false
set_option maxRecDepth 100000
set_option maxHeartbeats 8000000
open Go.Lib
namespace Go.Proofs
open Go.RowKit Go.Proofs.Mp Go.Lib
structure Se where
 x:Int
 y:Int
 wd:Int
 ht:Int
 cols:Int
 rows:Int
def seV(s:Se):Value:=.agg #[s.x,s.y,s.wd,s.ht,s.cols,s.rows]
def fromB(n lo hi:Int):Bool:=decide (lo≤n)&&decide (n≤hi)
def vldB(x y:Int):Bool:=fromB x (-1048576) 1048576&&fromB y (-1048576) 1048576
structure SeOK(s:Se):Prop where
 a:vldB s.x s.y=true
 w:fromB s.wd 1 65536=true
 h:fromB s.ht 1 65536=true
 c:fromB s.cols 1 16=true
 r:fromB s.rows 1 16=true
 z:vldB (s.x+s.cols*s.wd) (s.y+s.rows*s.ht)=true
theorem aI{n lo hi:Int}:fromB n lo hi=true↔lo≤n∧n≤hi:=by unfold fromB;rw[Bool.and_eq_true,decide_eq_true_eq,decide_eq_true_eq]
theorem bX(n lo hi:Int)(w:World):Calls Tryz.prog 23 #[n,lo,hi] w (RetV w (.bool (fromB n lo hi))):=by
 have HR:=hid (show fromB n lo hi=(decide (lo≤n)&&decide (n≤hi))from rfl);generalize fromB n lo hi=r at *;go_enter Tryz.func23,Tryz.ntmps23
 by_cases h:lo≤n
 ·rw[decide_eq_true h,Bool.true_and]at HR
  by_cases h2:n≤hi
  ·rw[decide_eq_true h2]at HR
   go_wp2_with fail;go_ret;exact RetV.bool (by rw[HR.out]) (Below.refl _ _)
  ·rw[decide_eq_false h2]at HR
   go_wp2_with fail;go_ret;exact RetV.bool (by rw[HR.out]) (Below.refl _ _)
 ·rw[decide_eq_false h,Bool.false_and]at HR
  go_wp2_with fail;go_ret;exact RetV.bool (by rw[HR.out]) (Below.refl _ _)
theorem lJ(x y:Int)(b:Nat)(w:World)(hb:Bx w b 78 [.func (.func 23) #[] #[]]):Calls Tryz.prog 24 #[x,y,.pointer (some ⟨b,0,none⟩)] w (RetV w (.bool (vldB x y))):=by
 have HR:=hid (show vldB x y=(fromB x (-1048576) 1048576&&fromB y (-1048576) 1048576)from rfl);have c1:=hid fun W=>bX x (-1048576) 1048576 W
 have c2:=hid fun W=>bX y (-1048576) 1048576 W
 generalize vldB x y=r at *;generalize fromB x (-1048576) 1048576=r1 at *;generalize fromB y (-1048576) 1048576=r2 at *;have k0:=hb.cell 0;simp only[gz]at k0;go_enter Tryz.func24,Tryz.ntmps24;go_wp2_with fail;refine(c1.out w).mono ?_;rintro e w2 ⟨rfl,hb2⟩;cases r1
 ·go_wp2_with fail
  go_ret;exact RetV.bool (by rw[HR.out];rfl) hb2
 have k0:=(hb.below hb2).cell 0;simp only[gz]at k0;have HB2:=hid hb2;clear hb2;go_wp2_with fail;refine(c2.out w2).mono ?_;rintro e w3 ⟨rfl,hb3⟩;have HB3:=hid (HB2.out.trans (hb3.mono HB2.out.size));clear hb3;go_wp2_with fail;go_ret;exact RetV.bool (by rw[HR.out];rfl) HB3.out
theorem dP(s:Se)(w:World):Calls Tryz.prog 8 #[seV s] w (aV w (SeOK s)):=by
 have HY:=hid (show vldB s.x s.y=true→fromB s.wd 1 65536=true→fromB s.ht 1 65536=true→fromB s.cols 1 16=true→fromB s.rows 1 16=true→vldB (s.x+s.cols*s.wd) (s.y+s.rows*s.ht)=true→SeOK s from fun a b c d e f=>⟨a,b,c,d,e,f⟩);have N1:=hid (show SeOK s→vldB s.x s.y=true from fun h=>h.a);have N2:=hid (show SeOK s→fromB s.wd 1 65536=true from fun h=>h.w);have N3:=hid (show SeOK s→fromB s.ht 1 65536=true from fun h=>h.h);have N4:=hid (show SeOK s→fromB s.cols 1 16=true from fun h=>h.c);have N5:=hid (show SeOK s→fromB s.rows 1 16=true from fun h=>h.r);have N6:=hid (show SeOK s→vldB (s.x+s.cols*s.wd) (s.y+s.rows*s.ht)=true from fun h=>h.z);generalize SeOK s=S at *;obtain⟨x,y,wd,ht,cols,rows⟩:=s;dsimp only at *
 have HA:=hid (show vldB x y=true→fromB wd 1 65536=true→fromB ht 1 65536=true→fromB cols 1 16=true→fromB rows 1 16=true→IntKind.i64.wrap (cols*wd)=cols*wd∧IntKind.i64.wrap (rows*ht)=rows*ht∧IntKind.i64.wrap (x+cols*wd)=x+cols*wd∧IntKind.i64.wrap (y+rows*ht)=y+rows*ht from fun h1 h2 h3 h4 h5=>by
  unfold vldB at h1;rw[Bool.and_eq_true,aI,aI]at h1;rw[aI]at h2 h3 h4 h5;have m1:=aF (a:=cols) (b:=wd) (n:=16) (m:=65536) (by omega) (by omega) (by omega) (by omega) (by omega);have m2:=aF (a:=rows) (b:=ht) (n:=16) (m:=65536) (by omega) (by omega) (by omega) (by omega) (by omega)
  exact⟨IntWalk.i64_in _ (by omega),IntWalk.i64_in _ (by omega),IntWalk.i64_in _ (by omega),IntWalk.i64_in _ (by omega)⟩)
 have hmf:∀(fn:Fn) (first cap:Array Value) (w:World),(Instr.makeFunc fn first cap).run Tryz.prog w=.ok (.func fn first cap) w:=fun _ _ _ _=>rfl
 have hs0:=(Bx.new (t:=32) (cs:=[.int .i64 x,.int .i64 y,.int .i64 wd,.int .i64 ht,.int .i64 cols,.int .i64 rows]) w rfl).alloc (.cells #[.func (.func 23) #[] #[]] 78);have hf0:=Bx.newAt (b:=w.heap.size+1) (t:=78) (cs:=[.func (.func 23) #[] #[]]) (w.alloc (.cells #[x,y,wd,ht,cols,rows] 32)) (by simp) rfl;have hb0:=(bw1 w (.cells #[x,y,wd,ht,cols,rows] 32)).trans ((bw1 _ (.cells #[.func (.func 23) #[] #[]] 78)).mono (bw1 w (.cells #[x,y,wd,ht,cols,rows] 32)).size);have cW:=hid fun W=>bX wd 1 65536 W
 have cH:=hid fun W=>bX ht 1 65536 W
 have cC:=hid fun W=>bX cols 1 16 W
 have cR:=hid fun W=>bX rows 1 16 W
 unfold seV;dsimp only;go_enter Tryz.func8,Tryz.ntmps8;go_upto_region 2 with fail;generalize (w.alloc (.cells #[x,y,wd,ht,cols,rows] 32)).alloc (.cells #[.func (.func 23) #[] #[]] 78)=w1 at *;generalize w.heap.size+1=nf at *;have HB1:=hid hb0;have HFX:=hid hf0;have cV:=hid fun W (hb:Below w1.heap.size w1 W) a b=>lJ a b nf W (HFX.out.below hb)
 have hs1:=hs0;have hf1:=hf0;have HZ1:=hid (Below.refl w1.heap.size w1);clear hb0 hs0 hf0;have k0:=hs1.cell 0;have k1:=hs1.cell 1;have k2:=hs1.cell 2;have k3:=hs1.cell 3;have k4:=hs1.cell 4;have k5:=hs1.cell 5;have kf:=hf1.cell 0;simp only[gz,gs]at k0 k1 k2 k3 k4 k5 kf;obtain⟨r,hr⟩:∃z,vldB x y=z:=⟨_,rfl⟩;have hc:=cV.out w1 HZ1.out x y;rw[hr]at hc;go_wp2_with fail;refine hc.mono ?_;rintro e w2 ⟨rfl,hbel⟩;have HB2:=hid (HB1.out.trans (hbel.mono HB1.out.size));have HZ2:=hid (HZ1.out.trans (hbel.mono HZ1.out.size));have hs2:=hs1.below hbel;have hf2:=hf1.below hbel;clear hbel hs1 hf1 k0 k1 k2 k3 k4 k5 kf hc;cases r
 ·have HP:=hid (show ¬S from fun h=>by have:=N1.out h;rw[hr]at this;cases this)
  go_wp2_with fail;go_ret;exact aV.no (by decide) HP.out HB2.out
 have X1:=hid hr;clear hr;have k0:=hs2.cell 0;have k1:=hs2.cell 1;have k2:=hs2.cell 2;have k3:=hs2.cell 3;have k4:=hs2.cell 4;have k5:=hs2.cell 5;have kf:=hf2.cell 0;simp only[gz,gs]at k0 k1 k2 k3 k4 k5 kf;obtain⟨r,hr⟩:∃z,fromB wd 1 65536=z:=⟨_,rfl⟩;have hc:=cW.out w2;rw[hr]at hc;go_wp2_with fail;refine hc.mono ?_;rintro e w3 ⟨rfl,hbel⟩;have HB3:=hid (HB2.out.trans (hbel.mono HB2.out.size));have HZ3:=hid (HZ2.out.trans (hbel.mono HZ2.out.size));have hs3:=hs2.below hbel;have hf3:=hf2.below hbel;clear hbel hs2 hf2 k0 k1 k2 k3 k4 k5 kf hc;cases r
 ·have HP:=hid (show ¬S from fun h=>by have:=N2.out h;rw[hr]at this;cases this)
  go_wp2_with fail;go_ret;exact aV.no (by decide) HP.out HB3.out
 have X2:=hid hr;clear hr;have k0:=hs3.cell 0;have k1:=hs3.cell 1;have k2:=hs3.cell 2;have k3:=hs3.cell 3;have k4:=hs3.cell 4;have k5:=hs3.cell 5;have kf:=hf3.cell 0;simp only[gz,gs]at k0 k1 k2 k3 k4 k5 kf;obtain⟨r,hr⟩:∃z,fromB ht 1 65536=z:=⟨_,rfl⟩;have hc:=cH.out w3;rw[hr]at hc;go_wp2_with fail;refine hc.mono ?_;rintro e w4 ⟨rfl,hbel⟩;have HB4:=hid (HB3.out.trans (hbel.mono HB3.out.size));have HZ4:=hid (HZ3.out.trans (hbel.mono HZ3.out.size));have hs4:=hs3.below hbel;have hf4:=hf3.below hbel;clear hbel hs3 hf3 k0 k1 k2 k3 k4 k5 kf hc;cases r
 ·have HP:=hid (show ¬S from fun h=>by have:=N3.out h;rw[hr]at this;cases this)
  go_wp2_with fail;go_ret;exact aV.no (by decide) HP.out HB4.out
 have X3:=hid hr;clear hr;have k0:=hs4.cell 0;have k1:=hs4.cell 1;have k2:=hs4.cell 2;have k3:=hs4.cell 3;have k4:=hs4.cell 4;have k5:=hs4.cell 5;have kf:=hf4.cell 0;simp only[gz,gs]at k0 k1 k2 k3 k4 k5 kf;obtain⟨r,hr⟩:∃z,fromB cols 1 16=z:=⟨_,rfl⟩;have hc:=cC.out w4;rw[hr]at hc;go_wp2_with fail;refine hc.mono ?_;rintro e w5 ⟨rfl,hbel⟩;have HB5:=hid (HB4.out.trans (hbel.mono HB4.out.size));have HZ5:=hid (HZ4.out.trans (hbel.mono HZ4.out.size));have hs5:=hs4.below hbel;have hf5:=hf4.below hbel;clear hbel hs4 hf4 k0 k1 k2 k3 k4 k5 kf hc;cases r
 ·have HP:=hid (show ¬S from fun h=>by have:=N4.out h;rw[hr]at this;cases this)
  go_wp2_with fail;go_ret;exact aV.no (by decide) HP.out HB5.out
 have X4:=hid hr;clear hr;have k0:=hs5.cell 0;have k1:=hs5.cell 1;have k2:=hs5.cell 2;have k3:=hs5.cell 3;have k4:=hs5.cell 4;have k5:=hs5.cell 5;have kf:=hf5.cell 0;simp only[gz,gs]at k0 k1 k2 k3 k4 k5 kf;obtain⟨r,hr⟩:∃z,fromB rows 1 16=z:=⟨_,rfl⟩;have hc:=cR.out w5;rw[hr]at hc;go_wp2_with fail;refine hc.mono ?_;rintro e w6 ⟨rfl,hbel⟩;have HB6:=hid (HB5.out.trans (hbel.mono HB5.out.size));have HZ6:=hid (HZ5.out.trans (hbel.mono HZ5.out.size));have hs6:=hs5.below hbel;have hf6:=hf5.below hbel;clear hbel hs5 hf5 k0 k1 k2 k3 k4 k5 kf hc;cases r
 ·have HP:=hid (show ¬S from fun h=>by have:=N5.out h;rw[hr]at this;cases this)
  go_wp2_with fail;go_ret;exact aV.no (by decide) HP.out HB6.out
 have X5:=hid hr;clear hr;obtain⟨a1,a2,a3,a4⟩:=HA.out X1.out X2.out X3.out X4.out X5.out;have k0:=hs6.cell 0;have k1:=hs6.cell 1;have k2:=hs6.cell 2;have k3:=hs6.cell 3;have k4:=hs6.cell 4;have k5:=hs6.cell 5;have kf:=hf6.cell 0;simp only[gz,gs]at k0 k1 k2 k3 k4 k5 kf;obtain⟨r,hr⟩:∃z,vldB (x+cols*wd) (y+rows*ht)=z:=⟨_,rfl⟩;have hc:=cV.out w6 HZ6.out (x+cols*wd) (y+rows*ht);rw[hr]at hc;go_wp2_with fail;refine hc.mono ?_;rintro e w7 ⟨rfl,hbel⟩;have HB7:=hid (HB6.out.trans (hbel.mono HB6.out.size));have HZ7:=hid (HZ6.out.trans (hbel.mono HZ6.out.size));have hs7:=hs6.below hbel;have hf7:=hf6.below hbel;clear hbel hs6 hf6 k0 k1 k2 k3 k4 k5 kf hc;cases r
 ·have HP:=hid (show ¬S from fun h=>by have:=N6.out h;rw[hr]at this;cases this)
  go_wp2_with fail;go_ret;exact aV.no (by decide) HP.out HB7.out
 have X6:=hid hr;clear hr;have HP:=hid (HY.out X1.out X2.out X3.out X4.out X5.out X6.out);go_wp2_with fail;go_ret;exact aV.yes HP.out HB7.out
end Go.Proofs
