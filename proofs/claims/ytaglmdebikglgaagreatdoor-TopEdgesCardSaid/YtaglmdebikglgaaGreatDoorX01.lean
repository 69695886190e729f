/- Lemmas and walks; no statement of a law is proved here. -/
import Derived.Test.YtaglmdebikglgaaGreatDoorX00
import Derived.StillTailTactics
set_option linter.unusedVariables false
set_option linter.unusedSimpArgs false
set_option maxRecDepth 100000
set_option maxHeartbeats 8000000
open Go.Lib
namespace Go.Proofs
open Go.RowKit Go.Proofs.Mp
theorem aW{P:Program}{md:Region.Mode}{ops:Array Oper}{Q:Exit→Act→World→Prop}{S:World→Prop}{f0:Nat}{l0:Array Bool}{a0:Act}{w0:World}{C:Type}(T:(Nat→Array Bool→Act→World→Prop)→Nat→Array Bool→C→Prop){x:Nat}{y:Array Bool}{z:C}(main:T (wpAnyH P md ops Q S) x y z→wpAnyH P md ops Q S f0 l0 a0 w0)(tail:T (wpAnyH P md ops Q S) x y z):wpAnyH P md ops Q S f0 l0 a0 w0:=main tail
theorem aC{P:Program}{md:Region.Mode}{ops:Array Oper}{Q:Exit→Act→World→Prop}{S:World→Prop}{f f':Nat}{l l':Array Bool}{a:Act}{w:World}(hf:f=f')(hl:l=l')(h:wpAnyH P md ops Q S f' l' a w):wpAnyH P md ops Q S f l a w:=by subst hf;subst hl;exact h
theorem gq(a b c:Pt) : -1≤sd a b c∧sd a b c≤1:=by
 have:=dZ (tw a b c);unfold sd;omega
theorem tS{x y:Int}(hx : -1≤x∧x≤1)(hy : -1≤y∧y≤1):IntKind.i64.wrap (x*y)=x*y:=by
 have:=aF (a:=x) (b:=y) (n:=1) (m:=1) (by omega) (by omega) (by omega) (by omega) (by omega);exact IntWalk.i64_in _ (by omega)
def b2i(b:Bool):Int:=if b=true then 1 else 0
def meetN(a b c d:Pt):Int:=
 if a=b then b2i (onB c d a)
 else if c=d then b2i (onB a b c)
 else if sd a b c=0∧sd a b d=0 then sharedN a b c d
 else b2i (decide (sd a b c*sd a b d≤0)&&decide (sd c d a*sd c d b≤0))
def aE(a b c d:Pt):Bool:=
 onB a b c||onB a b d||onB c d a||onB c d b||(decide (sd a b c*sd a b d<0)&&decide (sd c d a*sd c d b<0))
theorem dX{w W:World}{a1 a2 b1 b2 c1 c2 d1 d2:Value}(W0:World)(hW:W0=(((w.alloc (.cells #[a1,a2] 30)).alloc (.cells #[b1,b2] 30)).alloc (.cells #[c1,c2] 30)).alloc (.cells #[d1,d2] 30))(hb:Below W0.heap.size W0 W) :
  W.cell? ⟨w.heap.size,0,none⟩=some a1∧W.cell? ⟨w.heap.size,1,none⟩=some a2∧W.cell? ⟨w.heap.size+1,0,none⟩=some b1∧W.cell? ⟨w.heap.size+1,1,none⟩=some b2 ∧
  W.cell? ⟨w.heap.size+1+1,0,none⟩=some c1∧W.cell? ⟨w.heap.size+1+1,1,none⟩=some c2∧W.cell? ⟨w.heap.size+1+1+1,0,none⟩=some d1∧W.cell? ⟨w.heap.size+1+1+1,1,none⟩=some d2:=by
 subst hW;obtain⟨k1,k2,k3,k4,k5,k6,k7,k8,-⟩:=oM hb;exact⟨k1,k2,k3,k4,k5,k6,k7,k8⟩
theorem bw4(w:World)(o1 o2 o3 o4:Obj):Below w.heap.size w ((((w.alloc o1).alloc o2).alloc o3).alloc o4):=(bw3 w o1 o2 o3).trans ((bw1 _ _).mono (bw3 w o1 o2 o3).size)
theorem oj(a b c d:Pt)(w:World)(ha:Nr a)(hb:Nr b)(hc:Nr c)(hd:Nr d):Calls Tryz.prog 150 #[ae a,ae b,ae c,ae d] w (RetV w (.int .i64 (meetN a b c d))):=by
 have CN:=hid fun W n hn cap=>tQ a b c d ha hb hc hd W n hn cap
 have Cabc:=hid fun W=>aY a b c W ha hb hc
 have Cabd:=hid fun W=>aY a b d W ha hb hd
 have Ccda:=hid fun W=>aY c d a W hc hd ha
 have Ccdb:=hid fun W=>aY c d b W hc hd hb
 have Ccon:=hid fun W=>bG c d a W hc hd ha
 have Cacn:=hid fun W=>bG a b c W ha hb hc
 have Csh:=hid fun W=>kz a b c d W
 have b1:=gq a b c;have b2:=gq a b d;have b3:=gq c d a;have b4:=gq c d b;have w12:=hid (tS b1 b2);have w34:=hid (tS b3 b4);have HR:=hid (show meetN a b c d=if a=b then b2i (onB c d a) else if c=d then b2i (onB a b c) else if sd a b c=0∧sd a b d=0 then sharedN a b c d else b2i (decide (sd a b c*sd a b d≤0)&&decide (sd c d a*sd c d b≤0))from rfl);generalize meetN a b c d=res at *;generalize sharedN a b c d=shr at *;generalize onB c d a=o1 at *;generalize onB a b c=o2 at *;generalize sd a b c=s1 at *;generalize sd a b d=s2 at *;generalize sd c d a=s3 at *;generalize sd c d b=s4 at *;clear ha hb hc hd b1 b2 b3 b4;have hG:=Tryz.guard30;have hN1:=fun W=>Tryz.eql30 a.1 a.2 b.1 b.2 W
 have hN2:=fun W=>Tryz.eql30 c.1 c.2 d.1 d.2 W
 obtain⟨a1,a2⟩:=a;obtain⟨b1,b2⟩:=b;obtain⟨c1,c2⟩:=c;obtain⟨d1,d2⟩:=d;unfold ae at *;dsimp only at *
 by_cases e1:((a1,a2):Pt)=(b1,b2)
 ·rw[decide_eq_true e1]at hN1
  have HR:=hid (HR.out.trans (if_pos e1));clear e1 hN2;go_enter Tryz.func150,Tryz.ntmps150;go_wp2_with fail;refine(CN.out _ _ (by simp) _).mono ?_;rintro e w1 ⟨rfl,hb1⟩;have hb2:=below_lit hb1;clear hb1;obtain⟨k1,k2,k3,k4,k5,k6,k7,k8,hw1⟩:=oM hb2;obtain⟨w0',hw0'⟩:∃w0',w0'=((((w.alloc (.cells #[a1,a2] 30)).alloc (.cells #[b1,b2] 30)).alloc (.cells #[c1,c2] 30)).alloc (.cells #[d1,d2] 30)):=⟨_,rfl⟩;rw[←hw0']at hb2;have HW0:=hid hw0';clear hw0';go_wp2_with fail;refine(Ccon.out _).mono ?_;rintro e w2 ⟨rfl,hb1⟩;clear k1 k2 k3 k4 k5 k6 k7 k8;have hb3:=hb2.trans (hb1.mono hb2.size);have hw2:=hw1.trans (hb1.mono hw1.size);clear hb1;obtain⟨k1,k2,k3,k4,k5,k6,k7,k8⟩:=dX w0' HW0.out hb3;clear hb2 hw1;cases o1
  all_goals
   go_wp2;go_ret;exact RetV.int (by rw[HR.out];rfl) hw2
 rw[decide_eq_false e1]at hN1;have HR:=hid (HR.out.trans (if_neg e1));clear e1
 by_cases e2:((c1,c2):Pt)=(d1,d2)
 ·rw[decide_eq_true e2]at hN2
  have HR:=hid (HR.out.trans (if_pos e2));clear e2;go_enter Tryz.func150,Tryz.ntmps150;go_wp2_with fail;refine(CN.out _ _ (by simp) _).mono ?_;rintro e w1 ⟨rfl,hb1⟩;have hb2:=below_lit hb1;clear hb1;obtain⟨k1,k2,k3,k4,k5,k6,k7,k8,hw1⟩:=oM hb2;obtain⟨w0',hw0'⟩:∃w0',w0'=((((w.alloc (.cells #[a1,a2] 30)).alloc (.cells #[b1,b2] 30)).alloc (.cells #[c1,c2] 30)).alloc (.cells #[d1,d2] 30)):=⟨_,rfl⟩;rw[←hw0']at hb2;have HW0:=hid hw0';clear hw0';go_wp2_with fail;refine(Cacn.out _).mono ?_;rintro e w2 ⟨rfl,hb1⟩;clear k1 k2 k3 k4 k5 k6 k7 k8;have hb3:=hb2.trans (hb1.mono hb2.size);have hw2:=hw1.trans (hb1.mono hw1.size);clear hb1;obtain⟨k1,k2,k3,k4,k5,k6,k7,k8⟩:=dX w0' HW0.out hb3;clear hb2 hw1;cases o2
  all_goals
   go_wp2;go_ret;exact RetV.int (by rw[HR.out];rfl) hw2
 rw[decide_eq_false e2]at hN2;have HR:=hid (HR.out.trans (if_neg e2));clear e2
 by_cases e3:s1=0
 ·by_cases e4:s2=0
  ·have HR:=hid (HR.out.trans (if_pos ⟨e3,e4⟩))
   subst e3;subst e4;go_enter Tryz.func150,Tryz.ntmps150;go_wp2_with fail;refine(CN.out _ _ (by simp) _).mono ?_;rintro e w1 ⟨rfl,hb1⟩;have hb2:=below_lit hb1;clear hb1;obtain⟨k1,k2,k3,k4,k5,k6,k7,k8,hw1⟩:=oM hb2;obtain⟨w0',hw0'⟩:∃w0',w0'=((((w.alloc (.cells #[a1,a2] 30)).alloc (.cells #[b1,b2] 30)).alloc (.cells #[c1,c2] 30)).alloc (.cells #[d1,d2] 30)):=⟨_,rfl⟩;rw[←hw0']at hb2;have HW0:=hid hw0';clear hw0';go_wp2_with fail;refine(Cabc.out _).mono ?_;rintro e w2 ⟨rfl,hb1⟩;clear k1 k2 k3 k4 k5 k6 k7 k8;have hb3:=hb2.trans (hb1.mono hb2.size);have hw2:=hw1.trans (hb1.mono hw1.size);clear hb1;obtain⟨k1,k2,k3,k4,k5,k6,k7,k8⟩:=dX w0' HW0.out hb3;clear hb2 hw1;go_wp2_with fail;refine(Cabd.out _).mono ?_;rintro e w3 ⟨rfl,hb1⟩;clear k1 k2 k3 k4 k5 k6 k7 k8;have hb4:=hb3.trans (hb1.mono hb3.size);have hw3:=hw2.trans (hb1.mono hw2.size);clear hb1;obtain⟨k1,k2,k3,k4,k5,k6,k7,k8⟩:=dX w0' HW0.out hb4;clear hb3 hw2;go_wp2_with fail;refine(Csh.out _).mono ?_;rintro e w4 ⟨rfl,hb1⟩;clear k1 k2 k3 k4 k5 k6 k7 k8;have hb5:=hb4.trans (hb1.mono hb4.size);have hw4:=hw3.trans (hb1.mono hw3.size);clear hb1;obtain⟨k1,k2,k3,k4,k5,k6,k7,k8⟩:=dX w0' HW0.out hb5;clear hb4 hw3;go_wp2;go_ret;exact RetV.int HR.out.symm hw4
  ·have HR:=hid (HR.out.trans (if_neg (fun h=>e4 h.2)))
   have d4:decide (s2=0)=false:=decide_eq_false e4;have d4':(s2==0)=false:=by simp[e4]
   have d3:decide (s1=0)=true:=decide_eq_true e3;have d3':(s1==0)=true:=by simp[e3]
   clear e3 e4;go_enter Tryz.func150,Tryz.ntmps150;go_wp2_with fail;refine(CN.out _ _ (by simp) _).mono ?_;rintro e w1 ⟨rfl,hb1⟩;have hb2:=below_lit hb1;clear hb1;obtain⟨k1,k2,k3,k4,k5,k6,k7,k8,hw1⟩:=oM hb2;obtain⟨w0',hw0'⟩:∃w0',w0'=((((w.alloc (.cells #[a1,a2] 30)).alloc (.cells #[b1,b2] 30)).alloc (.cells #[c1,c2] 30)).alloc (.cells #[d1,d2] 30)):=⟨_,rfl⟩;rw[←hw0']at hb2;have HW0:=hid hw0';clear hw0';go_wp2_with fail;refine(Cabc.out _).mono ?_;rintro e w2 ⟨rfl,hb1⟩;clear k1 k2 k3 k4 k5 k6 k7 k8;have hb3:=hb2.trans (hb1.mono hb2.size);have hw2:=hw1.trans (hb1.mono hw1.size);clear hb1;obtain⟨k1,k2,k3,k4,k5,k6,k7,k8⟩:=dX w0' HW0.out hb3;clear hb2 hw1;go_wp2_with fail;refine(Cabd.out _).mono ?_;rintro e w3 ⟨rfl,hb1⟩;clear k1 k2 k3 k4 k5 k6 k7 k8;have hb4:=hb3.trans (hb1.mono hb3.size);have hw3:=hw2.trans (hb1.mono hw2.size);clear hb1;obtain⟨k1,k2,k3,k4,k5,k6,k7,k8⟩:=dX w0' HW0.out hb4;clear hb3 hw2;go_upto_region 4 with fail;have HS:Hid (((w3).drew).heap.size=w3.heap.size):=hid rfl
   by_cases e5:s1*s2≤0
   ·have d5:decide (s1*s2≤0)=true:=decide_eq_true e5
    rw[d5]at HR;clear e5;have w12':=w12.out;have w34':=w34.out;clear w12 w34;refine wp_region_held_drew (S:=fun W:World=>Below w3.drew.heap.size w3.drew W) (by kernel_rfl) (Below.refl _ _) (fun hHeld=>?_);clear hHeld;have hd0:Below w.heap.size w w3.drew:=hw3.drew;have HC:Hid (∀W,Below w3.drew.heap.size w3.drew W→W.cell? ⟨w.heap.size,0,none⟩=some (.int .i64 a1)∧W.cell? ⟨w.heap.size,1,none⟩=some (.int .i64 a2)∧W.cell? ⟨w.heap.size+1,0,none⟩=some (.int .i64 b1)∧W.cell? ⟨w.heap.size+1,1,none⟩=some (.int .i64 b2)∧W.cell? ⟨w.heap.size+1+1,0,none⟩=some (.int .i64 c1)∧W.cell? ⟨w.heap.size+1+1,1,none⟩=some (.int .i64 c2)∧W.cell? ⟨w.heap.size+1+1+1,0,none⟩=some (.int .i64 d1)∧W.cell? ⟨w.heap.size+1+1+1,1,none⟩=some (.int .i64 d2)):=hid (fun W hb=>dX w0' HW0.out (hb4.drew.trans (hb.mono hb4.drew.size)));clear hb4 hw3 k1 k2 k3 k4 k5 k6 k7 k8 HS;generalize w3.drew=w0 at *;have hS0:(fun W:World=>Below w0.heap.size w0 W) w0:=Below.refl _ _;obtain⟨z,hz⟩:∃z,decide (s3*s4≤0)=z:=⟨_,rfl⟩;rw[hz]at HR;cases z
    ·skip
     refine kf 0 HC.out rfl ?_;refine kf 1 HC.out rfl ?_;refine kf 2 HC.out rfl ?_;refine kf 4 HC.out rfl ?_;refine kf 5 HC.out rfl ?_;refine kf 6 HC.out rfl ?_;refine kr 3 rfl fun K hK=>?_
     go_simp;go_at_call 192;refine(Cabc.out _).mono ?_;rintro e Wuax1 ⟨rfl,hbWuax1⟩;have hSWuax1:=hS0.trans (hbWuax1.mono hS0.size)
     try clear hS0
     clear hbWuax1;go_wp2_with fail;refine hK.out _ _ hSWuax1 (fun hHeld=>?_);clear hK hHeld K
     try simp only[Act.put,sa,sz,ss]
     refine kr 7 rfl fun K hK=>?_
     go_simp;go_at_call 192;refine(Cabd.out _).mono ?_;rintro e Wuax2 ⟨rfl,hbWuax2⟩;have hSWuax2:=hSWuax1.trans (hbWuax2.mono hSWuax1.size)
     try clear hSWuax1
     clear hbWuax2;go_wp2_with fail;refine hK.out _ _ hSWuax2 (fun hHeld=>?_);clear hK hHeld K
     try simp only[Act.put,sa,sz,ss]
     refine kk 8 rfl ?_;refine kk 9 rfl ?_;refine kk 10 rfl ?_;refine kf 11 HC.out rfl ?_;refine kf 12 HC.out rfl ?_;refine kf 13 HC.out rfl ?_;refine kf 15 HC.out rfl ?_;refine kf 16 HC.out rfl ?_;refine kf 17 HC.out rfl ?_;refine kr 14 rfl fun K hK=>?_
     go_simp;go_at_call 192;refine(Ccda.out _).mono ?_;rintro e Wuax3 ⟨rfl,hbWuax3⟩;have hSWuax3:=hSWuax2.trans (hbWuax3.mono hSWuax2.size)
     try clear hSWuax2
     clear hbWuax3;go_wp2_with fail;refine hK.out _ _ hSWuax3 (fun hHeld=>?_);clear hK hHeld K
     try simp only[Act.put,sa,sz,ss]
     refine kr 18 rfl fun K hK=>?_
     go_simp;go_at_call 192;refine(Ccdb.out _).mono ?_;rintro e Wuax4 ⟨rfl,hbWuax4⟩;have hSWuax4:=hSWuax3.trans (hbWuax4.mono hSWuax3.size)
     try clear hSWuax3
     clear hbWuax4;go_wp2_with fail;refine hK.out _ _ hSWuax4 (fun hHeld=>?_);clear hK hHeld K
     try simp only[Act.put,sa,sz,ss]
     refine kk 19 rfl ?_;refine kk 20 rfl ?_;refine kk 21 rfl ?_;refine kk 22 rfl ?_;refine wpAnyH_done (by kernel_rfl) ?_ _;go_wp2;go_ret;exact RetV.int (by rw[HR.out];rfl) (hd0.trans (hSWuax4.mono hd0.size))
    ·skip
     refine kf 0 HC.out rfl ?_;refine kf 1 HC.out rfl ?_;refine kf 2 HC.out rfl ?_;refine kf 4 HC.out rfl ?_;refine kf 5 HC.out rfl ?_;refine kf 6 HC.out rfl ?_;refine kr 3 rfl fun K hK=>?_
     go_simp;go_at_call 192;refine(Cabc.out _).mono ?_;rintro e Wuay1 ⟨rfl,hbWuay1⟩;have hSWuay1:=hS0.trans (hbWuay1.mono hS0.size)
     try clear hS0
     clear hbWuay1;go_wp2_with fail;refine hK.out _ _ hSWuay1 (fun hHeld=>?_);clear hK hHeld K
     try simp only[Act.put,sa,sz,ss]
     refine kr 7 rfl fun K hK=>?_
     go_simp;go_at_call 192;refine(Cabd.out _).mono ?_;rintro e Wuay2 ⟨rfl,hbWuay2⟩;have hSWuay2:=hSWuay1.trans (hbWuay2.mono hSWuay1.size)
     try clear hSWuay1
     clear hbWuay2;go_wp2_with fail;refine hK.out _ _ hSWuay2 (fun hHeld=>?_);clear hK hHeld K
     try simp only[Act.put,sa,sz,ss]
     refine kk 8 rfl ?_;refine kk 9 rfl ?_;refine kk 10 rfl ?_;refine kf 11 HC.out rfl ?_;refine kf 12 HC.out rfl ?_;refine kf 13 HC.out rfl ?_;refine kf 15 HC.out rfl ?_;refine kf 16 HC.out rfl ?_;refine kf 17 HC.out rfl ?_;refine kr 14 rfl fun K hK=>?_
     go_simp;go_at_call 192;refine(Ccda.out _).mono ?_;rintro e Wuay3 ⟨rfl,hbWuay3⟩;have hSWuay3:=hSWuay2.trans (hbWuay3.mono hSWuay2.size)
     try clear hSWuay2
     clear hbWuay3;go_wp2_with fail;refine hK.out _ _ hSWuay3 (fun hHeld=>?_);clear hK hHeld K
     try simp only[Act.put,sa,sz,ss]
     refine kr 18 rfl fun K hK=>?_
     go_simp;go_at_call 192;refine(Ccdb.out _).mono ?_;rintro e Wuay4 ⟨rfl,hbWuay4⟩;have hSWuay4:=hSWuay3.trans (hbWuay4.mono hSWuay3.size)
     try clear hSWuay3
     clear hbWuay4;go_wp2_with fail;refine hK.out _ _ hSWuay4 (fun hHeld=>?_);clear hK hHeld K
     try simp only[Act.put,sa,sz,ss]
     refine kk 19 rfl ?_;refine kk 20 rfl ?_;refine kk 21 rfl ?_;refine kk 22 rfl ?_;refine wpAnyH_done (by kernel_rfl) ?_ _;go_wp2;go_ret;exact RetV.int (by rw[HR.out];rfl) (hd0.trans (hSWuay4.mono hd0.size))
   ·have d5:decide (s1*s2≤0)=false:=decide_eq_false e5
    rw[d5]at HR;clear e5;have w12':=w12.out;have w34':=w34.out;clear w12 w34;refine wp_region_held_drew (S:=fun W:World=>Below w3.drew.heap.size w3.drew W) (by kernel_rfl) (Below.refl _ _) (fun hHeld=>?_);clear hHeld;have hd0:Below w.heap.size w w3.drew:=hw3.drew;have HC:Hid (∀W,Below w3.drew.heap.size w3.drew W→W.cell? ⟨w.heap.size,0,none⟩=some (.int .i64 a1)∧W.cell? ⟨w.heap.size,1,none⟩=some (.int .i64 a2)∧W.cell? ⟨w.heap.size+1,0,none⟩=some (.int .i64 b1)∧W.cell? ⟨w.heap.size+1,1,none⟩=some (.int .i64 b2)∧W.cell? ⟨w.heap.size+1+1,0,none⟩=some (.int .i64 c1)∧W.cell? ⟨w.heap.size+1+1,1,none⟩=some (.int .i64 c2)∧W.cell? ⟨w.heap.size+1+1+1,0,none⟩=some (.int .i64 d1)∧W.cell? ⟨w.heap.size+1+1+1,1,none⟩=some (.int .i64 d2)):=hid (fun W hb=>dX w0' HW0.out (hb4.drew.trans (hb.mono hb4.drew.size)));clear hb4 hw3 k1 k2 k3 k4 k5 k6 k7 k8 HS;generalize w3.drew=w0 at *;have hS0:(fun W:World=>Below w0.heap.size w0 W) w0:=Below.refl _ _;refine kf 0 HC.out rfl ?_;refine kf 1 HC.out rfl ?_;refine kf 2 HC.out rfl ?_;refine kf 4 HC.out rfl ?_;refine kf 5 HC.out rfl ?_;refine kf 6 HC.out rfl ?_;refine kr 3 rfl fun K hK=>?_
    go_simp;go_at_call 192;refine(Cabc.out _).mono ?_;rintro e Wub1 ⟨rfl,hbWub1⟩;have hSWub1:=hS0.trans (hbWub1.mono hS0.size)
    try clear hS0
    clear hbWub1;go_wp2_with fail;refine hK.out _ _ hSWub1 (fun hHeld=>?_);clear hK hHeld K
    try simp only[Act.put,sa,sz,ss]
    refine kr 7 rfl fun K hK=>?_
    go_simp;go_at_call 192;refine(Cabd.out _).mono ?_;rintro e Wub2 ⟨rfl,hbWub2⟩;have hSWub2:=hSWub1.trans (hbWub2.mono hSWub1.size)
    try clear hSWub1
    clear hbWub2;go_wp2_with fail;refine hK.out _ _ hSWub2 (fun hHeld=>?_);clear hK hHeld K
    try simp only[Act.put,sa,sz,ss]
    refine kk 8 rfl ?_;refine kk 9 rfl ?_;refine kk 10 rfl ?_;refine ku 11 rfl ?_;refine ku 12 rfl ?_;refine ku 13 rfl ?_;refine ku 14 rfl ?_;refine ku 15 rfl ?_;refine ku 16 rfl ?_;refine ku 17 rfl ?_;refine ku 18 rfl ?_;refine ku 19 rfl ?_;refine ku 20 rfl ?_;refine kk 21 rfl ?_;refine kk 22 rfl ?_;refine wpAnyH_done (by kernel_rfl) ?_ _;go_wp2;go_ret;exact RetV.int (by rw[HR.out];rfl) (hd0.trans (hSWub2.mono hd0.size))
 have HR:=hid (HR.out.trans (if_neg (fun h=>e3 h.1)));have d3:decide (s1=0)=false:=decide_eq_false e3;have d3':(s1==0)=false:=by simp[e3]
 clear e3;go_enter Tryz.func150,Tryz.ntmps150;go_wp2_with fail;refine(CN.out _ _ (by simp) _).mono ?_;rintro e w1 ⟨rfl,hb1⟩;have hb2:=below_lit hb1;clear hb1;obtain⟨k1,k2,k3,k4,k5,k6,k7,k8,hw1⟩:=oM hb2;obtain⟨w0',hw0'⟩:∃w0',w0'=((((w.alloc (.cells #[a1,a2] 30)).alloc (.cells #[b1,b2] 30)).alloc (.cells #[c1,c2] 30)).alloc (.cells #[d1,d2] 30)):=⟨_,rfl⟩;rw[←hw0']at hb2;have HW0:=hid hw0';clear hw0';go_wp2_with fail;refine(Cabc.out _).mono ?_;rintro e w2 ⟨rfl,hb1⟩;clear k1 k2 k3 k4 k5 k6 k7 k8;have hb3:=hb2.trans (hb1.mono hb2.size);have hw2:=hw1.trans (hb1.mono hw1.size);clear hb1;obtain⟨k1,k2,k3,k4,k5,k6,k7,k8⟩:=dX w0' HW0.out hb3;clear hb2 hw1;go_upto_region 4 with fail;have HS:Hid (((w2).drew).heap.size=w2.heap.size):=hid rfl
 by_cases e5:s1*s2≤0
 ·have d5:decide (s1*s2≤0)=true:=decide_eq_true e5
  rw[d5]at HR;clear e5;have w12':=w12.out;have w34':=w34.out;clear w12 w34;refine wp_region_held_drew (S:=fun W:World=>Below w2.drew.heap.size w2.drew W) (by kernel_rfl) (Below.refl _ _) (fun hHeld=>?_);clear hHeld;have hd0:Below w.heap.size w w2.drew:=hw2.drew;have HC:Hid (∀W,Below w2.drew.heap.size w2.drew W→W.cell? ⟨w.heap.size,0,none⟩=some (.int .i64 a1)∧W.cell? ⟨w.heap.size,1,none⟩=some (.int .i64 a2)∧W.cell? ⟨w.heap.size+1,0,none⟩=some (.int .i64 b1)∧W.cell? ⟨w.heap.size+1,1,none⟩=some (.int .i64 b2)∧W.cell? ⟨w.heap.size+1+1,0,none⟩=some (.int .i64 c1)∧W.cell? ⟨w.heap.size+1+1,1,none⟩=some (.int .i64 c2)∧W.cell? ⟨w.heap.size+1+1+1,0,none⟩=some (.int .i64 d1)∧W.cell? ⟨w.heap.size+1+1+1,1,none⟩=some (.int .i64 d2)):=hid (fun W hb=>dX w0' HW0.out (hb3.drew.trans (hb.mono hb3.drew.size)));clear hb3 hw2 k1 k2 k3 k4 k5 k6 k7 k8 HS;generalize w2.drew=w0 at *;have hS0:(fun W:World=>Below w0.heap.size w0 W) w0:=Below.refl _ _;obtain⟨z,hz⟩:∃z,decide (s3*s4≤0)=z:=⟨_,rfl⟩;rw[hz]at HR;cases z
  ·skip
   refine kf 0 HC.out rfl ?_;refine kf 1 HC.out rfl ?_;refine kf 2 HC.out rfl ?_;refine kf 4 HC.out rfl ?_;refine kf 5 HC.out rfl ?_;refine kf 6 HC.out rfl ?_;refine kr 3 rfl fun K hK=>?_
   go_simp;go_at_call 192;refine(Cabc.out _).mono ?_;rintro e Wvax1 ⟨rfl,hbWvax1⟩;have hSWvax1:=hS0.trans (hbWvax1.mono hS0.size)
   try clear hS0
   clear hbWvax1;go_wp2_with fail;refine hK.out _ _ hSWvax1 (fun hHeld=>?_);clear hK hHeld K
   try simp only[Act.put,sa,sz,ss]
   refine kr 7 rfl fun K hK=>?_
   go_simp;go_at_call 192;refine(Cabd.out _).mono ?_;rintro e Wvax2 ⟨rfl,hbWvax2⟩;have hSWvax2:=hSWvax1.trans (hbWvax2.mono hSWvax1.size)
   try clear hSWvax1
   clear hbWvax2;go_wp2_with fail;refine hK.out _ _ hSWvax2 (fun hHeld=>?_);clear hK hHeld K
   try simp only[Act.put,sa,sz,ss]
   refine kk 8 rfl ?_;refine kk 9 rfl ?_;refine kk 10 rfl ?_;refine kf 11 HC.out rfl ?_;refine kf 12 HC.out rfl ?_;refine kf 13 HC.out rfl ?_;refine kf 15 HC.out rfl ?_;refine kf 16 HC.out rfl ?_;refine kf 17 HC.out rfl ?_;refine kr 14 rfl fun K hK=>?_
   go_simp;go_at_call 192;refine(Ccda.out _).mono ?_;rintro e Wvax3 ⟨rfl,hbWvax3⟩;have hSWvax3:=hSWvax2.trans (hbWvax3.mono hSWvax2.size)
   try clear hSWvax2
   clear hbWvax3;go_wp2_with fail;refine hK.out _ _ hSWvax3 (fun hHeld=>?_);clear hK hHeld K
   try simp only[Act.put,sa,sz,ss]
   refine kr 18 rfl fun K hK=>?_
   go_simp;go_at_call 192;refine(Ccdb.out _).mono ?_;rintro e Wvax4 ⟨rfl,hbWvax4⟩;have hSWvax4:=hSWvax3.trans (hbWvax4.mono hSWvax3.size)
   try clear hSWvax3
   clear hbWvax4;go_wp2_with fail;refine hK.out _ _ hSWvax4 (fun hHeld=>?_);clear hK hHeld K
   try simp only[Act.put,sa,sz,ss]
   refine kk 19 rfl ?_;refine kk 20 rfl ?_;refine kk 21 rfl ?_;refine kk 22 rfl ?_;refine wpAnyH_done (by kernel_rfl) ?_ _;go_wp2;go_ret;exact RetV.int (by rw[HR.out];rfl) (hd0.trans (hSWvax4.mono hd0.size))
  ·skip
   refine kf 0 HC.out rfl ?_;refine kf 1 HC.out rfl ?_;refine kf 2 HC.out rfl ?_;refine kf 4 HC.out rfl ?_;refine kf 5 HC.out rfl ?_;refine kf 6 HC.out rfl ?_;refine kr 3 rfl fun K hK=>?_
   go_simp;go_at_call 192;refine(Cabc.out _).mono ?_;rintro e Wvay1 ⟨rfl,hbWvay1⟩;have hSWvay1:=hS0.trans (hbWvay1.mono hS0.size)
   try clear hS0
   clear hbWvay1;go_wp2_with fail;refine hK.out _ _ hSWvay1 (fun hHeld=>?_);clear hK hHeld K
   try simp only[Act.put,sa,sz,ss]
   refine kr 7 rfl fun K hK=>?_
   go_simp;go_at_call 192;refine(Cabd.out _).mono ?_;rintro e Wvay2 ⟨rfl,hbWvay2⟩;have hSWvay2:=hSWvay1.trans (hbWvay2.mono hSWvay1.size)
   try clear hSWvay1
   clear hbWvay2;go_wp2_with fail;refine hK.out _ _ hSWvay2 (fun hHeld=>?_);clear hK hHeld K
   try simp only[Act.put,sa,sz,ss]
   refine kk 8 rfl ?_;refine kk 9 rfl ?_;refine kk 10 rfl ?_;refine kf 11 HC.out rfl ?_;refine kf 12 HC.out rfl ?_;refine kf 13 HC.out rfl ?_;refine kf 15 HC.out rfl ?_;refine kf 16 HC.out rfl ?_;refine kf 17 HC.out rfl ?_;refine kr 14 rfl fun K hK=>?_
   go_simp;go_at_call 192;refine(Ccda.out _).mono ?_;rintro e Wvay3 ⟨rfl,hbWvay3⟩;have hSWvay3:=hSWvay2.trans (hbWvay3.mono hSWvay2.size)
   try clear hSWvay2
   clear hbWvay3;go_wp2_with fail;refine hK.out _ _ hSWvay3 (fun hHeld=>?_);clear hK hHeld K
   try simp only[Act.put,sa,sz,ss]
   refine kr 18 rfl fun K hK=>?_
   go_simp;go_at_call 192;refine(Ccdb.out _).mono ?_;rintro e Wvay4 ⟨rfl,hbWvay4⟩;have hSWvay4:=hSWvay3.trans (hbWvay4.mono hSWvay3.size)
   try clear hSWvay3
   clear hbWvay4;go_wp2_with fail;refine hK.out _ _ hSWvay4 (fun hHeld=>?_);clear hK hHeld K
   try simp only[Act.put,sa,sz,ss]
   refine kk 19 rfl ?_;refine kk 20 rfl ?_;refine kk 21 rfl ?_;refine kk 22 rfl ?_;refine wpAnyH_done (by kernel_rfl) ?_ _;go_wp2;go_ret;exact RetV.int (by rw[HR.out];rfl) (hd0.trans (hSWvay4.mono hd0.size))
 ·have d5:decide (s1*s2≤0)=false:=decide_eq_false e5
  rw[d5]at HR;clear e5;have w12':=w12.out;have w34':=w34.out;clear w12 w34;refine wp_region_held_drew (S:=fun W:World=>Below w2.drew.heap.size w2.drew W) (by kernel_rfl) (Below.refl _ _) (fun hHeld=>?_);clear hHeld;have hd0:Below w.heap.size w w2.drew:=hw2.drew;have HC:Hid (∀W,Below w2.drew.heap.size w2.drew W→W.cell? ⟨w.heap.size,0,none⟩=some (.int .i64 a1)∧W.cell? ⟨w.heap.size,1,none⟩=some (.int .i64 a2)∧W.cell? ⟨w.heap.size+1,0,none⟩=some (.int .i64 b1)∧W.cell? ⟨w.heap.size+1,1,none⟩=some (.int .i64 b2)∧W.cell? ⟨w.heap.size+1+1,0,none⟩=some (.int .i64 c1)∧W.cell? ⟨w.heap.size+1+1,1,none⟩=some (.int .i64 c2)∧W.cell? ⟨w.heap.size+1+1+1,0,none⟩=some (.int .i64 d1)∧W.cell? ⟨w.heap.size+1+1+1,1,none⟩=some (.int .i64 d2)):=hid (fun W hb=>dX w0' HW0.out (hb3.drew.trans (hb.mono hb3.drew.size)));clear hb3 hw2 k1 k2 k3 k4 k5 k6 k7 k8 HS;generalize w2.drew=w0 at *;have hS0:(fun W:World=>Below w0.heap.size w0 W) w0:=Below.refl _ _;refine kf 0 HC.out rfl ?_;refine kf 1 HC.out rfl ?_;refine kf 2 HC.out rfl ?_;refine kf 4 HC.out rfl ?_;refine kf 5 HC.out rfl ?_;refine kf 6 HC.out rfl ?_;refine kr 3 rfl fun K hK=>?_
  go_simp;go_at_call 192;refine(Cabc.out _).mono ?_;rintro e Wvb1 ⟨rfl,hbWvb1⟩;have hSWvb1:=hS0.trans (hbWvb1.mono hS0.size)
  try clear hS0
  clear hbWvb1;go_wp2_with fail;refine hK.out _ _ hSWvb1 (fun hHeld=>?_);clear hK hHeld K
  try simp only[Act.put,sa,sz,ss]
  refine kr 7 rfl fun K hK=>?_
  go_simp;go_at_call 192;refine(Cabd.out _).mono ?_;rintro e Wvb2 ⟨rfl,hbWvb2⟩;have hSWvb2:=hSWvb1.trans (hbWvb2.mono hSWvb1.size)
  try clear hSWvb1
  clear hbWvb2;go_wp2_with fail;refine hK.out _ _ hSWvb2 (fun hHeld=>?_);clear hK hHeld K
  try simp only[Act.put,sa,sz,ss]
  refine kk 8 rfl ?_;refine kk 9 rfl ?_;refine kk 10 rfl ?_;refine ku 11 rfl ?_;refine ku 12 rfl ?_;refine ku 13 rfl ?_;refine ku 14 rfl ?_;refine ku 15 rfl ?_;refine ku 16 rfl ?_;refine ku 17 rfl ?_;refine ku 18 rfl ?_;refine ku 19 rfl ?_;refine ku 20 rfl ?_;refine kk 21 rfl ?_;refine kk 22 rfl ?_;refine wpAnyH_done (by kernel_rfl) ?_ _;go_wp2;go_ret;exact RetV.int (by rw[HR.out];rfl) (hd0.trans (hSWvb2.mono hd0.size))
end Go.Proofs
namespace Go.Proofs.Ed
open Go.Proofs
def rh(a m:Int):Int:=(2*a+m)/(2*m)
theorem rh_spec{a m:Int}(hm:0<m):2*m*rh a m≤2*a+m∧2*a+m<2*m*(rh a m+1):=by
 unfold rh;have h1:=Int.mul_ediv_add_emod (2*a+m) (2*m);have h2:=Int.emod_nonneg (2*a+m) (by omega:2*m≠0);have h3:=Int.emod_lt_of_pos (2*a+m) (by omega:0<2*m);rw[Int.mul_add];omega
theorem rh_unique{a m r:Int}(hm:0<m)(h1:2*m*r≤2*a+m)(h2:2*a+m<2*m*(r+1)):rh a m=r:=by
 obtain⟨g1,g2⟩:=rh_spec (a:=a) hm;have e1:2*m*rh a m<2*m*(r+1):=Int.lt_of_le_of_lt g1 h2;have e2:2*m*r<2*m*(rh a m+1):=Int.lt_of_le_of_lt h1 g2;have:=Int.lt_of_mul_lt_mul_left e1 (by omega);have:=Int.lt_of_mul_lt_mul_left e2 (by omega);omega
theorem rh_int{k m:Int}(hm:0<m):rh (k*m) m=k:=by
 apply rh_unique hm<;>grind
theorem rh_cong{a m b n:Int}(hm:0<m)(hn:0<n)(h:a*n=b*m):rh a m=rh b n:=by
 obtain⟨g1,g2⟩:=rh_spec (a:=b) hn;generalize rh b n=r at *;apply rh_unique hm
 ·have:=Int.mul_le_mul_of_nonneg_right g1 (Int.le_of_lt hm)
  apply Int.le_of_mul_le_mul_right (a:=n) _ hn;grind
 ·have:=Int.mul_lt_mul_of_pos_right g2 hm
  apply Int.lt_of_mul_lt_mul_right (a:=n) _ (Int.le_of_lt hn);grind
theorem rh_shift{a m k:Int}(hm:0<m):rh (a+k*m) m=rh a m+k:=by
 obtain⟨g1,g2⟩:=rh_spec (a:=a) hm;apply rh_unique hm<;>grind
theorem rh_mono{a b m:Int}(hm:0<m)(h:a≤b):rh a m≤rh b m:=by
 unfold rh;exact Int.ediv_le_ediv (by omega) (by omega)
def F(a b n m:Int):Int:=a*(m-n)+b*n
def R(p q:Pt)(n m:Int):Pt:=(rh (F p.1 q.1 n m) m,rh (F p.2 q.2 n m) m)
def IsPl(n m:Int):Prop:=0≤n∧n≤m∧0<m
theorem F_cong{a b n m n' m':Int}(h:n*m'=n'*m):F a b n m*m'=F a b n' m'*m:=by
 unfold F;grind
theorem R_cong{p q:Pt}{n m n' m':Int}(hm:0<m)(hm':0<m')(h:n*m'=n'*m):R p q n m=R p q n' m':=by
 unfold R;rw[rh_cong hm hm' (F_cong h),rh_cong hm hm' (F_cong h)]
theorem R_zero{p q:Pt}{m:Int}(hm:0<m):R p q 0 m=p:=by
 unfold R F;simp only[Int.mul_zero,Int.add_zero,Int.sub_zero,rh_int hm]
theorem R_one{p q:Pt}{m:Int}(hm:0<m):R p q m m=q:=by
 unfold R F;simp only[Int.sub_self,Int.mul_zero,Int.zero_add,rh_int hm]
def reachS(a w v:Int):(Int×Int)×Bool:=
 if min a (a+w)≤v∧v≤max a (a+w) then (if w<0 then (a-v,-w) else (v-a,w),true)
 else if decide (v<a)=decide (0<w) then ((-1,1),false) else ((1,1),false)
abbrev Pl:=Int×Int×Pt
def lessS(p q:Int×Int):Bool:=decide (p.1*q.2<q.1*p.2)
abbrev Cl:=Pl×Pl×Bool
def enterS(r:(Int×Int)×Bool)(c:Pt)(s:Cl):Cl:=
 if r.2=false then (s.1,s.2.1,s.2.2&&decide (r.1.1≤0)) else if lessS (s.1.1,s.1.2.1) r.1=true then ((r.1.1,r.1.2,c),s.2.1,s.2.2) else s
def leaveS(r:(Int×Int)×Bool)(c:Pt)(s:Cl):Cl:=
 if r.2=false then (s.1,s.2.1,s.2.2&&decide (0<r.1.1)) else if lessS r.1 (s.2.1.1,s.2.1.2.1)=true then (s.1,(r.1.1,r.1.2,c),s.2.2) else s
def limS(a w f t:Int)(c:Int→Pt)(s:Cl):Cl:=
 if w=0∨t<f then (s.1,s.2.1,s.2.2&&(decide (f≤a)&&decide (a≤t)))
 else
  let e:=if w<0 then t else f
  let l:=if w<0 then f else t
  leaveS (reachS a w l) (c l) (enterS (reachS a w e) (c e) s)
structure Inv(p q:Pt)(s:Cl)(J:Int→Int→Prop):Prop where
 f:IsPl s.1.1 s.1.2.1
 l:IsPl s.2.1.1 s.2.1.2.1
 fc:s.1.2.2=R p q s.1.1 s.1.2.1
 lc:s.2.1.2.2=R p q s.2.1.1 s.2.1.2.1
 yes:s.2.2=true→∀n m,IsPl n m→(J n m↔s.1.1*m≤n*s.1.2.1∧n*s.2.1.2.1≤s.2.1.1*m)
 no:s.2.2=false→∀n m,IsPl n m→¬J n m
theorem reach_in{a w v:Int}(hw:w≠0)(h:(reachS a w v).2=true):IsPl (reachS a w v).1.1 (reachS a w v).1.2∧(reachS a w v).1.1*w=(v-a)*(reachS a w v).1.2∧((reachS a w v).1.2=w∧0<w∨(reachS a w v).1.2=-w∧w<0):=by
 unfold reachS at *;split at h
 ·rename_i hc
  rw[if_pos hc];unfold IsPl;split
  ·exact⟨by dsimp only;omega,by dsimp only;grind,by dsimp only;omega⟩
  ·exact⟨by dsimp only;omega,by dsimp only,by dsimp only;omega⟩
 ·split at h<;>cases h
theorem reach_out{a w v:Int}(hw:w≠0)(h:(reachS a w v).2=false):((reachS a w v).1.1=-1∧(0<w∧v<a∨w<0∧a<v))∨((reachS a w v).1.1=1∧(0<w∧a+w<v∨w<0∧v<a+w)):=by
 unfold reachS at *;split at h
 ·cases h
 ·rename_i hc
  rw[if_neg hc]
  by_cases h1:v<a<;>by_cases h2:0<w<;>simp[h1,h2]<;>omega
def Ahead(a w v n m:Int):Prop:=(0<w→v*m≤a*m+n*w)∧(w<0→a*m+n*w≤v*m)
theorem ahead_in{a w v n m:Int}(hw:w≠0)(hp:IsPl n m)(h:(reachS a w v).2=true):Ahead a w v n m↔(reachS a w v).1.1*m≤n*(reachS a w v).1.2:=by
 obtain⟨⟨h1,h2,h3⟩,h4,h5⟩:=reach_in hw h;generalize (reachS a w v).1.1=x at *;generalize (reachS a w v).1.2=y at *;obtain⟨p1,p2,p3⟩:=hp;unfold Ahead
 rcases h5 with⟨rfl,h5⟩|⟨rfl,h5⟩
 ·have hx:x=v-a:=Int.eq_of_mul_eq_mul_right hw h4
  subst hx;constructor
  ·intro h;have:=h.1 h5;grind
  ·intro h;exact⟨fun _=>by grind,fun h=>by omega⟩
 ·have hx:x=a-v:=by
   apply Int.eq_of_mul_eq_mul_right hw;grind
  subst hx;constructor
  ·intro h;have:=h.2 h5;grind
  ·intro h;exact⟨fun h=>by omega,fun _=>by grind⟩
def Behind(a w v n m:Int):Prop:=(0<w→a*m+n*w≤v*m)∧(w<0→v*m≤a*m+n*w)
theorem behind_in{a w v n m:Int}(hw:w≠0)(hp:IsPl n m)(h:(reachS a w v).2=true):Behind a w v n m↔n*(reachS a w v).1.2≤(reachS a w v).1.1*m:=by
 obtain⟨⟨h1,h2,h3⟩,h4,h5⟩:=reach_in hw h;generalize (reachS a w v).1.1=x at *;generalize (reachS a w v).1.2=y at *;obtain⟨p1,p2,p3⟩:=hp;unfold Behind
 rcases h5 with⟨rfl,h5⟩|⟨rfl,h5⟩
 ·have hx:x=v-a:=Int.eq_of_mul_eq_mul_right hw h4
  subst hx;constructor
  ·intro h;have:=h.1 h5;grind
  ·intro h;exact⟨fun _=>by grind,fun h=>by omega⟩
 ·have hx:x=a-v:=by
   apply Int.eq_of_mul_eq_mul_right hw;grind
  subst hx;constructor
  ·intro h;have:=h.2 h5;grind
  ·intro h;exact⟨fun h=>by omega,fun _=>by grind⟩
theorem mul_nn{a b:Int}(h1:0≤a)(h2:0≤b):0≤a*b:=Int.mul_nonneg h1 h2
theorem ahead_out{a w v n m:Int}(hw:w≠0)(hp:IsPl n m)(h:(reachS a w v).2=false):Ahead a w v n m↔(reachS a w v).1.1≤0:=by
 obtain⟨p1,p2,p3⟩:=hp;have e1:0≤n*(m-n):=mul_nn p1 (by omega);unfold Ahead
 rcases reach_out hw h with⟨h1,h2⟩|⟨h1,h2⟩<;>rw[h1]
 ·refine⟨fun _=>by omega,fun _=>⟨fun hw=>?_,fun hw=>?_⟩⟩
  ·have k1:0≤n*w:=mul_nn p1 (by omega)
   have k2:0≤(a-v)*m:=mul_nn (by omega) (by omega);grind
  ·have k1:0≤n*(-w):=mul_nn p1 (by omega)
   have k2:0≤(v-a)*m:=mul_nn (by omega) (by omega);grind
 ·refine⟨fun hh=>?_,fun hh=>by omega⟩
  exfalso
  rcases h2 with⟨k,k2⟩|⟨k,k2⟩
  ·have:=hh.1 k
   have k1:0≤(m-n)*w:=mul_nn (by omega) (by omega);have k3:0<(v-(a+w))*m:=Int.mul_pos (by omega) p3;grind
  ·have:=hh.2 k
   have k1:0≤(m-n)*(-w):=mul_nn (by omega) (by omega);have k3:0<((a+w)-v)*m:=Int.mul_pos (by omega) p3;grind
theorem behind_out{a w v n m:Int}(hw:w≠0)(hp:IsPl n m)(h:(reachS a w v).2=false):Behind a w v n m↔0<(reachS a w v).1.1:=by
 obtain⟨p1,p2,p3⟩:=hp;unfold Behind
 rcases reach_out hw h with⟨h1,h2⟩|⟨h1,h2⟩<;>rw[h1]
 ·refine⟨fun hh=>?_,fun hh=>by omega⟩
  exfalso
  rcases h2 with⟨k,k2⟩|⟨k,k2⟩
  ·have:=hh.1 k
   have k1:0≤n*w:=mul_nn p1 (by omega);have k3:0<(a-v)*m:=Int.mul_pos (by omega) p3;grind
  ·have:=hh.2 k
   have k1:0≤n*(-w):=mul_nn p1 (by omega);have k3:0<(v-a)*m:=Int.mul_pos (by omega) p3;grind
 ·refine⟨fun _=>by omega,fun _=>⟨fun hw=>?_,fun hw=>?_⟩⟩
  ·have k1:0≤(m-n)*w:=mul_nn (by omega) (by omega)
   have k2:0≤(v-(a+w))*m:=mul_nn (by omega) (by omega);grind
  ·have k1:0≤(m-n)*(-w):=mul_nn (by omega) (by omega)
   have k2:0≤((a+w)-v)*m:=mul_nn (by omega) (by omega);grind
theorem fr_trans{a b c d e f:Int}(hb:0<b)(hd:0<d)(hf:0<f)(h1:a*d≤c*b)(h2:c*f≤e*d):a*f≤e*b:=by
 apply Int.le_of_mul_le_mul_right (a:=d) _ hd;have k1:=Int.mul_le_mul_of_nonneg_right h1 (Int.le_of_lt hf);have k2:=Int.mul_le_mul_of_nonneg_right h2 (Int.le_of_lt hb);grind
theorem enter_inv{p q:Pt}{s:Cl}{J:Int→Int→Prop}{a w v:Int}{c:Pt}(hw:w≠0)(h:Inv p q s J)
  (hc:(reachS a w v).2=true→c=R p q (reachS a w v).1.1 (reachS a w v).1.2):Inv p q (enterS (reachS a w v) c s) (fun n m=>J n m∧Ahead a w v n m):=by
 unfold enterS;split
 ·rename_i h0
  refine⟨h.f,h.l,h.fc,h.lc,fun hy n m hp=>?_,fun hn n m hp=>?_⟩
  ·have hy:s.2.2=true∧(reachS a w v).1.1≤0:=by simpa using hy
   have kk:=h.yes hy.1 n m hp;have k2:=ahead_out (a:=a) (v:=v) hw hp h0;exact⟨fun k=>kk.1 k.1,fun k=>⟨kk.2 k,k2.2 hy.2⟩⟩
  ·have:=ahead_out (a:=a) (v:=v) hw hp h0
   rw[this];intro ⟨k1,k2⟩;cases hs:s.2.2
   ·exact h.no hs n m hp k1
   ·dsimp only at hn
    rw[hs,decide_eq_true k2]at hn;cases hn
 ·rename_i h0
  have h0:(reachS a w v).2=true:=by simpa using h0
  have hpl:=(reach_in hw h0).1;split
  ·rename_i h1
   unfold lessS at h1;have h1:=of_decide_eq_true h1;refine⟨hpl,h.l,hc h0,h.lc,fun hy n m hp=>?_,fun hn n m hp=>?_⟩
   ·have k:=h.yes hy n m hp
    have k2:=ahead_in (a:=a) (v:=v) hw hp h0;dsimp only at *;rw[k,k2];constructor
    ·rintro⟨⟨g1,g2⟩,g3⟩
     exact⟨g3,g2⟩
    ·rintro⟨g1,g2⟩
     refine⟨⟨?_,g2⟩,g1⟩;exact fr_trans h.f.2.2 hpl.2.2 hp.2.2 (by omega) g1
   ·intro k;exact h.no hn n m hp k.1
  ·rename_i h1
   unfold lessS at h1;simp only[decide_eq_true_eq,Int.not_lt]at h1;refine⟨h.f,h.l,h.fc,h.lc,fun hy n m hp=>?_,fun hn n m hp k=>h.no hn n m hp k.1⟩;have k:=h.yes hy n m hp;have k2:=ahead_in (a:=a) (v:=v) hw hp h0;rw[k,k2];constructor
   ·intro g;exact g.1
   ·intro g;exact⟨g,fr_trans hpl.2.2 h.f.2.2 hp.2.2 h1 g.1⟩
theorem leave_inv{p q:Pt}{s:Cl}{J:Int→Int→Prop}{a w v:Int}{c:Pt}(hw:w≠0)(h:Inv p q s J)
  (hc:(reachS a w v).2=true→c=R p q (reachS a w v).1.1 (reachS a w v).1.2):Inv p q (leaveS (reachS a w v) c s) (fun n m=>J n m∧Behind a w v n m):=by
 unfold leaveS;split
 ·rename_i h0
  refine⟨h.f,h.l,h.fc,h.lc,fun hy n m hp=>?_,fun hn n m hp=>?_⟩
  ·have hy:s.2.2=true∧0<(reachS a w v).1.1:=by simpa using hy
   have kk:=h.yes hy.1 n m hp;have k2:=behind_out (a:=a) (v:=v) hw hp h0;exact⟨fun k=>kk.1 k.1,fun k=>⟨kk.2 k,k2.2 hy.2⟩⟩
  ·have:=behind_out (a:=a) (v:=v) hw hp h0
   rw[this];intro ⟨k1,k2⟩;cases hs:s.2.2
   ·exact h.no hs n m hp k1
   ·dsimp only at hn
    rw[hs,decide_eq_true k2]at hn;cases hn
 ·rename_i h0
  have h0:(reachS a w v).2=true:=by simpa using h0
  have hpl:=(reach_in hw h0).1;split
  ·rename_i h1
   unfold lessS at h1;have h1:=of_decide_eq_true h1;refine⟨h.f,hpl,h.fc,hc h0,fun hy n m hp=>?_,fun hn n m hp=>?_⟩
   ·have k:=h.yes hy n m hp
    have k2:=behind_in (a:=a) (v:=v) hw hp h0;dsimp only at *;rw[k,k2];constructor
    ·rintro⟨⟨g1,g2⟩,g3⟩
     exact⟨g1,g3⟩
    ·rintro⟨g1,g2⟩
     refine⟨⟨g1,?_⟩,g2⟩;exact fr_trans hp.2.2 hpl.2.2 h.l.2.2 g2 (by omega)
   ·intro k;exact h.no hn n m hp k.1
  ·rename_i h1
   unfold lessS at h1;simp only[decide_eq_true_eq,Int.not_lt]at h1;refine⟨h.f,h.l,h.fc,h.lc,fun hy n m hp=>?_,fun hn n m hp k=>h.no hn n m hp k.1⟩;have k:=h.yes hy n m hp;have k2:=behind_in (a:=a) (v:=v) hw hp h0;rw[k,k2];constructor
   ·intro g;exact g.1
   ·intro g;exact⟨g,fr_trans hp.2.2 h.l.2.2 hpl.2.2 g.2 h1⟩
def atX(a b:Pt)(x:Int):Int:=if a.1=b.1 then 0 else if x<min a.1 b.1∨max a.1 b.1<x then 0 else
 a.2+(if 0<b.1-a.1 then rh ((b.2-a.2)*(x-a.1)) (b.1-a.1) else rh (-((b.2-a.2)*(x-a.1))) (-(b.1-a.1)))
def atY(a b:Pt)(y:Int):Int:=atX (a.2,a.1) (b.2,b.1) y
structure Bx4 where
 x0:Int
 y0:Int
 x1:Int
 y1:Int
def clipS(a b:Pt)(x:Bx4):Option (Pt×Pt):=
 let s:=limS a.2 (b.2-a.2) x.y0 x.y1 (fun v=>(atY a b v,v)) (limS a.1 (b.1-a.1) x.x0 x.x1 (fun v=>(v,atX a b v)) ((0,1,a),(1,1,b),true))
 if s.2.2=false∨lessS (s.2.1.1,s.2.1.2.1) (s.1.1,s.1.2.1)=true then none else some (s.1.2.2,s.2.1.2.2)
def InP(p q:Pt)(b:Bx4)(n m:Int):Prop:=b.x0*m≤F p.1 q.1 n m∧F p.1 q.1 n m≤b.x1*m∧b.y0*m≤F p.2 q.2 n m∧F p.2 q.2 n m≤b.y1*m
theorem reach_atX{p q:Pt}{v:Int}(hw:q.1-p.1≠0)(h:(reachS p.1 (q.1-p.1) v).2=true):(v,atX p q v)=R p q (reachS p.1 (q.1-p.1) v).1.1 (reachS p.1 (q.1-p.1) v).1.2:=by
 have hr:min p.1 q.1≤v∧v≤max p.1 q.1:=by
  unfold reachS at h;split at h
  ·omega
  ·split at h<;>cases h
 obtain⟨⟨h1,h2,h3⟩,h4,h5⟩:=reach_in hw h;generalize (reachS p.1 (q.1-p.1) v).1.1=x at *;generalize (reachS p.1 (q.1-p.1) v).1.2=y at *;unfold atX R;rw[if_neg (by omega),if_neg (by omega)]
 rcases h5 with⟨rfl,h5⟩|⟨rfl,h5⟩
 ·have hx:x=v-p.1:=Int.eq_of_mul_eq_mul_right hw h4
  subst hx;rw[if_pos h5]
  congr 1
  ·rw[show F p.1 q.1 (v-p.1) (q.1-p.1)=v*(q.1-p.1) by unfold F;grind,rh_int h5]
  ·rw[show F p.2 q.2 (v-p.1) (q.1-p.1)=(q.2-p.2)*(v-p.1)+p.2*(q.1-p.1) by unfold F;grind,rh_shift h5]
   omega
 ·have hx:x=p.1-v:=by
   apply Int.eq_of_mul_eq_mul_right hw;grind
  subst hx;have h6:0 < -(q.1-p.1):=by omega
  rw[if_neg (by omega)]
  congr 1
  ·rw[show F p.1 q.1 (p.1-v) (-(q.1-p.1))=v*(-(q.1-p.1)) by unfold F;grind,rh_int h6]
  ·rw[show F p.2 q.2 (p.1-v) (-(q.1-p.1))=-((q.2-p.2)*(v-p.1))+p.2*(-(q.1-p.1)) by unfold F;grind,rh_shift h6]
   omega
theorem reach_atY{p q:Pt}{v:Int}(hw:q.2-p.2≠0)(h:(reachS p.2 (q.2-p.2) v).2=true):(atY p q v,v)=R p q (reachS p.2 (q.2-p.2) v).1.1 (reachS p.2 (q.2-p.2) v).1.2:=by
 have:=reach_atX (p:=(p.2,p.1)) (q:=(q.2,q.1)) hw h;unfold R at *;simp only[Prod.mk.injEq]at *;exact⟨this.2,this.1⟩
theorem lim_inv{p q:Pt}{s:Cl}{J:Int→Int→Prop}{a a' f t:Int}{c:Int→Pt}(hft:f≤t)(h:Inv p q s J)
  (hc:a'-a≠0→∀v,(reachS a (a'-a) v).2=true→c v=R p q (reachS a (a'-a) v).1.1 (reachS a (a'-a) v).1.2) :
  Inv p q (limS a (a'-a) f t c s) (fun n m=>J n m∧f*m≤F a a' n m∧F a a' n m≤t*m):=by
 unfold limS;split
 ·rename_i h0
  have h0:a'=a:=by omega
  subst h0
  have hF:∀n m,IsPl n m→(f*m≤F a' a' n m∧F a' a' n m≤t*m↔f≤a'∧a'≤t):=by
   intro n m ⟨_,_,hm⟩;rw[show F a' a' n m=a'*m by unfold F;grind];exact⟨fun k=>⟨Int.le_of_mul_le_mul_right k.1 hm,Int.le_of_mul_le_mul_right k.2 hm⟩,fun k=>⟨Int.mul_le_mul_of_nonneg_right k.1 (by omega),Int.mul_le_mul_of_nonneg_right k.2 (by omega)⟩⟩
  refine⟨h.f,h.l,h.fc,h.lc,fun hy n m hp=>?_,fun hn n m hp k=>?_⟩
  ·have hy:s.2.2=true∧f≤a'∧a'≤t:=by simpa using hy
   rw[hF n m hp,←h.yes hy.1 n m hp];exact⟨fun k=>k.1,fun k=>⟨k,hy.2⟩⟩
  ·rw[hF n m hp]at k
   cases hs:s.2.2
   ·exact h.no hs n m hp k.1
   ·dsimp only at hn
    rw[hs,decide_eq_true k.2.1,decide_eq_true k.2.2]at hn;cases hn
 ·rename_i h0
  have hw:a'-a≠0:=by omega
  have h1:=enter_inv (a:=a) (v:=if a'-a<0 then t else f) hw h (hc hw _);have h2:=leave_inv (a:=a) (v:=if a'-a<0 then f else t) hw h1 (hc hw _)
  have hJ:∀n m,IsPl n m→(((J n m∧Ahead a (a'-a) (if a'-a<0 then t else f) n m)∧Behind a (a'-a) (if a'-a<0 then f else t) n m)↔J n m∧f*m≤F a a' n m∧F a a' n m≤t*m):=by
   intro n m _;rw[show F a a' n m=a*m+n*(a'-a) by unfold F;grind];unfold Ahead Behind
   by_cases hn:a'-a<0
   ·rw[if_pos hn,if_pos hn]
    exact⟨fun k=>⟨k.1.1,k.2.2 hn,k.1.2.2 hn⟩,fun k=>⟨⟨k.1,fun h=>by omega,fun _=>k.2.2⟩,fun h=>by omega,fun _=>k.2.1⟩⟩
   ·have hn':0<a'-a:=by omega
    rw[if_neg hn,if_neg hn];exact⟨fun k=>⟨k.1.1,k.1.2.1 hn',k.2.1 hn'⟩,fun k=>⟨⟨k.1,fun _=>k.2.1,fun h=>by omega⟩,fun _=>k.2.2,fun h=>by omega⟩⟩
  exact⟨h2.f,h2.l,h2.fc,h2.lc,fun hy n m hp=>by rw[←hJ n m hp];exact h2.yes hy n m hp,fun hn n m hp k=>h2.no hn n m hp ((hJ n m hp).2 k)⟩
theorem clip_inv(p q:Pt)(b:Bx4)(hx:b.x0≤b.x1)(hy:b.y0≤b.y1) :
  Inv p q (limS p.2 (q.2-p.2) b.y0 b.y1 (fun v=>(atY p q v,v)) (limS p.1 (q.1-p.1) b.x0 b.x1 (fun v=>(v,atX p q v)) ((0,1,p),(1,1,q),true))) (InP p q b):=by
 have h0:Inv p q ((0,1,p),(1,1,q),true) (fun _ _=>True):=by
  refine⟨by unfold IsPl;dsimp only;omega,by unfold IsPl;dsimp only;omega,(R_zero (by dsimp only;omega)).symm,(R_one (by dsimp only;omega)).symm,fun _ n m hp=>?_,fun h=>by cases h⟩;obtain⟨h1,h2,h3⟩:=hp;dsimp only;simp only[true_iff];omega
 have h1:=lim_inv (a:=p.1) (a':=q.1) (c:=fun v=>(v,atX p q v)) hx h0 (fun hw v hr=>reach_atX hw hr);have h2:=lim_inv (a:=p.2) (a':=q.2) (c:=fun v=>(atY p q v,v)) hy h1 (fun hw v hr=>reach_atY hw hr)
 have hJ:∀n m,IsPl n m→(((True∧b.x0*m≤F p.1 q.1 n m∧F p.1 q.1 n m≤b.x1*m)∧b.y0*m≤F p.2 q.2 n m∧F p.2 q.2 n m≤b.y1*m)↔InP p q b n m):=by
  intro n m _;unfold InP;exact⟨fun k=>⟨k.1.2.1,k.1.2.2,k.2⟩,fun k=>⟨⟨trivial,k.1,k.2.1⟩,k.2.2⟩⟩
 exact⟨h2.f,h2.l,h2.fc,h2.lc,fun hy n m hp=>by rw[←hJ n m hp];exact h2.yes hy n m hp,fun hn n m hp k=>h2.no hn n m hp ((hJ n m hp).2 k)⟩
structure Fst(p q:Pt)(b:Bx4)(n m:Int):Prop where
 pl:IsPl n m
 here:InP p q b n m
 least:∀n' m',IsPl n' m'→InP p q b n' m'→n*m'≤n'*m
structure Lst(p q:Pt)(b:Bx4)(n m:Int):Prop where
 pl:IsPl n m
 here:InP p q b n m
 most:∀n' m',IsPl n' m'→InP p q b n' m'→n'*m≤n*m'
theorem clip_none{p q:Pt}{b:Bx4}(hx:b.x0≤b.x1)(hy:b.y0≤b.y1)(h:clipS p q b=none)(n m:Int)(hp:IsPl n m):¬InP p q b n m:=by
 have hi:=clip_inv p q b hx hy;unfold clipS at h;generalize limS p.2 (q.2-p.2) b.y0 b.y1 (fun v=>(atY p q v,v)) (limS p.1 (q.1-p.1) b.x0 b.x1 (fun v=>(v,atX p q v)) ((0,1,p),(1,1,q),true))=s at *;dsimp only at h;split at h
 ·rename_i hc
  cases hs:s.2.2
  ·exact hi.no hs n m hp
  ·intro k
   have k2:=(hi.yes hs n m hp).1 k;have:=fr_trans hi.f.2.2 hp.2.2 hi.l.2.2 k2.1 k2.2
   rcases hc with hc|hc
   ·rw[hs]at hc;cases hc
   ·unfold lessS at hc
    have:=of_decide_eq_true hc;dsimp only at this;omega
 ·cases h
theorem clip_some{p q c d:Pt}{b:Bx4}(hx:b.x0≤b.x1)(hy:b.y0≤b.y1)(h:clipS p q b=some (c,d)) :
  ∃n m n' m',Fst p q b n m∧Lst p q b n' m'∧c=R p q n m∧d=R p q n' m':=by
 have hi:=clip_inv p q b hx hy;unfold clipS at h;generalize limS p.2 (q.2-p.2) b.y0 b.y1 (fun v=>(atY p q v,v)) (limS p.1 (q.1-p.1) b.x0 b.x1 (fun v=>(v,atX p q v)) ((0,1,p),(1,1,q),true))=s at *;dsimp only at h;split at h
 ·cases h
 ·rename_i hc
  have hs:s.2.2=true:=by cases hs:s.2.2<;>simp_all
  have hl:s.1.1*s.2.1.2.1≤s.2.1.1*s.1.2.1:=by
   have:¬lessS (s.2.1.1,s.2.1.2.1) (s.1.1,s.1.2.1)=true:=fun k=>hc (Or.inr k)
   unfold lessS at this;simp only[decide_eq_true_eq,Int.not_lt]at this;exact this
  injection h with h;injection h with h1 h2;have hf:=hi.f;have hll:=hi.l;refine⟨_,_,_,_,⟨hf,(hi.yes hs _ _ hf).2 ⟨Int.le_refl _,hl⟩,fun n' m' hp k=>((hi.yes hs _ _ hp).1 k).1⟩,⟨hll,(hi.yes hs _ _ hll).2 ⟨hl,Int.le_refl _⟩,fun n' m' hp k=>((hi.yes hs _ _ hp).1 k).2⟩,h1▸hi.fc,h2▸hi.lc⟩
def inB(b:Bx4)(p:Pt):Bool:=decide (b.x0≤p.1)&&decide (p.1≤b.x1)&&decide (b.y0≤p.2)&&decide (p.2≤b.y1)
def later(s:Int×Int)(m c:Int):Int×Int:=
 let m':=if c<0 then -m else m
 let c':=if c<0 then -c else c
 if 0<c'∧s.1*c'<m'*s.2 then (m',c') else s
def thrP(p q:Pt)(b:Bx4):Int×Int:=
 let dx:=q.1-p.1
 let dy:=q.2-p.2
 let s:=((0,1):Int×Int)
 let s:=if p.1<b.x0 then later s (b.x0-p.1) dx else s
 let s:=if b.x1<p.1 then later s (b.x1-p.1) dx else s
 let s:=if p.2<b.y0 then later s (b.y0-p.2) dy else s
 if b.y1<p.2 then later s (b.y1-p.2) dy else s
def hit(s:Int×Int)(a w v:Int):Bool:=decide (a*s.2+w*s.1=v*s.2)
def oneOf(h1 h2 h3 h4:Bool):Int:=
 match h1,h2,h3,h4 with
 | true,false,false,false=>1
 | false,true,false,false=>2
 | false,false,true,false=>3
 | false,false,false,true=>4
 | _,_,_,_=>0
def thr(p q:Pt)(b:Bx4):Int:=
 if inB b p=true then 0 else
  let s:=thrP p q b
  oneOf (hit s p.1 (q.1-p.1) b.x0) (hit s p.2 (q.2-p.2) b.y0) (hit s p.1 (q.1-p.1) b.x1) (hit s p.2 (q.2-p.2) b.y1)
theorem later_place{s:Int×Int}{a a' v n m:Int}(hs:IsPl s.1 s.2)(hp:IsPl n m)(hle:s.1*m≤n*s.2)
  (hv:a<v∧v*m≤F a a' n m∨v<a∧F a a' n m≤v*m) :
  IsPl (later s (v-a) (a'-a)).1 (later s (v-a) (a'-a)).2∧(later s (v-a) (a'-a)).1*m≤n*(later s (v-a) (a'-a)).2 ∧
  s.1*(later s (v-a) (a'-a)).2≤(later s (v-a) (a'-a)).1*s.2 ∧
  (a<v→v*(later s (v-a) (a'-a)).2≤F a a' (later s (v-a) (a'-a)).1 (later s (v-a) (a'-a)).2) ∧
  (v<a→F a a' (later s (v-a) (a'-a)).1 (later s (v-a) (a'-a)).2≤v*(later s (v-a) (a'-a)).2):=by
 obtain⟨s1,s2,s3⟩:=hs;obtain⟨p1,p2,p3⟩:=hp;obtain⟨x,y⟩:=s;dsimp only at *
 have key:a<v∧0<a'-a∧(v-a)*m≤n*(a'-a)∨v<a∧0<a-a'∧(a-v)*m≤n*(a-a'):=by
  rcases hv with⟨h1,h2⟩|⟨h1,h2⟩
  ·left
   have e:(v-a)*m≤n*(a'-a):=by unfold F at h2;grind
   refine⟨h1,?_,e⟩;have k:0<(v-a)*m:=Int.mul_pos (by omega) p3
   rcases Int.lt_or_le 0 (a'-a)with g|g
   ·exact g
   ·have:0≤n*(a-a'):=mul_nn p1 (by omega)
    grind
  ·right
   have e:(a-v)*m≤n*(a-a'):=by unfold F at h2;grind
   refine⟨h1,?_,e⟩;have k:0<(a-v)*m:=Int.mul_pos (by omega) p3
   rcases Int.lt_or_le 0 (a-a')with g|g
   ·exact g
   ·have:0≤n*(a'-a):=mul_nn p1 (by omega)
    grind
 have fin:∀u c:Int,0<u→0<c→u*m≤n*c→(a<v∧u=v-a∧c=a'-a∨v<a∧u=a-v∧c=a-a') →
   (if 0<c∧x*c<u*y then (u,c) else (x,y):Int×Int)=later (x,y) (v-a) (a'-a) →
   IsPl (later (x,y) (v-a) (a'-a)).1 (later (x,y) (v-a) (a'-a)).2∧(later (x,y) (v-a) (a'-a)).1*m≤n*(later (x,y) (v-a) (a'-a)).2 ∧
   x*(later (x,y) (v-a) (a'-a)).2≤(later (x,y) (v-a) (a'-a)).1*y ∧
   (a<v→v*(later (x,y) (v-a) (a'-a)).2≤F a a' (later (x,y) (v-a) (a'-a)).1 (later (x,y) (v-a) (a'-a)).2) ∧
   (v<a→F a a' (later (x,y) (v-a) (a'-a)).1 (later (x,y) (v-a) (a'-a)).2≤v*(later (x,y) (v-a) (a'-a)).2):=by
  intro u c hu hc huc hd he;rw[←he]
  by_cases hl:0<c∧x*c<u*y
  ·rw[if_pos hl]
   refine⟨⟨by dsimp only;omega,?_,hc⟩,huc,Int.le_of_lt hl.2,?_,?_⟩
   ·dsimp only
    rcases Int.lt_or_le c u with g|g
    ·exfalso
     have k1:0<(u-c)*m:=Int.mul_pos (by omega) p3;have k2:0≤(m-n)*c:=mul_nn (by omega) (by omega);grind
    ·exact g
   ·intro h
    rcases hd with⟨_,rfl,rfl⟩|⟨h',_,_⟩
    ·unfold F;grind
    ·omega
   ·intro h
    rcases hd with⟨h',_,_⟩|⟨_,rfl,rfl⟩
    ·omega
    ·unfold F;grind
  ·rw[if_neg hl]
   have hl':u*y≤x*c:=by
    rcases Int.lt_or_le (x*c) (u*y)with g|g
    ·exact absurd ⟨hc,g⟩ hl
    ·exact g
   refine⟨⟨s1,s2,s3⟩,hle,Int.le_refl _,?_,?_⟩
   ·intro h
    rcases hd with⟨_,rfl,rfl⟩|⟨h',_,_⟩
    ·unfold F;grind
    ·omega
   ·intro h
    rcases hd with⟨h',_,_⟩|⟨_,rfl,rfl⟩
    ·omega
    ·unfold F;grind
 rcases key with⟨h1,h2,h3⟩|⟨h1,h2,h3⟩
 ·refine fin (v-a) (a'-a) (by omega) h2 h3 (Or.inl ⟨h1,rfl,rfl⟩) ?_
  have hn:¬a'-a<0:=by omega
  simp only[later,if_neg hn]
 ·refine fin (a-v) (a-a') (by omega) h2 h3 (Or.inr ⟨h1,rfl,rfl⟩) ?_
  have hn:a'-a<0:=by omega
  simp only[later,if_pos hn,show -(v-a)=a-v by omega,show -(a'-a)=a-a' by omega]
theorem F_between{a a' v n m n' m':Int}(h0:v≤a)(hp:IsPl n m)(hp':IsPl n' m')(hle:n*m'≤n'*m)(h:v*m'≤F a a' n' m'):v*m≤F a a' n m:=by
 obtain⟨p1,p2,p3⟩:=hp;obtain⟨q1,q2,q3⟩:=hp'
 rcases Int.lt_or_le (F a a' n m) (v*m)with g|g
 ·exfalso
  have e1:F a a' n m=a*m+n*(a'-a):=by unfold F;grind
  have e2:F a a' n' m'=a*m'+n'*(a'-a):=by unfold F;grind
  rw[e1]at g;rw[e2]at h;have k1:0≤(a-v)*m:=mul_nn (by omega) (by omega)
  have hneg:a'-a<0:=by
   rcases Int.lt_or_le (a'-a) 0 with k|k
   ·exact k
   ·have:=mul_nn p1 k
    grind
  have k2:0≤(n'*m-n*m')*(a-a'):=mul_nn (by omega) (by omega);have k3:=Int.mul_le_mul_of_nonneg_right h (Int.le_of_lt p3);have k4:=Int.mul_lt_mul_of_pos_right g q3;grind
 ·exact g
theorem F_neg{a a' n m:Int}:F (-a) (-a') n m=- F a a' n m:=by unfold F;grind
theorem F_between'{a a' v n m n' m':Int}(h0:a≤v)(hp:IsPl n m)(hp':IsPl n' m')(hle:n*m'≤n'*m)(h:F a a' n' m'≤v*m'):F a a' n m≤v*m:=by
 have:=F_between (a:=-a) (a':=-a') (v:=-v) (by omega) hp hp' hle (by rw[F_neg];grind);rw[F_neg]at this;grind
theorem F_after{a a' v n m n' m':Int}(h0:a<v)(hp:IsPl n m)(hp':IsPl n' m')(hle:n*m'≤n'*m)(h:v*m≤F a a' n m):v*m'≤F a a' n' m':=by
 obtain⟨p1,p2,p3⟩:=hp;obtain⟨q1,q2,q3⟩:=hp';have e1:F a a' n m=a*m+n*(a'-a):=by unfold F;grind
 have e2:F a a' n' m'=a*m'+n'*(a'-a):=by unfold F;grind
 rw[e1]at h;rw[e2]
 rcases Int.lt_or_le (a*m'+n'*(a'-a)) (v*m')with g|g
 ·exfalso
  have k1:0<(v-a)*m:=Int.mul_pos (by omega) p3
  have hpos:0≤a'-a:=by
   rcases Int.lt_or_le (a'-a) 0 with k|k
   ·have:=mul_nn p1 (show 0≤a-a' by omega)
    grind
   ·exact k
  have k2:0≤(n'*m-n*m')*(a'-a):=mul_nn (by omega) hpos;have k3:=Int.mul_le_mul_of_nonneg_right h (Int.le_of_lt q3);have k4:=Int.mul_lt_mul_of_pos_right g p3;grind
 ·exact g
theorem F_after'{a a' v n m n' m':Int}(h0:v<a)(hp:IsPl n m)(hp':IsPl n' m')(hle:n*m'≤n'*m)(h:F a a' n m≤v*m):F a a' n' m'≤v*m':=by
 have:=F_after (a:=-a) (a':=-a') (v:=-v) (by omega) hp hp' hle (by rw[F_neg];grind);rw[F_neg]at this;grind
theorem later_step{s:Int×Int}{a a' v n m:Int}{c:Prop}[Decidable c](hs:IsPl s.1 s.2)(hp:IsPl n m)(hle:s.1*m≤n*s.2)
  (hv:c→(a<v∧v*m≤F a a' n m∨v<a∧F a a' n m≤v*m)) :
  ∃s',(if c then later s (v-a) (a'-a) else s)=s'∧IsPl s'.1 s'.2∧s'.1*m≤n*s'.2∧s.1*s'.2≤s'.1*s.2 ∧
   (c→(a<v→v*s'.2≤F a a' s'.1 s'.2)∧(v<a→F a a' s'.1 s'.2≤v*s'.2)):=by
 by_cases hc:c
 ·rw[if_pos hc]
  obtain⟨k1,k2,k3,k4,k5⟩:=later_place hs hp hle (hv hc);exact⟨_,rfl,k1,k2,k3,fun _=>⟨k4,k5⟩⟩
 ·rw[if_neg hc]
  exact⟨s,rfl,hs,hle,Int.le_refl _,fun h=>absurd h hc⟩
theorem thr_first{p q:Pt}{b:Bx4}{n m:Int}(hp:IsPl n m)(hin:InP p q b n m):Fst p q b (thrP p q b).1 (thrP p q b).2:=by
 have main:∀n m,IsPl n m→InP p q b n m→IsPl (thrP p q b).1 (thrP p q b).2∧(thrP p q b).1*m≤n*(thrP p q b).2 ∧
   (p.1<b.x0→b.x0*(thrP p q b).2≤F p.1 q.1 (thrP p q b).1 (thrP p q b).2)∧(b.x1<p.1→F p.1 q.1 (thrP p q b).1 (thrP p q b).2≤b.x1*(thrP p q b).2) ∧
   (p.2<b.y0→b.y0*(thrP p q b).2≤F p.2 q.2 (thrP p q b).1 (thrP p q b).2)∧(b.y1<p.2→F p.2 q.2 (thrP p q b).1 (thrP p q b).2≤b.y1*(thrP p q b).2):=by
  intro n m hp ⟨i1,i2,i3,i4⟩;unfold thrP;dsimp only;have p0:IsPl ((0,1):Int×Int).1 ((0,1):Int×Int).2:=⟨by decide,by decide,by decide⟩;obtain⟨s1,e1,a1,b1,c1,d1⟩:=later_step (s:=(0,1)) (a:=p.1) (a':=q.1) (v:=b.x0) (c:=p.1<b.x0) p0 hp (by have:=hp.1;dsimp only;omega) (fun h=>Or.inl ⟨h,i1⟩);rw[e1];obtain⟨s2,e2,a2,b2,c2,d2⟩:=later_step (s:=s1) (a:=p.1) (a':=q.1) (v:=b.x1) (c:=b.x1<p.1) a1 hp b1 (fun h=>Or.inr ⟨h,i2⟩);rw[e2];obtain⟨s3,e3,a3,b3,c3,d3⟩:=later_step (s:=s2) (a:=p.2) (a':=q.2) (v:=b.y0) (c:=p.2<b.y0) a2 hp b2 (fun h=>Or.inl ⟨h,i3⟩);rw[e3];obtain⟨s4,e4,a4,b4,c4,d4⟩:=later_step (s:=s3) (a:=p.2) (a':=q.2) (v:=b.y1) (c:=b.y1<p.2) a3 hp b3 (fun h=>Or.inr ⟨h,i4⟩);rw[e4];have c24:=fr_trans a2.2.2 a3.2.2 a4.2.2 c3 c4;have c14:=fr_trans a1.2.2 a2.2.2 a4.2.2 c2 c24;exact⟨a4,b4,fun h=>F_after h a1 a4 c14 ((d1 h).1 h),fun h=>F_after' h a2 a4 c24 ((d2 h).2 h),fun h=>F_after h a3 a4 c4 ((d3 h).1 h),fun h=>(d4 h).2 h⟩
 obtain⟨k1,k2,k3,k4,k5,k6⟩:=main n m hp hin;obtain⟨i1,i2,i3,i4⟩:=hin;refine⟨k1,⟨?_,?_,?_,?_⟩,fun n' m' hp' hin'=>(main n' m' hp' hin').2.1⟩
 ·rcases Int.lt_or_le p.1 b.x0 with g|g
  ·exact k3 g
  ·exact F_between g k1 hp k2 i1
 ·rcases Int.lt_or_le b.x1 p.1 with g|g
  ·exact k4 g
  ·exact F_between' g k1 hp k2 i2
 ·rcases Int.lt_or_le p.2 b.y0 with g|g
  ·exact k5 g
  ·exact F_between g k1 hp k2 i3
 ·rcases Int.lt_or_le b.y1 p.2 with g|g
  ·exact k6 g
  ·exact F_between' g k1 hp k2 i4
end Go.Proofs.Ed
namespace Go.Proofs.Ed
open Go.Proofs
theorem F_rev{a b n m:Int}:F b a (m-n) m=F a b n m:=by unfold F;grind
theorem InP_rev{p q:Pt}{b:Bx4}{n m:Int}:InP q p b (m-n) m↔InP p q b n m:=by
 unfold InP;rw[F_rev,F_rev]
theorem IsPl.rev{n m:Int}(h:IsPl n m):IsPl (m-n) m:=by
 obtain⟨h1,h2,h3⟩:=h;exact⟨by omega,by omega,h3⟩
theorem R_rev{p q:Pt}{n m:Int}:R q p (m-n) m=R p q n m:=by
 unfold R;rw[F_rev,F_rev]
theorem Lst.rev{p q:Pt}{b:Bx4}{n m:Int}(h:Lst p q b n m):Fst q p b (m-n) m:=by
 refine⟨h.pl.rev,InP_rev.2 h.here,fun n' m' hp hi=>?_⟩;have:=h.most (m'-n') m' hp.rev (InP_rev.1 (by rwa [show m'-(m'-n')=n' by omega]));grind
def Ent(b:Bx4)(p q c:Pt):Prop:=∃n m,Fst p q b n m∧c=R p q n m
theorem Ent.ex{b:Bx4}{p q:Pt}{n m:Int}(hp:IsPl n m)(h:InP p q b n m):∃c,Ent b p q c:=⟨_,_,_,thr_first hp h,rfl⟩
theorem Fst.eq{b:Bx4}{p q:Pt}{n m n' m':Int}(h:Fst p q b n m)(h':Fst p q b n' m'):n*m'=n'*m:=by
 have:=h.least _ _ h'.pl h'.here;have:=h'.least _ _ h.pl h.here;omega
theorem Ent.fst{b:Bx4}{p q c:Pt}(h:Ent b p q c){n m:Int}(h':Fst p q b n m):c=R p q n m:=by
 obtain⟨n',m',h1,h2⟩:=h;rw[h2,R_cong h1.pl.2.2 h'.pl.2.2 (h1.eq h')]
theorem Ent.thr{b:Bx4}{p q c:Pt}(h:Ent b p q c):Fst p q b (thrP p q b).1 (thrP p q b).2:=by
 obtain⟨n',m',h1,h2⟩:=h;exact thr_first h1.pl h1.here
theorem clip_ent{p q c d:Pt}{b:Bx4}(hx:b.x0≤b.x1)(hy:b.y0≤b.y1)(h:clipS p q b=some (c,d)):Ent b p q c∧Ent b q p d:=by
 obtain⟨n,m,n',m',h1,h2,h3,h4⟩:=clip_some hx hy h;exact⟨⟨n,m,h1,h3⟩,⟨m'-n',m',h2.rev,by rw[R_rev];exact h4⟩⟩
theorem clip_no{p q:Pt}{b:Bx4}(hx:b.x0≤b.x1)(hy:b.y0≤b.y1)(h:clipS p q b=none)(c:Pt):¬Ent b p q c:=by
 intro ⟨n,m,h1,_⟩;exact clip_none hx hy h n m h1.pl h1.here
theorem rh_between{a m lo hi:Int}(hm:0<m)(h1:lo*m≤a)(h2:a≤hi*m):lo≤rh a m∧rh a m≤hi:=by
 have k1:=rh_mono hm h1;have k2:=rh_mono hm h2;rw[rh_int hm]at k1 k2;exact⟨k1,k2⟩
theorem rh_inner{a m lo hi:Int}(hm:0<m)(h1:lo<rh a m)(h2:rh a m<hi):lo*m<a∧a<hi*m:=by
 obtain⟨g1,g2⟩:=rh_spec (a:=a) hm;have k1:0≤(rh a m-(lo+1))*m:=mul_nn (by omega) (by omega);have k2:0≤(hi-1-rh a m)*m:=mul_nn (by omega) (by omega);constructor<;>grind
theorem F_lin{a a' n m:Int}:F a a' n m=a*m+n*(a'-a):=by unfold F;grind
theorem cross_pl{s t:Int}(h1:s<0)(h2:0<t):IsPl (-s) (t-s):=⟨by omega,by omega,by omega⟩
theorem cross_F{s t:Int}:F s t (-s) (t-s)=0:=by unfold F;grind
theorem F_zero_at{s t n m:Int}(h1:s<0)(h2:0<t)(h:F s t n m=0):n*(t-s)=-s*m:=by
 unfold F at h;grind
structure View(b:Bx4)(g:Int)(U S:Pt→Int)(lo hi D:Int)(mt:Pt→Pt→Pt):Prop where
 hD:0<D
 hl:lo<hi
 bx:b.x0≤b.x1
 bY:b.y0≤b.y1
 inb:∀p,inB b p=true↔0≤S p∧S p≤D∧lo≤U p∧U p≤hi
 inp:∀p q n m,InP p q b n m↔0≤F (S p) (S q) n m∧F (S p) (S q) n m≤D*m∧lo*m≤F (U p) (U q) n m∧F (U p) (U q) n m≤hi*m
 ur:∀p q n m,IsPl n m→U (R p q n m)=rh (F (U p) (U q) n m) m
 sr:∀p q n m,IsPl n m→2*F (S p) (S q) n m-m≤2*m*S (R p q n m)∧2*m*S (R p q n m)≤2*F (S p) (S q) n m+m
 tg:∀p q,inB b p=false→IsPl (thrP p q b).1 (thrP p q b).2→(thr p q b=g↔F (S p) (S q) (thrP p q b).1 (thrP p q b).2=0∧F (U p) (U q) (thrP p q b).1 (thrP p q b).2≠lo*(thrP p q b).2∧F (U p) (U q) (thrP p q b).1 (thrP p q b).2≠hi*(thrP p q b).2)
 tz:∀p q,inB b p=false→IsPl (thrP p q b).1 (thrP p q b).2→F (S p) (S q) (thrP p q b).1 (thrP p q b).2=0→(F (U p) (U q) (thrP p q b).1 (thrP p q b).2=lo*(thrP p q b).2∨F (U p) (U q) (thrP p q b).1 (thrP p q b).2=hi*(thrP p q b).2)→thr p q b=0
 tp:∀p q,inB b p=false→IsPl (thrP p q b).1 (thrP p q b).2→0<F (S p) (S q) (thrP p q b).1 (thrP p q b).2→F (S p) (S q) (thrP p q b).1 (thrP p q b).2<D*(thrP p q b).2→(F (U p) (U q) (thrP p q b).1 (thrP p q b).2=lo*(thrP p q b).2∨F (U p) (U q) (thrP p q b).1 (thrP p q b).2=hi*(thrP p q b).2)→thr p q b≠0
 t0:∀p q,inB b p=true→thr p q b=0
 g0:g≠0
 ext:∀p q,U p=U q→S p=S q→p=q
 m1:∀p q,S p<0→0<S q→mt p q=R p q (-S p) (S q-S p)
 m2:∀p q,0<S p→S q<0→mt p q=R p q (S p) (S p-S q)
section
variable {b:Bx4}{g:Int}{U S:Pt→Int}{lo hi D:Int}{mt:Pt→Pt→Pt}(V:View b g U S lo hi D mt)
include V
theorem View.near0{p q:Pt}{n m:Int}(hp:IsPl n m)(h:F (S p) (S q) n m=0):S (R p q n m)=0:=by
 obtain⟨h1,h2⟩:=V.sr p q n m hp;have hm:=hp.2.2;rw[h]at h1 h2
 have k1 : -1<S (R p q n m):=by
  rcases Int.lt_or_le (-1) (S (R p q n m))with k|k
  ·exact k
  ·have:=mul_nn (show 0≤-1-S (R p q n m) by omega) (Int.le_of_lt hm)
   grind
 have k2:S (R p q n m)<1:=by
  rcases Int.lt_or_le (S (R p q n m)) 1 with k|k
  ·exact k
  ·have:=mul_nn (show 0≤S (R p q n m)-1 by omega) (Int.le_of_lt hm)
   grind
 omega
theorem View.back{p q:Pt}{n m:Int}(h:Fst p q b n m)(hn:0<n) :
  ¬((0<F (S p) (S q) n m∨S q≤S p)∧(F (S p) (S q) n m<D*m∨S p≤S q)∧(lo*m<F (U p) (U q) n m∨U q≤U p)∧(F (U p) (U q) n m<hi*m∨U p≤U q)):=by
 intro ⟨h1,h2,h3,h4⟩;obtain⟨p1,p2,p3⟩:=h.pl;obtain⟨i1,i2,i3,i4⟩:=(V.inp _ _ _ _).1 h.here;obtain⟨K,hK1,hK2,hK3,hK4,hK5⟩:∃K:Int,1≤K∧S q-S p≤K∧S p-S q≤K∧U q-U p≤K∧U p-U q≤K:=⟨1+(S q-S p).natAbs+(U q-U p).natAbs,by omega,by omega,by omega,by omega,by omega⟩;have key:∀a a':Int,F a a' (n*K-1) (m*K)=F a a' n m*K-(a'-a):=by intro a a';unfold F;grind
 have low:∀a a' v:Int,v*m≤F a a' n m→(v*m<F a a' n m∨a'≤a)→a'-a≤K→v*(m*K)≤F a a' (n*K-1) (m*K):=by
  intro a a' v g1 g2 g3;rw[key]
  rcases g2 with g2|g2
  ·have:=mul_nn (show 0≤F a a' n m-v*m-1 by omega) (show 0≤K by omega)
   grind
  ·have:=mul_nn (show 0≤F a a' n m-v*m by omega) (show 0≤K by omega)
   grind
 have high:∀a a' v:Int,F a a' n m≤v*m→(F a a' n m<v*m∨a≤a')→a-a'≤K→F a a' (n*K-1) (m*K)≤v*(m*K):=by
  intro a a' v g1 g2 g3;rw[key]
  rcases g2 with g2|g2
  ·have:=mul_nn (show 0≤v*m-F a a' n m-1 by omega) (show 0≤K by omega)
   grind
  ·have:=mul_nn (show 0≤v*m-F a a' n m by omega) (show 0≤K by omega)
   grind
 have hmK:0<m*K:=Int.mul_pos p3 (by omega);have hnK:0<n*K:=Int.mul_pos hn (by omega);have hle:n*K≤m*K:=Int.mul_le_mul_of_nonneg_right p2 (by omega);have hpl:IsPl (n*K-1) (m*K):=⟨by omega,by omega,hmK⟩;have:=h.least _ _ hpl ((V.inp _ _ _ _).2 ⟨by have:=low (S p) (S q) 0 (by omega) (by simpa using h1) hK2;simpa using this,high _ _ _ i2 h2 hK3,low _ _ _ i3 h3 hK4,high _ _ _ i4 h4 hK5⟩)
 grind
theorem View.first_pos{p q:Pt}{n m:Int}(h:Fst p q b n m)(hp:inB b p=false):0<n:=by
 obtain⟨p1,p2,p3⟩:=h.pl
 rcases Int.lt_or_le 0 n with k|k
 ·exact k
 ·exfalso
  have:n=0:=by omega
  subst this;obtain⟨i1,i2,i3,i4⟩:=(V.inp _ _ _ _).1 h.here;have e:∀a a':Int,F a a' 0 m=a*m:=by intro a a';unfold F;grind
  rw[e]at i1 i2 i3 i4
  have:inB b p=true:=(V.inb p).2 ⟨by
    rcases Int.lt_or_le (S p) 0 with k|k
    ·have:=Int.mul_pos (show 0 < - S p by omega) p3;grind
    ·exact k,Int.le_of_mul_le_mul_right i2 p3,Int.le_of_mul_le_mul_right i3 p3,Int.le_of_mul_le_mul_right i4 p3⟩
  rw[hp]at this;cases this
theorem View.pl0{p:Pt}(q:Pt)(hp:inB b p=true):Fst p q b 0 1:=by
 obtain⟨i1,i2,i3,i4⟩:=(V.inb p).1 hp;have e:∀a a':Int,F a a' 0 1=a:=by intro a a';unfold F;grind
 refine⟨⟨by decide,by decide,by decide⟩,(V.inp _ _ _ _).2 ?_,fun n' m' hp _=>by have:=hp.1;omega⟩;rw[e,e];omega
theorem View.pl1(p:Pt){q:Pt}(hq:inB b q=true):InP p q b 1 1:=by
 obtain⟨i1,i2,i3,i4⟩:=(V.inb q).1 hq;have e:∀a a':Int,F a a' 1 1=a':=by intro a a';unfold F;grind
 refine(V.inp _ _ _ _).2 ?_;rw[e,e];omega
theorem View.ent_in{p q c:Pt}(hp:inB b p=true)(h:Ent b p q c):c=p:=by
 rw[h.fst (V.pl0 q hp),R_zero (by decide)]
theorem View.from_out{p q c:Pt}(hs:S p<0)(h:Ent b p q c):0≤S q∧(S q=0→c=q∧inB b q=true):=by
 obtain⟨n,m,h1,rfl⟩:=h;obtain⟨i1,i2,i3,i4⟩:=(V.inp _ _ _ _).1 h1.here;obtain⟨p1,p2,p3⟩:=h1.pl;rw[F_lin]at i1
 have hpos:0<S p*(-m):=by
  have:=Int.mul_pos (show 0 < - S p by omega) p3;grind
 have key:0≤S q:=by
  rcases Int.lt_or_le (S q) 0 with k|k
  ·have k1:=mul_nn p1 (show 0≤- S q by omega)
   have k2:=mul_nn (show 0≤m-n by omega) (show 0≤- S p by omega)
   rcases Int.lt_or_le 0 n with g|g
   ·have:=Int.mul_pos g (show 0 < - S q by omega)
    grind
   ·have:n=0:=by omega
    subst this;grind
  ·exact k
 refine⟨key,fun h0=>?_⟩;rw[h0]at i1
 have hnm:n=m:=by
  rcases Int.lt_or_le n m with g|g
  ·have:=Int.mul_pos (show 0<m-n by omega) (show 0 < - S p by omega)
   grind
  ·omega
 subst hnm;refine⟨R_one p3,?_⟩;have e:∀a a':Int,F a a' n n=a'*n:=by intro a a';unfold F;grind
 rw[e]at i2 i3 i4;exact(V.inb _).2 ⟨key,Int.le_of_mul_le_mul_right i2 p3,Int.le_of_mul_le_mul_right i3 p3,Int.le_of_mul_le_mul_right i4 p3⟩
theorem View.thr_g{p q c:Pt}(hp:inB b p=false)(h:Ent b p q c)(hg:thr p q b=g) :
  S p<0∧0≤S q∧S c=0∧(0<S q→c=mt p q)∧(S q=0→c=q∧inB b q=true∧lo<U q∧U q<hi):=by
 have hf:=h.thr;obtain⟨g1,g2,g3⟩:=(V.tg p q hp hf.pl).1 hg;have hc:=h.fst hf;have hn:=V.first_pos hf hp;generalize (thrP p q b).1=n at *;generalize (thrP p q b).2=m at *;obtain⟨i1,i2,i3,i4⟩:=(V.inp _ _ _ _).1 hf.here;obtain⟨p1,p2,p3⟩:=hf.pl;have hD:0<D*m:=Int.mul_pos V.hD p3;have hback:=V.back hf hn
 have hS:S p<0:=by
  rcases Int.lt_or_le (S p) 0 with k|k
  ·exact k
  ·exfalso
   apply hback;refine⟨Or.inr ?_,Or.inl (by omega),Or.inl (by omega),Or.inl (by omega)⟩
   rcases Int.lt_or_le (S p) (S q)with k2|k2
   ·rw[F_lin]at g1
    have:=mul_nn k (Int.le_of_lt p3);have:=Int.mul_pos hn (show 0<S q-S p by omega);grind
   ·exact k2
 obtain⟨q1,q2⟩:=V.from_out hS h;have hSc:S c=0:=by rw[hc];exact V.near0 hf.pl g1
 refine⟨hS,q1,hSc,fun hq=>?_,fun hq=>?_⟩
 ·rw[hc,V.m1 p q hS hq]
  exact R_cong p3 (by omega) (F_zero_at hS hq g1)
 ·obtain⟨e1,e2⟩:=q2 hq
  obtain⟨j1,j2,j3,j4⟩:=(V.inb q).1 e2
  have hnm:n=m:=by
   rw[hq]at g1;unfold F at g1;have:(m-n)*S p=0:=by grind
   rcases Int.mul_eq_zero.1 this with k|k
   ·omega
   ·omega
  subst hnm;have e:F (U p) (U q) n n=U q*n:=by unfold F;grind
  rw[e]at g2 g3;exact⟨e1,e2,by rcases Int.lt_or_le lo (U q)with k|k;exact k;exact absurd (by rw[show U q=lo by omega]) g2,by rcases Int.lt_or_le (U q) hi with k|k;exact k;exact absurd (by rw[show U q=hi by omega]) g3⟩
theorem View.cross{p q:Pt}(h1:S p<0)(h2:0<S q)(h3:lo<U (mt p q))(h4:U (mt p q)<hi):Ent b p q (mt p q)∧thr p q b=g∧inB b p=false:=by
 have hpl:=cross_pl h1 h2;have hm:=hpl.2.2
 have hout:inB b p=false:=by
  cases hb:inB b p
  ·rfl
  ·have:=(V.inb p).1 hb
   omega
 rw[V.m1 p q h1 h2]at h3 h4 ⊢;rw[V.ur _ _ _ _ hpl]at h3 h4;obtain⟨k1,k2⟩:=rh_inner hm h3 h4;have hin:InP p q b (-S p) (S q-S p):=(V.inp _ _ _ _).2 ⟨by rw[cross_F];omega,by rw[cross_F];exact mul_nn (Int.le_of_lt V.hD) (Int.le_of_lt hm),by omega,by omega⟩
 have hf:Fst p q b (-S p) (S q-S p):=by
  refine⟨hpl,hin,fun n' m' hp' hi'=>?_⟩;have:=((V.inp _ _ _ _).1 hi').1;unfold F at this;grind
 refine⟨⟨_,_,hf,rfl⟩,?_,hout⟩;have ht:=thr_first hpl hin;have he:=hf.eq ht;rw[V.tg p q hout ht.pl];generalize (thrP p q b).1=n at *;generalize (thrP p q b).2=m at *;have hm':=ht.pl.2.2;have e:=@F_cong (S p) (S q) _ _ _ _ he;rw[cross_F,Int.zero_mul]at e;have e2:=@F_cong (U p) (U q) _ _ _ _ he;refine⟨?_,fun k=>?_,fun k=>?_⟩
 ·rcases Int.mul_eq_zero.1 e.symm with k|k
  ·exact k
  ·omega
 ·rw[k]at e2
  have:=Int.mul_lt_mul_of_pos_right k1 hm';grind
 ·rw[k]at e2
  have:=Int.mul_lt_mul_of_pos_right k2 hm';grind
theorem View.touch{p q:Pt}(h1:S p<0)(h2:S q=0)(hq:inB b q=true):Ent b p q q∧inB b p=false∧(lo<U q→U q<hi→thr p q b=g)∧(U q=lo∨U q=hi→thr p q b=0):=by
 have hout:inB b p=false:=by
  cases hb:inB b p
  ·rfl
  ·have:=(V.inb p).1 hb
   omega
 have hin:=V.pl1 p hq;have hpl:IsPl 1 1:=⟨by decide,by decide,by decide⟩;obtain⟨c,hc⟩:=Ent.ex hpl hin;have hcq:=((V.from_out h1 hc).2 h2).1;subst hcq;have hf:=hc.thr
 have hnm:(thrP p c b).1=(thrP p c b).2:=by
  obtain⟨i1,i2,i3,i4⟩:=(V.inp _ _ _ _).1 hf.here;obtain⟨p1,p2,p3⟩:=hf.pl;rw[h2]at i1;unfold F at i1
  rcases Int.lt_or_le (thrP p c b).1 (thrP p c b).2 with k|k
  ·have:=Int.mul_pos (show 0<(thrP p c b).2-(thrP p c b).1 by omega) (show 0 < - S p by omega)
   grind
  ·omega
 have e:∀a a':Int,F a a' (thrP p c b).1 (thrP p c b).2=a'*(thrP p c b).2:=by intro a a';rw[hnm];unfold F;grind
 have hm:=hf.pl.2.2;refine⟨hc,hout,fun k1 k2=>?_,fun k=>?_⟩
 ·rw[V.tg p c hout hf.pl,e,e,h2]
  refine⟨by omega,fun k=>?_,fun k=>?_⟩
  ·have:=Int.eq_of_mul_eq_mul_right (by omega) k;omega
  ·have:=Int.eq_of_mul_eq_mul_right (by omega) k;omega
 ·apply V.tz p c hout hf.pl
  ·rw[e,h2];omega
  ·rw[e]
   rcases k with k|k<;>rw[k]
   ·exact Or.inl rfl
   ·exact Or.inr rfl
theorem View.beside{p q c:Pt}(hp:inB b p=false)(hs:0≤S p)(h:Ent b p q c):thr p q b≠g ∧
  (S c=0→(U c=lo∨U c=hi)∧(thr p q b≠0→0≤S q→0<S p→c≠q)∧(0<S p→thr p q b=0→S q=0→c=q)∧(0<S p→thr p q b=0→S q<0→c=mt p q)∧(S p=0→S q=0→thr p q b=0)):=by
 have hne:thr p q b≠g:=fun hg=>by have:=(V.thr_g hp h hg).1;omega
 refine⟨hne,fun hc0=>?_⟩;have hf:=h.thr;have htp:=V.tp p q hp hf.pl;have htz:=V.tz p q hp hf.pl;have htg:=V.tg p q hp hf.pl;have hc:=h.fst hf;have hn:=V.first_pos hf hp;generalize (thrP p q b).1=n at *;generalize (thrP p q b).2=m at *;obtain⟨i1,i2,i3,i4⟩:=(V.inp _ _ _ _).1 hf.here;have hpl:=hf.pl;obtain⟨p1,p2,p3⟩:=hf.pl;have hback:=V.back hf hn;obtain⟨r1,r2⟩:=V.sr p q n m hpl;rw[←hc,hc0]at r1 r2
 have hDm:m≤D*m:=by
  have:=mul_nn (show 0≤D-1 by have:=V.hD;omega) (Int.le_of_lt p3);grind
 have hSD:F (S p) (S q) n m<D*m:=by omega
 have hU:F (U p) (U q) n m=lo*m∨F (U p) (U q) n m=hi*m:=by
  rcases Int.lt_or_le (lo*m) (F (U p) (U q) n m)with k1|k1
  ·rcases Int.lt_or_le (F (U p) (U q) n m) (hi*m)with k2|k2
   ·exfalso
    rcases Int.lt_or_le 0 (F (S p) (S q) n m)with k3|k3
    ·exact hback ⟨Or.inl k3,Or.inl hSD,Or.inl k1,Or.inl k2⟩
    ·exact hne (htg.2 ⟨by omega,by omega,by omega⟩)
   ·right;omega
  ·left;omega
 have hUc:U c=lo∨U c=hi:=by
  rw[hc,V.ur _ _ _ _ hpl]
  rcases hU with k|k<;>rw[k,rh_int p3]
  ·exact Or.inl rfl
  ·exact Or.inr rfl
 refine⟨hUc,fun hz hq hpos hcq=>?_,fun hpos hz hq=>?_,fun hpos hz hq=>?_,fun h1 h2=>?_⟩
 ·
  have hpos2:0<F (S p) (S q) n m:=by
   rcases Int.lt_or_le 0 (F (S p) (S q) n m)with k|k
   ·exact k
   ·exact absurd (htz (by omega) hU) hz
  subst hcq
  have hUu:(m-n)*(U p-U c)=0:=by
   have e:=V.ur p c n m hpl;rw[←hc]at e
   rcases hU with k|k<;>rw[k,rh_int p3]at e<;>rw[e]<;>rw[e]at k<;>unfold F at k<;>grind
  rcases Int.mul_eq_zero.1 hUu with k|k
  ·have:n=m:=by omega
   subst this;rw[hc0]at hpos2;unfold F at hpos2;grind
  ·
   apply hback;refine⟨Or.inr (by omega),Or.inl hSD,Or.inr (by omega),Or.inr (by omega)⟩
 ·have hz2:F (S p) (S q) n m=0:=by
   rcases Int.lt_or_le 0 (F (S p) (S q) n m)with k|k
   ·exact absurd hz (htp k hSD hU)
   ·omega
  rw[hq]at hz2;unfold F at hz2;have:S p*(m-n)=0:=by grind
  rcases Int.mul_eq_zero.1 this with k|k
  ·omega
  ·have:n=m:=by omega
   subst this;rw[hc,R_one p3]
 ·have hz2:F (S p) (S q) n m=0:=by
   rcases Int.lt_or_le 0 (F (S p) (S q) n m)with k|k
   ·exact absurd hz (htp k hSD hU)
   ·omega
  rw[hc,V.m2 p q hpos hq];apply R_cong p3 (by omega);unfold F at hz2;grind
 ·apply htz _ hU
  rw[h1,h2];unfold F;omega
theorem View.along{p q c:Pt}(h1:S p=0)(h2:S q=0)(h:Ent b p q c):S c=0:=by
 obtain⟨n,m,h3,rfl⟩:=h;apply V.near0 h3.pl;rw[h1,h2];unfold F;omega
theorem View.mt_rev{p q:Pt}(h:S p<0∧0<S q∨0<S p∧S q<0):mt p q=mt q p:=by
 rcases h with⟨h1,h2⟩|⟨h1,h2⟩
 ·rw[V.m1 p q h1 h2,V.m2 q p h2 h1,←R_rev]
  rw[show S q-S p - -S p=S q by omega]
 ·rw[V.m2 p q h1 h2,V.m1 q p h2 h1,←R_rev]
  rw[show S p-S q-S p=- S q by omega]
theorem View.clip_in{p q:Pt}(hp:inB b p=true):∃d,clipS p q b=some (p,d)∧Ent b q p d:=by
 have h0:=V.pl0 q hp;cases hc:clipS p q b with
 | none=>exact absurd h0.here (clip_none V.bx V.bY hc _ _ h0.pl)
 | some x=>
  obtain⟨c,d⟩:=x;obtain⟨h1,h2⟩:=clip_ent V.bx V.bY hc;rw[V.ent_in hp h1];exact⟨d,rfl,h2⟩
omit V in
theorem Ent.eq{c d p q:Pt}(h:Ent b p q c)(h':Ent b p q d):c=d:=by
 obtain⟨n,m,h1,h2⟩:=h';rw[h2];exact h.fst h1
theorem View.no_rev{p q:Pt}(h:clipS p q b=none)(c:Pt):¬Ent b q p c:=by
 intro ⟨n,m,h1,_⟩;exact clip_none V.bx V.bY h _ _ h1.pl.rev (InP_rev.2 h1.here)
end
end Go.Proofs.Ed
namespace Go.Proofs.Ed
open Go.Proofs
theorem nearR{a b n m:Int}(hp:IsPl n m):2*F a b n m-m≤2*m*rh (F a b n m) m∧2*m*rh (F a b n m) m≤2*F a b n m+m:=by
 obtain⟨h1,h2⟩:=rh_spec (a:=F a b n m) hp.2.2;rw[Int.mul_add]at h2;omega
theorem F_sub{a b v n m:Int}:F (a-v) (b-v) n m=F a b n m-v*m:=by unfold F;grind
theorem F_sub'{a b v n m:Int}:F (v-a) (v-b) n m=v*m-F a b n m:=by unfold F;grind
theorem atX_R{p q:Pt}{v n m:Int}(hp:IsPl n m)(hne:p.1≠q.1)(h:F p.1 q.1 n m=v*m):(v,atX p q v)=R p q n m:=by
 obtain⟨p1,p2,p3⟩:=hp
 have hr:(reachS p.1 (q.1-p.1) v).2=true:=by
  unfold reachS;have e:v*m=p.1*m+n*(q.1-p.1):=by rw[←h,F_lin]
  have:min p.1 (p.1+(q.1-p.1))≤v∧v≤max p.1 (p.1+(q.1-p.1)):=by
   have e2:v*m=q.1*m-(m-n)*(q.1-p.1):=by grind
   rcases Int.lt_or_le p.1 q.1 with k|k
   ·have k1:=mul_nn p1 (show 0≤q.1-p.1 by omega)
    have k2:=mul_nn (show 0≤m-n by omega) (show 0≤q.1-p.1 by omega);have:=Int.le_of_mul_le_mul_right (show p.1*m≤v*m by omega) p3;have:=Int.le_of_mul_le_mul_right (show v*m≤q.1*m by omega) p3;omega
   ·have k1:=mul_nn p1 (show 0≤p.1-q.1 by omega)
    have k2:=mul_nn (show 0≤m-n by omega) (show 0≤p.1-q.1 by omega);have:=Int.le_of_mul_le_mul_right (show v*m≤p.1*m by grind) p3;have:=Int.le_of_mul_le_mul_right (show q.1*m≤v*m by grind) p3;omega
  rw[if_pos this]
 rw[reach_atX (by omega) hr];obtain⟨⟨q1,q2,q3⟩,h4,h5⟩:=reach_in (by omega) hr;apply R_cong q3 p3;generalize (reachS p.1 (q.1-p.1) v).1.1=x at *;generalize (reachS p.1 (q.1-p.1) v).1.2=y at *;rw[F_lin]at h;apply Int.eq_of_mul_eq_mul_right (show q.1-p.1≠0 by omega);grind
theorem atY_R{p q:Pt}{v n m:Int}(hp:IsPl n m)(hne:p.2≠q.2)(h:F p.2 q.2 n m=v*m):(atY p q v,v)=R p q n m:=by
 have:=atX_R (p:=(p.2,p.1)) (q:=(q.2,q.1)) hp hne h;unfold R at *;simp only[Prod.mk.injEq]at *;exact⟨this.2,this.1⟩
theorem hit_iff{s:Int×Int}{a a' v:Int}:hit s a (a'-a) v=decide (F a a' s.1 s.2=v*s.2):=by
 unfold hit;rw[F_lin]
 congr 1
 rw[Int.mul_comm (a'-a) s.1]
theorem inB_iff{b:Bx4}{p:Pt}:inB b p=true↔b.x0≤p.1∧p.1≤b.x1∧b.y0≤p.2∧p.2≤b.y1:=by
 unfold inB;simp[and_assoc]
theorem thr_eq{p q:Pt}{b:Bx4}(h:inB b p=false):thr p q b=oneOf (decide (F p.1 q.1 (thrP p q b).1 (thrP p q b).2=b.x0*(thrP p q b).2)) (decide (F p.2 q.2 (thrP p q b).1 (thrP p q b).2=b.y0*(thrP p q b).2))
  (decide (F p.1 q.1 (thrP p q b).1 (thrP p q b).2=b.x1*(thrP p q b).2)) (decide (F p.2 q.2 (thrP p q b).1 (thrP p q b).2=b.y1*(thrP p q b).2)):=by
 unfold thr;rw[h];simp only[hit_iff];simp
theorem two_lines{a u v m:Int}(h:u<v)(hm:0<m)(h1:a=u*m)(h2:a=v*m):False:=by
 have:=Int.mul_lt_mul_of_pos_right h hm;omega
theorem one1{h1 h2 h3 h4:Bool}:(oneOf h1 h2 h3 h4=1↔h1=true∧h2=false∧h3=false∧h4=false)∧(oneOf h1 h2 h3 h4=2↔h1=false∧h2=true∧h3=false∧h4=false) ∧
  (oneOf h1 h2 h3 h4=3↔h1=false∧h2=false∧h3=true∧h4=false)∧(oneOf h1 h2 h3 h4=4↔h1=false∧h2=false∧h3=false∧h4=true):=by
 cases h1<;>cases h2<;>cases h3<;>cases h4<;>decide
theorem one0{h1 h2 h3 h4:Bool}:oneOf h1 h2 h3 h4≠0↔(h1=true∧h2=false∧h3=false∧h4=false)∨(h1=false∧h2=true∧h3=false∧h4=false) ∨
  (h1=false∧h2=false∧h3=true∧h4=false)∨(h1=false∧h2=false∧h3=false∧h4=true):=by
 cases h1<;>cases h2<;>cases h3<;>cases h4<;>decide
theorem view1(b:Bx4)(hx:b.x0<b.x1)(hy:b.y0<b.y1):View b 1 (fun p=>p.2) (fun p=>p.1-b.x0) b.y0 b.y1 (b.x1-b.x0) (fun p q=>(b.x0,atX p q b.x0)) where
 hD:=by omega
 hl:=hy
 bx:=by omega
 bY:=by omega
 inb p:=by rw[inB_iff];omega
 inp p q n m:=by unfold InP;rw[F_sub];grind
 ur p q n m h:=rfl
 sr p q n m h:=by
  have:=nearR (a:=p.1) (b:=q.1) h;rw[F_sub];unfold R;grind
 tg p q h hp:=by
  rw[thr_eq h,one1.1,F_sub];simp only[decide_eq_true_eq,decide_eq_false_iff_not];have:=two_lines (a:=F p.1 q.1 (thrP p q b).1 (thrP p q b).2) hx hp.2.2;grind
 tz p q h hp h1 h2:=by
  rw[thr_eq h];rw[F_sub]at h1
  rcases Decidable.em (oneOf (decide (F p.1 q.1 (thrP p q b).1 (thrP p q b).2=b.x0*(thrP p q b).2)) (decide (F p.2 q.2 (thrP p q b).1 (thrP p q b).2=b.y0*(thrP p q b).2))
  (decide (F p.1 q.1 (thrP p q b).1 (thrP p q b).2=b.x1*(thrP p q b).2)) (decide (F p.2 q.2 (thrP p q b).1 (thrP p q b).2=b.y1*(thrP p q b).2))=0)with k|k
  ·exact k
  ·rw[←ne_eq,one0]at k
   simp only[decide_eq_true_eq,decide_eq_false_iff_not]at k;grind
 tp p q h hp h1 h2 h3:=by
  rw[thr_eq h,one0];rw[F_sub]at h1 h2;simp only[decide_eq_true_eq,decide_eq_false_iff_not];have:=two_lines (a:=F p.2 q.2 (thrP p q b).1 (thrP p q b).2) hy hp.2.2;grind
 t0 p q h:=by unfold thr;rw[if_pos h]
 g0:=by decide
 ext p q h1 h2:=Prod.ext (by omega) h1
 m1 p q h1 h2:=by
  apply atX_R (cross_pl h1 h2) (by omega);have:=@cross_F (p.1-b.x0) (q.1-b.x0);rw[F_sub]at this;grind
 m2 p q h1 h2:=by
  have hp:=cross_pl h2 h1;have:IsPl (p.1-b.x0) (p.1-b.x0-(q.1-b.x0)):=⟨by omega,by omega,by omega⟩;apply atX_R this (by omega);unfold F;grind
theorem view2(b:Bx4)(hx:b.x0<b.x1)(hy:b.y0<b.y1):View b 2 (fun p=>p.1) (fun p=>p.2-b.y0) b.x0 b.x1 (b.y1-b.y0) (fun p q=>(atY p q b.y0,b.y0)) where
 hD:=by omega
 hl:=hx
 bx:=by omega
 bY:=by omega
 inb p:=by rw[inB_iff];omega
 inp p q n m:=by unfold InP;rw[F_sub];grind
 ur p q n m h:=rfl
 sr p q n m h:=by
  have:=nearR (a:=p.2) (b:=q.2) h;rw[F_sub];unfold R;grind
 tg p q h hp:=by
  rw[thr_eq h,one1.2.1,F_sub];simp only[decide_eq_true_eq,decide_eq_false_iff_not];have:=two_lines (a:=F p.2 q.2 (thrP p q b).1 (thrP p q b).2) hy hp.2.2;grind
 tz p q h hp h1 h2:=by
  rw[thr_eq h];rw[F_sub]at h1
  rcases Decidable.em (oneOf (decide (F p.1 q.1 (thrP p q b).1 (thrP p q b).2=b.x0*(thrP p q b).2)) (decide (F p.2 q.2 (thrP p q b).1 (thrP p q b).2=b.y0*(thrP p q b).2))
  (decide (F p.1 q.1 (thrP p q b).1 (thrP p q b).2=b.x1*(thrP p q b).2)) (decide (F p.2 q.2 (thrP p q b).1 (thrP p q b).2=b.y1*(thrP p q b).2))=0)with k|k
  ·exact k
  ·rw[←ne_eq,one0]at k
   simp only[decide_eq_true_eq,decide_eq_false_iff_not]at k;grind
 tp p q h hp h1 h2 h3:=by
  rw[thr_eq h,one0];rw[F_sub]at h1 h2;simp only[decide_eq_true_eq,decide_eq_false_iff_not];have:=two_lines (a:=F p.1 q.1 (thrP p q b).1 (thrP p q b).2) hx hp.2.2;grind
 t0 p q h:=by unfold thr;rw[if_pos h]
 g0:=by decide
 ext p q h1 h2:=Prod.ext h1 (by omega)
 m1 p q h1 h2:=by
  apply atY_R (cross_pl h1 h2) (by omega);have:=@cross_F (p.2-b.y0) (q.2-b.y0);rw[F_sub]at this;grind
 m2 p q h1 h2:=by
  have hp:=cross_pl h2 h1;have:IsPl (p.2-b.y0) (p.2-b.y0-(q.2-b.y0)):=⟨by omega,by omega,by omega⟩;apply atY_R this (by omega);unfold F;grind
theorem view3(b:Bx4)(hx:b.x0<b.x1)(hy:b.y0<b.y1):View b 3 (fun p=>p.2) (fun p=>b.x1-p.1) b.y0 b.y1 (b.x1-b.x0) (fun p q=>(b.x1,atX p q b.x1)) where
 hD:=by omega
 hl:=hy
 bx:=by omega
 bY:=by omega
 inb p:=by rw[inB_iff];omega
 inp p q n m:=by unfold InP;rw[F_sub'];grind
 ur p q n m h:=rfl
 sr p q n m h:=by
  have:=nearR (a:=p.1) (b:=q.1) h;rw[F_sub'];unfold R;grind
 tg p q h hp:=by
  rw[thr_eq h,one1.2.2.1,F_sub'];simp only[decide_eq_true_eq,decide_eq_false_iff_not];have:=two_lines (a:=F p.1 q.1 (thrP p q b).1 (thrP p q b).2) hx hp.2.2;grind
 tz p q h hp h1 h2:=by
  rw[thr_eq h];rw[F_sub']at h1
  rcases Decidable.em (oneOf (decide (F p.1 q.1 (thrP p q b).1 (thrP p q b).2=b.x0*(thrP p q b).2)) (decide (F p.2 q.2 (thrP p q b).1 (thrP p q b).2=b.y0*(thrP p q b).2))
  (decide (F p.1 q.1 (thrP p q b).1 (thrP p q b).2=b.x1*(thrP p q b).2)) (decide (F p.2 q.2 (thrP p q b).1 (thrP p q b).2=b.y1*(thrP p q b).2))=0)with k|k
  ·exact k
  ·rw[←ne_eq,one0]at k
   simp only[decide_eq_true_eq,decide_eq_false_iff_not]at k;grind
 tp p q h hp h1 h2 h3:=by
  rw[thr_eq h,one0];rw[F_sub']at h1 h2;simp only[decide_eq_true_eq,decide_eq_false_iff_not];have:=two_lines (a:=F p.2 q.2 (thrP p q b).1 (thrP p q b).2) hy hp.2.2;grind
 t0 p q h:=by unfold thr;rw[if_pos h]
 g0:=by decide
 ext p q h1 h2:=Prod.ext (by omega) h1
 m1 p q h1 h2:=by
  apply atX_R (cross_pl h1 h2) (by omega);have:=@cross_F (b.x1-p.1) (b.x1-q.1);rw[F_sub']at this;grind
 m2 p q h1 h2:=by
  have hp:=cross_pl h2 h1;have:IsPl (b.x1-p.1) (b.x1-p.1-(b.x1-q.1)):=⟨by omega,by omega,by omega⟩;apply atX_R this (by omega);unfold F;grind
theorem view4(b:Bx4)(hx:b.x0<b.x1)(hy:b.y0<b.y1):View b 4 (fun p=>p.1) (fun p=>b.y1-p.2) b.x0 b.x1 (b.y1-b.y0) (fun p q=>(atY p q b.y1,b.y1)) where
 hD:=by omega
 hl:=hx
 bx:=by omega
 bY:=by omega
 inb p:=by rw[inB_iff];omega
 inp p q n m:=by unfold InP;rw[F_sub'];grind
 ur p q n m h:=rfl
 sr p q n m h:=by
  have:=nearR (a:=p.2) (b:=q.2) h;rw[F_sub'];unfold R;grind
 tg p q h hp:=by
  rw[thr_eq h,one1.2.2.2,F_sub'];simp only[decide_eq_true_eq,decide_eq_false_iff_not];have:=two_lines (a:=F p.2 q.2 (thrP p q b).1 (thrP p q b).2) hy hp.2.2;grind
 tz p q h hp h1 h2:=by
  rw[thr_eq h];rw[F_sub']at h1
  rcases Decidable.em (oneOf (decide (F p.1 q.1 (thrP p q b).1 (thrP p q b).2=b.x0*(thrP p q b).2)) (decide (F p.2 q.2 (thrP p q b).1 (thrP p q b).2=b.y0*(thrP p q b).2))
  (decide (F p.1 q.1 (thrP p q b).1 (thrP p q b).2=b.x1*(thrP p q b).2)) (decide (F p.2 q.2 (thrP p q b).1 (thrP p q b).2=b.y1*(thrP p q b).2))=0)with k|k
  ·exact k
  ·rw[←ne_eq,one0]at k
   simp only[decide_eq_true_eq,decide_eq_false_iff_not]at k;grind
 tp p q h hp h1 h2 h3:=by
  rw[thr_eq h,one0];rw[F_sub']at h1 h2;simp only[decide_eq_true_eq,decide_eq_false_iff_not];have:=two_lines (a:=F p.1 q.1 (thrP p q b).1 (thrP p q b).2) hx hp.2.2;grind
 t0 p q h:=by unfold thr;rw[if_pos h]
 g0:=by decide
 ext p q h1 h2:=Prod.ext h1 (by omega)
 m1 p q h1 h2:=by
  apply atY_R (cross_pl h1 h2) (by omega);have:=@cross_F (b.y1-p.2) (b.y1-q.2);rw[F_sub']at this;grind
 m2 p q h1 h2:=by
  have hp:=cross_pl h2 h1;have:IsPl (b.y1-p.2) (b.y1-p.2-(b.y1-q.2)):=⟨by omega,by omega,by omega⟩;apply atY_R this (by omega);unfold F;grind
end Go.Proofs.Ed
namespace Go.Proofs.Ed
open Go.Proofs
def cmpA:Pt→List Pt→List Pt
 | _,[]=>[]
 | p,q::r=>if p=q then cmpA p r else q::cmpA q r
def cmpL:List Pt→List Pt
 | []=>[]
 | p::r=>p::cmpA p r
theorem cmpA_app(p:Pt)(l:List Pt)(d:Pt):cmpA p (l++[d])=if (p::cmpA p l).getLast (by simp)=d then cmpA p l else cmpA p l++[d]:=by
 induction l generalizing p with
 | nil=>
  simp only[List.nil_append,cmpA,List.getLast_singleton]
  by_cases h:p=d<;>simp[h]
 | cons q r ih=>
  simp only[List.cons_append,cmpA]
  by_cases h:p=q
  ·subst h
   simp only[if_true];exact ih p
  ·simp only[if_neg h]
   rw[ih q];simp only[List.getLast_cons (List.cons_ne_nil _ _)];split<;>rfl
theorem cmp_app{P:List Pt}{l:Pt}(h:(cmpL P).getLast?=some l)(d:Pt):cmpL (P++[d])=if l=d then cmpL P else cmpL P++[d]:=by
 cases P with
 | nil=>cases h
 | cons p r=>
  simp only[cmpL,List.cons_append]at *;rw[List.getLast?_eq_some_getLast (by simp)]at h;injection h with h;rw[cmpA_app,h];split<;>rfl
theorem cmp_two(c d:Pt):cmpL [c,d]=if c=d then [c] else [c,d]:=by
 simp only[cmpL,cmpA];split<;>rfl
abbrev Pc:=List Pt×Int×Int
def fin:Option Pc→List Pc
 | none=>[]
 | some (P,E,L)=>if 1<(cmpL P).length then [(cmpL P,E,L)] else []
def pcF(b:Bx4):Pt→List Pt→Option Pc→List Pc
 | _,[],x=>fin x
 | p,q::r,x=>
  match clipS p q b with
  | none=>fin x++pcF b q r none
  | some (c,d)=>
   let y:Pc:=match x with
    | none=>([c,d],thr p q b,thr q p b)
    | some (P,E,_)=>(P++[d],E,thr q p b)
   if inB b q=true then pcF b q r (some y) else fin (some y)++pcF b q r none
abbrev Evt:=Int×Int
section
variable (g:Int)(U S:Pt→Int)(lo hi:Int)(mt:Pt→Pt→Pt)(nd:Pt→Bool)
def lead(C:List Pt):List Pt:=C.takeWhile fun p=>decide (S p=0)
def clo(p:Pt):Bool:=decide (U p≤lo)||decide (hi≤U p)||nd p
def opn(run:List Pt):Bool:=match run with
 | []=>false
 | p::r=>!clo U lo hi nd p&&!clo U lo hi nd ((p::r).getLast (by simp))
def ev(o:Int)(run:List Pt):List Evt:=if opn U lo hi nd run=true then [(U (run.getLast?.getD (0,0)),o)] else []
def entering(x:Pc):List Pt:=
 if x.2.1≠g then [] else
  let n:=(lead S x.1).length
  if n=x.1.length then (if x.2.2=0∨x.2.2=g then [] else if 1<n then x.1.take (n-1) else x.1.take n) else x.1.take n
def leaving(x:Pc):List Pt:=
 if x.2.2≠g then [] else
  let n:=x.1.length-(lead S x.1.reverse).length
  if n=0 then (if x.2.1=0∨x.2.1=g then [] else if 1<x.1.length then x.1.drop (n+1) else x.1.drop n) else x.1.drop n
def evs(x:Pc):List Evt:=ev U lo hi nd 0 (entering g S x)++ev U lo hi nd 1 (leaving g S x)
def exF:Option Pt→List Pt→List Pt→List Evt
 | _,_,[]=>[]
 | last,run,q::r=>
  if S q=0 then exF last (run++[q]) r
  else (match last with
   | none=>[]
   | some p=>if (0<S p∧S q<0)∨(S p<0∧0<S q) then ev U lo hi nd (if 0<S q then 0 else 1) (if run=[] then [mt p q] else run) else [])++exF (some q) [] r
end
def Good(U S:Pt→Int):List Pt→Prop
 | p::q::r=>p≠q∧(∀s,r.head?=some s→S p=0→S q=0→S s=0→0<(U q-U p)*(U s-U q))∧Good U S (q::r)
 | _=>True
section
variable {g:Int}{U S:Pt→Int}{lo hi:Int}{mt:Pt→Pt→Pt}{nd:Pt→Bool}
theorem ev_nil(o:Int):ev U lo hi nd o []=[]:=rfl
theorem ev_head{o:Int}{p:Pt}{r:List Pt}(h:U p≤lo∨hi≤U p):ev U lo hi nd o (p::r)=[]:=by
 unfold ev opn clo
 rcases h with h|h<;>simp[h]
theorem ev_last{o:Int}{r:List Pt}{p:Pt}(hl:r.getLast?=some p)(h:U p≤lo∨hi≤U p):ev U lo hi nd o r=[]:=by
 cases r with
 | nil=>rfl
 | cons x y=>
  rw[List.getLast?_eq_some_getLast (by simp)]at hl;injection hl with hl
  have hop:opn U lo hi nd (x::y)=false:=by
   unfold opn clo;simp only[hl]
   rcases h with h|h<;>simp[h]
  unfold ev;rw[hop];rfl
theorem ev_one{o:Int}{p:Pt}(h:¬(lo<U p∧U p<hi)):ev U lo hi nd o [p]=[]:=ev_head (by omega)
theorem lead_app_off{A B:List Pt}{x:Pt}(hx:S x≠0):lead S (A++x::B)=lead S (A++[x]):=by
 unfold lead
 induction A with
 | nil=>simp[hx]
 | cons a r ih=>
  simp only[List.cons_append,List.takeWhile_cons];split
  ·rw[ih]
  ·rfl
theorem lead_len_off{A B:List Pt}{x:Pt}(hx:S x≠0):(lead S (A++x::B)).length≤A.length:=by
 unfold lead
 induction A with
 | nil=>simp[hx]
 | cons a r ih=>
  simp only[List.cons_append,List.takeWhile_cons];split
  ·simp only[List.length_cons];omega
  ·simp
theorem lead_all{A:List Pt}(h:∀x∈A,S x=0):lead S A=A:=by
 unfold lead
 induction A with
 | nil=>rfl
 | cons a r ih=>
  rw[List.takeWhile_cons,if_pos (decide_eq_true (h a (List.mem_cons_self ..))),ih fun x hx=>h x (List.mem_cons_of_mem _ hx)]
theorem lead_run{A B:List Pt}{x:Pt}(h:∀x∈A,S x=0)(hx:S x≠0):lead S (A++x::B)=A:=by
 unfold lead;rw[List.takeWhile_append_of_pos (by intro y hy;exact decide_eq_true (h y hy))];simp[hx]
theorem lead_take(A:List Pt):A.take (lead S A).length=lead S A:=by
 unfold lead
 induction A with
 | nil=>rfl
 | cons a r ih=>
  simp only[List.takeWhile_cons];split
  ·simp[ih]
  ·simp
theorem ent_ne{P:List Pt}{E L:Int}(h:E≠g):entering g S (P,E,L)=[]:=by unfold entering;rw[if_pos h]
theorem lea_ne{P:List Pt}{E L:Int}(h:L≠g):leaving g S (P,E,L)=[]:=by unfold leaving;rw[if_pos h]
theorem ent_off{A B:List Pt}{x:Pt}{L:Int}(hx:S x≠0):entering g S (A++x::B,g,L)=lead S (A++[x]):=by
 unfold entering;rw[if_neg (by simp)];have:=lead_len_off (A:=A) (B:=B) hx;dsimp only;rw[if_neg (by simp only[List.length_append,List.length_cons];omega),lead_take,lead_app_off hx]
theorem ent_all0{A:List Pt}{L:Int}(h:∀x∈A,S x=0)(hL:L=0∨L=g):entering g S (A,g,L)=[]:=by
 unfold entering;rw[if_neg (by simp),lead_all h];dsimp only;rw[if_pos rfl,if_pos hL]
theorem ent_all1{A:List Pt}{d:Pt}{L:Int}(h:∀x∈A,S x=0)(hd:S d=0)(hA:A≠[])(h0:L≠0)(hg:L≠g):entering g S (A++[d],g,L)=A:=by
 have hall:∀x∈A++[d],S x=0:=by
  intro x hx
  rcases List.mem_append.1 hx with k|k
  ·exact h x k
  ·rw[List.mem_singleton.1 k];exact hd
 have:0<A.length:=List.length_pos_iff.2 hA;unfold entering;rw[if_neg (by simp),lead_all hall];dsimp only;rw[if_pos rfl,if_neg (by omega),if_pos (by simp;omega)];simp
theorem lea_off{A B:List Pt}{x:Pt}{E:Int}(hx:S x≠0)(hB:∀x∈B,S x=0):leaving g S (A++x::B,E,g)=B:=by
 unfold leaving;rw[if_neg (by simp)]
 have:lead S (A++x::B).reverse=B.reverse:=by
  rw[List.reverse_append,List.reverse_cons,List.append_assoc];exact lead_run (A:=B.reverse) (B:=A.reverse) (by intro y hy;exact hB y (List.mem_reverse.1 hy)) hx
 rw[this];dsimp only
 have:(A++x::B).length-B.reverse.length=A.length+1:=by
  simp only[List.length_append,List.length_cons,List.length_reverse];omega
 rw[this,if_neg (by omega)];rw[show A++x::B=(A++[x])++B by simp,show A.length+1=(A++[x]).length by simp,List.drop_left]
theorem lea_all0{A:List Pt}{E:Int}(h:∀x∈A,S x=0)(hE:E=0∨E=g):leaving g S (A,E,g)=[]:=by
 unfold leaving;rw[if_neg (by simp),lead_all (by intro y hy;exact h y (List.mem_reverse.1 hy))];dsimp only;rw[List.length_reverse,Nat.sub_self,if_pos rfl,if_pos hE]
theorem lea_all1{c:Pt}{A:List Pt}{E:Int}(h:∀x∈A,S x=0)(hc:S c=0)(hA:A≠[])(h0:E≠0)(hg:E≠g):leaving g S (c::A,E,g)=A:=by
 have hall:∀x∈c::A,S x=0:=by
  intro x hx
  rcases List.mem_cons.1 hx with k|k
  ·rw[k];exact hc
  ·exact h x k
 have:0<A.length:=List.length_pos_iff.2 hA;unfold leaving;rw[if_neg (by simp),lead_all (by intro y hy;exact hall y (List.mem_reverse.1 hy))];dsimp only;rw[List.length_reverse,Nat.sub_self,if_pos rfl,if_neg (by omega),if_pos (by simp;omega)];rfl
end
end Go.Proofs.Ed
namespace Go.Proofs.Ed
open Go.Proofs
section
variable (b:Bx4)(g:Int)(U S:Pt→Int)(lo hi:Int)(nd:Pt→Bool)
inductive St(prev:Option Pt)(p:Pt):Option Pc→Option Pt→List Pt→List Evt→Prop
 | off (h:S p≠0):St prev p none (some p) [] []
 | on0 (h:S p=0) (run:List Pt):St prev p none none run []
 | onC (h:S p=0) (hb:inB b p=false) (l r0:Pt) (r:List Pt) (hc:U r0≤lo∨hi≤U r0) (hl:(r0::r).getLast?=some p):St prev p none (some l) (r0::r) []
 | onD (h:S p=0) (hb:inB b p=false) (l:Pt) (run:List Pt) (u:Pt) (hu:S u=0) (hp:prev=some u) (ho:hi<U p∧U u<U p∨U p<lo∧U p<U u) (hl:run.getLast?=some p):St prev p none (some l) run []
 | inn (hb:inB b p=true) (h:0<S p) (P:List Pt) (E:Int) (C:List Pt) (hC:cmpL P=C++[p]):St prev p (some (P,E,0)) (some p) [] (if E=g then ev U lo hi nd 0 (lead S (C++[p])) else [])
 | t1 (hb:inB b p=true) (h:S p=0) (P:List Pt) (run:List Pt) (l:Pt) (hC:cmpL P=run) (ha:∀x∈run,S x=0) (hl:run.getLast?=some p) (hs:S l<0):St prev p (some (P,g,0)) (some l) run []
 | t2 (hb:inB b p=true) (h:S p=0) (P:List Pt) (E:Int) (pre:List Pt) (x:Pt) (run:List Pt) (l:Pt) (hC:cmpL P=pre++x::run) (hx:S x≠0) (ha:∀x∈run,S x=0) (hl:run.getLast?=some p) (hs:0<S l) :
   St prev p (some (P,E,0)) (some l) run (if E=g then ev U lo hi nd 0 (lead S (pre++[x])) else [])
 | t3 (hb:inB b p=true) (h:S p=0) (P:List Pt) (E:Int) (c:Pt) (run:List Pt) (l:Pt) (hC:cmpL P=c::run) (hc:S c=0) (h0:E≠0) (hg:E≠g) (ha:∀x∈run,S x=0) (hl:run.getLast?=some p) (hs:0<S l) :
   St prev p (some (P,E,0)) (some l) run []
 | t4 (hb:inB b p=true) (h:S p=0) (P C:List Pt) (last:Option Pt) (run:List Pt) (hC:cmpL P=C) (ha:∀x∈C,S x=0) (hl:C.getLast?=some p) (hr:last=none∨∃r0 r,run=r0::r∧(U r0≤lo∨hi≤U r0)) :
   St prev p (some (P,0,0)) last run []
end
section
variable {b:Bx4}{g:Int}{U S:Pt→Int}{lo hi D:Int}{mt:Pt→Pt→Pt}{nd:Pt→Bool}
abbrev evF(g:Int)(U S:Pt→Int)(lo hi:Int)(nd:Pt→Bool)(l:List Pc):List Evt:=l.flatMap (evs g U S lo hi nd)
theorem evF_app{l m:List Pc}:evF g U S lo hi nd (l++m)=evF g U S lo hi nd l++evF g U S lo hi nd m:=List.flatMap_append
theorem fin_evs{P C:List Pt}{E L:Int}{X:List Evt}(hC:cmpL P=C)(h1:1<C.length→ev U lo hi nd 0 (entering g S (C,E,L))++ev U lo hi nd 1 (leaving g S (C,E,L))=X)(h2:C.length≤1→X=[]) :
  evF g U S lo hi nd (fin (some (P,E,L)))=X:=by
 unfold fin;dsimp only;rw[hC]
 by_cases h:1<C.length
 ·rw[if_pos h,←h1 h]
  simp only[evF,List.flatMap_cons,List.flatMap_nil,List.append_nil];rfl
 ·rw[if_neg h,h2 (by omega)]
  rfl
theorem exF_cons(last:Option Pt)(run:List Pt)(q:Pt)(r:List Pt):exF U S lo hi mt nd last run (q::r)=if S q=0 then exF U S lo hi mt nd last (run++[q]) r
  else (match last with
   | none=>[]
   | some p=>if (0<S p∧S q<0)∨(S p<0∧0<S q) then ev U lo hi nd (if 0<S q then 0 else 1) (if run=[] then [mt p q] else run) else [])++exF U S lo hi mt nd (some q) [] r:=by
 cases last<;>rfl
theorem ex_on{last:Option Pt}{run r:List Pt}{q:Pt}(h:S q=0):exF U S lo hi mt nd last run (q::r)=exF U S lo hi mt nd last (run++[q]) r:=by
 rw[exF_cons,if_pos h]
theorem ex_none{run r:List Pt}{q:Pt}(h:S q≠0):exF U S lo hi mt nd none run (q::r)=exF U S lo hi mt nd (some q) [] r:=by
 rw[exF_cons,if_neg h];rfl
theorem ex_same{l:Pt}{run r:List Pt}{q:Pt}(h:0<S l∧0<S q∨S l<0∧S q<0):exF U S lo hi mt nd (some l) run (q::r)=exF U S lo hi mt nd (some q) [] r:=by
 rw[exF_cons,if_neg (by omega)];dsimp only;rw[if_neg (by omega)];rfl
theorem ex_in{l:Pt}{run r:List Pt}{q:Pt}(h:S l<0∧0<S q):exF U S lo hi mt nd (some l) run (q::r)=ev U lo hi nd 0 (if run=[] then [mt l q] else run)++exF U S lo hi mt nd (some q) [] r:=by
 rw[exF_cons,if_neg (by omega)];dsimp only;rw[if_pos (by omega),if_pos (by omega)]
theorem ex_out{l:Pt}{run r:List Pt}{q:Pt}(h:0<S l∧S q<0):exF U S lo hi mt nd (some l) run (q::r)=ev U lo hi nd 1 (if run=[] then [mt l q] else run)++exF U S lo hi mt nd (some q) [] r:=by
 rw[exF_cons,if_neg (by omega)];dsimp only;rw[if_pos (by omega),if_neg (by omega)]
theorem ex_closed{l:Option Pt}{run r:List Pt}{q:Pt}(h:S q≠0)(hr:run≠[])(hc:∀o,ev U lo hi nd o run=[]):exF U S lo hi mt nd l run (q::r)=exF U S lo hi mt nd (some q) [] r:=by
 rw[exF_cons,if_neg h];cases l with
 | none=>rfl
 | some l=>
  dsimp only;rw[if_neg hr,hc];split<;>rfl
theorem pc_none{p q:Pt}{r:List Pt}{x:Option Pc}(h:clipS p q b=none):pcF b p (q::r) x=fin x++pcF b q r none:=by
 rw[pcF,h]
theorem pc_new{p q c d:Pt}{r:List Pt}(h:clipS p q b=some (c,d)):pcF b p (q::r) none=if inB b q=true then pcF b q r (some ([c,d],thr p q b,thr q p b)) else fin (some ([c,d],thr p q b,thr q p b))++pcF b q r none:=by
 rw[pcF,h]
theorem pc_more{p q c d:Pt}{r P:List Pt}{E L:Int}(h:clipS p q b=some (c,d)):pcF b p (q::r) (some (P,E,L))=if inB b q=true then pcF b q r (some (P++[d],E,thr q p b)) else fin (some (P++[d],E,thr q p b))++pcF b q r none:=by
 rw[pcF,h]
abbrev IH(b:Bx4)(g:Int)(U S:Pt→Int)(lo hi:Int)(mt:Pt→Pt→Pt)(nd:Pt→Bool)(r:List Pt):Prop:=
 ∀prev p cur last run pend,St b g U S lo hi nd prev p cur last run pend→Good U S (prev.toList++p::r)→evF g U S lo hi nd (pcF b p r cur)=pend++exF U S lo hi mt nd last run r
structure Stp(U S:Pt→Int)(p q:Pt)(r:List Pt):Prop where
 ne:p≠q
 good:Good U S (p::q::r)
theorem View.out_on(V:View b g U S lo hi D mt){q:Pt}(h:S q=0)(hb:inB b q=false):U q<lo∨hi<U q:=by
 rcases Int.lt_or_le (U q) lo with k|k
 ·exact Or.inl k
 ·rcases Int.lt_or_le hi (U q)with k2|k2
  ·exact Or.inr k2
  ·have:=(V.inb q).2 ⟨by omega,by have:=V.hD;omega,k,k2⟩
   rw[hb]at this;cases this
theorem step_out(V:View b g U S lo hi D mt){prev:Option Pt}{p q:Pt}{r:List Pt}(ih:IH b g U S lo hi mt nd r)(hst:Stp U S p q r)(hp:S p<0) :
  evF g U S lo hi nd (pcF b p (q::r) none)=exF U S lo hi mt nd (some p) [] (q::r):=by
 have hpb:inB b p=false:=by
  cases hb:inB b p
  ·rfl
  ·have:=(V.inb p).1 hb;omega
 have hmt:∀h:0<S q,¬(thr p q b=g∧Ent b p q (mt p q))→ev U lo hi nd 0 [mt p q]=[]:=by
  intro h hn;apply ev_one;intro ⟨k1,k2⟩;obtain⟨e1,e2,e3⟩:=V.cross hp h k1 k2;exact hn ⟨e2,e1⟩
 cases hq:inB b q
 ·
  have fin_q:∀l run,St b g U S lo hi nd (some p) q none l run []→evF g U S lo hi nd (pcF b q r none)=exF U S lo hi mt nd l run r:=fun l run h=>ih (some p) _ _ _ _ _ h hst.good
  rcases Int.lt_trichotomy (S q) 0 with h|h|h
  ·rw[ex_same (Or.inr ⟨hp,h⟩)]
   cases hc:clipS p q b with
   | none=>rw[pc_none hc];exact fin_q _ _ (St.off (by omega))
   | some x=>
    obtain⟨c,d⟩:=x;have:=(V.from_out hp (clip_ent V.bx V.bY hc).1).1;omega
  ·rw[ex_on h]
   cases hc:clipS p q b with
   | none=>rw[pc_none hc];exact fin_q _ _ (St.onC h hq p q [] (by have:=V.out_on h hq;omega) rfl)
   | some x=>
    obtain⟨c,d⟩:=x;have:=((V.from_out hp (clip_ent V.bx V.bY hc).1).2 h).2;rw[hq]at this;cases this
  ·rw[ex_in ⟨hp,h⟩,if_pos rfl]
   have ihq:=fin_q _ _ (St.off (by omega));cases hc:clipS p q b with
   | none=>
    rw[pc_none hc,hmt h (fun k=>clip_no V.bx V.bY hc _ k.2)];exact ihq
   | some x=>
    obtain⟨c,d⟩:=x;obtain⟨e1,e2⟩:=clip_ent V.bx V.bY hc;rw[pc_new hc,hq];simp only[Bool.false_eq_true,if_false];rw[evF_app,ihq]
    congr 1
    obtain⟨b1,b2⟩:=V.beside hq (by omega) e2;refine fin_evs (cmp_two c d) ?_ ?_
    ·intro hlen
     have hcd:c≠d:=by intro k;rw[if_pos k]at hlen;simp at hlen
     rw[if_neg hcd,lea_ne b1,ev_nil,List.append_nil]
     by_cases hE:thr p q b=g
     ·obtain⟨f1,f2,f3,f4,f5⟩:=V.thr_g hpb e1 hE
      have f4:=f4 h;rw[hE]
      by_cases hd:S d=0
      ·obtain⟨g1,g2,g3,g4,g5⟩:=b2 hd
       have hL:thr q p b≠0:=by
        intro k;exact hcd (by rw[f4,g4 h k hp];exact V.mt_rev (Or.inl ⟨hp,h⟩))
       rw[show[c,d]=[c]++[d] from rfl,ent_all1 (by intro x hx;rw[List.mem_singleton.1 hx];exact f3) hd (by simp) hL b1,f4]
      ·rw[show[c,d]=[c]++d::[] from rfl,ent_off hd,lead_run (A:=[c]) (by intro x hx;rw[List.mem_singleton.1 hx];exact f3) hd,f4]
     ·rw[ent_ne hE,ev_nil,hmt h (fun k=>hE k.1)]
    ·intro hlen
     have hcd:c=d:=by
      rcases Decidable.em (c=d)with k|k
      ·exact k
      ·rw[if_neg k]at hlen;simp at hlen
     by_cases hE:thr p q b=g
     ·obtain⟨f1,f2,f3,f4,f5⟩:=V.thr_g hpb e1 hE
      have f4:=f4 h;obtain⟨g1,_⟩:=b2 (by rw[←hcd];exact f3);rw[←f4,hcd];exact ev_head (by omega)
     ·exact hmt h (fun k=>hE k.1)
 ·
  obtain⟨c,hc⟩:∃c,clipS p q b=some (c,q):=by
   cases hc:clipS p q b with
   | none=>
    exact absurd (V.pl1 p hq) (clip_none V.bx V.bY hc 1 1 ⟨by decide,by decide,by decide⟩)
   | some x=>
    obtain⟨c,d⟩:=x;have:=V.ent_in hq (clip_ent V.bx V.bY hc).2;exact⟨c,by rw[this]⟩
  obtain⟨e1,e2⟩:=clip_ent V.bx V.bY hc;rw[pc_new hc,hq,if_pos rfl,V.t0 q p hq]
  rcases Int.lt_trichotomy (S q) 0 with h|h|h
  ·have:=(V.inb q).1 hq;omega
  ·rw[ex_on h]
   obtain⟨k1,k2,k3,k4⟩:=V.touch hp h hq;have hcq:c=q:=Ent.eq e1 k1;subst hcq;have hC:cmpL [c,c]=[c]:=by rw[cmp_two,if_pos rfl]
   have i:=(V.inb c).1 hq
   rcases Decidable.em (lo<U c∧U c<hi)with k|k
   ·rw[k3 k.1 k.2]
    exact ih (some p) _ _ _ _ _ (St.t1 hq h _ [c] p hC (by intro x hx;rw[List.mem_singleton.1 hx];exact h) rfl hp) hst.good
   ·rw[k4 (by omega)]
    exact ih (some p) _ _ _ _ _ (St.t4 hq h _ [c] (some p) [c] hC (by intro x hx;rw[List.mem_singleton.1 hx];exact h) rfl (Or.inr ⟨c,[],rfl,by omega⟩)) hst.good
  ·rw[ex_in ⟨hp,h⟩,if_pos rfl]
   have hcq:thr p q b=g→c=mt p q∧S c=0:=fun hE=>by
    obtain⟨f1,f2,f3,f4,f5⟩:=V.thr_g hpb e1 hE;exact⟨f4 h,f3⟩
   by_cases hcd:c=q
   ·have hC:cmpL [c,q]=[]++[q]:=by rw[cmp_two,if_pos hcd,hcd];rfl
    rw[ih (some p) _ _ _ _ _ (St.inn hq h _ (thr p q b) [] hC) hst.good]
    congr 1
    by_cases hE:thr p q b=g
    ·have:=(hcq hE).2
     rw[hcd]at this;omega
    ·rw[if_neg hE,hmt h (fun k=>hE k.1)]
   ·have hC:cmpL [c,q]=[c]++[q]:=by rw[cmp_two,if_neg hcd];rfl
    rw[ih (some p) _ _ _ _ _ (St.inn hq h _ (thr p q b) [c] hC) hst.good]
    congr 1
    by_cases hE:thr p q b=g
    ·obtain⟨f1,f2⟩:=hcq hE
     rw[if_pos hE,lead_run (A:=[c]) (B:=[]) (by intro x hx;rw[List.mem_singleton.1 hx];exact f2) (by omega),f1]
    ·rw[if_neg hE,hmt h (fun k=>hE k.1)]
theorem View.clip_to(V:View b g U S lo hi D mt){p q:Pt}(hq:inB b q=true):∃c,clipS p q b=some (c,q)∧Ent b p q c:=by
 cases hc:clipS p q b with
 | none=>exact absurd (V.pl1 p hq) (clip_none V.bx V.bY hc 1 1 ⟨by decide,by decide,by decide⟩)
 | some x=>
  obtain⟨c,d⟩:=x;obtain⟨e1,e2⟩:=clip_ent V.bx V.bY hc;have:=V.ent_in hq e2;exact⟨c,by rw[this],e1⟩
theorem View.thr_ne(V:View b g U S lo hi D mt){p q c:Pt}(h:Ent b p q c)(hp:0≤S p):thr p q b≠g:=by
 cases hb:inB b p
 ·exact(V.beside hb hp h).1
 ·rw[V.t0 p q hb];exact fun k=>V.g0 k.symm
theorem fin_none(P:List Pt){E L:Int}(hE:E≠g)(hL:L≠g):evF g U S lo hi nd (fin (some (P,E,L)))=[]:=by
 refine fin_evs rfl (fun _=>?_) (fun _=>rfl);rw[ent_ne hE,lea_ne hL];rfl
theorem new_inn(V:View b g U S lo hi D mt){p q c:Pt}{r:List Pt}{E:Int}(ih:IH b g U S lo hi mt nd r)(hst:Stp U S p q r)(hq:inB b q=true)(h:0<S q)(hE:E≠g) :
  evF g U S lo hi nd (pcF b q r (some ([c,q],E,0)))=exF U S lo hi mt nd (some q) [] r:=by
 obtain⟨C,hC⟩:∃C,cmpL [c,q]=C++[q]:=by
  rw[cmp_two]
  by_cases k:c=q
  ·exact⟨[],by rw[if_pos k,k];rfl⟩
  ·exact⟨[c],by rw[if_neg k];rfl⟩
 rw[ih (some p) _ _ _ _ _ (St.inn hq h _ E C hC) hst.good,if_neg hE];rfl
theorem step_in(V:View b g U S lo hi D mt){p q:Pt}{r:List Pt}(ih:IH b g U S lo hi mt nd r)(hst:Stp U S p q r)(hp:0<S p) :
  evF g U S lo hi nd (pcF b p (q::r) none)=exF U S lo hi mt nd (some p) [] (q::r):=by
 have hmt:∀h:S q<0,¬(thr q p b=g∧Ent b q p (mt p q))→ev U lo hi nd 1 [mt p q]=[]:=by
  intro h hn;apply ev_one;rw[V.mt_rev (Or.inr ⟨hp,h⟩)]at hn ⊢;intro ⟨k1,k2⟩;obtain⟨e1,e2,e3⟩:=V.cross h hp k1 k2;exact hn ⟨e2,e1⟩
 cases hq:inB b q
 ·have fin_q:∀l run,St b g U S lo hi nd (some p) q none l run []→evF g U S lo hi nd (pcF b q r none)=exF U S lo hi mt nd l run r:=fun l run h=>ih (some p) _ _ _ _ _ h hst.good
  cases hc:clipS p q b with
  | none=>
   rw[pc_none hc]
   show evF g U S lo hi nd (pcF b q r none)=_
   rcases Int.lt_trichotomy (S q) 0 with h|h|h
   ·rw[ex_out ⟨hp,h⟩,if_pos rfl,hmt h (fun k=>V.no_rev hc _ k.2)]
    exact fin_q _ _ (St.off (by omega))
   ·rw[ex_on h]
    exact fin_q _ _ (St.onC h hq p q [] (by have:=V.out_on h hq;omega) rfl)
   ·rw[ex_same (Or.inl ⟨hp,h⟩)]
    exact fin_q _ _ (St.off (by omega))
  | some x=>
   obtain⟨c,d⟩:=x;obtain⟨e1,e2⟩:=clip_ent V.bx V.bY hc;have hE:=V.thr_ne e1 (by omega);rw[pc_new hc,hq];simp only[Bool.false_eq_true,if_false];rw[evF_app]
   rcases Int.lt_trichotomy (S q) 0 with h|h|h
   ·rw[ex_out ⟨hp,h⟩,if_pos rfl,fin_q _ _ (St.off (by omega))]
    congr 1
    by_cases hL:thr q p b=g
    ·obtain⟨f1,f2,f3,f4,f5⟩:=V.thr_g hq e2 hL
     have f4:d=mt p q:=by rw[f4 hp];exact(V.mt_rev (Or.inr ⟨hp,h⟩)).symm
     have hcc:S c=0→inB b p=false∧(U c=lo∨U c=hi)∧(thr p q b=0→c=d):=by
      intro k
      have hpb:inB b p=false:=by
       cases hb:inB b p
       ·rfl
       ·rw[V.ent_in hb e1]at k;omega
      obtain⟨g1,g2,g3,g4,g5⟩:=(V.beside hpb (by omega) e1).2 k;exact⟨hpb,g1,fun k=>by rw[f4];exact g4 hp k h⟩
     refine fin_evs (cmp_two c d) ?_ ?_
     ·intro hlen
      have hcd:c≠d:=by intro k;rw[if_pos k]at hlen;simp at hlen
      rw[if_neg hcd,ent_ne hE,ev_nil,List.nil_append,hL]
      by_cases hS:S c=0
      ·obtain⟨k1,k2,k3⟩:=hcc hS
       rw[lea_all1 (c:=c) (A:=[d]) (by intro x hx;rw[List.mem_singleton.1 hx];exact f3) hS (by simp) (fun k=>hcd (k3 k)) hE,f4]
      ·rw[show[c,d]=[]++c::[d] from rfl,lea_off hS (by intro x hx;rw[List.mem_singleton.1 hx];exact f3),f4]
     ·intro hlen
      have hcd:c=d:=by
       rcases Decidable.em (c=d)with k|k
       ·exact k
       ·rw[if_neg k]at hlen;simp at hlen
      obtain⟨k1,k2,k3⟩:=hcc (by rw[hcd];exact f3);rw[←f4,←hcd];exact ev_head (by omega)
    ·rw[fin_none _ hE hL,hmt h (fun k=>hL k.1)]
   ·rw[ex_on h,fin_none _ hE (V.thr_ne e2 (by omega))]
    exact fin_q _ _ (St.onC h hq p q [] (by have:=V.out_on h hq;omega) rfl)
   ·rw[ex_same (Or.inl ⟨hp,h⟩),fin_none _ hE (V.thr_ne e2 (by omega))]
    exact fin_q _ _ (St.off (by omega))
 ·obtain⟨c,hc,e1⟩:=V.clip_to (p:=p) hq
  have hE:=V.thr_ne e1 (by omega);rw[pc_new hc,hq,if_pos rfl,V.t0 q p hq]
  rcases Int.lt_trichotomy (S q) 0 with h|h|h
  ·have:=(V.inb q).1 hq;omega
  ·rw[ex_on h]
   have hq1:∀x∈[q],S x=0:=by intro x hx;rw[List.mem_singleton.1 hx];exact h
   by_cases hS:S c=0
   ·have hpb:inB b p=false:=by
     cases hb:inB b p
     ·rfl
     ·rw[V.ent_in hb e1]at hS;omega
    obtain⟨g1,g2,g3,g4,g5⟩:=(V.beside hpb (by omega) e1).2 hS
    by_cases hz:thr p q b=0
    ·have hcq:=g3 hp hz h
     rw[hz];exact ih (some p) _ _ _ _ _ (St.t4 hq h _ [q] (some p) [q] (by rw[cmp_two,if_pos hcq,hcq]) hq1 rfl (Or.inr ⟨q,[],rfl,by rw[←hcq];omega⟩)) hst.good
    ·exact ih (some p) _ _ _ _ _ (St.t3 hq h _ _ c [q] p (by rw[cmp_two,if_neg (g2 hz (by omega) hp)]) hS hz hE hq1 rfl hp) hst.good
   ·have hcq:c≠q:=by intro k;rw[k]at hS;exact hS h
    have:=ih (some p) _ _ _ _ _ (St.t2 hq h _ (thr p q b) [] c [q] p (by rw[cmp_two,if_neg hcq];rfl) hS hq1 rfl hp) hst.good;rw[if_neg hE]at this;exact this
  ·rw[ex_same (Or.inl ⟨hp,h⟩)]
   exact new_inn V ih hst hq h hE
theorem step_on(V:View b g U S lo hi D mt){p q:Pt}{r run:List Pt}{last:Option Pt}(ih:IH b g U S lo hi mt nd r)(hst:Stp U S p q r)(hp:S p=0)
  (hcl:S q≠0→exF U S lo hi mt nd last run (q::r)=exF U S lo hi mt nd (some q) [] r)
  (hin:inB b q=true→S q=0→last=none∨∃r0 r',run++[q]=r0::r'∧(U r0≤lo∨hi≤U r0))
  (hout:inB b q=false→S q=0→St b g U S lo hi nd (some p) q none last (run++[q]) []) :
  evF g U S lo hi nd (pcF b p (q::r) none)=exF U S lo hi mt nd last run (q::r):=by
 cases hq:inB b q
 ·have hnext:evF g U S lo hi nd (pcF b q r none)=exF U S lo hi mt nd last run (q::r):=by
   by_cases h:S q=0
   ·rw[ex_on h]
    exact ih (some p) _ _ _ _ _ (hout hq h) hst.good
   ·rw[hcl h]
    exact ih (some p) _ _ _ _ _ (St.off h) hst.good
  cases hc:clipS p q b with
  | none=>rw[pc_none hc];exact hnext
  | some x=>
   obtain⟨c,d⟩:=x;obtain⟨e1,e2⟩:=clip_ent V.bx V.bY hc;have hE:=V.thr_ne e1 (by omega);rw[pc_new hc,hq];simp only[Bool.false_eq_true,if_false];rw[evF_app,hnext]
   by_cases hL:thr q p b=g
   ·obtain⟨f1,f2,f3,f4,f5⟩:=V.thr_g hq e2 hL
    obtain⟨k1,k2,_⟩:=f5 hp;have hcp:=V.ent_in k2 e1
    have:evF g U S lo hi nd (fin (some ([c,d],thr p q b,thr q p b)))=[]:=by
     refine fin_evs (cmp_two c d) ?_ (fun _=>rfl);intro hlen;rw[if_pos (by rw[hcp,k1])]at hlen;simp at hlen
    rw[this];rfl
   ·rw[fin_none _ hE hL]
    rfl
 ·obtain⟨c,hc,e1⟩:=V.clip_to (p:=p) hq
  have hE:=V.thr_ne e1 (by omega);rw[pc_new hc,hq,if_pos rfl,V.t0 q p hq]
  rcases Int.lt_trichotomy (S q) 0 with h|h|h
  ·have:=(V.inb q).1 hq;omega
  ·rw[ex_on h]
   have hc0:S c=0:=V.along hp h e1
   have hz:thr p q b=0:=by
    cases hb:inB b p
    ·exact((V.beside hb (by omega) e1).2 hc0).2.2.2.2 hp h
    ·exact V.t0 p q hb
   rw[hz]
   obtain⟨C,hC,hl,ha⟩:∃C,cmpL [c,q]=C∧C.getLast?=some q∧∀x∈C,S x=0:=by
    rw[cmp_two]
    by_cases k:c=q
    ·refine⟨_,rfl,by rw[if_pos k,k];rfl,?_⟩
     rw[if_pos k];intro x hx;rw[List.mem_singleton.1 hx];exact hc0
    ·refine⟨_,rfl,by rw[if_neg k];rfl,?_⟩
     rw[if_neg k];intro x hx
     rcases List.mem_cons.1 hx with k|k
     ·rw[k];exact hc0
     ·rw[List.mem_singleton.1 k];exact h
   exact ih (some p) _ _ _ _ _ (St.t4 hq h _ C last (run++[q]) hC ha hl (hin hq h)) hst.good
  ·rw[hcl (by omega)]
   exact new_inn V ih hst hq h hE
end
end Go.Proofs.Ed
namespace Go.Proofs.Ed
open Go.Proofs
section
variable {b:Bx4}{g:Int}{U S:Pt→Int}{lo hi D:Int}{mt:Pt→Pt→Pt}{nd:Pt→Bool}
theorem open_step(V:View b g U S lo hi D mt){p q:Pt}{r P C:List Pt}{E:Int}(hp:inB b p=true)(hC:cmpL P=C)(hl:C.getLast?=some p)(hne:p≠q) :
  ∃d,Ent b q p d∧cmpL (P++[d])=(if p=d then C else C++[d])∧(inB b q=true→d=q∧pcF b p (q::r) (some (P,E,0))=pcF b q r (some (P++[q],E,0))∧cmpL (P++[q])=C++[q]) ∧
   (inB b q=false→pcF b p (q::r) (some (P,E,0))=fin (some (P++[d],E,thr q p b))++pcF b q r none):=by
 obtain⟨d,hc,e2⟩:=V.clip_in (q:=q) hp;have happ:=fun d=>cmp_app (P:=P) (l:=p) (by rw[hC];exact hl) d
 refine⟨d,e2,by rw[happ,hC],fun hq=>?_,fun hq=>?_⟩
 ·have hd:=V.ent_in hq e2
  refine⟨hd,?_,by rw[happ,if_neg hne,hC]⟩;rw[pc_more hc,hq,if_pos rfl,hd,V.t0 q p hq]
 ·rw[pc_more hc,hq]
  rfl
theorem View.leave_on(V:View b g U S lo hi D mt){p q d:Pt}(hp:inB b p=true)(h:S p=0)(hq:S q<0)(e:Ent b q p d):d=p∧(lo<U p∧U p<hi∧thr q p b=g∨(U p=lo∨U p=hi)∧thr q p b=0):=by
 obtain⟨k1,k2,k3,k4⟩:=V.touch hq h hp;have i:=(V.inb p).1 hp;refine⟨Ent.eq e k1,?_⟩
 rcases Decidable.em (lo<U p∧U p<hi)with k|k
 ·exact Or.inl ⟨k.1,k.2,k3 k.1 k.2⟩
 ·exact Or.inr ⟨by omega,k4 (by omega)⟩
theorem last_app(A:List Pt)(q:Pt):(A++[q]).getLast?=some q:=by simp
theorem all_app{A:List Pt}{q:Pt}(hA:∀x∈A,S x=0)(hq:S q=0):∀x∈A++[q],S x=0:=by
 intro x hx
 rcases List.mem_append.1 hx with k|k
 ·exact hA x k
 ·rw[List.mem_singleton.1 k];exact hq
theorem ne_nil_of_last{A:List Pt}{p:Pt}(h:A.getLast?=some p):A≠[]:=by intro k;rw[k]at h;cases h
theorem next_on(V:View b g U S lo hi D mt){p q l:Pt}{run:List Pt}(hp:inB b p=true)(h:S p=0)(hq:inB b q=false)(hq0:S q=0):St b g U S lo hi nd (some p) q none (some l) (run++[q]) []:=by
 have k:=V.out_on hq0 hq;have i:=(V.inb p).1 hp;exact St.onD hq0 hq l _ p h rfl (by omega) (last_app _ _)
theorem go_inn(V:View b g U S lo hi D mt){p q:Pt}{r P C:List Pt}{E:Int}(ih:IH b g U S lo hi mt nd r)(hst:Stp U S p q r)(hb:inB b p=true)(h:0<S p)(hC:cmpL P=C++[p]) :
  evF g U S lo hi nd (pcF b p (q::r) (some (P,E,0)))=(if E=g then ev U lo hi nd 0 (lead S (C++[p])) else [])++exF U S lo hi mt nd (some p) [] (q::r):=by
 have hoff:S p≠0:=by omega
 obtain⟨d,e2,hd,hin,hout⟩:=open_step (r:=r) (E:=E) V hb hC (last_app C p) hst.ne;cases hq:inB b q
 ·rw[hout hq,evF_app]
  have hent:∀L,ev U lo hi nd 0 (entering g S (if p=d then C++[p] else C++[p]++[d],E,L))=if E=g then ev U lo hi nd 0 (lead S (C++[p])) else []:=by
   intro L
   by_cases hE:E=g
   ·rw[if_pos hE,hE]
    by_cases k:p=d
    ·rw[if_pos k,ent_off (B:=[]) hoff]
    ·rw[if_neg k,show C++[p]++[d]=C++p::[d] by simp,ent_off hoff]
   ·rw[if_neg hE,ent_ne hE];rfl
  have hfin:∀X,(ev U lo hi nd 1 (leaving g S (if p=d then C++[p] else C++[p]++[d],E,thr q p b))=X)→(p=d→X=[]) →
    evF g U S lo hi nd (fin (some (P++[d],E,thr q p b)))=(if E=g then ev U lo hi nd 0 (lead S (C++[p])) else [])++X:=by
   intro X hX hn;refine fin_evs hd (fun _=>by rw[hent,hX]) ?_;intro hlen
   by_cases k:p=d
   ·rw[if_pos k]at hlen
    have:C=[]:=by
     cases C with
     | nil=>rfl
     | cons a s=>simp only[List.length_append,List.length_cons,List.length_nil]at hlen;omega
    rw[hn k,this];have:lead S ([]++[p])=[]:=by unfold lead;simp[hoff]
    rw[this];split<;>rfl
   ·rw[if_neg k]at hlen
    simp only[List.length_append,List.length_cons,List.length_nil]at hlen;omega
  rcases Int.lt_trichotomy (S q) 0 with k|k|k
  ·rw[ex_out ⟨h,k⟩,if_pos rfl,ih (some p) _ _ _ _ _ (St.off (by omega)) hst.good,List.nil_append,←List.append_assoc]
   congr 1
   by_cases hL:thr q p b=g
   ·obtain⟨f1,f2,f3,f4,f5⟩:=V.thr_g hq e2 hL
    have f4:d=mt p q:=by rw[f4 h];exact(V.mt_rev (Or.inr ⟨h,k⟩)).symm
    have hpd:p≠d:=by intro k;rw[k]at h;omega
    refine hfin _ ?_ (fun k=>absurd k hpd);rw[if_neg hpd,hL,show C++[p]++[d]=C++p::[d] by simp,lea_off hoff (by intro x hx;rw[List.mem_singleton.1 hx];exact f3),f4]
   ·have hm:ev U lo hi nd 1 [mt p q]=[]:=by
     apply ev_one;rw[V.mt_rev (Or.inr ⟨h,k⟩)];intro ⟨k1,k2⟩;exact hL (V.cross k h k1 k2).2.1
    rw[hm];exact hfin [] (by rw[lea_ne hL];rfl) (fun _=>rfl)
  ·have hL:=V.thr_ne e2 (by omega)
   rw[ex_on k,ih (some p) _ _ _ _ _ (St.onC k hq p q [] (by have:=V.out_on k hq;omega) rfl) hst.good,hfin [] (by rw[lea_ne hL];rfl) (fun _=>rfl),List.append_nil];rfl
  ·have hL:=V.thr_ne e2 (by omega)
   rw[ex_same (Or.inl ⟨h,k⟩),ih (some p) _ _ _ _ _ (St.off (by omega)) hst.good,hfin [] (by rw[lea_ne hL];rfl) (fun _=>rfl),List.append_nil];rfl
 ·obtain⟨h1,h2,h3⟩:=hin hq
  rw[h2]
  rcases Int.lt_trichotomy (S q) 0 with k|k|k
  ·have:=(V.inb q).1 hq;omega
  ·rw[ex_on k]
   exact ih (some p) _ _ _ _ _ (St.t2 hq k _ E C p [q] p (by rw[h3];simp) hoff (by intro x hx;rw[List.mem_singleton.1 hx];exact k) rfl h) hst.good
  ·rw[ex_same (Or.inl ⟨h,k⟩),ih (some p) _ _ _ _ _ (St.inn hq k _ E _ h3) hst.good]
   congr 1
   rw[show C++[p]++[q]=C++p::[q] by simp,lead_app_off hoff]
theorem go_t1(V:View b g U S lo hi D mt){p q l:Pt}{r P run:List Pt}(ih:IH b g U S lo hi mt nd r)(hst:Stp U S p q r)(hb:inB b p=true)(h:S p=0)(hC:cmpL P=run)(ha:∀x∈run,S x=0)(hl:run.getLast?=some p)(hs:S l<0) :
  evF g U S lo hi nd (pcF b p (q::r) (some (P,g,0)))=exF U S lo hi mt nd (some l) run (q::r):=by
 obtain⟨d,e2,hd,hin,hout⟩:=open_step (r:=r) (E:=g) V hb hC hl hst.ne;have hrn:=ne_nil_of_last hl;cases hq:inB b q
 ·rw[hout hq,evF_app]
  rcases Int.lt_trichotomy (S q) 0 with k|k|k
  ·obtain⟨f1,f2⟩:=V.leave_on hb h k e2
   rw[ex_same (Or.inr ⟨hs,k⟩),ih (some p) _ _ _ _ _ (St.off (by omega)) hst.good];rw[if_pos f1.symm]at hd;rw[fin_evs (X:=[]) hd ?_ (fun _=>rfl)]
   ·rfl
   ·intro _
    rcases f2 with⟨_,_,f2⟩|⟨_,f2⟩<;>rw[f2]
    ·rw[ent_all0 ha (Or.inr rfl),lea_all0 ha (Or.inr rfl)];rfl
    ·rw[ent_all0 ha (Or.inl rfl),lea_ne (fun k=>V.g0 k.symm)];rfl
  ·rw[ex_on k,ih (some p) _ _ _ _ _ (next_on (l:=l) (run:=run) V hb h hq k) hst.good]
   have hL:thr q p b=0:=((V.beside hq (by omega) e2).2 (V.along k h e2)).2.2.2.2 k h;rw[fin_evs (X:=[]) hd ?_ (fun _=>rfl)]
   ·rfl
   ·intro _
    rw[hL,lea_ne (fun k=>V.g0 k.symm),ent_all0 ?_ (Or.inl rfl)]
    ·rfl
    ·split
     ·exact ha
     ·exact all_app ha (V.along k h e2)
  ·rw[ex_in ⟨hs,k⟩,if_neg hrn,ih (some p) _ _ _ _ _ (St.off (by omega)) hst.good]
   obtain⟨b1,b2⟩:=V.beside hq (by omega) e2
   congr 1
   by_cases hS:S d=0
   ·obtain⟨g1,g2,g3,g4,g5⟩:=b2 hS
    by_cases hz:thr q p b=0
    ·have hdp:=g3 k hz h
     rw[if_pos hdp.symm]at hd;rw[ev_last hl (by rw[←hdp];omega)];refine fin_evs hd (fun _=>?_) (fun _=>rfl);rw[hz,lea_ne (fun k=>V.g0 k.symm),ent_all0 ha (Or.inl rfl)];rfl
    ·have hdp:p≠d:=(g2 hz (by omega) k).symm
     rw[if_neg hdp]at hd;refine fin_evs hd (fun _=>?_) (fun hlen=>?_)
     ·rw[lea_ne b1,ent_all1 ha hS hrn hz b1,ev_nil,List.append_nil]
     ·have:=List.length_pos_iff.2 hrn
      simp only[List.length_append,List.length_cons,List.length_nil]at hlen;omega
   ·have hdp:p≠d:=by intro k;rw[k]at h;exact hS h
    rw[if_neg hdp]at hd;refine fin_evs hd (fun _=>?_) (fun hlen=>?_)
    ·rw[lea_ne b1,ent_off (B:=[]) hS,lead_run (B:=[]) ha hS,ev_nil,List.append_nil]
    ·have:=List.length_pos_iff.2 hrn
     simp only[List.length_append,List.length_cons,List.length_nil]at hlen;omega
 ·obtain⟨h1,h2,h3⟩:=hin hq
  rw[h2]
  rcases Int.lt_trichotomy (S q) 0 with k|k|k
  ·have:=(V.inb q).1 hq;omega
  ·rw[ex_on k]
   exact ih (some p) _ _ _ _ _ (St.t1 hq k _ _ l h3 (all_app ha k) (last_app _ _) hs) hst.good
  ·rw[ex_in ⟨hs,k⟩,if_neg hrn,ih (some p) _ _ _ _ _ (St.inn hq k _ g _ h3) hst.good,if_pos rfl,lead_run (B:=[]) ha (by omega)]
theorem go_t2(V:View b g U S lo hi D mt){p q l x:Pt}{r P pre run:List Pt}{E:Int}(ih:IH b g U S lo hi mt nd r)(hst:Stp U S p q r)(hb:inB b p=true)(h:S p=0)(hC:cmpL P=pre++x::run)(hx:S x≠0)(ha:∀x∈run,S x=0)(hl:run.getLast?=some p)(hs:0<S l) :
  evF g U S lo hi nd (pcF b p (q::r) (some (P,E,0)))=(if E=g then ev U lo hi nd 0 (lead S (pre++[x])) else [])++exF U S lo hi mt nd (some l) run (q::r):=by
 have hrn:=ne_nil_of_last hl
 have hll:(pre++x::run).getLast?=some p:=by
  rw[show pre++x::run=(pre++[x])++run by simp,List.getLast?_append,hl];rfl
 obtain⟨d,e2,hd,hin,hout⟩:=open_step (r:=r) (E:=E) V hb hC hll hst.ne
 have hent:∀L B,ev U lo hi nd 0 (entering g S (pre++x::B,E,L))=if E=g then ev U lo hi nd 0 (lead S (pre++[x])) else []:=by
  intro L B
  by_cases hE:E=g
  ·rw[if_pos hE,hE,ent_off hx]
  ·rw[if_neg hE,ent_ne hE];rfl
 have hlen:∀B:List Pt,B≠[]→¬(pre++x::B).length≤1:=by
  intro B hB k;have:=List.length_pos_iff.2 hB;simp only[List.length_append,List.length_cons]at k;omega
 have hfin:∀X,(∀B,(B=run∧p=d∨B=run++[d]∧p≠d)→ev U lo hi nd 1 (leaving g S (pre++x::B,E,thr q p b))=X) →
    evF g U S lo hi nd (fin (some (P++[d],E,thr q p b)))=(if E=g then ev U lo hi nd 0 (lead S (pre++[x])) else [])++X:=by
  intro X hX
  by_cases k:p=d
  ·rw[if_pos k]at hd
   exact fin_evs hd (fun _=>by rw[hent,hX _ (Or.inl ⟨rfl,k⟩)]) (fun k=>absurd k (hlen _ hrn))
  ·rw[if_neg k,List.append_assoc,List.cons_append]at hd
   exact fin_evs hd (fun _=>by rw[hent,hX _ (Or.inr ⟨rfl,k⟩)]) (fun k=>absurd k (hlen _ (by simp)))
 cases hq:inB b q
 ·rw[hout hq,evF_app]
  rcases Int.lt_trichotomy (S q) 0 with k|k|k
  ·obtain⟨f1,f2⟩:=V.leave_on hb h k e2
   rw[ex_out ⟨hs,k⟩,if_neg hrn,ih (some p) _ _ _ _ _ (St.off (by omega)) hst.good,List.nil_append,←List.append_assoc]
   congr 1
   refine hfin _ (fun B hB=>?_)
   rcases hB with⟨rfl,_⟩|⟨_,hB⟩
   ·rcases f2 with⟨_,_,f2⟩|⟨f3,f2⟩<;>rw[f2]
    ·rw[lea_off hx ha]
    ·rw[lea_ne (fun k=>V.g0 k.symm),ev_nil,ev_last hl (by omega)]
   ·exact absurd f1.symm hB
  ·rw[ex_on k,ih (some p) _ _ _ _ _ (next_on (l:=l) (run:=run) V hb h hq k) hst.good,hfin [] (fun B _=>by rw[lea_ne (V.thr_ne e2 (by omega))];rfl),List.append_nil]
   rfl
  ·rw[ex_same (Or.inl ⟨hs,k⟩),ih (some p) _ _ _ _ _ (St.off (by omega)) hst.good,hfin [] (fun B _=>by rw[lea_ne (V.thr_ne e2 (by omega))];rfl),List.append_nil]
   rfl
 ·obtain⟨h1,h2,h3⟩:=hin hq
  rw[h2]
  rcases Int.lt_trichotomy (S q) 0 with k|k|k
  ·have:=(V.inb q).1 hq;omega
  ·rw[ex_on k]
   exact ih (some p) _ _ _ _ _ (St.t2 hq k _ E pre x (run++[q]) l (by rw[h3];simp) hx (all_app ha k) (last_app _ _) hs) hst.good
  ·rw[ex_same (Or.inl ⟨hs,k⟩),ih (some p) _ _ _ _ _ (St.inn hq k _ E _ h3) hst.good]
   congr 1
   rw[show pre++x::run++[q]=pre++x::(run++[q]) by simp,lead_app_off hx]
theorem go_t3(V:View b g U S lo hi D mt){p q l c:Pt}{r P run:List Pt}{E:Int}(ih:IH b g U S lo hi mt nd r)(hst:Stp U S p q r)(hb:inB b p=true)(h:S p=0)(hC:cmpL P=c::run)(hc:S c=0)(h0:E≠0)(hg:E≠g)(ha:∀x∈run,S x=0)(hl:run.getLast?=some p)(hs:0<S l) :
  evF g U S lo hi nd (pcF b p (q::r) (some (P,E,0)))=exF U S lo hi mt nd (some l) run (q::r):=by
 have hrn:=ne_nil_of_last hl
 have hll:(c::run).getLast?=some p:=by
  rw[show c::run=[c]++run by simp,List.getLast?_append,hl];rfl
 obtain⟨d,e2,hd,hin,hout⟩:=open_step (r:=r) (E:=E) V hb hC hll hst.ne;cases hq:inB b q
 ·rw[hout hq,evF_app]
  rcases Int.lt_trichotomy (S q) 0 with k|k|k
  ·obtain⟨f1,f2⟩:=V.leave_on hb h k e2
   rw[if_pos f1.symm]at hd;rw[ex_out ⟨hs,k⟩,if_neg hrn,ih (some p) _ _ _ _ _ (St.off (by omega)) hst.good]
   congr 1
   refine fin_evs hd (fun _=>?_) (fun hlen=>?_)
   ·rw[ent_ne hg,ev_nil,List.nil_append]
    rcases f2 with⟨_,_,f2⟩|⟨f3,f2⟩<;>rw[f2]
    ·rw[lea_all1 ha hc hrn h0 hg]
    ·rw[lea_ne (fun k=>V.g0 k.symm),ev_nil,ev_last hl (by omega)]
   ·have:=List.length_pos_iff.2 hrn
    simp only[List.length_cons]at hlen;omega
  ·rw[ex_on k,ih (some p) _ _ _ _ _ (next_on (l:=l) (run:=run) V hb h hq k) hst.good,fin_none _ hg (V.thr_ne e2 (by omega))]
   rfl
  ·rw[ex_same (Or.inl ⟨hs,k⟩),ih (some p) _ _ _ _ _ (St.off (by omega)) hst.good,fin_none _ hg (V.thr_ne e2 (by omega))]
   rfl
 ·obtain⟨h1,h2,h3⟩:=hin hq
  rw[h2]
  rcases Int.lt_trichotomy (S q) 0 with k|k|k
  ·have:=(V.inb q).1 hq;omega
  ·rw[ex_on k]
   exact ih (some p) _ _ _ _ _ (St.t3 hq k _ E c (run++[q]) l (by rw[h3];simp) hc h0 hg (all_app ha k) (last_app _ _) hs) hst.good
  ·rw[ex_same (Or.inl ⟨hs,k⟩),ih (some p) _ _ _ _ _ (St.inn hq k _ E _ h3) hst.good,if_neg hg]
   rfl
theorem go_t4(V:View b g U S lo hi D mt){p q:Pt}{r P C run:List Pt}{last:Option Pt}(ih:IH b g U S lo hi mt nd r)(hst:Stp U S p q r)(hb:inB b p=true)(h:S p=0)(hC:cmpL P=C)(ha:∀x∈C,S x=0)(hl:C.getLast?=some p)
  (hr:last=none∨∃r0 r,run=r0::r∧(U r0≤lo∨hi≤U r0)) :
  evF g U S lo hi nd (pcF b p (q::r) (some (P,0,0)))=exF U S lo hi mt nd last run (q::r):=by
 obtain⟨d,e2,hd,hin,hout⟩:=open_step (r:=r) (E:=0) V hb hC hl hst.ne;have hg:(0:Int)≠g:=fun k=>V.g0 k.symm
 have hcl:S q≠0→exF U S lo hi mt nd last run (q::r)=exF U S lo hi mt nd (some q) [] r:=by
  intro k
  rcases hr with rfl|⟨r0,r',rfl,hc⟩
  ·exact ex_none k
  ·exact ex_closed k (by simp) (fun o=>ev_head hc)
 have hr2:last=none∨∃r0 r',run++[q]=r0::r'∧(U r0≤lo∨hi≤U r0):=by
  rcases hr with rfl|⟨r0,r',rfl,hc⟩
  ·exact Or.inl rfl
  ·exact Or.inr ⟨r0,r'++[q],rfl,hc⟩
 cases hq:inB b q
 ·rw[hout hq,evF_app]
  have hnil:evF g U S lo hi nd (fin (some (P++[d],0,thr q p b)))=[]:=by
   by_cases hL:thr q p b=g
   ·obtain⟨f1,f2,f3,f4,f5⟩:=V.thr_g hq e2 hL
    obtain⟨k1,_⟩:=f5 h;rw[if_pos k1.symm]at hd;refine fin_evs hd (fun _=>?_) (fun _=>rfl);rw[ent_ne hg,hL,lea_all0 ha (Or.inl rfl)];rfl
   ·exact fin_none _ hg hL
  rw[hnil,List.nil_append]
  by_cases k:S q=0
  ·rw[ex_on k]
   rcases hr2 with rfl|⟨r0,r',he,hc⟩
   ·exact ih (some p) _ _ _ _ _ (St.on0 k _) hst.good
   ·cases last with
    | none=>exact ih (some p) _ _ _ _ _ (St.on0 k _) hst.good
    | some l=>
     have hlast:=last_app run q;rw[he]at hlast ⊢;exact ih (some p) _ _ _ _ _ (St.onC k hq l r0 r' hc hlast) hst.good
  ·rw[hcl k]
   exact ih (some p) _ _ _ _ _ (St.off k) hst.good
 ·obtain⟨h1,h2,h3⟩:=hin hq
  rw[h2]
  rcases Int.lt_trichotomy (S q) 0 with k|k|k
  ·have:=(V.inb q).1 hq;omega
  ·rw[ex_on k]
   exact ih (some p) _ _ _ _ _ (St.t4 hq k _ _ last (run++[q]) h3 (all_app ha k) (last_app _ _) hr2) hst.good
  ·rw[hcl (by omega),ih (some p) _ _ _ _ _ (St.inn hq k _ 0 _ h3) hst.good,if_neg hg]
   rfl
theorem good_tail{prev:Option Pt}{p q:Pt}{r:List Pt}(h:Good U S (prev.toList++p::q::r)):Stp U S p q r:=by
 have h2:Good U S (p::q::r):=by
  cases prev with
  | none=>exact h
  | some u=>exact h.2.2
 exact⟨h2.1,h2⟩
theorem pieces_cross(V:View b g U S lo hi D mt)(rest:List Pt):IH b g U S lo hi mt nd rest:=by
 induction rest with
 | nil=>
  intro prev p cur last run pend hst hg;have hgz:(0:Int)≠g:=fun k=>V.g0 k.symm
  show evF g U S lo hi nd (fin cur)=pend++exF U S lo hi mt nd last run []
  have hex:exF U S lo hi mt nd last run []=[]:=by cases last<;>rfl
  rw[hex,List.append_nil];cases hst with
  | off h=>rfl
  | on0 h=>rfl
  | onC=>rfl
  | onD=>rfl
  | inn hb h P E C hC=>
   refine fin_evs hC (fun _=>?_) (fun hlen=>?_)
   ·rw[lea_ne hgz,ev_nil,List.append_nil]
    by_cases hE:E=g
    ·rw[if_pos hE,hE,ent_off (B:=[]) (by omega)]
    ·rw[if_neg hE,ent_ne hE];rfl
   ·have:C=[]:=by
     cases C with
     | nil=>rfl
     | cons a s=>simp only[List.length_append,List.length_cons,List.length_nil]at hlen;omega
    rw[this];have hoff:S p≠0:=by omega
    have:lead S ([]++[p])=[]:=by unfold lead;simp[hoff]
    rw[this];split<;>rfl
  | t1 hb h P run l hC ha hl hs=>
   refine fin_evs hC (fun _=>?_) (fun _=>rfl);rw[lea_ne hgz,ent_all0 ha (Or.inl rfl)];rfl
  | t2 hb h P E pre x run l hC hx ha hl hs=>
   refine fin_evs hC (fun _=>?_) (fun hlen=>?_)
   ·rw[lea_ne hgz,ev_nil,List.append_nil]
    by_cases hE:E=g
    ·rw[if_pos hE,hE,ent_off hx]
    ·rw[if_neg hE,ent_ne hE];rfl
   ·have:=List.length_pos_iff.2 (ne_nil_of_last hl)
    simp only[List.length_append,List.length_cons]at hlen;omega
  | t3 hb h P E c run l hC hc h0 hg' ha hl hs=>exact fin_none _ hg' hgz
  | t4 hb h P C last run hC ha hl hr=>exact fin_none _ hgz hgz
 | cons q r ih=>
  intro prev p cur last run pend hst hg;have hs:=good_tail hg;cases hst with
  | off h=>
   rcases Int.lt_or_lt_of_ne h with k|k
   ·exact step_out V (prev:=prev) ih hs k
   ·exact step_in V ih hs k
  | on0 h=>exact step_on V ih hs h (fun k=>ex_none k) (fun _ _=>Or.inl rfl) (fun _ k=>St.on0 k _)
  | onC h hb l r0 r' hc hl=>
   rw[List.nil_append];refine step_on V ih hs h (fun k=>ex_closed k (by simp) (fun o=>ev_head hc)) (fun _ _=>Or.inr ⟨r0,r'++[q],rfl,hc⟩) (fun hq k=>?_);have:=last_app (r0::r') q;exact St.onC k hq l r0 (r'++[q]) hc this
  | onD h hb l run u hu hp ho hl=>
   have hfold:S q=0→0<(U p-U u)*(U q-U p):=by
    intro k;rw[hp]at hg;exact hg.2.1 q rfl hu h k
   have hout:S q=0→hi<U q∧U p<U q∨U q<lo∧U q<U p:=by
    intro k;have:=hfold k
    rcases ho with⟨h1,h2⟩|⟨h1,h2⟩
    ·left
     have:0<U q-U p:=by
      rcases Int.lt_or_le 0 (U q-U p)with g|g
      ·exact g
      ·have:=mul_nn (show 0≤U p-U u by omega) (show 0≤U p-U q by omega)
       grind
     omega
    ·right
     have:U q-U p<0:=by
      rcases Int.lt_or_le (U q-U p) 0 with g|g
      ·exact g
      ·have:=mul_nn (show 0≤U u-U p by omega) (show 0≤U q-U p by omega)
       grind
     omega
   rw[List.nil_append];refine step_on V ih hs h (fun k=>ex_closed k (ne_nil_of_last hl) (fun o=>ev_last hl (by omega))) (fun hq k=>?_) (fun hq k=>?_)
   ·have:=(V.inb q).1 hq
    have:=hout k;omega
   ·exact St.onD k hq l _ p h rfl (hout k) (last_app _ _)
  | inn hb h P E C hC=>exact go_inn V ih hs hb h hC
  | t1 hb h P run l hC ha hl hls=>exact go_t1 V ih hs hb h hC ha hl hls
  | t2 hb h P E pre x run l hC hx ha hl hls=>exact go_t2 V ih hs hb h hC hx ha hl hls
  | t3 hb h P E c run l hC hc h0 hg' ha hl hls=>exact go_t3 V ih hs hb h hC hc h0 hg' ha hl hls
  | t4 hb h P C last run hC ha hl hr=>exact go_t4 V ih hs hb h hC ha hl hr
theorem crossings_passages(V:View b g U S lo hi D mt)(p:Pt)(rest:List Pt)(hg:Good U S (p::rest)) :
  evF g U S lo hi nd (pcF b p rest none)=exF U S lo hi mt nd none [] (p::rest):=by
 by_cases h:S p=0
 ·rw[ex_on h]
  exact pieces_cross V rest none p none none _ [] (St.on0 h _) hg
 ·rw[ex_none h]
  exact pieces_cross V rest none p none (some p) [] [] (St.off h) hg
end
end Go.Proofs.Ed
namespace Go.Proofs
open Go.RowKit Go.Proofs.Mp Go.Proofs.Ed
theorem jv(A:Option Addr)(c:Nat)(zs:List Pt)(w:World)(hmax:zs.length≤1000000000000)(hall:kR zs)(hR:RdR w A zs) :
  Calls Tryz.prog 152 #[.slice A zs.length c] w (RetV w (.bool true)):=by
 have HN:=hid hall;clear hall;go_enter Tryz.func152,Tryz.ntmps152;go_wp2;go_loopw [7] (fun i wr=>∃k:Nat,k≤zs.length∧i=.int .i64 k∧Below w.heap.size w wr) (fun i _=>zs.length-(intOf i).toNat)
 case atStart=>exact⟨0,by omega,rfl,Below.refl _ _⟩
 case round=>
  obtain⟨k,hk,rfl,hbw⟩:=hrel;have hbs:=hbw.size
  by_cases hlt:k<zs.length
  ·obtain⟨b,off,rfl,hb,h1,h2⟩:=RdR.get hR hbw hlt
   have hz:=HN.out k hlt
   rcases hzz:zs[k]! with⟨x,y⟩
   rw[hzz]at h1 h2 hz;unfold Nr at hz;dsimp only at hz h1 h2;obtain⟨z1,z2,z3,z4⟩:=hz;clear hzz;have hbr:b<wr.heap.size:=Nat.lt_of_lt_of_le hb hbs;have hbl:Below w.heap.size w (wr.alloc (.cells #[x,y] 30)):=hbw.alloc hbs _;go_wp2;go_roundw
   case rel=>exact⟨k+1,by omega,by go_num,hbl⟩
   case measure=>simp[intOf];omega
  ·obtain rfl:k=zs.length:=by omega
   go_wp2;go_ret;exact RetV.bool rfl hbw
theorem ub(a b:Pt)(ha:Nr a)(hb:Nr b)(W:World)(n:Nat)(hn:n=W.heap.size)(cap:Nat):Calls Tryz.prog 152 #[.slice (some ⟨n,0,none⟩) 2 cap] (W.alloc (.cells #[a.1,a.2,b.1,b.2] 30)) (RetV (W.alloc (.cells #[a.1,a.2,b.1,b.2] 30)) (.bool true)):=
 jv _ cap [a,b] _ (by simp) (by intro j hj;match j,hj with|0,_=>exact ha|1,_=>exact hb) (dA W _ 30 [a,b] rfl n hn)
end Go.Proofs
namespace Go.Proofs
open Go.RowKit Go.Proofs.Mp Go.Proofs.Ed
def plE(n d:Int)(at_:Pt):Value:=.agg #[n,d,at_.1,at_.2]
def Sm(n:Int):Prop:=-8388608≤n∧n≤8388608
theorem Sm.mul{a b:Int}(ha:Sm a)(hb:Sm b) : -70368744177664≤a*b∧a*b≤70368744177664:=by
 have:=aF ha.1 ha.2 hb.1 hb.2 (by omega);omega
theorem ez(p1 p2 q1 q2:Int)(a b:Pt)(w:World)(h1:Sm p1)(h2:Sm p2)(h3:Sm q1)(h4:Sm q2):Calls Tryz.prog 155 #[plE p1 p2 a,plE q1 q2 b] w (RetV w (.bool (lessS (p1,p2) (q1,q2)))):=by
 obtain⟨a1,a2⟩:=a;obtain⟨b1,b2⟩:=b;have m1:=h1.mul h4;have m2:=h3.mul h2;have hw1:=IntWalk.i64_in (p1*q2) (by omega);have hw2:=IntWalk.i64_in (q1*p2) (by omega);have HR:=hid (show lessS (p1,p2) (q1,q2)=decide (p1*q2<q1*p2)from rfl);generalize lessS (p1,p2) (q1,q2)=r at *;clear h1 h2 h3 h4 m1 m2;unfold plE;dsimp only;go_enter Tryz.func155,Tryz.ntmps155;go_wp2;go_ret;exact RetV.bool HR.out.symm ((bw1 _ _).trans ((bw1 _ _).mono (bw1 _ _).size))
def b2v(x:(Int×Int)×Bool):Value:=.tuple #[plE x.1.1 x.1.2 (0,0),.bool x.2]
theorem iZ(a w' v:Int)(w:World)(ha:Sm a)(hw:Sm w')(hv:Sm v):Calls Tryz.prog 154 #[a,w',v] w (RetV w (b2v (reachS a w' v))):=by
 obtain⟨ha1,ha2⟩:=ha;obtain⟨hw1,hw2⟩:=hw;obtain⟨hv1,hv2⟩:=hv;have e1:=IntWalk.i64_in (a+w') (by omega);have e2:=IntWalk.i64_in (a-v) (by omega);have e3:=IntWalk.i64_in (v-a) (by omega);have e4:=IntWalk.i64_in (-w') (by omega);have HR:=hid (show reachS a w' v=if min a (a+w')≤v∧v≤max a (a+w') then (if w'<0 then (a-v,-w') else (v-a,w'),true) else if decide (v<a)=decide (0<w') then ((-1,1),false) else ((1,1),false)from rfl);generalize reachS a w' v=r at *
 by_cases c1:min a (a+w')≤v∧v≤max a (a+w')
 ·obtain⟨c1,c2⟩:=c1
  by_cases hn:w'<0
  ·obtain rfl:r=((a-v,-w'),true):=by rw[HR.out];rw[if_pos ⟨c1,c2⟩,if_pos hn]
   clear HR;unfold b2v plE;dsimp only;go_enter Tryz.func154,Tryz.ntmps154;go_wp2;refine bodyPost_ret (v:=.tuple #[.agg #[.int .i64 (a-v),.int .i64 (-w'),.int .i64 0,.int .i64 0],.bool true]) ?_ rfl ?_
   ·simp[results,Tryz.results154,go_sem]
   ·exact⟨rfl,bw1 _ _⟩
  ·obtain rfl:r=((v-a,w'),true):=by rw[HR.out];rw[if_pos ⟨c1,c2⟩,if_neg hn]
   clear HR;unfold b2v plE;dsimp only;go_enter Tryz.func154,Tryz.ntmps154;go_wp2;refine bodyPost_ret (v:=.tuple #[.agg #[.int .i64 (v-a),.int .i64 (w'),.int .i64 0,.int .i64 0],.bool true]) ?_ rfl ?_
   ·simp[results,Tryz.results154,go_sem]
   ·exact⟨rfl,bw1 _ _⟩
 ·by_cases m1:min a (a+w')≤v
  ·have m2:¬v≤max a (a+w'):=fun k=>c1 ⟨m1,k⟩
   by_cases k1:v<a
   ·by_cases k2:0<w'
    ·obtain rfl:r=((-1,1),false):=by rw[HR.out,if_neg c1,if_pos (by simp[k1,k2])]
     clear HR c1;have b1:decide (v<a)=true:=decide_eq_true k1;have b2:decide (0<w')=true:=decide_eq_true k2;clear k1 k2;unfold b2v plE;dsimp only;go_enter Tryz.func154,Tryz.ntmps154;go_wp2_with fail;refine bodyPost_ret (v:=.tuple #[.agg #[.int .i64 (-1),.int .i64 1,.int .i64 0,.int .i64 0],.bool false]) ?_ rfl ?_
     ·simp[results,Tryz.results154,go_sem]
     ·exact⟨rfl,bw1 _ _⟩
    ·obtain rfl:r=((1,1),false):=by rw[HR.out,if_neg c1,if_neg (by simp[k1,k2])]
     clear HR c1;have b1:decide (v<a)=true:=decide_eq_true k1;have b2:decide (0<w')=false:=decide_eq_false k2;clear k1 k2;unfold b2v plE;dsimp only;go_enter Tryz.func154,Tryz.ntmps154;go_wp2_with fail;refine bodyPost_ret (v:=.tuple #[.agg #[.int .i64 (1),.int .i64 1,.int .i64 0,.int .i64 0],.bool false]) ?_ rfl ?_
     ·simp[results,Tryz.results154,go_sem]
     ·exact⟨rfl,bw1 _ _⟩
   ·by_cases k2:0<w'
    ·obtain rfl:r=((1,1),false):=by rw[HR.out,if_neg c1,if_neg (by simp[k1,k2])]
     clear HR c1;have b1:decide (v<a)=false:=decide_eq_false k1;have b2:decide (0<w')=true:=decide_eq_true k2;clear k1 k2;unfold b2v plE;dsimp only;go_enter Tryz.func154,Tryz.ntmps154;go_wp2_with fail;refine bodyPost_ret (v:=.tuple #[.agg #[.int .i64 (1),.int .i64 1,.int .i64 0,.int .i64 0],.bool false]) ?_ rfl ?_
     ·simp[results,Tryz.results154,go_sem]
     ·exact⟨rfl,bw1 _ _⟩
    ·obtain rfl:r=((-1,1),false):=by rw[HR.out,if_neg c1,if_pos (by simp[k1,k2])]
     clear HR c1;have b1:decide (v<a)=false:=decide_eq_false k1;have b2:decide (0<w')=false:=decide_eq_false k2;clear k1 k2;unfold b2v plE;dsimp only;go_enter Tryz.func154,Tryz.ntmps154;go_wp2_with fail;refine bodyPost_ret (v:=.tuple #[.agg #[.int .i64 (-1),.int .i64 1,.int .i64 0,.int .i64 0],.bool false]) ?_ rfl ?_
     ·simp[results,Tryz.results154,go_sem]
     ·exact⟨rfl,bw1 _ _⟩
  ·by_cases k1:v<a
   ·by_cases k2:0<w'
    ·obtain rfl:r=((-1,1),false):=by rw[HR.out,if_neg c1,if_pos (by simp[k1,k2])]
     clear HR c1;have b1:decide (v<a)=true:=decide_eq_true k1;have b2:decide (0<w')=true:=decide_eq_true k2;clear k1 k2;unfold b2v plE;dsimp only;go_enter Tryz.func154,Tryz.ntmps154;go_wp2_with fail;refine bodyPost_ret (v:=.tuple #[.agg #[.int .i64 (-1),.int .i64 1,.int .i64 0,.int .i64 0],.bool false]) ?_ rfl ?_
     ·simp[results,Tryz.results154,go_sem]
     ·exact⟨rfl,bw1 _ _⟩
    ·obtain rfl:r=((1,1),false):=by rw[HR.out,if_neg c1,if_neg (by simp[k1,k2])]
     clear HR c1;have b1:decide (v<a)=true:=decide_eq_true k1;have b2:decide (0<w')=false:=decide_eq_false k2;clear k1 k2;unfold b2v plE;dsimp only;go_enter Tryz.func154,Tryz.ntmps154;go_wp2_with fail;refine bodyPost_ret (v:=.tuple #[.agg #[.int .i64 (1),.int .i64 1,.int .i64 0,.int .i64 0],.bool false]) ?_ rfl ?_
     ·simp[results,Tryz.results154,go_sem]
     ·exact⟨rfl,bw1 _ _⟩
   ·by_cases k2:0<w'
    ·obtain rfl:r=((1,1),false):=by rw[HR.out,if_neg c1,if_neg (by simp[k1,k2])]
     clear HR c1;have b1:decide (v<a)=false:=decide_eq_false k1;have b2:decide (0<w')=true:=decide_eq_true k2;clear k1 k2;unfold b2v plE;dsimp only;go_enter Tryz.func154,Tryz.ntmps154;go_wp2_with fail;refine bodyPost_ret (v:=.tuple #[.agg #[.int .i64 (1),.int .i64 1,.int .i64 0,.int .i64 0],.bool false]) ?_ rfl ?_
     ·simp[results,Tryz.results154,go_sem]
     ·exact⟨rfl,bw1 _ _⟩
    ·obtain rfl:r=((-1,1),false):=by rw[HR.out,if_neg c1,if_pos (by simp[k1,k2])]
     clear HR c1;have b1:decide (v<a)=false:=decide_eq_false k1;have b2:decide (0<w')=false:=decide_eq_false k2;clear k1 k2;unfold b2v plE;dsimp only;go_enter Tryz.func154,Tryz.ntmps154;go_wp2_with fail;refine bodyPost_ret (v:=.tuple #[.agg #[.int .i64 (-1),.int .i64 1,.int .i64 0,.int .i64 0],.bool false]) ?_ rfl ?_
     ·simp[results,Tryz.results154,go_sem]
     ·exact⟨rfl,bw1 _ _⟩
end Go.Proofs
namespace Go.Proofs
open Go.RowKit Go.Proofs.Mp Go.Proofs.Ed
theorem pM(n:Int)(w:World)(h1:0≤n)(h2:n≤4611686018427387904):Calls Tryz.prog 178 #[n] w (RetV w (.int .u64 n)):=by
 have hw:IntKind.u64.wrap n=n:=by simp[IntKind.wrap,IntKind.bits,IntKind.signed];omega
 go_enter Tryz.func178,Tryz.ntmps178;go_wp2;go_ret;exact⟨by simp[hw],Below.refl _ _⟩
def rS(a b:Int):Int:=if 0<b then rh a b else rh (-a) (-b)
theorem pu{a b:Int}(hb:0<b):rh a b=if b≤2*(a-flo a b*b) then flo a b+1 else flo a b:=by
 obtain⟨f1,f2⟩:=fL (a:=a) hb;generalize flo a b=q at *;rw[Int.mul_add,Int.mul_one]at f2;split
 ·rename_i h
  apply rh_unique hb<;>grind
 ·rename_i h
  apply rh_unique hb<;>grind
theorem pB{a b m:Int}(hb:b≠0)(hm:m=if 0<b then a-flo a b*b else -(a-flo a b*b)):rS a b=(if absI b≤2*m then flo a b+1 else flo a b)∧0≤m∧m<absI b:=by
 rcases Int.lt_or_gt_of_ne hb with h|h
 ·have e:flo (-a) (-b)=flo a b:=jo a b hb
  have k:=pu (a:=-a) (b:=-b) (by omega);obtain⟨f1,f2⟩:=fL (a:=-a) (b:=-b) (by omega);rw[e]at k f1 f2;rw[if_neg (by omega)]at hm;have hA:absI b=-b:=by unfold absI;rw[if_pos h]
  unfold rS;rw[if_neg (by omega),k,hA];generalize flo a b=q at *;have e2 : -a-q*-b=m:=by rw[hm];grind
  rw[e2];refine⟨rfl,?_,?_⟩<;>grind
 ·have k:=pu (a:=a) (b:=b) h
  obtain⟨f1,f2⟩:=fL (a:=a) (b:=b) h;rw[if_pos h]at hm;have hA:absI b=b:=by unfold absI;rw[if_neg (by omega)]
  unfold rS;rw[if_pos h,k,hA];generalize flo a b=q at *;rw[←hm];refine⟨rfl,?_,?_⟩<;>grind
theorem jl(n:Int)(w:World)(h1:n<0)(h2 : -4611686018427387904≤n):Calls Tryz.prog 178 #[n] w (RetV w (.int .u64 (-n))):=by
 have hw:IntKind.u64.wrap n=n+18446744073709551616:=by simp[IntKind.wrap,IntKind.bits,IntKind.signed];omega
 have hw2:IntKind.u64.wrap (-(n+18446744073709551616))=-n:=by simp[IntKind.wrap,IntKind.bits,IntKind.signed];omega
 go_enter Tryz.func178,Tryz.ntmps178;go_wp2;go_ret;exact⟨by simp[hw,hw2],Below.refl _ _⟩
theorem mr(n:Int)(w:World)(h1 : -4611686018427387904≤n)(h2:n≤4611686018427387904):Calls Tryz.prog 178 #[n] w (RetV w (.int .u64 (absI n))):=by
 unfold absI;split
 ·exact jl n w (by omega) h1
 ·exact pM n w (by omega) h2
theorem nH(a b:Int)(w:World)(h1 : -1152921504606846976≤a)(h2:a≤1152921504606846976)(hb:b≠0)(hb1 : -1152921504606846976≤b)(hb2:b≤1152921504606846976) :
  Calls Tryz.prog 132 #[a,b] w (RetV w (.tuple #[.int .i64 (rS a b),.int .i64 0])):=by
 have cF:=hid fun W=>nJ a b W (by omega) (by omega) hb
 obtain⟨m,hm⟩:∃m,m=if 0<b then a-flo a b*b else -(a-flo a b*b):=⟨_,rfl⟩;obtain⟨hr,hm3,hm4⟩:=pB hb hm;have hab:absI b≤1152921504606846976:=by unfold absI;split<;>omega
 have hma:absI (a-flo a b*b)=m∧(a-flo a b*b=m∨a-flo a b*b=-m):=by
  unfold absI;split at hm<;>split<;>omega
 obtain⟨hma,hmo⟩:=hma
 have hq1 : -1152921504606846977≤flo a b∧flo a b≤1152921504606846977:=by
  have hg:=lK a b hb;have:=Int.natAbs_tdiv_le_natAbs a b;omega
 have cS:=hid fun W=>mr (a-flo a b*b) W (by omega) (by omega)
 have cT:=hid fun W=>mr b W (by omega) (by omega)
 rw[hma]at cS;clear hm;generalize flo a b=q at *;generalize absI b=B at *;generalize rS a b=r at *;have hwm:IntKind.i64.wrap (q*b)=q*b:=IntWalk.i64_in _ (by omega);have hwd:IntKind.i64.wrap (a-q*b)=a-q*b:=IntWalk.i64_in _ (by omega);have hwq:IntKind.i64.wrap (q+1)=q+1:=IntWalk.i64_in _ (by omega);have hwu:IntKind.u64.wrap (B-m)=B-m:=by simp[IntKind.wrap,IntKind.bits,IntKind.signed];omega
 have hm:=hmo;clear hma;obtain⟨hq1,hq2⟩:=hq1
 by_cases hc:B-m≤m
 ·have HR:=hid (hr.trans (if_pos (by omega)))
  clear hr;have HM:=hid hm;clear hm;go_enter Tryz.func132,Tryz.ntmps132;go_wp2_with fail;refine(cF.out _).mono ?_;rintro e w1 ⟨rfl,hb1⟩;go_wp2_with fail;refine(cS.out _).mono ?_;rintro e w2 ⟨rfl,hb2⟩;have k2:=hb1.trans (hb2.mono hb1.size);go_wp2_with fail;refine(cT.out _).mono ?_;rintro e w3 ⟨rfl,hb3⟩;have HK:=hid (k2.trans (hb3.mono k2.size));clear hb1 hb2 hb3 k2;go_wp2;refine bodyPost_ret (v:=.tuple #[.int .i64 (q+1),.int .i64 0]) (by simp[results,Tryz.results132,go_sem]) rfl ?_;exact⟨by rw[HR.out],HK.out⟩
 ·have HR:=hid (hr.trans (if_neg (by omega)))
  clear hr;have HM:=hid hm;clear hm;go_enter Tryz.func132,Tryz.ntmps132;go_wp2_with fail;refine(cF.out _).mono ?_;rintro e w1 ⟨rfl,hb1⟩;go_wp2_with fail;refine(cS.out _).mono ?_;rintro e w2 ⟨rfl,hb2⟩;have k2:=hb1.trans (hb2.mono hb1.size);go_wp2_with fail;refine(cT.out _).mono ?_;rintro e w3 ⟨rfl,hb3⟩;have HK:=hid (k2.trans (hb3.mono k2.size));clear hb1 hb2 hb3 k2;go_wp2;refine bodyPost_ret (v:=.tuple #[.int .i64 (q),.int .i64 0]) (by simp[results,Tryz.results132,go_sem]) rfl ?_;exact⟨by rw[HR.out],HK.out⟩
end Go.Proofs
namespace Go.Proofs
open Go.RowKit Go.Proofs.Mp Go.Proofs.Ed
theorem tC{w W:World}{a1 a2 b1 b2:Value}(hb:Below ((w.alloc (.cells #[a1,a2] 30)).alloc (.cells #[b1,b2] 30)).heap.size ((w.alloc (.cells #[a1,a2] 30)).alloc (.cells #[b1,b2] 30)) W) :
  W.cell? ⟨w.heap.size,0,none⟩=some a1∧W.cell? ⟨w.heap.size,1,none⟩=some a2∧W.cell? ⟨w.heap.size+1,0,none⟩=some b1∧W.cell? ⟨w.heap.size+1,1,none⟩=some b2∧Below w.heap.size w W:=by
 have e2:=bw1 (w.alloc (.cells #[a1,a2] 30)) (.cells #[b1,b2] 30);have e1:=bw1 w (.cells #[a1,a2] 30);have s1:(w.alloc (.cells #[a1,a2] 30)).heap.size=w.heap.size+1:=by simp
 have s2:((w.alloc (.cells #[a1,a2] 30)).alloc (.cells #[b1,b2] 30)).heap.size=w.heap.size+1+1:=by simp
 rw[s2]at hb;rw[s1]at e2;have h1:=e2.trans (hb.mono (by omega));have h0:=e1.trans (h1.mono (by omega));obtain⟨k1,k2⟩:=gg w W _ _ _ h1;obtain⟨k3,k4⟩:=gg (w.alloc (.cells #[a1,a2] 30)) W b1 b2 30 (by rw[s1];exact hb);rw[s1]at k3 k4;exact⟨k1,k2,k3,k4,h0⟩
theorem jR{a b:Int}(hb:b≠0)(h1 : -70368744177664≤a)(h2:a≤70368744177664) : -70368744177665≤rS a b∧rS a b≤70368744177665:=by
 obtain⟨m,hm⟩:∃m,m=if 0<b then a-flo a b*b else -(a-flo a b*b):=⟨_,rfl⟩;obtain⟨hr,hm3,hm4⟩:=pB hb hm;have hg:=lK a b hb;have:=Int.natAbs_tdiv_le_natAbs a b;have : -70368744177665≤flo a b∧flo a b≤70368744177664:=by omega
 rw[hr];split<;>omega
theorem ju(a b:Pt)(x:Int)(w:World)(ha:Nr a)(hb:Nr b)(hne:a.1≠b.1)(h1:min a.1 b.1≤x)(h2:x≤max a.1 b.1) :
  Calls Tryz.prog 112 #[ae a,ae b,x] w (RetV w (.tuple #[.int .i64 (atX a b x),.int .i64 0])):=by
 have c1:=hid fun W n hn cap=>ub a b ha hb W n hn cap
 have hx:atX a b x=a.2+rS ((b.2-a.2)*(x-a.1)) (b.1-a.1):=by
  unfold atX rS;rw[if_neg hne,if_neg (by omega)]
 rw[hx];clear hx;obtain⟨a1,a2⟩:=a;obtain⟨b1,b2⟩:=b;unfold Nr at ha hb;dsimp only at *;have m1:=aF (a:=b2-a2) (b:=x-a1) (n:=4194304) (m:=4194304) (by omega) (by omega) (by omega) (by omega) (by omega);have m2:=jR (a:=(b2-a2)*(x-a1)) (b:=b1-a1) (by omega) (by omega) (by omega);have c2:=hid fun W=>nH ((b2-a2)*(x-a1)) (b1-a1) W (by omega) (by omega) (by omega) (by omega) (by omega)
 have w1:=IntWalk.i64_in (b2-a2) (by omega);have w2:=IntWalk.i64_in (x-a1) (by omega);have w3:=IntWalk.i64_in ((b2-a2)*(x-a1)) (by omega);have w4:=IntWalk.i64_in (b1-a1) (by omega);generalize rS ((b2-a2)*(x-a1)) (b1-a1)=r at *;have w5:=IntWalk.i64_in (a2+r) (by omega);have hne2:(a1==b1)=false:=by simp[hne]
 have n1:¬x<min a1 b1:=by omega
 have n2:¬max a1 b1<x:=by omega
 clear ha hb m1 m2 h1 h2;unfold ae at *;dsimp only at *;go_enter Tryz.func112,Tryz.ntmps112;go_wp2_with fail;refine(c1.out _ _ (by simp) _).mono ?_;rintro e v1 ⟨rfl,hb1⟩;have hb2:=below_lit hb1;clear hb1;obtain⟨k1,k2,k3,k4,h0⟩:=tC hb2;have HB:=hid hb2;clear hb2;go_wp2_with fail;refine(c2.out _).mono ?_;rintro e v2 ⟨rfl,hb1⟩;have hb3:=HB.out.trans (hb1.mono HB.out.size);clear k1 k2 k3 k4;obtain⟨k1,k2,k3,k4,h0⟩:=tC hb3;clear hb1 hb3;go_wp2;refine bodyPost_ret (v:=.tuple #[.int .i64 (a2+r),.int .i64 0]) (by simp[results,Tryz.results112,go_sem]) rfl ?_;exact⟨rfl,h0⟩
theorem mB(a b:Pt)(y:Int)(w:World)(ha:Nr a)(hb:Nr b)(hne:a.2≠b.2)(h1:min a.2 b.2≤y)(h2:y≤max a.2 b.2) :
  Calls Tryz.prog 113 #[ae a,ae b,y] w (RetV w (.tuple #[.int .i64 (atY a b y),.int .i64 0])):=by
 have c1:=hid fun W=>ju (a.2,a.1) (b.2,b.1) y W (by unfold Nr at *;dsimp only;omega) (by unfold Nr at *;dsimp only;omega) hne h1 h2
 rw[show atY a b y=atX (a.2,a.1) (b.2,b.1) y from rfl];generalize atX (a.2,a.1) (b.2,b.1) y=r at *;clear hne h1 h2 ha hb;obtain⟨a1,a2⟩:=a;obtain⟨b1,b2⟩:=b;unfold ae at *;dsimp only at *;go_enter Tryz.func113,Tryz.ntmps113;go_wp2_with fail;refine(c1.out _).mono ?_;rintro e v1 ⟨rfl,hb1⟩;obtain⟨k1,k2,k3,k4,h0⟩:=tC hb1;go_wp2;refine bodyPost_ret (v:=.tuple #[r,.int .i64 0]) (by simp[results,Tryz.results113,go_sem]) rfl ?_;exact⟨rfl,h0⟩
end Go.Proofs
namespace Go.Proofs
open Go.RowKit Go.Proofs.Mp Go.Proofs.Ed
theorem qq(a b:Pt)(v:Int)(na nb:Nat)(w:World)(ha:Nr a)(hb:Nr b)(hne:a.1≠b.1)(h1:min a.1 b.1≤v)(h2:v≤max a.1 b.1)(ba:az w na a)(bb:az w nb b) :
  Calls Tryz.prog 156 #[v,.pointer (some ⟨na,0,none⟩),.pointer (some ⟨nb,0,none⟩)] w (RetV w (ae (v,atX a b v))):=by
 have c1:=hid fun W=>ju a b v W ha hb hne h1 h2
 generalize atX a b v=r at *;have k1:=ba.c0;have k2:=ba.c1;have k3:=bb.c0;have k4:=bb.c1;have l1:=ba.lt;have l2:=bb.lt;clear hne h1 h2 ha hb ba bb;obtain⟨a1,a2⟩:=a;obtain⟨b1,b2⟩:=b;unfold ae at *;dsimp only at *;go_enter Tryz.func156,Tryz.ntmps156;go_wp2_with fail;refine(c1.out _).mono ?_;rintro e w1 ⟨rfl,hb1⟩;have bx:=(az.new w (0,0)).below hb1;have h0:=(bw1 w (.cells #[.int .i64 0,.int .i64 0] 30)).trans (hb1.mono (bw1 _ _).size);clear hb1 k1 k2 k3 k4 l1 l2;have q0:=bx.c0;have q1:=bx.c1;have f0:=bx.f0;have f1:=bx.f1;have ql:=bx.lt;go_wp2_with fail;clear q0 q1 f0 f1 ql;have b2:=bx.set (v,r);have hk:Below w.heap.size w (setP w1 w.heap.size (v,r)):=aU h0 (Nat.le_refl _);change bodyPost _ _ _ _ _ (setP w1 w.heap.size (v,r));generalize setP w1 w.heap.size (v,r)=w2 at *;have q0:=b2.c0;have q1:=b2.c1;refine bodyPost_ret (v:=.agg #[v,r]) (by simp[results,Tryz.results156,go_sem,q0,q1]) rfl ?_;exact⟨rfl,hk⟩
theorem qp(a b:Pt)(v:Int)(na nb:Nat)(w:World)(ha:Nr a)(hb:Nr b)(hne:a.2≠b.2)(h1:min a.2 b.2≤v)(h2:v≤max a.2 b.2)(ba:az w na a)(bb:az w nb b) :
  Calls Tryz.prog 157 #[v,.pointer (some ⟨na,0,none⟩),.pointer (some ⟨nb,0,none⟩)] w (RetV w (ae (atY a b v,v))):=by
 have c1:=hid fun W=>mB a b v W ha hb hne h1 h2
 generalize atY a b v=r at *;have k1:=ba.c0;have k2:=ba.c1;have k3:=bb.c0;have k4:=bb.c1;have l1:=ba.lt;have l2:=bb.lt;clear hne h1 h2 ha hb ba bb;obtain⟨a1,a2⟩:=a;obtain⟨b1,b2⟩:=b;unfold ae at *;dsimp only at *;go_enter Tryz.func157,Tryz.ntmps157;go_wp2_with fail;refine(c1.out _).mono ?_;rintro e w1 ⟨rfl,hb1⟩;have bx:=(az.new w (0,0)).below hb1;have h0:=(bw1 w (.cells #[.int .i64 0,.int .i64 0] 30)).trans (hb1.mono (bw1 _ _).size);clear hb1 k1 k2 k3 k4 l1 l2;have q0:=bx.c0;have q1:=bx.c1;have f0:=bx.f0;have f1:=bx.f1;have ql:=bx.lt;go_wp2_with fail;clear q0 q1 f0 f1 ql;have b2:=bx.set (r,v);have hk:Below w.heap.size w (setP w1 w.heap.size (r,v)):=aU h0 (Nat.le_refl _);change bodyPost _ _ _ _ _ (setP w1 w.heap.size (r,v));generalize setP w1 w.heap.size (r,v)=w2 at *;have q0:=b2.c0;have q1:=b2.c1;refine bodyPost_ret (v:=.agg #[r,v]) (by simp[results,Tryz.results157,go_sem,q0,q1]) rfl ?_;exact⟨rfl,hk⟩
end Go.Proofs
namespace Go.Proofs
open Go.RowKit Go.Proofs.Mp
structure Bo where
 x0:Int
 y0:Int
 x1:Int
 y1:Int
def bj(b:Bo):Value:=.agg #[b.x0,b.y0,b.x1,b.y1]
def rX(b:Bo):List Value:=[.int .i64 b.x0,.int .i64 b.y0,.int .i64 b.x1,.int .i64 b.y1]
end Go.Proofs
