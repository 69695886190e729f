/- Lemmas and walks; no statement of a law is proved here. -/
import Derived.Test.YtaglmdebikglgaaGreatDoorX11
import Derived.Sort.Statements
set_option linter.unusedVariables false
set_option linter.unusedSimpArgs false
set_option maxRecDepth 100000
set_option maxHeartbeats 8000000
open Go.Lib
namespace Go.Proofs
open Go.RowKit Go.Proofs.Mp Go.Lib
def gn(g:Eg)(l:List Pt):Nat:=l.length-bA g l.reverse
theorem jh{l:List Pt}{j:Nat}(h:j<l.length):l.reverse[j]! = l[l.length-1-j]!:=by
 rw[getElem!_pos _ j (by simpa using h),List.getElem_reverse,getElem!_pos l _ (by omega)]
theorem kZ{g:Eg}{l:List Pt}{k:Nat}(hk:k+1≤l.length)(h:∀j,k+1≤j→j<l.length→g.off l[j]! = 0)(h2:g.off l[k]!≠0):gn g l=k+1:=by
 unfold gn;rw[f9 (k:=l.length-(k+1)) (by simp;omega) (fun j hj=>by rw[jh (by omega)];exact h _ (by omega) (by omega)) (by rw[jh (by omega),show l.length-1-(l.length-(k+1))=k by omega];exact h2)];omega
theorem ld{g:Eg}{l:List Pt}(h:∀j,0≤j→j<l.length→g.off l[j]! = 0):gn g l=0:=by
 unfold gn;rw[fg fun j hj=>by rw[jh (by simpa using hj)];exact h _ (Nat.zero_le _) (by simp at hj;omega)];simp
theorem s7{w:World}{b off:Nat}{l:List Pt}(h:RdR w (some ⟨b,off,none⟩) l)(k c:Nat)(hc:l.length≤c):RdR w (if c=k then some ⟨b,off,none⟩ else some ⟨b,off+k*2,none⟩) (l.drop k):=by
 by_cases e:c=k
 ·exact Or.inl (List.drop_eq_nil_of_le (by omega))
 ·rw[if_neg e]
  by_cases h0:l=[]
  ·exact Or.inl (by rw[h0];simp)
  ·have:=Rd.drop h h0 k
   unfold Addr.add at this;split at this
   ·rename_i e2
    rw[e2,Nat.add_zero];exact this
   ·exact this
def leaN(g:Eg)(l:List Pt)(en le:Int):Option Nat:=
 if le≠g.side then none
 else if gn g l=0 then (if en=0∨en=g.side then none else if 1<l.length then some 1 else some 0) else some (gn g l)
def ir(l:List Pt):Option Nat→List Pt
 | none=>[]
 | some k=>l.drop k
def mK(w0 w:World)(l:List Pt)(en:Ending)(w':World):Prop:=∃A c,en=.returned (.slice A l.length c)∧RdR w0 A l∧Below w.heap.size w w'
theorem lO(g:Eg)(arc:Int)(A:Option Addr)(c:Nat)(l:List Pt)(en le:Int)(w0 w:World)(hW:Below w0.heap.size w0 w)(hR:RdR w0 A l)(hm:l.length≤1000000000)(hc:l.length≤c)(hcm:c≤maxLen) :
  Calls Tryz.prog 38 #[egE g,pcV arc A l.length c en le] w (mK w0 w (ir l (leaN g l en le))):=by
 have hE:egE g=.agg #[g.side,.bool g.up,g.line,g.lo,g.hi]:=rfl;have cO0:=hid fun (i:Nat) W=>jr g l[i]! W
 rw[hE]at cO0 ⊢;unfold pcV;have hg0:=(Bx.new (t:=91) (cs:=jC g) w rfl).alloc (.cells #[arc,.slice A l.length c,en,le] 97);have hx0:=Bx.newAt (b:=w.heap.size+1) (t:=97) (cs:=pcC arc A l.length c en le) (w.alloc (.cells #[g.side,.bool g.up,g.line,g.lo,g.hi] 91)) (by simp) rfl;have hb0:=bwx w (.cells #[g.side,.bool g.up,g.line,g.lo,g.hi] 91) (.cells #[arc,.slice A l.length c,en,le] 97);change Bx (((w.alloc (.cells #[g.side,.bool g.up,g.line,g.lo,g.hi] 91))).alloc (.cells #[arc,.slice A l.length c,en,le] 97)) _ _ _ at hg0;change Bx ((w.alloc (.cells #[g.side,.bool g.up,g.line,g.lo,g.hi] 91)).alloc (.cells #[arc,.slice A l.length c,en,le] 97)) _ _ _ at hx0;go_enter Tryz.func38,Tryz.ntmps38;go_upto_region 1 with fail;generalize (w.alloc (.cells #[g.side,.bool g.up,g.line,g.lo,g.hi] 91)).alloc (.cells #[arc,.slice A l.length c,en,le] 97)=w1 at *;generalize hnx:w.heap.size+1=nx at *;clear hnx;have HX:=hid (And.intro hg0 hx0);have HRR:=hid fun (i:Nat) (hi:i<l.length) W (hb:Below w1.heap.size w1 W)=>RdR.get hR (hW.trans ((hb0.trans (hb.mono hb0.size)).mono hW.size)) hi
 have k1:=hx0.cell 1;simp only[pcC,gz,gs]at k1;go_upto_block 0 with fail;clear k1;go_cut [5] from 9 to 23 (fun v5 wx=>∃k:Nat,v5=.int .i64 k∧gn g l=k∧Below w1.heap.size w1 wx)
 case first=>
  go_wp2_with fail;go_loopw [5] (fun i wr=>∃k:Nat,k≤l.length∧i=.int .i64 k∧Hid (∀j,k≤j→j<l.length→g.off l[j]! = 0)∧Below w1.heap.size w1 wr) (fun i _=>(intOf i).toNat)
  case atStart=>exact⟨l.length,Nat.le_refl _,rfl,hid (fun j h1 h2=>by omega),Below.refl _ _⟩
  case round=>
   obtain⟨k,hk,rfl,HD,hbr⟩:=hrel;have HBR:=hid hbr
   have HCC:=hid fun (W:World) (hb:Below wr.heap.size wr W)=>(show W.cell? ⟨nx,1,none⟩=some (.slice A l.length c)∧W.cell? ⟨nx,2,none⟩=some (.int .i64 en)∧W.cell? ⟨nx,3,none⟩=some (.int .i64 le)∧W.cell? ⟨w.heap.size,0,none⟩=some (.int .i64 g.side)∧W.cell? ⟨w.heap.size,1,none⟩=some (.bool g.up)∧W.cell? ⟨w.heap.size,2,none⟩=some (.int .i64 g.line)∧W.cell? ⟨w.heap.size,3,none⟩=some (.int .i64 g.lo)∧W.cell? ⟨w.heap.size,4,none⟩=some (.int .i64 g.hi)∧True from by
    have hz:=HBR.out.trans (hb.mono HBR.out.size);have h1:=HX.out.1.below hz;have h2:=HX.out.2.below hz
    exact⟨h2.cell 1,h2.cell 2,h2.cell 3,h1.cell 0,h1.cell 1,h1.cell 2,h1.cell 3,h1.cell 4,trivial⟩)
   match k,hk,HD with
   | k+1,hk,HD=>
    have hli:(0:Int)<((k+1:Nat):Int):=by omega
    have hlt:k<l.length:=by omega
    have e1:((k+1:Nat):Int)-1=(k:Int):=by omega
    have e2:(k:Int)<(l.length:Int):=by omega
    have hw:=IntWalk.i64_in (((k+1:Nat):Int)-1) (by omega);rw[e1]at hw;obtain⟨b,off,rfl,hbl,_⟩:=HRR.out k hlt wr hbr
    have HPC:=hid fun (W:World) (hb:Below wr.heap.size wr W)=>(show W.cell? ⟨b,off+k*2,none⟩=some (.int .i64 l[k]!.1)∧W.cell? ⟨b,off+k*2+1,none⟩=some (.int .i64 l[k]!.2)from by
     obtain⟨b',o',e,_,q1,q2⟩:=HRR.out k hlt W (HBR.out.trans (hb.mono HBR.out.size));injection e with e;injection e with e1 e2;subst e1 e2
     exact⟨q1,q2⟩)
    have HE:=hid (show g.off l[k]! = 0→∀j,k≤j→j<l.length→g.off l[j]! = 0 from fun h j hj hj2=>by
     by_cases e:j=k
     ·subst e;exact h
     ·exact HD.out j (by omega) hj2)
    have cO:=hid (cO0.out k);obtain⟨go,hgo⟩:∃z,g.off l[k]! = z:=⟨_,rfl⟩;have HGO:=hid hgo;rw[hgo]at cO HE;clear hgo hbr;obtain⟨⟨px,py⟩,hpx⟩:∃z,l[k]! = z:=⟨_,rfl⟩;rw[hpx]at cO HPC;dsimp only at HPC;unfold ae at cO;dsimp only at cO;clear hpx;go_upto_region 2 with fail;have hS1:(fun W:World=>Below wr.heap.size wr W) wr.drew:=(Below.refl _ _).drew;refine wp_region_held_drew (S:=fun W:World=>Below wr.heap.size wr W) (by kernel_rfl) hS1 (fun hHeld=>?_);clear hHeld;generalize hwd:wr.drew=wd at *;clear hwd;refine kk 0 rfl ?_;refine kk 1 rfl ?_;refine kk 2 rfl ?_;refine kf 3 HCC.out rfl ?_;refine kk 4 rfl ?_;refine kf 5 HCC.out rfl ?_;refine kk 6 rfl ?_;refine kk 7 rfl ?_;refine kk 8 rfl ?_;refine kf 9 HPC.out rfl ?_;refine kr 10 rfl fun K hK=>?_
    go_simp;go_at_call 69;refine(cO.out _).mono ?_;rintro e Wra1 ⟨rfl,hbWra1⟩;have hSWra1:=hS1.trans (hbWra1.mono hS1.size)
    try clear hS1
    clear hbWra1;go_wp2_with fail;refine hK.out _ _ hSWra1 (fun hHeld=>?_);clear hK hHeld K
    try simp only[Act.put,sa,sz,ss]
    refine kk 11 rfl ?_;refine kk 12 rfl ?_;refine wpAnyH_done (by kernel_rfl) ?_ _;have HBZ:=hid (HBR.out.trans (hSWra1.mono HBR.out.size))
    by_cases ho:go=0
    ·subst ho
     have HQ:=hid (HE.out rfl);go_wp2_with fail;go_roundw
     case rel=>exact⟨k,by omega,by go_num,HQ,HBZ.out⟩
     case measure=>simp[intOf]
    ·have hob:(go==0)=false:=by simp[ho]
     have HN:=hid (kZ hk HD.out (show g.off l[k]!≠0 from HGO.out▸ho));go_wp2_with fail;go_meet;exact⟨k+1,by go_num,HN.out,HBZ.out⟩
   | 0,hk,HD=>
    have HN:=hid (ld HD.out);clear hbr;go_upto_region 2 with fail;have hS1:(fun W:World=>Below wr.heap.size wr W) wr.drew:=(Below.refl _ _).drew;refine wp_region_held_drew (S:=fun W:World=>Below wr.heap.size wr W) (by kernel_rfl) hS1 (fun hHeld=>?_);clear hHeld;generalize hwd:wr.drew=wd at *;clear hwd;refine kk 0 rfl ?_;refine kk 1 rfl ?_;refine kk 2 rfl ?_;refine ku 3 rfl ?_;refine ku 4 rfl ?_;refine ku 5 rfl ?_;refine ku 6 rfl ?_;refine ku 7 rfl ?_;refine ku 8 rfl ?_;refine ku 9 rfl ?_;refine ku 10 rfl ?_;refine ku 11 rfl ?_;refine kk 12 rfl ?_;refine wpAnyH_done (by kernel_rfl) ?_ _;have HBZ:=hid (HBR.out.trans (hS1.mono HBR.out.size));go_wp2_with fail;go_meet;exact⟨0,by go_num,HN.out,HBZ.out⟩
 case rest=>
  obtain⟨k,rfl,hk,hbx⟩:=hcut;generalize wc=w8 at *;have hg8:=HX.out.1.below hbx;have hx8:=HX.out.2.below hbx;have HB8:=hid (hb0.trans (hbx.mono hb0.size));have k0:=hg8.cell 0;have k1:=hx8.cell 1;have k2:=hx8.cell 2;have k3:=hx8.cell 3;have kl:k≤l.length:=by rw[←hk];exact Nat.sub_le _ _
  simp only[jC,pcC,gz,gs]at k0 k1 k2 k3;have HEN:=hid (show leaN g l en le=(if le≠g.side then none else if k=0 then (if en=0∨en=g.side then none else if 1<l.length then some 1 else some 0) else some k)from by unfold leaN;rw[hk]);have FIN:=hid (show ∀(A':Option Addr) (c' q:Nat) W,Below w.heap.size w W→RdR w0 A' (l.drop q)→mK w0 w (ir l (some q)) (.returned (.slice A' (l.length-q) c')) W from fun A' c' q W h1 h2=>⟨A',c',by show _=Ending.returned (.slice A' (l.drop q).length c');rw[List.length_drop],h2,h1⟩);have FIN0:=hid (show ∀W,Below w.heap.size w W→mK w0 w (ir l none) (.returned (.slice none 0 0)) W from fun W h1=>⟨none,0,rfl,Or.inl rfl,h1⟩);have HLO:=hid (show ∀b off q,A=some ⟨b,off,none⟩→RdR w0 (if c=q then some ⟨b,off,none⟩ else some ⟨b,off+q*2,none⟩) (l.drop q)from fun b off q e=>s7 (e▸hR) q c hc);have HNO:=hid (show A=none→l=[] from fun e=>hR.resolve_right (by rintro⟨b,off,e2,_⟩;rw[e]at e2;cases e2))
  have HAF:=hid (show ∀a,A=some a→l≠[]→∃b off,a=⟨b,off,none⟩ from fun a e h=>by
   obtain⟨b,off,e2,_⟩:=hR.resolve_left h;rw[e]at e2;injection e2 with e2
   exact⟨b,off,e2⟩)
  generalize leaN g l en le=R at *;clear hbx hb0 HX HRR cO0 hR hk hW
  by_cases h1:le=g.side
  rotate_left
  ·have h1b:(le != g.side)=true:=by simp[h1]
   obtain rfl:R=none:=by rw[HEN.out,if_pos h1]
   go_wp2_with fail;go_ret;exact FIN0.out _ HB8.out
  have h1b:(le != g.side)=false:=by simp[h1]
  have HE1:=hid (show R=(if k=0 then (if en=0∨en=g.side then none else if 1<l.length then some 1 else some 0) else some k)from by rw[HEN.out,if_neg (fun h=>h h1)]);clear HEN
  by_cases h2:k=0
  rotate_left
  ·have h2b:((k:Int)==0)=false:=by simp;omega
   obtain rfl:R=some k:=by rw[HE1.out,if_neg h2]
   cases A with
   | none=>have:=HNO.out rfl;subst this;simp at kl;exact absurd kl h2
   | some a=>
    obtain⟨b,off,rfl⟩:=HAF.out a rfl (fun e=>by subst e;simp at kl;exact h2 kl);have HL:=hid (HLO.out b off k rfl);generalize hln:l.length=n at *;have z1:(0:Int)≤(k:Int):=by omega
    have z2:(k:Int)≤(n:Int):=by omega
    clear hln HNO HAF HLO;go_wp2_with fail
    all_goals
     go_ret;refine FIN.out _ _ _ _ HB8.out ?_;have h9:=HL.out
     first
      | (rw[if_pos rfl]at h9;exact h9)
      | (rw[if_pos (by assumption)]at h9;exact h9)
      | (rw[if_neg (by assumption)]at h9;exact h9)
      | (rw[if_neg (by omega)]at h9;exact h9)
  subst h2;have h2b:((((0:Nat):Int))==0)=true:=by simp
  by_cases h3:en=0
  ·obtain rfl:R=none:=by rw[HE1.out,if_pos rfl,if_pos (Or.inl h3)]
   subst h3;go_wp2_with fail;go_ret;exact FIN0.out _ HB8.out
  have h3b:(en==0)=false:=by simp[h3]
  by_cases h4:en=g.side
  ·obtain rfl:R=none:=by rw[HE1.out,if_pos rfl,if_pos (Or.inr h4)]
   have h4b:(en==g.side)=true:=by simp[h4]
   go_wp2_with fail;go_ret;exact FIN0.out _ HB8.out
  have h4b:(en==g.side)=false:=by simp[h4]
  by_cases h5:1<l.length
  ·obtain rfl:R=some 1:=by rw[HE1.out,if_pos rfl,if_neg (by omega),if_pos h5]
   cases A with
   | none=>have:=HNO.out rfl;subst this;exact absurd h5 (by simp)
   | some a=>
    obtain⟨b,off,rfl⟩:=HAF.out a rfl (fun e=>by subst e;exact absurd h5 (by simp));have HL:=hid (HLO.out b off 1 rfl);generalize hln:l.length=n at *;have h5b:(1:Int)<(n:Int):=by omega
    have z2:(1:Int)≤(n:Int):=by omega
    clear hln HNO HAF HLO;go_wp2_with fail
    all_goals
     go_ret;refine FIN.out _ _ _ _ HB8.out ?_;have h9:=HL.out
     first
      | (rw[if_pos rfl]at h9;exact h9)
      | (rw[if_pos (by assumption)]at h9;exact h9)
      | (rw[if_neg (by assumption)]at h9;exact h9)
      | (rw[if_neg (by omega)]at h9;exact h9)
  ·obtain rfl:R=some 0:=by rw[HE1.out,if_pos rfl,if_neg (by omega),if_neg h5]
   cases A with
   | none=>
    have h9:=HNO.out rfl;subst h9;have FIN1:=FIN.out;clear HNO HAF HLO;have h5b:¬(1:Int)<(([]:List Pt).length:Int):=by simp
    go_wp2_with fail
    all_goals
     go_ret;exact FIN1 _ _ 0 _ HB8.out (Or.inl rfl)
   | some a=>
    by_cases hl:l=[]
    ·subst hl
     have FIN1:=FIN.out;clear HNO HAF HLO;have h5b:¬(1:Int)<(([]:List Pt).length:Int):=by simp
     go_wp2_with fail
     all_goals
      go_ret;exact FIN1 _ _ 0 _ HB8.out (Or.inl rfl)
    ·obtain⟨b,off,rfl⟩:=HAF.out a rfl hl
     have hl0:=List.length_pos_iff.2 hl
     have HL:Hid (RdR w0 (some ⟨b,off,none⟩) (l.drop 0)):=hid (by
      have h9:=HLO.out b off 0 rfl;rw[if_neg (by omega),Nat.zero_mul,Nat.add_zero]at h9
      exact h9)
     generalize hln:l.length=n at *;have h5b:¬(1:Int)<(n:Int):=by omega
     have z2:(0:Int)≤(n:Int):=by omega
     clear hln HNO HAF HLO;go_wp2_with fail
     all_goals
      go_ret;exact FIN.out _ _ 0 _ HB8.out HL.out
end Go.Proofs
namespace Go.Proofs
open Go.RowKit Go.Proofs.Mp Go.Lib
def orI:List Int→Int
 | []=>0
 | x::l=>if x=0 then orI l else x
theorem pJ:∀{l:List Int} {k:Nat},k<l.length→(∀j,j<k→l[j]! = 0)→l[k]!≠0→orI l=l[k]!
 | [],k,h,_,_=>absurd h (Nat.not_lt_zero _)
 | x::l,0,_,_,h=>by
  unfold orI;rw[if_neg (show ¬x=0 from h)];rfl
 | x::l,k+1,h,h1,h2=>by
  have h0:x=0:=h1 0 (Nat.succ_pos _);unfold orI;rw[if_pos h0];have:=pJ (l:=l) (k:=k) (by simpa using h) (fun j hj=>by have:=h1 (j+1) (by omega);simpa using this) (by simpa using h2)
  rw[this];simp
theorem jZ:∀{l:List Int},(∀j,j<l.length→l[j]! = 0)→orI l=0
 | [],_=>rfl
 | x::l,h=>by
  have h0:x=0:=h 0 (Nat.succ_pos _);unfold orI;rw[if_pos h0];exact jZ (l:=l) (fun j hj=>by have:=h (j+1) (by simpa using hj);simpa using this)
theorem tB(A:Option Addr)(c:Nat)(l:List Int)(w:World)(hR:RdI w A l)(hm:l.length≤1000000000):Calls Tryz.prog 74 #[.slice A l.length c] w (eC w (.int .i64 (orI l))):=by
 have HR:=hid hR;clear hR;go_enter Tryz.func74,Tryz.ntmps74;go_wp2_with fail;go_loopw [8] (fun i wr=>∃k:Nat,k≤l.length∧i=.int .i64 k∧Hid (∀j,j<k→l[j]! = 0)∧wr=w) (fun i _=>l.length-(intOf i).toNat)
 case atStart=>exact⟨0,by omega,rfl,hid (fun i hi=>absurd hi (Nat.not_lt_zero _)),by trivial⟩
 case round=>
  obtain⟨k,hk,rfl,HD,rfl⟩:=hrel
  by_cases hlt:k<l.length
  ·have hli:(k:Int)<(l.length:Int):=by omega
   obtain⟨b,off,rfl,hbl,c0⟩:=RdI.get HR.out (Below.refl _ _) hlt
   have HE:=hid (show l[k]! = 0→∀j,j<k+1→l[j]! = 0 from fun h j hj=>by
    by_cases e:j=k
    ·subst e;exact h
    ·exact HD.out j (by omega))
   have HN:=hid (fun h=>pJ hlt HD.out h);generalize l[k]! = z at *
   by_cases hz:z=0
   ·subst hz
    have HQ:=hid (HE.out rfl);go_wp2_with fail;go_roundw
    case rel=>exact⟨k+1,by omega,by go_num,HQ,by trivial⟩
    case measure=>simp[intOf];omega
   ·have hzb:(z != 0)=true:=by simp[hz]
    have HQ:=hid (HN.out hz);go_wp2_with fail;go_ret;exact⟨by rw[HQ.out];rfl,BD.refl _⟩
  ·obtain rfl:k=l.length:=by omega
   have hge:¬((l.length:Int)<(l.length:Int)):=by omega
   have HQ:=hid (jZ HD.out);go_wp2_with fail;go_ret;exact⟨by rw[HQ.out];rfl,BD.refl _⟩
end Go.Proofs
namespace Go.Proofs
open Go.RowKit Go.Proofs.Mp Go.Lib
abbrev Cr:=Int×Int×Int
def bc(c:Cr):List Value:=[.int .i64 c.1,.int .i64 c.2.1,.int .i64 c.2.2]
def crV(c:Cr):Value:=.agg #[c.1,c.2.1,c.2.2]
def iw(a b:Cr):Int:=orI [Lib.compareInt a.1 b.1,Lib.compareInt a.2.1 b.2.1,Lib.compareInt a.2.2 b.2.2]
theorem BD.alloc{w w':World}(h:BD w w')(_:w.heap.size≤w'.heap.size)(o:Obj):BD w (w'.alloc o):=⟨h.bel.alloc h.bel.size o,h.drawn⟩
def S3(W:World)(v:Value)(c1 c2 c3:Int):Prop:=∃A,v=.slice A 3 3∧RdI W A [c1,c2,c3]
theorem S3.lit(w:World)(c1 c2 c3:Int):S3 (w.alloc (.cells #[c1,c2,c3] 3)) (.slice (some ⟨w.heap.size,0,none⟩) 3 3) c1 c2 c3:=by
 have h:=Bx.new (t:=3) (cs:=[.int .i64 c1,.int .i64 c2,.int .i64 c3]) w rfl;refine⟨_,rfl,Or.inr ⟨_,_,rfl,h.lt,fun j hj i u hu=>?_⟩⟩;have hj:j<3:=hj;cases i with
 | succ i=>exact absurd hu (by simp[Mp.encI])
 | zero=>
  simp only[Nat.zero_add,Nat.mul_one,Nat.add_zero];rw[h.cell j,←hu]
  match j,hj with
  | 0,_=>rfl
  | 1,_=>rfl
  | 2,_=>rfl
theorem rQ(a b:Cr)(w:World):Calls Tryz.prog 73 #[crV a,crV b] w (eC w (.int .i64 (iw a b))):=by
 obtain⟨a1,a2,a3⟩:=a;obtain⟨b1,b2,b3⟩:=b;unfold crV iw;dsimp only;have cC1:=hid fun W=>kL a1 b1 W
 have cC2:=hid fun W=>kL a2 b2 W
 have cC3:=hid fun W=>kL a3 b3 W
 generalize Lib.compareInt a1 b1=c1 at *;generalize Lib.compareInt a2 b2=c2 at *;generalize Lib.compareInt a3 b3=c3 at *;have cO:=hid fun A W (h:RdI W A [c1,c2,c3])=>(show Calls Tryz.prog 74 #[.slice A 3 3] W (eC W (.int .i64 (orI [c1,c2,c3])))from tB A 3 [c1,c2,c3] W h (by simp))
 generalize orI [c1,c2,c3]=r at *;have hs0:=(Bx.new (t:=65) (cs:=[.int .i64 a1,.int .i64 a2,.int .i64 a3]) w rfl).alloc (.cells #[b1,b2,b3] 65);have ht0:=Bx.newAt (b:=w.heap.size+1) (t:=65) (cs:=[.int .i64 b1,.int .i64 b2,.int .i64 b3]) (w.alloc (.cells #[a1,a2,a3] 65)) (by simp) rfl;have HB1:Hid (BD w ((w.alloc (.cells #[a1,a2,a3] 65)).alloc (.cells #[b1,b2,b3] 65))):=hid ⟨bwx w _ _,Nat.le_refl _⟩;go_enter Tryz.func73,Tryz.ntmps73;go_upto_region 1 with fail;generalize (w.alloc (.cells #[a1,a2,a3] 65)).alloc (.cells #[b1,b2,b3] 65)=w1 at *
 have HCC:=hid fun (W:World) (hb:RowKit.Below w1.heap.size w1 W)=>(show W.cell? ⟨w.heap.size,0,none⟩=some (.int .i64 a1)∧W.cell? ⟨w.heap.size,1,none⟩=some (.int .i64 a2)∧W.cell? ⟨w.heap.size,2,none⟩=some (.int .i64 a3)∧W.cell? ⟨w.heap.size+1,0,none⟩=some (.int .i64 b1)∧W.cell? ⟨w.heap.size+1,1,none⟩=some (.int .i64 b2)∧W.cell? ⟨w.heap.size+1,2,none⟩=some (.int .i64 b3) from
  ⟨(hs0.below hb).cell 0,(hs0.below hb).cell 1,(hs0.below hb).cell 2,(ht0.below hb).cell 0,(ht0.below hb).cell 1,(ht0.below hb).cell 2⟩)
 clear hs0 ht0;have hS1:(fun W:World=>BD w1 W) w1.drew:=BD.drew' _;refine wp_region_held_drew (S:=fun W:World=>BD w1 W) (by kernel_rfl) hS1 (fun hHeld=>?_);clear hHeld;generalize w1.drew=w1d at *;refine kk 0 rfl ?_;refine kf 1 (fun W h=>HCC.out W h.bel) rfl ?_;refine kk 2 rfl ?_;refine kf 3 (fun W h=>HCC.out W h.bel) rfl ?_;refine kk 5 rfl ?_;refine kf 6 (fun W h=>HCC.out W h.bel) rfl ?_;refine kk 7 rfl ?_;refine kf 8 (fun W h=>HCC.out W h.bel) rfl ?_;refine kk 10 rfl ?_;refine kf 11 (fun W h=>HCC.out W h.bel) rfl ?_;refine kk 12 rfl ?_;refine kf 13 (fun W h=>HCC.out W h.bel) rfl ?_;refine kr 4 rfl fun K hK=>?_
 go_simp;go_at_call 75;refine(cC1.out _).mono ?_;rintro e Wra1 ⟨rfl,hbWra1⟩;have hSWra1:=hS1.trans (hbWra1.mono hS1.size)
 try clear hS1
 clear hbWra1;go_wp2_with fail;refine hK.out _ _ hSWra1 (fun hHeld=>?_);clear hK hHeld K
 try simp only[Act.put,sa,sz,ss]
 refine kr 9 rfl fun K hK=>?_
 go_simp;go_at_call 75;refine(cC2.out _).mono ?_;rintro e Wra2 ⟨rfl,hbWra2⟩;have hSWra2:=hSWra1.trans (hbWra2.mono hSWra1.size)
 try clear hSWra1
 clear hbWra2;go_wp2_with fail;refine hK.out _ _ hSWra2 (fun hHeld=>?_);clear hK hHeld K
 try simp only[Act.put,sa,sz,ss]
 refine kr 14 rfl fun K hK=>?_
 go_simp;go_at_call 75;refine(cC3.out _).mono ?_;rintro e Wra3 ⟨rfl,hbWra3⟩;have hSWra3:=hSWra2.trans (hbWra3.mono hSWra2.size)
 try clear hSWra2
 clear hbWra3;go_wp2_with fail;refine hK.out _ _ hSWra3 (fun hHeld=>?_);clear hK hHeld K
 try simp only[Act.put,sa,sz,ss]
 refine kr 15 rfl fun K hK=>?_
 go_simp;have h20:=S3.lit Wra3 c1 c2 c3;have hSWra4:=hSWra3.alloc hSWra3.size (.cells #[c1,c2,c3] 3);refine hK.out _ _ hSWra4 (fun hHeld=>?_);clear hK hHeld K
 try clear hSWra3
 try simp only[Act.put,sa,sz,ss]
 generalize (Wra3.alloc (.cells #[c1,c2,c3] 3))=Wra4 at h20 hSWra4 ⊢;generalize Value.slice (some ⟨Wra3.heap.size,0,none⟩) 3 3=v20 at h20 ⊢;refine kr 16 rfl fun K hK=>?_
 obtain⟨A3,hv3,hr3⟩:=h20;subst hv3;go_simp;go_at_call 74;refine(cO.out A3 Wra4 hr3).mono ?_;rintro e Wra5 ⟨rfl,hbWra5⟩;have hSWra5:=hSWra4.trans (hbWra5.mono hSWra4.size)
 try clear hSWra4
 clear hbWra5;go_wp2_with fail;refine hK.out _ _ hSWra5 (fun hHeld=>?_);clear hK hHeld K
 try simp only[Act.put,sa,sz,ss]
 refine kk 17 rfl ?_;refine wpAnyH_done (by kernel_rfl) ?_ _;have HZ:=hid (HB1.out.trans hSWra5);go_wp2_with fail;refine bodyPost_ret (v:=.int .i64 r) (by simp[results,Tryz.results73,go_sem]) rfl ?_;exact⟨rfl,HZ.out⟩
end Go.Proofs
namespace Go.Proofs
open Go.RowKit Go.Proofs.Mp Go.Lib
theorem p9(a b c:Pt)(w:World)(ha:Nr a)(hb:Nr b)(hc:Nr c):Calls Tryz.prog 141 #[ae a,ae b,ae c] w (eC w (.int .i64 (tw a b c))):=by
 obtain⟨a1,a2⟩:=a;obtain⟨b1,b2⟩:=b;obtain⟨c1,c2⟩:=c;unfold ae tw;unfold Nr at ha hb hc;dsimp only at *;obtain⟨p1,p2⟩:=aF (a:=b1-a1) (b:=c2-a2) (n:=4194304) (m:=4194304) (by omega) (by omega) (by omega) (by omega) (by omega);obtain⟨q1,q2⟩:=aF (a:=b2-a2) (b:=c1-a1) (n:=4194304) (m:=4194304) (by omega) (by omega) (by omega) (by omega) (by omega);go_enter Tryz.func141,Tryz.ntmps141;go_wp2;go_ret;exact⟨by simp,bw3 _ _ _ _,Nat.le_refl _⟩
theorem lL(A:Option Addr)(c:Nat)(zs:List Pt)(w:World)(hmax:zs.length≤1000000000000)(hall:kR zs)(hR:RdR w A zs) :
  Calls Tryz.prog 140 #[.slice A zs.length c] w (eC w (.bool true)):=by
 have HN:=hid hall;clear hall;go_enter Tryz.func140,Tryz.ntmps140;go_wp2;go_loopw [7] (fun i wr=>∃k:Nat,k≤zs.length∧i=.int .i64 k∧BD w wr) (fun i _=>zs.length-(intOf i).toNat)
 case atStart=>exact⟨0,by omega,rfl,BD.refl _⟩
 case round=>
  obtain⟨k,hk,rfl,hbw⟩:=hrel;have hbs:=hbw.size
  by_cases hlt:k<zs.length
  ·obtain⟨b,off,rfl,hb,h1,h2⟩:=RdR.get hR hbw.bel hlt
   have hz:=HN.out k hlt
   rcases hzz:zs[k]! with⟨x,y⟩
   rw[hzz]at h1 h2 hz;unfold Nr at hz;dsimp only at hz h1 h2;obtain⟨z1,z2,z3,z4⟩:=hz;clear hzz;have hbr:b<wr.heap.size:=Nat.lt_of_lt_of_le hb hbs;have hbl:BD w (wr.alloc (.cells #[x,y] 30)):=hbw.alloc hbs _;have HBL:=hid hbl;clear hbl;go_wp2;go_roundw
   case rel=>exact⟨k+1,by omega,by go_num,HBL.out⟩
   case measure=>simp[intOf];omega
  ·obtain rfl:k=zs.length:=by omega
   have HBW:=hid hbw;clear hbw;go_wp2;go_ret;exact⟨rfl,HBW.out⟩
theorem s9(a b c:Pt)(ha:Nr a)(hb:Nr b)(hc:Nr c)(W:World)(n:Nat)(hn:n=W.heap.size)(cap:Nat):Calls Tryz.prog 140 #[.slice (some ⟨n,0,none⟩) 3 cap] (W.alloc (.cells #[a.1,a.2,b.1,b.2,c.1,c.2] 30)) (eC (W.alloc (.cells #[a.1,a.2,b.1,b.2,c.1,c.2] 30)) (.bool true)):=
 lL _ cap [a,b,c] _ (by simp) (qw ha hb hc) (dA W _ 30 [a,b,c] rfl n hn)
def lwB(o p:Pt):Bool:=decide (p.2<o.2)||(p.2==o.2)&&decide (p.1<o.1)
theorem gX(o p:Pt)(w:World):Calls Tryz.prog 209 #[ae o,ae p] w (eC w (.bool (lwB o p))):=by
 have HR:=hid (show lwB o p=(decide (p.2<o.2)||(p.2==o.2)&&decide (p.1<o.1))from rfl);generalize lwB o p=r at *;obtain⟨ox,oy⟩:=o;obtain⟨px,py⟩:=p;unfold ae;dsimp only at *;have h1:=(Bx.new (t:=30) (cs:=[.int .i64 ox,.int .i64 oy]) w rfl).alloc (.cells #[px,py] 30);have h2:=Bx.newAt (b:=w.heap.size+1) (t:=30) (cs:=[.int .i64 px,.int .i64 py]) (c:=#[.int .i64 px,.int .i64 py]) (w.alloc (.cells #[ox,oy] 30)) (by simp) rfl;have HW:Hid (BD w ((w.alloc (.cells #[ox,oy] 30)).alloc (.cells #[px,py] 30))):=hid ⟨(bw1 w (.cells #[ox,oy] 30)).alloc (bw1 _ _).size (.cells #[px,py] 30),Nat.le_refl _⟩;obtain⟨y1,e1⟩:∃y,decide (py<oy)=y:=⟨_,rfl⟩;obtain⟨y2,e2⟩:∃y,(py==oy)=y:=⟨_,rfl⟩;obtain⟨y3,e3⟩:∃y,decide (px<ox)=y:=⟨_,rfl⟩;have HE:=hid (show r=(y1||y2&&y3)from by rw[HR.out,e1,e2,e3]);clear HR;go_enter Tryz.func209,Tryz.ntmps209;go_upto_region 1 with fail;change Bx ((w.alloc (.cells #[ox,oy] 30)).alloc (.cells #[px,py] 30)) _ _ _ at h1;generalize (w.alloc (.cells #[ox,oy] 30)).alloc (.cells #[px,py] 30)=w1 at *;obtain⟨k0,k1⟩:=h1.c2;obtain⟨k2,k3⟩:=h2.c2;clear h1 h2;cases y1
 ·cases y2
  ·go_wp2_with fail
   go_ret;exact⟨by rw[HE.out];rfl,HW.out⟩
  ·cases y3
   all_goals
    go_wp2_with fail;go_ret;exact⟨by rw[HE.out];rfl,HW.out⟩
 ·go_wp2_with fail
  go_ret;exact⟨by rw[HE.out];rfl,HW.out⟩
def lsB(o a b:Pt):Bool:=if lwB o a=lwB o b then decide (0<tw o a b) else lwB o b
theorem lE{y c:Int}(hy:0<y)(h:0<y*c):0<c:=by
 rcases Int.lt_or_le 0 c with k|k
 ·exact k
 ·have:=Int.mul_nonneg (Int.le_of_lt hy) (show 0≤-c by omega)
  rw[Int.mul_neg]at this;omega
def upP(x y:Int):Prop:=0<y∨(y=0∧0<x)
theorem jH{ax ay bx by' cx cy:Int}(ha:upP ax ay)(hb:upP bx by')(hc:upP cx cy)(h1:0<ax*by'-ay*bx)(h2:0<bx*cy-by'*cx):0<ax*cy-ay*cx:=by
 rcases hb with hb|⟨rfl,hb⟩
 ·refine lE hb ?_
  have e:by'*(ax*cy-ay*cx)=ay*(bx*cy-by'*cx)+cy*(ax*by'-ay*bx):=by grind
  rw[e]
  rcases ha with ha|⟨rfl,ha⟩
  ·have p1:=Int.mul_pos ha h2
   rcases hc with hc|⟨rfl,hc⟩
   ·have:=Int.mul_pos hc h1
    omega
   ·omega
  ·rcases hc with hc|⟨rfl,hc⟩
   ·have:=Int.mul_pos hc h1
    omega
   ·have:=Int.mul_pos hb hc
    rw[Int.mul_zero]at h2;omega
 ·rcases ha with ha|⟨rfl,ha⟩
  ·have:=Int.mul_pos ha hb
   rw[Int.mul_zero]at h1;omega
  ·simp at h1
theorem iv{y c:Int}(hy:0<y)(h:y*c≤0):c≤0:=by
 rcases Int.lt_or_le 0 c with k|k
 ·have:=Int.mul_pos hy k
  omega
 ·exact k
theorem iB{ax ay bx by' cx cy:Int}(ha:upP ax ay)(hb:upP bx by')(hc:upP cx cy)(h1:ax*by'-ay*bx≤0)(h2:bx*cy-by'*cx≤0):ax*cy-ay*cx≤0:=by
 have ay0:0≤ay:=by rcases ha with h|h<;>omega
 have cy0:0≤cy:=by rcases hc with h|h<;>omega
 rcases hb with hb|⟨rfl,hb⟩
 ·refine iv hb ?_
  have e:by'*(ax*cy-ay*cx)=ay*(bx*cy-by'*cx)+cy*(ax*by'-ay*bx):=by grind
  rw[e];have p1:=Int.mul_nonneg ay0 (show 0≤-(bx*cy-by'*cx) by omega);have p2:=Int.mul_nonneg cy0 (show 0≤-(ax*by'-ay*bx) by omega);rw[Int.mul_neg]at p1 p2;omega
 ·have c0:cy=0:=by
   rcases hc with hc|hc
   ·have:=Int.mul_pos hb hc
    rw[Int.zero_mul]at h2;omega
   ·exact hc.1
  subst c0;have cx0:0<cx:=by rcases hc with h|h<;>omega
  have:=Int.mul_nonneg ay0 (Int.le_of_lt cx0);rw[Int.mul_zero];omega
theorem eJ{o p:Pt}(h:lwB o p=true):upP (-(p.1-o.1)) (-(p.2-o.2)):=by
 unfold lwB at h;simp only[Bool.or_eq_true,Bool.and_eq_true,decide_eq_true_eq,beq_iff_eq]at h;unfold upP;omega
theorem dz{o p:Pt}(hne:p≠o)(h:lwB o p=false):upP (p.1-o.1) (p.2-o.2):=by
 unfold lwB at h;simp only[Bool.or_eq_false_iff,Bool.and_eq_false_iff,decide_eq_false_iff_not,beq_eq_false_iff_ne]at h
 have:p.1≠o.1∨p.2≠o.2:=by
  by_cases e:p.1=o.1
  ·exact .inr fun e2=>hne (Prod.ext e e2)
  ·exact .inl e
 unfold upP;omega
theorem oT(o a b:Pt):tw o a b=(-(a.1-o.1))*(-(b.2-o.2))-(-(a.2-o.2))*(-(b.1-o.1)):=by unfold tw;grind
theorem nW(o a:Pt):lsB o a a=false:=by
 unfold lsB;rw[if_pos rfl,decide_eq_false];unfold tw;have:(a.1-o.1)*(a.2-o.2)-(a.2-o.2)*(a.1-o.1)=0:=by grind
 omega
theorem pT{o a b c:Pt}(ha:a≠o)(hb:b≠o)(hc:c≠o)(h1:lsB o a b=true)(h2:lsB o b c=true):lsB o a c=true:=by
 unfold lsB at *;cases ea:lwB o a<;>cases eb:lwB o b<;>cases ec:lwB o c<;>rw[ea,eb]at h1<;>rw[eb,ec]at h2<;>simp only[reduceCtorEq,if_true,if_false,decide_eq_true_eq,Bool.false_eq_true]at h1 h2 ⊢
 ·have:=jH (dz ha ea) (dz hb eb) (dz hc ec) h1 h2
  exact this
 ·rw[oT]at h1 h2 ⊢
  exact jH (eJ ea) (eJ eb) (eJ ec) h1 h2
theorem nV{o a b c:Pt}(ha:a≠o)(hb:b≠o)(hc:c≠o)(h1:lsB o a b=false)(h2:lsB o b c=false):lsB o a c=false:=by
 unfold lsB at *;cases ea:lwB o a<;>cases eb:lwB o b<;>cases ec:lwB o c<;>rw[ea,eb]at h1<;>rw[eb,ec]at h2<;>simp only[reduceCtorEq,if_true,if_false,decide_eq_false_iff_not,Bool.true_eq_false]at h1 h2 ⊢
 ·have:=iB (dz ha ea) (dz hb eb) (dz hc ec) (Int.not_lt.1 h1) (Int.not_lt.1 h2)
  exact Int.not_lt.2 this
 ·rw[oT]at h1 h2 ⊢
  exact Int.not_lt.2 (iB (eJ ea) (eJ eb) (eJ ec) (Int.not_lt.1 h1) (Int.not_lt.1 h2))
theorem iS(o a b:Pt)(w:World)(ho:Nr o)(ha:Nr a)(hb:Nr b)(hao:a≠o)(hbo:b≠o):Calls Tryz.prog 173 #[ae o,ae a,ae b] w (eC w (.bool (lsB o a b))):=by
 have c0:=hid fun W=>p9 o a b W ho ha hb
 have c1:=hid fun W n hn cap=>s9 o a b ho ha hb W n hn cap
 have cA:=hid fun W=>gX o a W
 have cB:=hid fun W=>gX o b W
 have HR:=hid (show lsB o a b=if lwB o a=lwB o b then decide (0<tw o a b) else lwB o b from rfl);generalize lsB o a b=R at *;generalize tw o a b=t at *;generalize lwB o a=la at *;generalize lwB o b=lb at *;obtain⟨ox,oy⟩:=o;obtain⟨ax,ay⟩:=a;obtain⟨bx,b_y⟩:=b;have hq1:=fun W=>Tryz.eql30 ax ay ox oy W
 have hq2:=fun W=>Tryz.eql30 bx b_y ox oy W
 rw[decide_eq_false hao]at hq1;rw[decide_eq_false hbo]at hq2;have hgd:=Tryz.guard30;unfold ae at *;dsimp only at *;clear ho ha hb hao hbo;go_enter Tryz.func173,Tryz.ntmps173;go_wp2_with fail;refine(c1.out _ _ (by simp) _).mono ?_;rintro e w2 ⟨rfl,hb1⟩;have hb2:=below_lit hb1.bel;have hbd:BD w w2:=BD.trans (b:=(((w.alloc (.cells #[ox,oy] 30)).alloc (.cells #[ax,ay] 30)).alloc (.cells #[bx,b_y] 30)).alloc (.cells #[ox,oy,ax,ay,bx,b_y] 30)) ⟨(bw3 w _ _ _).trans ((bw1 _ _).mono (bw3 w _ _ _).size),Nat.le_refl _⟩ hb1
 have HQ:=hid (show ∀W,BD w2 W→(W.cell? ⟨w.heap.size,0,none⟩=some (.int .i64 ox)∧W.cell? ⟨w.heap.size,1,none⟩=some (.int .i64 oy))∧(W.cell? ⟨w.heap.size+1,0,none⟩=some (.int .i64 ax)∧W.cell? ⟨w.heap.size+1,1,none⟩=some (.int .i64 ay))∧(W.cell? ⟨w.heap.size+1+1,0,none⟩=some (.int .i64 bx)∧W.cell? ⟨w.heap.size+1+1,1,none⟩=some (.int .i64 b_y))∧BD w W from fun W h=>by
  obtain⟨k1,k2,k3,k4,k5,k6,h0⟩:=fh (hb2.trans (h.bel.mono hb2.size))
  exact⟨⟨k1,k2⟩,⟨k3,k4⟩,⟨k5,k6⟩,hbd.trans h⟩)
 clear hb1 hb2 hbd;obtain⟨⟨k1,k2⟩,⟨k3,k4⟩,⟨k5,k6⟩,_⟩:=HQ.out _ (BD.refl _);go_upto_region 3 with fail;clear k1 k2 k3 k4 k5 k6;have hS1:(fun W:World=>BD w2 W) w2.drew:=BD.drew' _;refine wp_region_held_drew (S:=(fun W:World=>BD w2 W)) (by kernel_rfl) hS1 (fun hHeld=>?_);clear hHeld;generalize hwd:w2.drew=wd at *;clear hwd;refine kf 0 (fun W h=>(HQ.out W h).1) rfl ?_;refine kf 1 (fun W h=>(HQ.out W h).2.1) rfl ?_;refine kf 3 (fun W h=>(HQ.out W h).1) rfl ?_;refine kf 4 (fun W h=>(HQ.out W h).2.2.1) rfl ?_;refine kr 2 rfl fun K hK=>?_
 go_simp;go_at_call 209;refine(cA.out _).mono ?_;rintro e Wra1 ⟨rfl,hbWra1⟩;have hSWra1:=hS1.trans (hbWra1.mono hS1.size)
 try clear hS1
 clear hbWra1;go_wp2_with fail;refine hK.out _ _ hSWra1 (fun hHeld=>?_);clear hK hHeld K
 try simp only[Act.put,sa,sz,ss]
 refine kr 5 rfl fun K hK=>?_
 go_simp;go_at_call 209;refine(cB.out _).mono ?_;rintro e Wra2 ⟨rfl,hbWra2⟩;have hSWra2:=hSWra1.trans (hbWra2.mono hSWra1.size)
 try clear hSWra1
 clear hbWra2;go_wp2_with fail;refine hK.out _ _ hSWra2 (fun hHeld=>?_);clear hK hHeld K
 try simp only[Act.put,sa,sz,ss]
 refine kk 6 rfl ?_;refine wpAnyH_done (by kernel_rfl) ?_ _;have HW:=hid hSWra2;clear hSWra2;generalize Wra2=w7 at *;obtain⟨⟨k1,k2⟩,⟨k3,k4⟩,⟨k5,k6⟩,hz⟩:=HQ.out _ HW.out;have HZ:=hid hz;clear hz;cases la<;>cases lb
 ·go_wp2_with fail
  refine(c0.out _).mono ?_;rintro e w8 ⟨rfl,hb8⟩;have HZ8:=hid (HZ.out.trans (hb8.mono HZ.out.size));clear hb8 k1 k2 k3 k4 k5 k6;go_wp2_with fail;go_ret;exact⟨by rw[HR.out];rfl,HZ8.out⟩
 ·go_wp2_with fail
  refine(cB.out _).mono ?_;rintro e w8 ⟨rfl,hb8⟩;have HZ8:=hid (HZ.out.trans (hb8.mono HZ.out.size));clear hb8 k1 k2 k3 k4 k5 k6;go_wp2_with fail;go_ret;exact⟨by rw[HR.out];rfl,HZ8.out⟩
 ·go_wp2_with fail
  refine(cB.out _).mono ?_;rintro e w8 ⟨rfl,hb8⟩;have HZ8:=hid (HZ.out.trans (hb8.mono HZ.out.size));clear hb8 k1 k2 k3 k4 k5 k6;go_wp2_with fail;go_ret;exact⟨by rw[HR.out];rfl,HZ8.out⟩
 ·go_wp2_with fail
  refine(c0.out _).mono ?_;rintro e w8 ⟨rfl,hb8⟩;have HZ8:=hid (HZ.out.trans (hb8.mono HZ.out.size));clear hb8 k1 k2 k3 k4 k5 k6;go_wp2_with fail;go_ret;exact⟨by rw[HR.out];rfl,HZ8.out⟩
end Go.Proofs
namespace Go.Proofs
open Go.RowKit Go.Proofs.Mp Go.Lib
theorem Tryz.wpI{w:World}{base:Nat}{v:Value}{xs:List Int}{o:Oper}{a:Act}{K:Act→World→Prop}{Q:Exit→Act→World→Prop}
  (hown:Own 3 1 Mp.encI w base v xs)(y:Int)(s x:Operand)
  (ho:o.op=.call { callee:=.builtin .append,args:=#[s,x],argTypes:=#[24,24] })(hs:a.eval s=v)(hx:a.eval x=.slice (some ⟨w.heap.size,0,none⟩) 1 1)
  (hN:xs.length+1≤1000000000)(hbase:base≤w.heap.size)
  (h:∀v' w',Own 3 1 Mp.encI w' base v' (xs++[y])→w.grownBy w' v.ownBlock→(v'.ownBlock=v.ownBlock∨∃j,v'.ownBlock=some j∧w.heap.size≤j)→K (a.put o.dst v') w') :
  o.wp Tryz.prog a (w.alloc (.cells #[y] 3)) K Q:=by
 obtain⟨i0,hi0,hz0,hz1,hz2⟩:=Mp.info_parts Tryz.infoI
 exact Own.wpAt 24 i0 (.int .i64 0) 8 Tryz.underlying24 hi0 hz0 hz1 hz2 rfl (by decide) (by decide) encI_len y (by
  intro u hu;rw[List.mem_singleton.1 hu]
  rfl) s x ho hown hs hx (by omega) hbase h
structure ArM(w0 w:World)(nD nT B base N:Nat)(vd:Value)(l:List Int)(f:Int→Option Value):Prop where
 bd:Bx w nD 24 [vd]
 bt:Bx w nT 69 [.map (some B)]
 own:Own 3 1 Mp.encI w base vd l
 mp:MapV Tryz.prog 3 w B N f
 hb:Below w0.heap.size w0 w
 lt:w0.heap.size≤nD∧w0.heap.size≤nT∧w0.heap.size≤B∧nD<base∧nT<base∧B<base∧nD≠nT∧nD≠B∧nT≠B
 bs:base≤w.heap.size
theorem ArM.below{w0 w w':World}{nD nT B base N:Nat}{vd:Value}{l:List Int}{f:Int→Option Value}(h:ArM w0 w nD nT B base N vd l f)(hb:Below w.heap.size w w'):ArM w0 w' nD nT B base N vd l f:=
 ⟨h.bd.below hb,h.bt.below hb,h.own.below hb,h.mp.below hb,h.hb.trans (hb.mono h.hb.size),h.lt,Nat.le_trans h.bs hb.size⟩
def jF(w w':World)(nD B:Nat)(vd vd':Value):Prop:=w.heap.size≤w'.heap.size∧(∀b,b<w.heap.size→b≠nD→b≠B→vd.ownBlock≠some b→w'.heap[b]?=w.heap[b]?)∧∀b,b<w.heap.size→vd.ownBlock≠some b→vd'.ownBlock≠some b
theorem oP(w0 w:World)(nD nT B base N:Nat)(vd:Value)(l:List Int)(f:Int→Option Value)(h:ArM w0 w nD nT B base N vd l f)(x:Int)(q:Pt)(hx:(Lit.int .i64 x).wf=true)(hl:l.length≤1000000)(hN:N≤1000000) :
  Calls Tryz.prog 170 #[x,ae q,.pointer (some ⟨nD,0,none⟩),.pointer (some ⟨nT,0,none⟩)] w (fun e w'=>e=.returned (.tuple #[])∧∃vd',ArM w0 w' nD nT B base (N+1) vd' (l++[x]) (setV f x (ae q))∧jF w w' nD B vd vd'):=by
 obtain⟨qx,qy⟩:=q;unfold ae;dsimp only;obtain⟨l1,l2,l3,l4,l5,l6,l7,l8,l9⟩:=h.lt;obtain⟨A,c,rfl⟩:=Own.slice h.own;have hxq:=Bx.new (t:=30) (cs:=[.int .i64 qx,.int .i64 qy]) w rfl;have H1:=hid (h.below (bw1 w (.cells #[qx,qy] 30)));have HBL:=hid (show B<w.heap.size∧nD<w.heap.size∧nT<w.heap.size from ⟨h.mp.lt,h.bd.lt,h.bt.lt⟩);have HS:=hid (bw1 w (.cells #[qx,qy] 30));have HOB:=hid (World.ownsRow.lt h.own);have HBS:=hid h.bs;clear h;go_enter Tryz.func170,Tryz.ntmps170;go_upto_region 1 with fail;generalize w.alloc (.cells #[qx,qy] 30)=w1 at *;obtain⟨nq,hnq⟩:∃n,w.heap.size=n:=⟨_,rfl⟩;have HNQ:=hid hnq;rw[hnq]at hxq ⊢;have k0:=H1.out.bd.c1;have hown:=H1.out.own;have hbs:base≤w1.heap.size:=H1.out.bs;have hN1:l.length+1≤1000000000:=by omega
 clear hnq;go_upto_region 2 with (at_builtin;refine wpList_plain rfl fun K' hK'=>Tryz.wpI hown x _ _ rfl rfl rfl hN1 hbs ?_;intro v9 w9 hO9 hg9 hl9;refine hK' _ _ ?_;obtain⟨A9,c9,rfl⟩:=Own.slice hO9;clear hK';have hx9:=H1.out.bd.grown hg9 (fun e=>by have:=(HOB.out _ e).1;omega);have f0:=hx9.c1;have f1:=hx9.frozen 0;have f2:=hx9.lt);rw[show(l++[x]).length=l.length+1 by simp]at hO9 hl9
 have hvo:∀g,(Value.slice A9 (l.length+1) c9).ownBlock=some g→base≤g∧g≠nD∧g≠B:=fun g e=>by
  have:=(World.ownsRow.lt hO9 g e).1;omega
 have kv:∀(q:Nat),q<base→(Value.slice A9 (l.length+1) c9).ownBlock=none∨(Value.slice A9 (l.length+1) c9).ownBlock≠some q:=fun q hq=>by
  cases e:(Value.slice A9 (l.length+1) c9).ownBlock with
  | none=>exact .inl rfl
  | some g=>
   refine .inr fun e2=>?_
   have e2:g=q:=by injection e2
   have:=(hvo g e).1;omega
 have ne9:∀q:Nat,q<base→(Value.slice A l.length c).ownBlock≠some q:=fun q hq e=>by have:=(HOB.out q e).1;omega
 have hbd:=hx9.set 0 (.slice A9 (l.length+1) c9);have hbt:=(H1.out.bt.grown hg9 (ne9 nT l5)).other (n:=nD) (fun e=>l7 (by first|exact e|exact e.symm)) 0 (.slice A9 (l.length+1) c9);have hxq9:=(hxq.grown hg9 (fun e=>by have:=(HOB.out _ e).2;have:=HNQ.out;omega)).other (n:=nD) (by have:=HBL.out.2.1;have:=HNQ.out;omega) 0 (.slice A9 (l.length+1) c9);have hM:=(H1.out.mp.kept hg9 (fun e=>ne9 B l6 e.symm)).kept (aj w9 ⟨nD,0,none⟩ (.slice A9 (l.length+1) c9)) (fun e=>l8 (by injection e with e;exact e.symm));have hOw:Own 3 1 Mp.encI (w9.setCell ⟨nD,0,none⟩ (.slice A9 (l.length+1) c9)) base (.slice A9 (l.length+1) c9) (l++[x]):=World.ownsRow.kept hO9 (aj _ _ _) (kv nD l4);have hB9:Below w0.heap.size w0 (w9.setCell ⟨nD,0,none⟩ (.slice A9 (l.length+1) c9)):=hx9.setB (H1.out.hb.grown hg9 H1.out.hb.size (fun j e=>by have:=(HOB.out j e).1;omega)) l1 0 _;have hsz9:w1.heap.size≤(w9.setCell ⟨nD,0,none⟩ (.slice A9 (l.length+1) c9)).heap.size:=by have:=hg9.size;simpa [World.setCell] using this
 have hold:∀b,b<w.heap.size→b≠nD→(Value.slice A l.length c).ownBlock≠some b→(w9.setCell ⟨nD,0,none⟩ (.slice A9 (l.length+1) c9)).heap[b]?=w.heap[b]?:=fun b h1 h2 h3=>
  (heap_setCell_other _ _ _ _ (fun e=>h2 (by first|exact e|exact e.symm))).trans ((hg9.block b (Nat.lt_of_lt_of_le h1 HS.out.size) (fun e=>h3 e.symm)).trans (HS.out.block b h1))
 have HALL:=hid (And.intro hbd (And.intro hbt (And.intro hOw (And.intro hB9 (And.intro hsz9 hold)))));have HKV:=hid kv
 have HFR:=hid (show ∀b,b<w.heap.size→(Value.slice A l.length c).ownBlock≠some b→(Value.slice A9 (l.length+1) c9).ownBlock≠some b from fun b h1 h2 e=>by
  rcases hl9 with hl9|⟨j,hl9,hj⟩
  ·exact h2 (hl9.symm.trans e)
  ·rw[hl9]at e
   have e:j=b:=by injection e
   have:=HS.out.size
   omega)
 have hM:=hM;clear f0 f1 f2 hx9 hO9 hg9 hl9 hvo kv ne9 hown k0 hxq;generalize w9.setCell ⟨nD,0,none⟩ (.slice A9 (l.length+1) c9)=w10 at *;have k1:=hbt.c1;obtain⟨k2,k3⟩:=hxq9.c2;clear hbd hbt hOw hB9 hsz9 hold;go_wp2_with (at_mapUpdate;refine MapV.store hM rfl _ _ _ rfl Tryz.underlying69 Tryz.underlying3 rfl x (ae (qx,qy)) rfl rfl hx (M:=N+1) (.inr (Nat.le_refl _)) (by unfold maxLen;omega) ?_;intro w11 hM11 hg11);refine bodyPost_end (v:=.tuple #[]) (by simp[results,Tryz.results170,go_sem]) rfl ?_;obtain⟨r1,r2,r3,r4,r5,r6⟩:=HALL.out;refine⟨rfl,(Value.slice A9 (l.length+1) c9),⟨r1.grown hg11 (fun e=>l8 (by injection e with e;exact e.symm)),r2.grown hg11 (fun e=>l9 (by injection e with e;exact e.symm)),World.ownsRow.kept r3 hg11 (HKV.out B l6),hM11,r4.grown hg11 r4.size (fun j e=>by injection e;omega),⟨l1,l2,l3,l4,l5,l6,l7,l8,l9⟩,?_⟩,?_,fun b h1 h2 h3 h4=>?_,HFR.out⟩
 ·exact Nat.le_trans (Nat.le_trans H1.out.bs r5) hg11.size
 ·exact Nat.le_trans (Nat.le_trans HS.out.size r5) hg11.size
 ·exact(hg11.block b (Nat.lt_of_lt_of_le (Nat.lt_of_lt_of_le h1 HS.out.size) r5) (fun e=>h3 (by injection e))).trans (r6 b h1 h2 h4)
def cmpA(o:Pt)(t:Int→Pt)(d e:Int):Int:=if lsB o (t d) (t e)=true then -1 else if lsB o (t e) (t d)=true then 1 else 0
theorem sN(o:Pt)(t:Int→Pt)(id d e:Int)(nN nT B N:Nat)(f:Int→Option Value)(w:World)(hN:Bx w nN 71 [id,o.1,o.2])(hT:Bx w nT 69 [.map (some B)])(hM:MapV Tryz.prog 3 w B N f)
  (h1:f d=some (ae (t d)))(h2:f e=some (ae (t e)))(hd:(Lit.int .i64 d).wf=true)(he:(Lit.int .i64 e).wf=true)(ho:Nr o)(n1:Nr (t d))(n2:Nr (t e))(a1:t d≠o)(a2:t e≠o) :
  Calls Tryz.prog 172 #[d,e,.pointer (some ⟨nN,0,none⟩),.pointer (some ⟨nT,0,none⟩)] w (eC w (.int .i64 (cmpA o t d e))):=by
 have c1:=hid fun W=>iS o (t d) (t e) W ho n1 n2 a1 a2
 have c2:=hid fun W=>iS o (t e) (t d) W ho n2 n1 a2 a1
 have HR:=hid (show cmpA o t d e=if lsB o (t d) (t e)=true then -1 else if lsB o (t e) (t d)=true then 1 else 0 from rfl);generalize cmpA o t d e=R at *;generalize lsB o (t d) (t e)=r1 at *;generalize lsB o (t e) (t d)=r2 at *;generalize t d=p at *;generalize t e=q at *;obtain⟨px,py⟩:=p;obtain⟨qx,qy⟩:=q;obtain⟨ox,oy⟩:=o;unfold ae at *;dsimp only at *;have g1:(f d).getD (.agg #[.int .i64 0,.int .i64 0])=.agg #[px,py]:=by rw[h1];rfl
 have g2:(f e).getD (.agg #[.int .i64 0,.int .i64 0])=.agg #[qx,qy]:=by rw[h2];rfl
 have HF:=hid (show ∀W,BD w W→Bx W nN 71 [id,ox,oy]∧Bx W nT 69 [.map (some B)]∧MapV Tryz.prog 3 W B N f from fun W h=>⟨hN.below h.bel,hT.below h.bel,hM.below h.bel⟩);have G1:=hid g1;have G2:=hid g2;clear h1 h2 n1 n2 a1 a2 ho g1 g2;obtain⟨k0,k1,k2⟩:=hN.c3;have k3:=hT.c1;clear hN hT;go_enter Tryz.func172,Tryz.ntmps172;go_wp2_with (at_lookup;first|(refine MapV.look hM rfl _ _ rfl Tryz.underlying69 Tryz.underlying3 (Tryz.zeroValue30 _) rfl d rfl hd G1.out ?_)|(refine MapV.look hM rfl _ _ rfl Tryz.underlying69 Tryz.underlying3 (Tryz.zeroValue30 _) rfl e rfl he G2.out ?_))
 refine(c1.out _).mono ?_;rintro en w1 ⟨rfl,hb1⟩;have HB1:=hid hb1;clear hb1 hM k0 k1 k2 k3;cases r1
 ·obtain⟨x1,x2,hM⟩:=HF.out w1 HB1.out
  obtain⟨k0,k1,k2⟩:=x1.c3;have k3:=x2.c1;clear x1 x2;go_wp2_with (at_lookup;first|(refine MapV.look hM rfl _ _ rfl Tryz.underlying69 Tryz.underlying3 (Tryz.zeroValue30 _) rfl d rfl hd G1.out ?_)|(refine MapV.look hM rfl _ _ rfl Tryz.underlying69 Tryz.underlying3 (Tryz.zeroValue30 _) rfl e rfl he G2.out ?_))
  refine(c2.out _).mono ?_;rintro en w2 ⟨rfl,hb2⟩;have HB2:=hid (HB1.out.trans hb2);clear hb2 hM k0 k1 k2 k3;cases r2
  all_goals
   go_wp2_with fail;go_ret;exact⟨by rw[HR.out];rfl,HB2.out⟩
 ·go_wp2_with fail
  go_ret;exact⟨by rw[HR.out];rfl,HB1.out⟩
end Go.Proofs
namespace Go.Proofs
open Go.RowKit Go.Proofs.Mp Go.Lib
theorem p6(l:List Int)(x:Int):Lib.idxOf l x=-1∨∃k:Nat,k<l.length∧Lib.idxOf l x=k:=by
 have gen:∀(l:List Int) (i:Nat),Lib.idxFrom l x i=-1∨∃k:Nat,k<l.length∧Lib.idxFrom l x i=((i+k:Nat):Int):=by
  intro l
  induction l with
  | nil=>intro i;exact .inl rfl
  | cons z l ih=>
   intro i;unfold Lib.idxFrom;split
   ·exact .inr ⟨0,by simp,rfl⟩
   ·rcases ih (i+1)with h|⟨k,h1,h2⟩
    ·exact .inl h
    ·exact .inr ⟨k+1,by simp;omega,by rw[h2];congr 1;omega⟩
 rcases gen l 0 with h|⟨k,h1,h2⟩
 ·exact .inl h
 ·exact .inr ⟨k,h1,by unfold Lib.idxOf;rw[h2,Nat.zero_add]⟩
def SlI(w:World)(v:Value)(l:List Int):Prop:=∃A c,v=.slice A l.length c∧Rd 1 Mp.encI w A l∧l.length≤c
theorem SlI.below{w w':World}{v:Value}{l:List Int}(h:SlI w v l)(hb:Below w.heap.size w w'):SlI w' v l:=by
 obtain⟨A,c,e,h1,h2⟩:=h;exact⟨A,c,e,h1.below hb,h2⟩
def uH(w:World)(l:List Int)(e:Ending)(w':World):Prop:=∃z:Int,e=.returned (.int .i64 z)∧(z=0∨z∈l)∧Below w.heap.size w w'
theorem ja(l:List Int)(v:Value)(x:Int)(w:World)(h:SlI w v l)(hl:l.length≤1000000):Calls Tryz.prog 118 #[v,x] w (uH w l):=by
 obtain⟨A,c,rfl,hr,hc⟩:=h;have HB0:=hid (Below.refl w.heap.size w)
 by_cases h0:l=[]
 ·subst h0
  have cI:=hid fun W=>Tryz.slices_Index_int_empty A c x W
  have e0:Lib.idxOf [] x=-1:=rfl;rw[e0]at cI;clear hr hc e0;go_enter Tryz.func118,Tryz.ntmps118;go_wp2_with fail;refine(cI.out _).mono ?_;rintro e w1 ⟨rfl,rfl⟩;go_wp2_with fail;go_ret;exact⟨0,rfl,.inl rfl,HB0.out⟩
 ·obtain⟨b,off,rfl,hbl,hcell⟩:=RdI.getAll hr (Below.refl _ _) (j:=0) (List.length_pos_iff.2 h0)
  have cI:=hid (Tryz.slices_Index_int b off l.length c l x w (Nat.le_refl _) (by omega) (fun j hj=>by rw[hcell j hj];simp[List.getD_eq_getElem?_getD,hj]));rw[List.take_length]at cI
  rcases p6 l x with e|⟨k,hk,e⟩
  ·rw[e]at cI
   clear hr hc hcell e;go_enter Tryz.func118,Tryz.ntmps118;go_wp2_with fail;refine cI.out.mono ?_;rintro e w1 ⟨rfl,rfl⟩;go_wp2_with fail;go_ret;exact⟨0,rfl,.inl rfl,HB0.out⟩
  ·rw[e]at cI
   obtain⟨j,hj,ej⟩:∃j:Nat,j<l.length∧((k:Int)+l.length-1).tmod l.length=j:=by
    rw[show(k:Int)+l.length-1=((k+l.length-1:Nat):Int) by omega];exact⟨(k+l.length-1)%l.length,Nat.mod_lt _ (by omega),rfl⟩
   have hx:=hcell j hj;have HM:=hid (show l[j]!∈l from ak hj);have hw1:IntKind.i64.wrap ((k:Int)+l.length)=(k:Int)+l.length:=IntWalk.i64_in _ (by omega);have hw2:IntKind.i64.wrap ((k:Int)+l.length-1)=(k:Int)+l.length-1:=IntWalk.i64_in _ (by omega);have hw3:IntKind.i64.wrap ((j:Int))=j:=IntWalk.i64_in _ (by omega);have hl0:(l.length:Int)≠0:=by omega
   have hjl:(j:Int)<(l.length:Int):=by omega
   generalize l[j]! = z at *;clear hr hc hcell e h0;go_enter Tryz.func118,Tryz.ntmps118;go_wp2_with fail;refine cI.out.mono ?_;rintro e w1 ⟨rfl,rfl⟩;go_wp2_with fail;go_ret;exact⟨_,rfl,.inr HM.out,HB0.out⟩
theorem oO(p:Pn)(m:Mem)(v:Value)(l:List Int)(w:World)(hR:PlR w p m)(hC:CheckP p)(h:SlI w v l):Calls Tryz.prog 121 #[plV p m,v] w (dm w):=by
 obtain⟨A,c,rfl,hr,hc⟩:=h;have HRL:=hid hr;have cA:=hid fun id W (hb:Below w.heap.size w W)=>jG p m id W (hR.below hb)
 have cPa:=hid fun id W (hb:Below w.heap.size w W)=>bJ p m id W (hR.below hb)
 have HPL:=hid (show ∀id q,pathS p id=some q→2≤q.length∧q.length≤1000000 from fun id q h=>by
  have hf:=gd (p:=p) (id:=id) hR.few;unfold pathS at h;cases ha:findA p.arcs id with
  | none=>rw[ha]at h;cases h
  | some a=>
   rw[ha]at h hf;dsimp only at h;split at h
   ·injection h with h
    rw[←h];simp only[List.length_append,List.length_cons,List.length_nil];simp only[Option.getD_some]at hf;omega
   ·cases h)
 have hplV:plV p m=.agg #[.slice m.an p.nodes.length m.cn,.slice m.aa p.arcs.length m.ca,.slice m.af p.faces.length m.cf]:=rfl;rw[hplV]at cA cPa ⊢;clear hR hplV hC hr;generalize p.nodes.length=l1 at *;generalize p.arcs.length=l2 at *;generalize p.faces.length=l3 at *;obtain⟨an,aa,af,cn,ca,cf,vs⟩:=m;dsimp only at *;have ha:=Bx.new (t:=26) (cs:=[.slice an l1 cn,.slice aa l2 ca,.slice af l3 cf]) w rfl;have HW:=hid (bw1 w (.cells #[.slice an l1 cn,.slice aa l2 ca,.slice af l3 cf] 26));go_enter Tryz.func121,Tryz.ntmps121;go_upto_region 1 with fail;generalize w.alloc (.cells #[.slice an l1 cn,.slice aa l2 ca,.slice af l3 cf] 26)=w1 at *;have HA:=hid (fun W (hb:Below w1.heap.size w1 W)=>ha.below hb);clear ha
 by_cases hbig:512<l.length
 ·have hd:(512:Int)<(l.length:Int):=by omega
  go_wp2_with fail;go_ret;exact⟨_,rfl,HW.out⟩
 have hd:decide ((512:Int)<(l.length:Int))=false:=decide_eq_false (by omega);go_wp2_with fail;go_loopw [4,6,7,8,9,10,11,12,18] (fun s _ _ _ _ _ _ _ i wr=>∃(k:Nat) (z:Int),k≤l.length∧i=.int .i64 k∧s=.int .i64 z∧Hid (Below w1.heap.size w1 wr)) (fun _ _ _ _ _ _ _ _ i _=>l.length-(intOf i).toNat)
 case atStart=>exact⟨0,0,by omega,rfl,rfl,hid (Below.refl _ _)⟩
 case round=>
  obtain⟨k,z,hk,rfl,rfl,HB⟩:=hrel;have HBW:=hid (HW.out.trans (HB.out.mono HW.out.size))
  by_cases hlt:k<l.length
  ·have hli:(k:Int)<(l.length:Int):=by omega
   obtain⟨b,off,rfl,hbl,hcell⟩:=RdI.get HRL.out HBW.out hlt;generalize l[k]! = d at *;obtain⟨a0,a1,a2⟩:=(HA.out _ HB.out).c3;go_wp2_with fail;refine(cA.out _ _ HBW.out).mono ?_;rintro e w2 ⟨b0,b1,b2,b4,b5,A3,n3,c3,ok,rfl,hb2,_,_⟩;have HB2:=hid (HB.out.trans ((hb2.trans ((bw1 w2 (.cells #[b0,b1,b2,.slice A3 n3 c3,b4,b5] 58)).mono hb2.size)).mono HB.out.size));clear hcell a0 a1 a2 hb2;go_upto_region 7 with fail;generalize w2.alloc (.cells #[b0,b1,b2,.slice A3 n3 c3,b4,b5] 58)=w3 at *;have HBW2:=hid (HW.out.trans (HB2.out.mono HW.out.size));cases ok
   ·go_wp2_with fail
    go_ret;exact⟨_,rfl,HBW2.out⟩
   obtain⟨a0,a1,a2⟩:=(HA.out _ HB2.out).c3;go_wp2_with fail;refine(cPa.out _ _ HBW2.out).mono ?_;rintro e w4 hP;unfold sG at hP;generalize ho:pathS p _=o at hP;cases o with
   | none=>
    obtain⟨rfl,hb4⟩:=hP;have HBW4:=hid (HBW2.out.trans (hb4.mono HBW2.out.size));clear a0 a1 a2 hb4 ho;go_wp2_with fail;go_ret;exact⟨_,rfl,HBW4.out⟩
   | some path=>
    obtain⟨vq,rfl,hO4,hb4⟩:=hP;have hpl:=HPL.out _ path ho;obtain⟨gp,cp,rfl,_,_⟩:=aG hO4 (by intro e;rw[e]at hpl;simp at hpl);have HB4:=hid (HB2.out.trans (hb4.mono HB2.out.size));have HR4:=hid (Own.rd encR_len hO4);have HPL4:=hid hpl;have hwl:IntKind.i64.wrap ((path.length:Int)-1)=(path.length:Int)-1:=IntWalk.i64_in _ (by omega);clear a0 a1 a2 hb4 hpl hO4 ho;go_wp2_with fail;go_loopw [11,12,44] (fun s _ i wr=>∃(j:Nat) (y:Int),j+1≤path.length∧i=.int .i64 j∧s=.int .i64 y∧Hid (Below w4.heap.size w4 wr)) (fun _ _ i _=>path.length-(intOf i).toNat)
    case atStart=>exact⟨0,0,by have:=HPL4.out;omega,rfl,rfl,hid (Below.refl _ _)⟩
    case round=>
     obtain⟨j,y,hj,rfl,rfl,HBj⟩:=hrel;have HBJ:=hid (HB4.out.trans (HBj.out.mono HB4.out.size))
     by_cases hlj:j+1<path.length
     ·have hlj2:(j:Int)<(path.length:Int)-1:=by omega
      have g:∀q,q<path.length→wr.cell? ⟨gp,q*2,none⟩=some (.int .i64 path[q]!.1)∧wr.cell? ⟨gp,q*2+1,none⟩=some (.int .i64 path[q]!.2):=fun q hq=>by
       obtain⟨b',o',e,_,d0,d1⟩:=RdR.get HR4.out HBj.out hq;injection e with e;injection e with e1 e2;subst e1 e2;rw[Nat.zero_add]at d0 d1;exact⟨d0,d1⟩
      obtain⟨g0,g1⟩:=g j (by omega);obtain⟨g2,g3⟩:=g (j+1) hlj;have G:=hid (And.intro (And.intro g0 g1) (And.intro g2 g3));generalize path[j]! = x at *;generalize path[j+1]! = z2 at *;have j1:(j:Int)<(path.length:Int):=by omega
      have j2:(j:Int)+1<(path.length:Int):=by omega
      have j4:(0:Int)≤(j:Int)+1:=by omega
      have j7:=IntWalk.i64_in ((j:Int)+1) (by have:=HPL4.out;omega);clear g;go_wp2_with fail;go_region;go_wp2_with fail;go_roundw
      case rel=>exact⟨j+1,_,by omega,by go_num,rfl,hid HBj.out.drew⟩
      case measure=>simp[intOf];omega
     ·have hj':path.length=j+1:=by omega
      have hge:decide ((j:Int)<(path.length:Int)-1)=false:=decide_eq_false (by omega);have HJ:=hid hj';clear hj' hlj;go_wp2_with fail
      all_goals
       go_roundw
       case rel=>exact⟨k+1,_,by omega,by go_num,rfl,HBJ⟩
       case measure=>simp[intOf];omega
  ·obtain rfl:l.length=k:=by omega
   have hge:¬((l.length:Int)<(l.length:Int)):=by omega
   go_wp2_with fail;go_ret;exact⟨_,rfl,HBW.out⟩
end Go.Proofs
namespace Go.Proofs
open Go.RowKit Go.Proofs.Mp Go.Lib Go.Sort
theorem mD{o:Pt}{t:Int→Pt}{d e:Int}:cmpA o t d e<0↔lsB o (t d) (t e)=true:=by
 unfold cmpA;split
 ·rename_i h;simp[h]
 ·rename_i h
  split<;>simp[h]
theorem dh{w:World}{g:Nat}{β:Type}[Inhabited β]{en:β→Value}{n:Nat}{d:Array β}{os:Array Obj}:w.grownBy (sortWorld en w g 0 n d os) (some g):=by
 unfold sortWorld;refine⟨rfl,rfl,rfl,by simp[putRow,mapBlock],fun q hq hne=>?_⟩;rw[heap_grow_old _ _ (by simp[putRow,mapBlock];exact hq)];simp only[putRow,mapBlock,Array.getElem?_modify];rw[if_neg (fun e=>hne (by rw[e]))];rfl
theorem Tryz.sortI1:Go.Proofs.SlLaysF.n6 Tryz.prog Tryz.sortI_ren:={ Tryz.sortI with a24:=Tryz.isAgg3,z24:=Tryz.sizeOf3 }
theorem fD{α:Type}[Inhabited α]{en:α→Int}{w:World}{g:Nat}{d:Array α}(hg:g<w.heap.size)(h:Holds (fun x:α=>Value.int .i64 (en x)) w g 0 d):Rd 1 Mp.encI w (some ⟨g,0,none⟩) (d.toList.map en):=by
 refine .inr ⟨g,0,rfl,hg,fun j hj i u hu=>?_⟩;have hj:j<d.size:=by simpa using hj
 have e:(d.toList.map en)[j]! = en d[j]!:=by
  rw[getElem!_pos _ j (by simpa using hj),getElem!_pos d j hj];simp
 rw[e]at hu
 match i,hu with
 | 0,hu=>
  have:=(h j hj).1;rw[Nat.zero_add]at this;rw[show 0+j*1+0=j by omega,this];exact hu
theorem li(o:Pt)(t:Int→Pt)(l:List Int)(id:Int)(g cap nN nT B N base:Nat)(f:Int→Option Value)(w:World)(hown:Own 3 1 Mp.encI w base (.slice (some ⟨g,0,none⟩) l.length cap) l)(h0:l≠[])(hsz:l.length≤1000000)
  (hN:Bx w nN 71 [id,o.1,o.2])(hT:Bx w nT 69 [.map (some B)])(hM:MapV Tryz.prog 3 w B N f)(hlt:nN<base∧nT<base∧B<base)(ho:Nr o)
  (ht:∀d∈l,f d=some (ae (t d))∧(Lit.int .i64 d).wf=true∧Nr (t d)∧t d≠o) :
  Calls Tryz.prog 171 #[.slice (some ⟨g,0,none⟩) l.length cap,.func (.func 172) #[] #[.pointer (some ⟨nN,0,none⟩),.pointer (some ⟨nT,0,none⟩)]] w (fun e w'=>e=.returned (.tuple #[])∧∃l',l'.Perm l∧Rd 1 Mp.encI w' (some ⟨g,0,none⟩) l'∧w.grownBy w' (some g)):=by
 obtain⟨cur,hbg,hcur,_,_,_,_⟩:=bW hown;have hg:g<w.heap.size:=(Array.getElem?_eq_some_iff.1 hcur).1
 letI:Inhabited {d:Int // d∈l}:=⟨⟨l.head h0,List.head_mem h0⟩⟩
 have hrd:=Own.rd encI_len hown
 have hget:∀j,j<l.length→w.cell? ⟨g,j,none⟩=some (.int .i64 l[j]!):=fun j hj=>by
  rcases hrd with h|⟨b,off,e,_,hc⟩
  ·exact absurd h h0
  ·injection e with e
   injection e with e1 e2;subst e1 e2;have:=hc j hj 0 _ rfl;rw[show 0+j*1+0=j by omega]at this;exact this
 have hH:Holds (fun x:{d:Int // d∈l}=>Value.int .i64 x.1) w g 0 l.attach.toArray:=fun j hj=>by
  have hj':j<l.length:=by simpa using hj
  rw[Nat.zero_add];refine⟨?_,frozen_of_row w g j cur 3 hcur⟩;rw[hget j hj',getElem!_pos l.attach.toArray j hj,getElem!_pos l j hj'];simp
 have hO:SWO (ltOf fun x y:{d:Int // d∈l}=>cmpA o t x.1 y.1):=by
  have key:∀x y:{d:Int // d∈l},ltOf (fun x y:{d:Int // d∈l}=>cmpA o t x.1 y.1) x y=lsB o (t x.1) (t y.1):=fun x y=>by
   unfold ltOf;cases h:lsB o (t x.1) (t y.1) with
   | true=>exact decide_eq_true (mD.2 h)
   | false=>exact decide_eq_false (fun k=>by rw[mD.1 k]at h;cases h)
  refine⟨fun x=>?_,fun x y z h1 h2=>?_,fun x y z h1 h2=>?_⟩
  ·rw[key];exact nW _ _
  ·rw[key]at *
   exact pT (ht _ x.2).2.2.2 (ht _ y.2).2.2.2 (ht _ z.2).2.2.2 h1 h2
  ·rw[key]at *
   exact nV (ht _ x.2).2.2.2 (ht _ y.2).2.2.2 (ht _ z.2).2.2.2 h1 h2
 have eg:∀args w,(callFunc 172 args).run Tryz.prog w=.ok (.enter 172 args) w:=enters_of Tryz.func172 (by kernel_rfl) rfl
 have hcmp:CmpLays1 Tryz.prog 172 #[.pointer (some ⟨nN,0,none⟩),.pointer (some ⟨nT,0,none⟩)] (fun x:{d:Int // d∈l}=>Value.int .i64 x.1) (fun x y=>cmpA o t x.1 y.1) g 0 l.attach.toArray.size w:=by
  intro m os dk _ x y;have hgw:=dh (w:=w) (g:=g) (en:=fun x:{d:Int // d∈l}=>Value.int .i64 x.1) (n:=m) (d:=dk) (os:=os);generalize sortWorld (fun x:{d:Int // d∈l}=>Value.int .i64 x.1) w g 0 m dk os=W at *;have b1:=hN.grown hgw (fun e=>by injection e;omega);have b2:=hT.grown hgw (fun e=>by injection e;omega);have b3:=hM.kept hgw (fun e=>by injection e;omega);obtain⟨x1,x2,x3,x4⟩:=ht _ x.2;obtain⟨y1,y2,y3,y4⟩:=ht _ y.2;refine(sN o t id x.1 y.1 nN nT B N f W b1 b2 b3 x1 y1 x2 y2 ho x3 y3 x4 y4).mono ?_;rintro e w' ⟨he,hb⟩;exact⟨he,gF hb.bel hb.drawn⟩
 have hcon:=Any.slices_SortFunc Tryz.sortI1 (fun x:{d:Int // d∈l}=>Value.int .i64 x.1) (fun _=>rfl) (fun x y=>cmpA o t x.1 y.1) hO 172 #[.pointer (some ⟨nN,0,none⟩),.pointer (some ⟨nT,0,none⟩)] g 0 cap l.attach.toArray w eg hcmp hH hg (by simp;omega);rw[show l.attach.toArray.size=l.length by simp]at hcon;change Calls Tryz.prog 171 _ _ _ at hcon;refine hcon.mono ?_;rintro e w' ⟨he,d',n,os,hp,_,rfl⟩;obtain⟨hp1,_,hp3⟩:=hp;have hd:d'.size=l.length:=by rw[hp1];simp
 have e1:(d'.extract 0 l.length).toList=d'.toList:=by rw[←hd];simp
 have e2:(l.attach.toArray.extract 0 l.length).toList=l.attach:=by
  simp;exact List.take_of_length_le (by simp)
 rw[e1,e2]at hp3;have hHs:=holds_sortWorld (fun x:{d:Int // d∈l}=>Value.int .i64 x.1) w g 0 n l.attach.toArray d' os hg hH hp1;have hgs:=dh (w:=w) (g:=g) (en:=fun x:{d:Int // d∈l}=>Value.int .i64 x.1) (n:=n) (d:=d') (os:=os);refine⟨he,d'.toList.map (·.1),?_,fD (Nat.lt_of_lt_of_le hg hgs.size) hHs,hgs⟩;have:=hp3.map (fun x:{d:Int // d∈l}=>x.1)
 simpa using this
end Go.Proofs
namespace Go.Proofs
open Go.RowKit Go.Proofs.Mp Go.Lib
theorem jI(x y:Int)(w:World):Calls Tryz.prog 41 #[.agg #[x,y]] w (bQ w):=by
 have hx:=Bx.new (t:=30) (cs:=[.int .i64 x,.int .i64 y]) w rfl;have hw:=bw1 w (.cells #[x,y] 30);go_enter Tryz.func41,Tryz.ntmps41;go_upto_region 1 with fail;generalize w.alloc (.cells #[x,y] 30)=w1 at *;obtain⟨k0,k1⟩:=hx.c2;have HW:=hid hw;clear hx hw;go_wp2_with fail
 all_goals
  go_ret;exact⟨_,rfl,HW.out⟩
theorem pD(x y:Int)(w:World):Calls Tryz.prog 127 #[.agg #[x,y]] w (bQ w):=by
 have hx:=Bx.new (t:=30) (cs:=[.int .i64 x,.int .i64 y]) w rfl;have hw:=bw1 w (.cells #[x,y] 30);go_enter Tryz.func127,Tryz.ntmps127;go_upto_region 1 with fail;generalize w.alloc (.cells #[x,y] 30)=w1 at *;obtain⟨k0,k1⟩:=hx.c2;have HW:=hid hw;clear hx hw;go_wp2_with fail
 all_goals
  go_ret;exact⟨_,rfl,HW.out⟩
abbrev prV(k lo la sc:Int):Value:=.agg #[k,lo,la,sc]
abbrev prC(k lo la sc:Int):List Value:=[.int .i64 k,.int .i64 lo,.int .i64 la,.int .i64 sc]
theorem jV(k lo la sc:Int)(w:World):Calls Tryz.prog 16 #[prV k lo la sc] w (dm w):=by
 have hx:=Bx.new (t:=28) (cs:=prC k lo la sc) w rfl;have hw:=bw1 w (.cells #[k,lo,la,sc] 28);unfold prV prC at *;go_enter Tryz.func16,Tryz.ntmps16;go_upto_region 1 with fail;generalize w.alloc (.cells #[k,lo,la,sc] 28)=w1 at *;obtain⟨k0,k1,k2,k3⟩:=hx.c4;have HW:=hid hw;have HX:=hid hx;clear hx hw;go_wp2_with fail
 all_goals first
  | (go_ret;exact⟨_,rfl,HW.out⟩)
  | (refine(jI lo la _).mono ?_;rintro e w2 ⟨b,rfl,hb2⟩;have HX2:=hid (HX.out.below hb2);have HW2:=hid (HW.out.trans (hb2.mono HW.out.size));clear k0 k1 k2 k3 hb2;obtain⟨k0,k1,k2,k3⟩:=HX2.out.c4;cases b;all_goals go_wp2_with fail;all_goals (go_ret;exact⟨_,rfl,HW2.out⟩))
theorem m7(k lo la sc n:Int)(w:World):Calls Tryz.prog 126 #[prV k lo la sc,n] w (dm w):=by
 have hx:=Bx.new (t:=28) (cs:=prC k lo la sc) w rfl;have hw:=bw1 w (.cells #[k,lo,la,sc] 28);unfold prV prC at *;go_enter Tryz.func126,Tryz.ntmps126;go_upto_region 1 with fail;generalize w.alloc (.cells #[k,lo,la,sc] 28)=w1 at *;obtain⟨k0,k1,k2,k3⟩:=hx.c4;have HW:=hid hw;clear hx hw;go_wp2_with fail;refine(fB _ 1073741824 _ (by decide)).mono ?_;rintro e w2 ⟨z,z2,rfl,hb2⟩;have HW2:=hid (HW.out.trans (hb2.mono HW.out.size));clear k0 k1 k2 k3 hb2;go_wp2_with fail;go_ret;exact⟨_,rfl,HW2.out⟩
theorem rj(x y k lo la sc:Int)(n:Nat)(w:World)(h:Bx w n 28 (prC k lo la sc)):Calls Tryz.prog 128 #[x,y,.pointer (some ⟨n,0,none⟩)] w (dm w):=by
 unfold prC at *;obtain⟨k0,k1,k2,k3⟩:=h.c4;clear h;go_enter Tryz.func128,Tryz.ntmps128;go_wp2_with fail;refine(ll _ w).mono ?_;rintro e w2 ⟨z,rfl,hb2⟩;have HB:=hid hb2;clear k0 k1 k2 k3 hb2;go_wp2_with fail;go_ret;exact⟨_,rfl,HB.out⟩
theorem rg(y k lo la sc:Int)(n:Nat)(w:World)(h:Bx w n 28 (prC k lo la sc)):Calls Tryz.prog 130 #[y,.pointer (some ⟨n,0,none⟩)] w (dm w):=by
 unfold prC at *;obtain⟨k0,k1,k2,k3⟩:=h.c4;clear h;go_enter Tryz.func130,Tryz.ntmps130;go_wp2_with fail;refine(ll _ w).mono ?_;rintro e w2 ⟨z,rfl,hb2⟩;have HB:=hid hb2;clear k0 k1 k2 k3 hb2;go_wp2_with fail;go_ret;exact⟨_,rfl,HB.out⟩
theorem rc(x y k lo la sc:Int)(n:Nat)(w:World)(h:Bx w n 28 (prC k lo la sc)):Calls Tryz.prog 131 #[x,y,.pointer (some ⟨n,0,none⟩)] w (dm w):=by
 unfold prC at *;obtain⟨k0,k1,k2,k3⟩:=h.c4;clear h;go_enter Tryz.func131,Tryz.ntmps131;go_wp2_with fail;refine(ll _ w).mono ?_;rintro e w2 ⟨z,rfl,hb2⟩;have HB:=hid hb2;clear k0 k1 k2 k3 hb2;go_wp2_with fail;refine(sY _ w2).mono ?_;rintro e w3 ⟨z3,rfl,hb3⟩;have HB3:=hid (HB.out.trans (hb3.mono HB.out.size));clear hb3;go_wp2_with fail;refine(fB _ 1073741824 _ (by decide)).mono ?_;rintro e w4 ⟨z,z2,rfl,hb4⟩;have HB4:=hid (HB3.out.trans (hb4.mono HB3.out.size));clear hb4;go_wp2_with fail;go_ret;exact⟨_,rfl,HB4.out⟩
theorem ml(y:Int)(w:World):Calls Tryz.prog 134 #[y] w (dm w):=by
 go_enter Tryz.func134,Tryz.ntmps134;go_wp2_with fail;refine(jg _ w).mono ?_;rintro e w2 ⟨z,rfl,hb2⟩;have HB:=hid hb2;clear hb2;go_wp2_with fail;refine(mW _ w2).mono ?_;rintro e w4 ⟨z,z2,rfl,hb4⟩;have HB4:=hid (HB.out.trans (hb4.mono HB.out.size));clear hb4;go_wp2_with fail;go_ret;exact⟨_,rfl,HB4.out⟩
theorem q8(y c:Int)(nf nc:Nat)(w:World)(hf:Bx w nf 140 [.func (.func 134) #[] #[]])(hc:Bx w nc 3 [c]):Calls Tryz.prog 137 #[y,.pointer (some ⟨nf,0,none⟩),.pointer (some ⟨nc,0,none⟩)] w (dm w):=by
 go_enter Tryz.func137,Tryz.ntmps137;go_wp2_with fail;have hS1:(fun W:World=>Below w.heap.size w W) w.drew:=(Below.refl _ _).drew;refine wp_region_held_drew (S:=(fun W:World=>Below w.heap.size w W)) (by kernel_rfl) hS1 (fun hHeld=>?_);clear hHeld;generalize hwd:w.drew=wd at *;clear hwd;refine kf 0 (fun W h=>(Bx.below hf h).c1) rfl ?_;refine kk 1 rfl ?_;refine kf 3 (fun W h=>(Bx.below hc h).c1) rfl ?_;refine kr 2 rfl fun K hK=>?_
 go_simp;go_at_call 134;refine(ml y wd).mono ?_;rintro e Wra1 ⟨zWra1,rfl,hbz⟩;have hSWra1:(fun W:World=>Below w.heap.size w W) Wra1:=Below.trans (B:=w.heap.size) hS1 (hbz.mono hS1.size);clear hbz hS1;go_wp2_with fail;refine hK.out _ _ hSWra1 (fun hHeld=>?_);clear hK hHeld K
 try simp only[Act.put,sa,sz,ss]
 refine kk 4 rfl ?_;refine kk 5 rfl ?_;refine wpAnyH_done (by kernel_rfl) ?_ _;have HB:=hid hSWra1;clear hSWra1;go_wp2_with fail;go_ret;exact⟨_,rfl,HB.out⟩
theorem q7(y c:Int)(nc:Nat)(w:World)(hc:Bx w nc 3 [c]):Calls Tryz.prog 138 #[y,.pointer (some ⟨nc,0,none⟩)] w (dm w):=by
 go_enter Tryz.func138,Tryz.ntmps138;go_wp2_with fail;have hS1:(fun W:World=>Below w.heap.size w W) w.drew:=(Below.refl _ _).drew;refine wp_region_held_drew (S:=(fun W:World=>Below w.heap.size w W)) (by kernel_rfl) hS1 (fun hHeld=>?_);clear hHeld;generalize hwd:w.drew=wd at *;clear hwd;refine kk 0 rfl ?_;refine kf 2 (fun W h=>(Bx.below hc h).c1) rfl ?_;refine kr 1 rfl fun K hK=>?_
 go_simp;go_at_call 136;refine(jg y wd).mono ?_;rintro e Wrb1 ⟨zWrb1,rfl,hbz⟩;have hSWrb1:(fun W:World=>Below w.heap.size w W) Wrb1:=Below.trans (B:=w.heap.size) hS1 (hbz.mono hS1.size);clear hbz hS1;go_wp2_with fail;refine hK.out _ _ hSWrb1 (fun hHeld=>?_);clear hK hHeld K
 try simp only[Act.put,sa,sz,ss]
 refine kk 3 rfl ?_;refine kk 4 rfl ?_;refine wpAnyH_done (by kernel_rfl) ?_ _;have HB:=hid hSWrb1;clear hSWrb1;go_wp2_with fail;go_ret;exact⟨_,rfl,HB.out⟩
end Go.Proofs
namespace Go.Proofs
open Go.RowKit Go.Proofs.Mp Go.Lib Go.Sort Go.Shelf
def ltX(a b:Cr):Prop:=a.1<b.1∨(a.1=b.1∧(a.2.1<b.2.1∨(a.2.1=b.2.1∧a.2.2<b.2.2)))
theorem aJ(a b:Int):Lib.compareInt a b=0↔a=b:=by
 unfold Lib.compareInt;split
 ·constructor<;>intro h<;>omega
 ·split
  ·constructor<;>intro h<;>omega
  ·constructor<;>intro h<;>omega
theorem mC(a b:Cr):iw a b<0↔ltX a b:=by
 unfold iw ltX orI orI orI orI
 by_cases h1:a.1=b.1
 ·rw[if_pos ((aJ _ _).2 h1)]
  by_cases h2:a.2.1=b.2.1
  ·rw[if_pos ((aJ _ _).2 h2)]
   by_cases h3:a.2.2=b.2.2
   ·rw[if_pos ((aJ _ _).2 h3)]
    omega
   ·rw[if_neg (fun h=>h3 ((aJ _ _).1 h)),aH]
    omega
  ·rw[if_neg (fun h=>h2 ((aJ _ _).1 h)),aH]
   omega
 ·rw[if_neg (fun h=>h1 ((aJ _ _).1 h)),aH]
  omega
theorem tV{n:Nat}(key:Nat→Cr)(x y:Ix n):ltOf (fun x y:Ix n=>iw (key x.1) (key y.1)) x y=true↔ltX (key x.1) (key y.1):=by
 unfold ltOf;rw[decide_eq_true_eq,mC]
theorem so{n:Nat}(key:Nat→Cr)(x y:Ix n):ltOf (fun x y:Ix n=>iw (key x.1) (key y.1)) x y=false↔¬ltX (key x.1) (key y.1):=by
 rw[←tV,Bool.not_eq_true]
theorem uA{n:Nat}(key:Nat→Cr):SWO (ltOf fun x y:Ix n=>iw (key x.1) (key y.1)) where
 irrefl x:=(so key x x).2 (by unfold ltX;omega)
 trans x y z h1 h2:=by
  rw[tV]at *;unfold ltX at *;omega
 ntrans x y z h1 h2:=by
  rw[so]at *;unfold ltX at *;omega
end Go.Proofs
namespace Go.Proofs
open Go.RowKit Go.Proofs.Mp Go.Lib Go.Sort Go.Shelf
theorem aP(c:Cr):(bc c).length=3:=rfl
theorem ia(c:Cr):∀u∈bc c,u.oneCell'=true:=by
 intro u hu;simp only[bc,List.mem_cons,List.not_mem_nil,or_false]at hu
 rcases hu with rfl|rfl|rfl<;>rfl
def qz(l:List Cr)(w:World)(base:Nat)(v:Value)(e:Ending)(w':World):Prop:=e=.returned (.tuple #[])∧∃L:List Cr,L.Perm l∧L.Pairwise (fun a b=>¬ltX b a)∧Own 65 3 bc w' base v L∧w.grownBy w' v.ownBlock
theorem qi(l:List Cr)(w:World)(base:Nat)(v:Value)(hO:Own 65 3 bc w base v l)(hl:l.length≤10000000000):Calls Tryz.prog 72 #[v,.func (.func 73) #[] #[]] w (qz l w base v):=by
 by_cases h0:l=[]
 ·subst h0
  obtain⟨A,c,rfl⟩:=Own.slice hO;have hcon:=AnyF.slices_SortFunc_none Tryz.sortCr A c (.func (.func 73) #[] #[]) w;change Calls Tryz.prog 72 _ _ _ at hcon;refine hcon.mono ?_;rintro e w' ⟨he,rfl⟩;exact⟨he,[],List.Perm.refl _,List.Pairwise.nil,hO,World.grownBy.refl _ _⟩
 ·have hl0:0<l.length:=List.length_pos_iff.2 h0
  obtain⟨g,cap,rfl,hg1,hg2⟩:=aG hO h0
  letI:Inhabited (Ix l.length):=⟨⟨0,hl0⟩⟩
  have eg:∀args w,(callFunc 73 args).run Tryz.prog w=.ok (.enter 73 args) w:=enters_of Tryz.func73 (by kernel_rfl) rfl;have hH:=eK aP hO
  have hcmp:CmpLays Tryz.prog 73 #[] (fun x:Ix l.length=>bc l[x.1]!) 3 (fun x y=>iw l[x.1]! l[y.1]!) g 0 (ixs l.length).size w:=by
   intro m os dk _ x y;refine(rQ l[x.1]! l[y.1]! _).mono ?_;rintro e w' ⟨he,hb⟩;exact⟨he,gF hb.bel hb.drawn⟩
  have hcon:=AnyQ.slices_SortFunc Tryz.sortCr 3 Tryz.isAgg65 Tryz.sizeOf65 (fun x:Ix l.length=>bc l[x.1]!) (fun _=>rfl) (fun x=>ia _) (fun x y=>iw l[x.1]! l[y.1]!) (uA fun i=>l[i]!) 73 #[] g 0 cap (ixs l.length) w eg hcmp hH hg2 (by rw[aS];omega);change Calls Tryz.prog 72 _ _ _ at hcon;refine(oW aP hO (fun a b=>iw l[a]! l[b]!) hcon).mono ?_;rintro e w' ⟨he,q,hq1,hq2,hq3,hq4⟩;refine⟨he,q.map fun i=>l[i]!,?_,?_,hq3,hq4⟩
  ·have:=hq1.map fun i=>l[i]!
   have e1:(List.range l.length).map (fun i=>l[i]!)=l:=by
    apply List.ext_getElem
    ·simp
    ·intro i h1 h2
     rw[List.getElem_map,List.getElem_range,getElem!_pos l i h2]
   rwa [e1]at this
  ·rw[List.pairwise_map]
   refine hq2.imp fun h=>?_
   rwa [mC]at h
theorem ie(l:List Cr)(w:World)(base:Nat)(v:Value)(hO:Own 65 3 bc w base v l)(hl:l.length≤10000000000):Calls Tryz.prog 39 #[v] w (qz l w base v):=by
 have c:=hid (qi l w base v hO hl);go_enter Tryz.func39,Tryz.ntmps39;go_wp2_with fail;refine c.out.mono ?_;rintro e w' ⟨rfl,h⟩;have H:=hid h;clear h;go_wp2_with fail;refine bodyPost_end (v:=.tuple #[]) (by simp[results,Tryz.results39,go_sem]) rfl ?_;exact⟨rfl,H.out⟩
end Go.Proofs
namespace Go.Proofs
open Go.RowKit Go.Proofs.Mp Go.Lib
theorem Tryz.infoX:(Tryz.prog.info? 65).map (fun i=>(i.zero,i.size,i.bytes))=some (some (.agg #[.int .i64 0,.int .i64 0,.int .i64 0]),3,24):=by kernel_rfl
theorem Tryz.appX{w:World}{base:Nat}{v:Value}{xs:List Cr}{ops:Array Oper}{rest:List Oper}{o:Oper}{a:Act}{Q:Exit→Act→World→Prop}
  (hown:Own 65 3 bc w base v xs)(y:Cr)(hgd:o.guard=none)(s x:Operand)
  (ho:o.op=.call { callee:=.builtin .append,args:=#[s,x],argTypes:=#[61,61] })(hs:a.eval s=v)(hx:a.eval x=.slice (some ⟨w.heap.size,0,none⟩) 1 1)
  (hN:xs.length+1≤1000000000000)(hbase:base≤w.heap.size)
  (h:∀v' w',Own 65 3 bc w' base v' (xs++[y])→Below base w w'→wpList Tryz.prog ops Q rest (a.put o.dst v') w') :
  wpList Tryz.prog ops Q (o::rest) a (w.alloc (.cells #[y.1,y.2.1,y.2.2] 65)):=by
 obtain⟨i0,hi0,hz0,hz1,hz2⟩:=Mp.info_parts Tryz.infoX
 exact OwnA.append1 (av:=fun _=>False) 61 i0 (.agg #[.int .i64 0,.int .i64 0,.int .i64 0]) 24 Tryz.underlying61 hi0 hz0 hz1 hz2 rfl (by decide) (by decide) aP y (ia y) hgd s x ho ⟨hown,fun _ _ h=>h⟩ (fun _ h=>h.elim) hs hx (by omega) hbase
  (fun v' w' ho' hg' hl'=>h v' w' ho'.1 ((Below.refl _ _).grown hg' hbase (fun j hj=>(World.ownsRow.lt hown j hj).1)))
def bB(c:Cr):Cr:=(c.1,c.2.1,if c.2.2=0 then 1 else 0)
def tE(l:List Cr)(w:World)(e:Ending)(w':World):Prop:=∃v L,e=.returned v∧L.Perm (l.map bB)∧L.Pairwise (fun a b=>¬ltX b a)∧Own 65 3 bc w' w.heap.size v L∧Below w.heap.size w w'
theorem om{l:List Cr}{k:Nat}(h:k<l.length):(l.take (k+1)).map bB=(l.take k).map bB++[bB l[k]!]:=by
 rw[List.take_succ_eq_append_getElem h,List.map_append,getElem!_pos l k h];rfl
theorem gv(l:List Cr)(A:Option Addr)(c:Nat)(w:World)(hR:Rd 3 bc w A l)(hm:l.length≤1000000000):Calls Tryz.prog 32 #[.slice A l.length c] w (tE l w):=by
 have HR:=hid hR;clear hR;go_enter Tryz.func32,Tryz.ntmps32;go_wp2_with fail;go_loopw [2,7] (fun v i wr=>∃k:Nat,k≤l.length∧i=.int .i64 k∧Own 65 3 bc wr w.heap.size v ((l.take k).map bB)∧Below w.heap.size w wr) (fun _ i _=>l.length-(intOf i).toNat)
 case atStart=>exact⟨0,by omega,rfl,Own.nil _ _,Below.refl _ _⟩
 case round=>
  obtain⟨k,hk,rfl,hown,hbr⟩:=hrel
  by_cases hlt:k<l.length
  ·have hli:(k:Int)<(l.length:Int):=by omega
   obtain⟨b,off,rfl,hbl,hcc⟩:=HR.out.get hbr hlt;have c0:=hcc k hlt 0 _ rfl;have c1:=hcc k hlt 1 _ rfl;have c2:=hcc k hlt 2 _ rfl;have HFS:=hid (om hlt);have hlen:((l.take k).map bB).length=k:=by rw[List.length_map,List.length_take];omega
   obtain⟨⟨x,y,z⟩,hxy⟩:∃q,l[k]! = q:=⟨_,rfl⟩;rw[hxy]at c0 c1 c2 HFS;simp only[Nat.add_zero]at c0 c1 c2;clear hxy hcc;have hx1:=Bx.new (t:=65) (cs:=[.int .i64 x,.int .i64 y,.int .i64 z]) wr rfl;have hw0:=bw1 wr (.cells #[x,y,z] 65);have hsz:=hbr.size;have HOW:=hid (show ∀W,Below wr.heap.size wr W→Own 65 3 bc W w.heap.size _ ((l.take k).map bB)∧Below w.heap.size w W from fun W h=>⟨hown.below h,hbr.trans (h.mono hsz)⟩);clear hown hbr;go_upto_region 4 with fail;generalize wr.alloc (.cells #[x,y,z] 65)=wa at *;have k0:=hx1.cell 0;have k1:=hx1.cell 1;have k2:=hx1.cell 2;have q2:=hx1.frozen 2;have l1:=hx1.lt;simp only[gz,gs]at k0 k1 k2;have hbo:=hid (hx1.setB hw0 (Nat.le_refl _) 2);have hst:=hid (hx1.set 2);generalize wr.heap.size=nb at *;clear hx1 hw0;obtain⟨u,hu⟩:∃u,(if z=0 then 1 else 0:Int)=u:=⟨_,rfl⟩;have hs:=hst.out (.int .i64 u);obtain⟨hO2,hB2⟩:=HOW.out _ (hbo.out (.int .i64 u));obtain⟨wb,hwb⟩:∃wb,wa.setCell ⟨nb,2,none⟩ (.int .i64 u)=wb:=⟨_,rfl⟩;rw[hwb]at hs hO2 hB2;have HFS2:=hid (show(l.take (k+1)).map bB=(l.take k).map bB++[(x,y,u)] from by rw[HFS.out,←hu];rfl);clear HFS HOW hst hbo
   by_cases hz:z=0
   all_goals
    first
     | (subst hz;obtain rfl:u=1:=by rw[←hu];rfl)
     | (obtain rfl:u=0:=(by rw[←hu,if_neg hz]);have hzb:(z==0)=false:=by simp[hz])
    clear hu;go_upto_region 7 with fail;clear hwb;have k0:=hs.cell 0;have k1:=hs.cell 1;have k2:=hs.cell 2;simp only[sz,ss,gz,gs]at k0 k1 k2;have hsz:=hB2.size;have hN:((l.take k).map bB).length+1≤1000000000000:=by rw[hlen];omega
    clear hlen;go_wp2_with (at_builtin;(first|refine Tryz.appX hO2 (x,y,0) rfl _ _ rfl rfl rfl hN hsz ?_|refine Tryz.appX hO2 (x,y,1) rfl _ _ rfl rfl rfl hN hsz ?_);intro v9 w9 hO9 hb9);go_roundw
    case rel=>exact⟨k+1,by omega,by go_num,by rw[HFS2.out];first|exact hO9|(rw[List.map_take];exact hO9),hB2.trans hb9⟩
    case measure=>simp[intOf];omega
  ·obtain rfl:k=l.length:=by omega
   have hge:¬((l.length:Int)<(l.length:Int)):=by omega
   rw[List.take_length]at hown;have HB:=hid hbr;have hso:=ie (l.map bB) wr w.heap.size _ hown (by rw[List.length_map];omega);have hlt2:=World.ownsRow.lt hown;go_wp2_with fail;refine hso.mono ?_;rintro e w9 ⟨rfl,L,hp,hs,ho,hg⟩;have HO:=hid ho;have HP:=hid (And.intro hp hs);have HB9:=hid (HB.out.grown hg HB.out.size (fun j hj=>(hlt2 j hj).1));clear ho hp hs hg hbr hown;go_wp2_with fail;go_ret;exact⟨_,L,rfl,HP.out.1,HP.out.2,HO.out,HB9.out⟩
end Go.Proofs
