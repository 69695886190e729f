/- Lemmas and walks; no statement of a law is proved here. -/
import Derived.Test.YtaglmdebikglgaaGreatDoorX22
import Derived.Test.YtaglmdebikglgaaGreatDoorX23
set_option linter.unusedVariables false
set_option linter.unusedSimpArgs false
set_option maxRecDepth 100000
set_option maxHeartbeats 8000000
open Go.Lib
namespace Go.Proofs
open Go.RowKit Go.Proofs.Mp Go.Lib Go.Proofs.Ed
theorem ent_in{b:Bx4}{p q c:Pt}(h:Ent b p q c):inB b c=true:=by
 obtain⟨n,m,hf,rfl⟩:=h;obtain⟨h1,h2,h3,h4⟩:=hf.here;have hm:=hf.pl.2.2;have a:=rh_between hm h1 h2;have b:=rh_between hm h3 h4;rw[inB_iff];unfold R;dsimp only;omega
theorem im:∀(l:List Pt) (p:Pt),∀c∈Ed.cmpA p l,c∈l
 | [],_,c,h=>by cases h
 | q::r,p,c,h=>by
  unfold Ed.cmpA at h;split at h
  ·exact List.mem_cons_of_mem _ (im r p c h)
  ·rcases List.mem_cons.1 h with e|h
   ·rw[e];exact List.mem_cons_self
   ·exact List.mem_cons_of_mem _ (im r q c h)
theorem qn(l:List Pt):∀c∈cmpL l,c∈l:=by
 cases l with
 | nil=>intro c h;cases h
 | cons p r=>
  intro c h
  rcases List.mem_cons.1 h with e|h
  ·rw[e];exact List.mem_cons_self
  ·exact List.mem_cons_of_mem _ (im r p c h)
def gy(b:Bx4)(m:Nat)(P:List Pt):Prop:=(∀c∈P,inB b c=true)∧P.length≤m
theorem qb{b:Bx4}{m:Nat}{x:Option Pc}(h:∀P E L,x=some (P,E,L)→gy b m P):∀y∈fin x,gy b m y.1:=by
 match x,h with
 | none,h=>intro y hy;cases hy
 | some (P,E,L),h=>
  intro y hy;have h1:=h P E L rfl;rw[show fin (some (P,E,L))=if 1<(cmpL P).length then [(cmpL P,E,L)] else [] from rfl]at hy;split at hy
  ·rw[List.mem_singleton.1 hy]
   exact⟨fun c hc=>h1.1 c (qn P c hc),Nat.le_trans (kM P) h1.2⟩
  ·cases hy
theorem jj{b:Bx4}(hx:b.x0≤b.x1)(hyb:b.y0≤b.y1)(m:Nat):∀(r:List Pt) (p:Pt) (x:Option Pc) (k:Nat),k+r.length+1≤m→(∀P E L,x=some (P,E,L)→gy b (k+1) P)→∀y∈pcF b p r x,gy b m y.1
 | [],p,x,k,hk,h=>by
  intro y hy;have:=qb h y hy;exact⟨this.1,by have:=this.2;simp at hk;omega⟩
 | q::r,p,x,k,hk,h=>by
  rw[List.length_cons]at hk
  have hfin:∀{x':Option Pc} {k':Nat},k'≤m→(∀P E L,x'=some (P,E,L)→gy b k' P)→∀y∈fin x',gy b m y.1:=fun hk' h' y hy=>by
   have:=qb h' y hy;exact⟨this.1,Nat.le_trans this.2 hk'⟩
  cases hc:clipS p q b with
  | none=>
   rw[pc_none hc];intro y hy
   rcases List.mem_append.1 hy with hy|hy
   ·exact hfin (by omega) h y hy
   ·exact jj hx hyb m r q none 0 (by omega) (fun P E L e=>by cases e) y hy
  | some cd=>
   obtain⟨c,d⟩:=cd;have he:=clip_ent hx hyb hc;have hci:=ent_in he.1;have hdi:=ent_in he.2
   have hrec:∀(z:Pc) (k':Nat),k'+r.length+1≤m→gy b (k'+1) z.1→∀y∈(if inB b q=true then pcF b q r (some z) else fin (some z)++pcF b q r none),gy b m y.1:=by
    intro z k' hk' hz y hy;obtain⟨P,E,L⟩:=z;split at hy
    ·exact jj hx hyb m r q (some (P,E,L)) k' hk' (fun P' E' L' e=>by injection e with e;injection e with e _;subst e;exact hz) y hy
    ·rcases List.mem_append.1 hy with hy|hy
     ·exact hfin (k':=k'+1) (by omega) (fun P' E' L' e=>by injection e with e;injection e with e _;subst e;exact hz) y hy
     ·exact jj hx hyb m r q none 0 (by omega) (fun P E L e=>by cases e) y hy
   cases x with
   | none=>
    rw[pc_new hc]
    exact hrec ([c,d],_,_) 1 (by omega) ⟨fun z hz=>by
     rcases List.mem_cons.1 hz with e|hz
     ·rw[e];exact hci
     ·rw[List.mem_singleton.1 hz];exact hdi,by simp⟩
   | some z=>
    obtain⟨P,E,L⟩:=z;rw[pc_more hc];have hP:=h P E L rfl
    exact hrec (P++[d],E,_) (k+1) (by omega) ⟨fun z hz=>by
     rcases List.mem_append.1 hz with hz|hz
     ·exact hP.1 z hz
     ·rw[List.mem_singleton.1 hz];exact hdi,by rw[List.length_append,List.length_singleton];have:=hP.2;omega⟩
theorem sj{se:Se}{n:Int}(h:ShOK se n):(shBox se n).ok:=by
 have h1:=jd h;obtain⟨_,_,hw,hh,_⟩:=h.1.b;exact⟨by omega,by omega⟩
theorem qQ{se:Se}{n:Int}(h:ShOK se n){c:Pt}(hc:inB (shBox se n).to c=true):Nr c:=by
 have h1:=jd h;have h2:=h.1.a;have h3:=h.1.z;unfold vldB at h2 h3;simp only[Bool.and_eq_true,aI]at h2 h3;rw[inB_iff]at hc;unfold Bo.to at hc;dsimp only at hc;unfold Nr;omega
theorem oJ{p:Pn}(hC:CheckP p){k:Nat}(hk:k<p.arcs.length):Ed.Clean (pth p k):=clean_arc (hC.plane.arc k hk)
theorem pE{b:Bx4}{p:Pn}:∀{k:Nat} {y:Pe},y∈fX b p k→∃j,j<k∧y∈pcS b p.arcs[j]!.id (pth p j):=by
 intro k y h;unfold fX at h;obtain⟨j,hj,hy⟩:=List.mem_flatMap.1 h;exact⟨j,List.mem_range.1 hj,hy⟩
theorem jW{b:Bx4}{p:Pn}(h:∀k,k<p.arcs.length→(pth p k).length≤66):∀k,k≤p.arcs.length→(fX b p k).length≤k*67
 | 0,_=>Nat.le_refl _
 | k+1,hk=>by
  have h1:=jW (b:=b) h k (by omega);have h2:=mo b p.arcs[k]!.id (pth p k);have h3:=h k (by omega);rw[fW,List.length_append];omega
theorem ip{p:Pn}(hC:CheckP p){k:Nat}(hk:k<p.arcs.length):(pth p k).length≤66:=by
 rw[hC.pre.plen hk];have:=hC.lv k hk;omega
theorem gD{p:Pn}(hC:CheckP p){se:Se}{n:Int}(hS:ShOK se n):sf (partS p n (shBox se n).to):=by
 have ho:=sj hS;refine⟨⟨?_,fun k hk=>?_⟩,?_,fun k hk=>?_⟩
 ·have:=jW (b:=(shBox se n).to) (fun k hk=>ip hC hk) p.arcs.length (Nat.le_refl _)
  have:=hC.l2
  show(fX _ _ _).length≤_
  omega
 ·have hm:(partS p n (shBox se n).to).pcs[k]!∈fX (shBox se n).to p p.arcs.length:=ak hk
  obtain⟨j,hj,hy⟩:=pE hm;generalize (partS p n (shBox se n).to).pcs[k]! = y at *;have hl:=ip hC hj;cases hp:pth p j with
  | nil=>rw[hp]at hy;cases hy
  | cons q r=>
   rw[hp]at hy hl;have hy2:y∈(pcF (shBox se n).to q r none).map fun y=>(p.arcs[j]!.id,y):=hy
   obtain⟨z,hz,rfl⟩:=List.mem_map.1 hy2;have:=jj (b:=(shBox se n).to) (Int.le_of_lt ho.1) (Int.le_of_lt ho.2) 1000000 r q none 0 (by rw[List.length_cons]at hl;omega) (fun P E L e=>by cases e) z hz;exact⟨this.2,fun c hc=>qQ hS (this.1 c hc)⟩
 ·have h1:=List.length_filter_le (fun nd:Nd=>inB (shBox se n).to nd.2) p.nodes
  have:=hC.l1
  show(dM _ _).length≤_
  unfold dM;omega
 ·have hm:(partS p n (shBox se n).to).nodes[k]!∈dM (shBox se n).to p.nodes:=ak hk
  generalize (partS p n (shBox se n).to).nodes[k]! = y at *;unfold dM at hm;obtain⟨i,hi,e⟩:=aw (List.mem_filter.1 hm).1;rw[←e];exact hC.pre.ok.nr i hi
theorem tU(b:Bo)(s:Int)(hs:s=1∨s=2∨s=3∨s=4)(p q:Pt):(mkEg b s).s ((mkEg b s).mt p q)=0:=by
 obtain⟨x0,y0,x1,y1⟩:=b
 rcases hs with rfl|rfl|rfl|rfl<;>simp[mkEg,Eg.s,Eg.x,Eg.mt]
theorem qf(b:Bo)(hb:b.ok)(s:Int)(hs:s=1∨s=2∨s=3∨s=4)(p:Pt)(h0:(mkEg b s).s p=0)(h1:(mkEg b s).lo<(mkEg b s).u p)(h2:(mkEg b s).u p<(mkEg b s).hi):inB b.to p=true:=by
 obtain⟨x0,y0,x1,y1⟩:=b;obtain⟨hx,hy⟩:=hb;rw[inB_iff];unfold Bo.to;dsimp only at hx hy ⊢
 rcases hs with rfl|rfl|rfl|rfl<;>simp[mkEg,Eg.s,Eg.x,Eg.u]at h0 h1 h2<;>omega
theorem ru{b:Bx4}{l:List Nd}{p:Pt}(h:inB b p=true):ndAt (dM b l) p=ndAt l p:=by
 unfold ndAt dM;rw[List.any_filter]
 congr 1
 funext n
 by_cases e:n.2=p
 ·rw[e,h];simp
 ·simp[e]
theorem rT(g:Eg)(f:Pt→Bool)(a b:List Pe):crS g f (a++b)=crS g f a++crS g f b:=by unfold crS;rw[List.flatMap_append]
theorem gE{p:Pn}(hC:CheckP p){se:Se}{n:Int}(hS:ShOK se n){s:Int}(hs:s=1∨s=2∨s=3∨s=4) :
  crX se (partS p n (shBox se n).to) s=exTo (mkEg (shBox se n) s) (ndAt p.nodes) p p.arcs.length:=by
 have ho:=sj hS
 have key:∀k,k≤p.arcs.length→crS (mkEg (shBox se n) s) (ndAt (dM (shBox se n).to p.nodes)) (fX (shBox se n).to p k)=exTo (mkEg (shBox se n) s) (ndAt p.nodes) p k:=by
  intro k
  induction k with
  | zero=>intro _;rfl
  | succ k ih=>
   intro hk;rw[fW,dC,rT,ih (by omega),nu _ s ho hs _ _ _ (oJ hC (by omega))]
   congr 1
   unfold exS;rw[ex_nodes (S:=(mkEg (shBox se n) s).s) (nd':=ndAt p.nodes) (fun a b _=>tU _ s hs a b) (fun q h0 h1 h2=>ru (qf _ ho s hs q h0 h1 h2)) _ none [] (by simp)]
 exact key _ (Nat.le_refl _)
end Go.Proofs
namespace Go.Proofs
open Go.RowKit Go.Proofs.Mp Go.Lib Go.Proofs.Ed
theorem tl{U:Pt→Int}{lo hi o:Int}{nd:Pt→Bool}{r:List Pt}:∀e∈ev U lo hi nd o r,e.2=o:=by
 intro e h;unfold ev at h;split at h
 ·rw[List.mem_singleton.1 h]
 ·cases h
theorem jp{U S:Pt→Int}{lo hi:Int}{mt:Pt→Pt→Pt}{nd:Pt→Bool}:∀(l:List Pt) (last:Option Pt) (run:List Pt),∀e∈exF U S lo hi mt nd last run l,e.2=0∨e.2=1
 | [],last,run,e,h=>by cases last<;>cases h
 | q::r,last,run,e,h=>by
  rw[exF_cons]at h;split at h
  ·exact jp r last _ e h
  ·rcases List.mem_append.1 h with h|h
   ·cases last with
    | none=>cases h
    | some p=>
     dsimp only at h;split at h
     ·have:=tl e h
      rw[this];split
      ·exact .inl rfl
      ·exact .inr rfl
     ·cases h
   ·exact jp r _ _ e h
theorem qd{g g':Eg}(hu:g.u=g'.u)(hl:g.lo=g'.lo)(hh:g.hi=g'.hi)(hm:g.mt=g'.mt)(hs:∀p,g.s p=- g'.s p)(f:Pt→Bool)(arc:Int)(path:List Pt):exS g f arc path=(exS g' f arc path).map bB:=by
 unfold exS;rw[hu,hl,hh,hm,ex_flip g.s hs,List.map_map,List.map_map];apply List.map_congr_left;intro e he;have ho:=jp _ _ _ e he
 show toC arc (flipE e)=bB (toC arc e)
 unfold toC flipE bB;dsimp only
 rcases ho with h|h
 ·rw[h];rfl
 ·rw[h];rfl
theorem gf{g g':Eg}(hu:g.u=g'.u)(hl:g.lo=g'.lo)(hh:g.hi=g'.hi)(hm:g.mt=g'.mt)(hs:∀p,g.s p=- g'.s p)(f:Pt→Bool)(p:Pn):∀k,exTo g f p k=(exTo g' f p k).map bB
 | 0=>rfl
 | k+1=>by rw[dC,dC,List.map_append,gf hu hl hh hm hs f p k,qd hu hl hh hm hs]
theorem rD{c r k:Int}(h0:0≤k)(h1:k<c):(r*c+k)%c=k:=by
 rw[Int.add_comm,Int.add_mul_emod_self_right];exact Int.emod_eq_of_lt h0 h1
theorem rE{c r k:Int}(h0:0≤k)(h1:k<c):(r*c+k)/c=r:=by
 rw[Int.add_comm,Int.add_mul_ediv_right _ _ (by omega),Int.ediv_eq_zero_of_lt h0 h1,Int.zero_add]
theorem lD{se:Se}{n s j:Int}(hS:ShOK se n)(hs:s=1∨s=2∨s=3∨s=4)(h:nbS se n s=some j) :
  ShOK se j∧(mkEg (shBox se n) s).u=(mkEg (shBox se j) (faceS s)).u∧(mkEg (shBox se n) s).lo=(mkEg (shBox se j) (faceS s)).lo∧(mkEg (shBox se n) s).hi=(mkEg (shBox se j) (faceS s)).hi ∧
   (mkEg (shBox se n) s).mt=(mkEg (shBox se j) (faceS s)).mt∧∀p,(mkEg (shBox se n) s).s p=- (mkEg (shBox se j) (faceS s)).s p:=by
 obtain⟨h1,h2,h3,h4⟩:=fw hS;obtain⟨_,_,hw,hh,hc,hr,_,_⟩:=hS.1.b;unfold nbS at h;split at h
 ·cases h
 rename_i hin;injection h with h;obtain⟨C,hC⟩:∃C,C=(n-1)%se.cols+nbX s:=⟨_,rfl⟩;obtain⟨R,hR⟩:∃R,R=(n-1)/se.cols+nbY s:=⟨_,rfl⟩;rw[←hC,←hR]at h hin;have hC0:0≤C∧C<se.cols:=by omega
 have hR0:0≤R∧R<se.rows:=by omega
 have hj:j-1=R*se.cols+C:=by omega
 have m1:(j-1)%se.cols=C:=by rw[hj];exact rD hC0.1 hC0.2
 have m2:(j-1)/se.cols=R:=by rw[hj];exact rE hC0.1 hC0.2
 have hjn:1≤j∧j≤se.cols*se.rows:=by
  have e1:0≤R*se.cols:=Int.mul_nonneg hR0.1 (by omega);have e2:(R+1)*se.cols≤se.rows*se.cols:=Int.mul_le_mul_of_nonneg_right (by omega) (by omega);have e3:(R+1)*se.cols=R*se.cols+se.cols:=by rw[Int.add_mul,Int.one_mul]
  have e4:se.rows*se.cols=se.cols*se.rows:=Int.mul_comm _ _;omega
 refine⟨⟨hS.1,hjn.1,hjn.2⟩,?_⟩;unfold shBox;rw[m1,m2];generalize (n-1)%se.cols=c at *;generalize (n-1)/se.cols=r at *;have w1:(c+-1)*se.wd=c*se.wd-se.wd:=by rw[Int.add_mul];omega
 have w2:(c+1)*se.wd=c*se.wd+se.wd:=by rw[Int.add_mul];omega
 have v1:(r+-1)*se.ht=r*se.ht-se.ht:=by rw[Int.add_mul];omega
 have v2:(r+1)*se.ht=r*se.ht+se.ht:=by rw[Int.add_mul];omega
 have ex:∀p,Eg.u (mkEg ⟨se.x+c*se.wd,se.y+r*se.ht,se.x+c*se.wd+se.wd,se.y+r*se.ht+se.ht⟩ s) p=Eg.u (mkEg ⟨se.x+C*se.wd,se.y+R*se.ht,se.x+C*se.wd+se.wd,se.y+R*se.ht+se.ht⟩ (faceS s)) p:=by
  intro p
  rcases hs with rfl|rfl|rfl|rfl<;>rfl
 have hline:(mkEg ⟨se.x+c*se.wd,se.y+r*se.ht,se.x+c*se.wd+se.wd,se.y+r*se.ht+se.ht⟩ s).line=(mkEg ⟨se.x+C*se.wd,se.y+R*se.ht,se.x+C*se.wd+se.wd,se.y+R*se.ht+se.ht⟩ (faceS s)).line:=by
  subst hC hR
  rcases hs with rfl|rfl|rfl|rfl<;>simp[mkEg,faceS,nbX,nbY]<;>omega
 refine⟨funext ex,?_,?_,?_,?_⟩
 ·subst hC hR
  rcases hs with rfl|rfl|rfl|rfl<;>simp[mkEg,faceS,nbX,nbY]
 ·subst hC hR
  rcases hs with rfl|rfl|rfl|rfl<;>simp[mkEg,faceS,nbX,nbY]
 ·funext p q
  unfold Eg.mt;rw[hline]
  rcases hs with rfl|rfl|rfl|rfl<;>rfl
 ·intro p
  unfold Eg.s Eg.x;rw[hline]
  rcases hs with rfl|rfl|rfl|rfl<;>simp[mkEg,faceS]<;>omega
theorem eN{p:Pn}{se:Se}{N k:Nat}(h:k<N):(allTo p se N)[k]! = partS p ((k:Int)+1) (shBox se ((k:Int)+1)).to:=by
 unfold allTo;rw[getElem!_pos _ k (by simpa using h)];simp
theorem qk(g:Eg)(f:Pt→Bool)(l:List Pe):(crS g f l).length≤2*l.length:=jz g f l
theorem mI{p:Pn}{se:Se}(hC:CheckP p)(hS:SeOK se):Fit se (allTo p se (se.cols*se.rows).toNat):=by
 have hcr:0≤se.cols*se.rows:=by
  have h1:=hS.c;have h2:=hS.r;rw[aI]at h1 h2;exact Int.mul_nonneg (by omega) (by omega)
 obtain⟨N,hN⟩:∃N:Nat,(N:Int)=se.cols*se.rows:=⟨(se.cols*se.rows).toNat,by omega⟩;rw[show(se.cols*se.rows).toNat=N by omega];have hsh:∀k:Nat,k<N→ShOK se ((k:Int)+1):=fun k hk=>⟨hS,by omega,by omega⟩
 refine⟨hS,by rw[bK];exact hN,fun k hk=>?_,fun k t hk=>?_,fun n s j hn hs h=>?_⟩
 ·rw[bK]at hk
  rw[eN hk];exact⟨gD hC (hsh k hk),rfl⟩
 ·rw[bK]at hk
  rw[eN hk];have h1:=(gD hC (hsh k hk)).pcs.1;have h2:=qk (mkEg (shBox se (partS p ((k:Int)+1) (shBox se ((k:Int)+1)).to).sheet) t) (ndAt (partS p ((k:Int)+1) (shBox se ((k:Int)+1)).to).nodes) (partS p ((k:Int)+1) (shBox se ((k:Int)+1)).to).pcs;unfold crX;omega
 ·rw[bK]at hn
  obtain⟨hj,e1,e2,e3,e4,e5⟩:=lD (hsh n hn) hs h;obtain⟨k,hk⟩:∃k:Nat,j=(k:Int)+1:=⟨(j-1).toNat,by have:=hj.2.1;omega⟩;subst hk;have hkN:k<N:=by have:=hj.2.2;omega
  refine⟨k,by rw[bK];exact hkN,rfl,?_⟩;have hf:faceS s=1∨faceS s=2∨faceS s=3∨faceS s=4:=by rcases hs with rfl|rfl|rfl|rfl<;>decide
  rw[eN hn,eN hkN,gE hC (hsh n hn) hs,gE hC hj hf,gf e1 e2 e3 e4 e5]
end Go.Proofs
namespace Go.Proofs
open Go.RowKit Go.Proofs.Mp Go.Lib Go.Proofs.Ed
theorem qc(s:Nat)(h:1≤s∧s≤4):((s:Int)+1).tmod 4+1=faceS s:=by
 have:s=1∨s=2∨s=3∨s=4:=by omega
 rcases this with rfl|rfl|rfl|rfl<;>rfl
theorem kD(g:Eg)(f:Pt→Bool)(p:Pn)(hC:CheckP p):∀k,k≤p.arcs.length→(exTo g f p k).length≤k*100
 | 0,_=>Nat.le_refl _
 | k+1,hk=>by
  have h1:=kD g f p hC k (by omega);have h2:=ip hC (show k<p.arcs.length by omega)
  have hx:∀(l:List Pt) (last:Option Pt) (run:List Pt),(exF g.u g.s g.lo g.hi g.mt f last run l).length≤l.length:=by
   intro l
   induction l with
   | nil=>intro last run;cases last<;>exact Nat.zero_le _
   | cons q r ih=>
    intro last run;rw[exF_cons,List.length_cons];split
    ·have:=ih last (run++[q]);omega
    ·rw[List.length_append]
     have h3:=ih (some q) [];cases last with
     | none=>simp only[List.length_nil];omega
     | some z=>
      dsimp only;split
      ·have:=@sq g.u g.lo g.hi (if 0<g.s q then 0 else 1) f (if run=[] then [g.mt z q] else run);omega
      ·simp only[List.length_nil];omega
  rw[dC,List.length_append];unfold exS;rw[List.length_map];have:=hx (pth p k) none [];omega
theorem lH(p:Pn)(m:Mem)(se:Se)(n:Int)(y:PtV)(ok:Nat→Prop)(w:World)(hR:PlR w p m)(hC:CheckP p)(hS:ShOK se n)(hM:bT w)(hy:RPt w y (partS p n (shBox se n).to) ok) :
  Calls Tryz.prog 12 #[plV p m,.agg #[y.1,y.2.1,y.2.2],bj (shBox se n),seV se,.int .i64 n] w (RetV w (.bool true)):=by
 have hpo:=gD hC hS;obtain⟨hy0,hy1,hy2⟩:=hy
 have cC:=hid fun (s:Nat) (h1:1≤s) (h2:s≤4) W (hb:Below w.heap.size w W) A c (e:y.2.2=.slice A (partS p n (shBox se n).to).nodes.length c) (hRn:Rd 3 aQ w A (partS p n (shBox se n).to).nodes)=>(show Calls Tryz.prog 14 #[.agg #[n,y.2.1,.slice A (partS p n (shBox se n).to).nodes.length c],bj (shBox se n),.int .i64 s] W (i8 W (exTo (mkEg (shBox se n) s) (ndAt p.nodes) p p.arcs.length))from by
  rw[←gE hC hS (s:=(s:Int)) (by omega)]
  exact dQ n y.2.1 (partS p n (shBox se n).to).pcs ok A c (partS p n (shBox se n).to).nodes (shBox se n) s W ((SlG.foot 4 dW RPc.foot).keep hy1 hb.size (fun g h _=>hb.block g h)) hpo.pcs (hRn.below hb) hpo.nl hpo.nn (by omega))
 obtain⟨vs1,hq1,⟨A1,c1,e1,hq2⟩,hq3⟩:=hy1;obtain⟨A2,c2,e2,hq4,hq5,hR2⟩:=hy2;have cC2:=hid fun s h1 h2 W hb=>cC.out s h1 h2 W hb A2 c2 e2 hR2
 have cE:=hid fun (n' s:Int) W (hb:Below w.heap.size w W) (h:ShOK se n') (hs:s=1∨s=2∨s=3∨s=4)=>gx p m se n' s W (hR.below hb) hC h hs
 have cE1:=hid fun (s:Nat) (h1:1≤s) (h2:s≤4) W (hb:Below w.heap.size w W)=>gx p m se n s W (hR.below hb) hC hS (by omega)
 have cN:=hid fun (s:Nat) (h1:1≤s) (h2:s≤4) W (hb:Below w.heap.size w W)=>eT se n s W (hM.below hb) hS (by omega)
 have HNB:=hid fun (s:Nat) (h1:1≤s) (h2:s≤4) j h=>lD (s:=(s:Int)) hS (by omega) (j:=j) h
 have HFL:=hid fun (s:Nat) (h1:1≤s) (h2:s≤4) j (h:nbS se n s=some j)=>(show exTo (mkEg (shBox se j) (faceS s)) (ndAt p.nodes) p p.arcs.length=(exTo (mkEg (shBox se n) s) (ndAt p.nodes) p p.arcs.length).map bB from by
  obtain⟨_,e1,e2,e3,e4,e5⟩:=lD (s:=(s:Int)) hS (by omega) (j:=j) h
  exact gf e1.symm e2.symm e3.symm e4.symm (fun q=>by have:=e5 q;omega) _ _ _)
 have HEL:=hid fun g=>(show(exTo g (ndAt p.nodes) p p.arcs.length).length≤1000000000 from by
  have:=kD g (ndAt p.nodes) p hC p.arcs.length (Nat.le_refl _);have:=hC.l2
  omega)
 have HSh:=hid hS;clear cC hR hC hM hpo hS hR2;obtain⟨y0,y1,y2⟩:=y;obtain⟨m1,hm1⟩:∃z,vs1.length=z:=⟨_,rfl⟩;obtain⟨m2,hm2⟩:∃z,(partS p n (shBox se n).to).nodes.length=z:=⟨_,rfl⟩;rw[hm1]at e1;rw[hm2]at e2 cC2;dsimp only at e1 e2 hy0 cC2 ⊢;have hyn:y0=n:=hy0;clear hy0;subst e1 e2 hyn;have hseV:seV se=.agg #[se.x,se.y,se.wd,se.ht,se.cols,se.rows]:=rfl;have hplV:plV p m=.agg #[.slice m.an p.nodes.length m.cn,.slice m.aa p.arcs.length m.ca,.slice m.af p.faces.length m.cf]:=rfl;rw[hseV]at cE cE1 cN ⊢;rw[hplV]at cE cE1 ⊢;clear hm1 hm2 hq1 hq2 hq3 hq4 hq5 hseV hplV;generalize hbo:shBox se y0=bo at *;obtain⟨x0,x1,x2,x3⟩:=bo;have HBO:=hid hbo;unfold bj at cC2 ⊢;dsimp only at cC2 ⊢;clear hbo;have ha:=Bx.new (t:=26) (cs:=[.slice m.an p.nodes.length m.cn,.slice m.aa p.arcs.length m.ca,.slice m.af p.faces.length m.cf]) w rfl;have hb:=Bx.newAt (b:=w.heap.size+1) (t:=54) (cs:=[.int .i64 y0,.slice A1 m1 c1,.slice A2 m2 c2]) (w.alloc (.cells #[.slice m.an p.nodes.length m.cn,.slice m.aa p.arcs.length m.ca,.slice m.af p.faces.length m.cf] 26)) (by simp) rfl;have hc:=Bx.newAt (b:=w.heap.size+1+1) (t:=48) (cs:=[.int .i64 x0,.int .i64 x1,.int .i64 x2,.int .i64 x3]) ((w.alloc (.cells #[.slice m.an p.nodes.length m.cn,.slice m.aa p.arcs.length m.ca,.slice m.af p.faces.length m.cf] 26)).alloc (.cells #[y0,.slice A1 m1 c1,.slice A2 m2 c2] 54)) (by simp) rfl;have hd:=Bx.newAt (b:=w.heap.size+1+1+1) (t:=32) (cs:=[.int .i64 se.x,.int .i64 se.y,.int .i64 se.wd,.int .i64 se.ht,.int .i64 se.cols,.int .i64 se.rows]) (((w.alloc (.cells #[.slice m.an p.nodes.length m.cn,.slice m.aa p.arcs.length m.ca,.slice m.af p.faces.length m.cf] 26)).alloc (.cells #[y0,.slice A1 m1 c1,.slice A2 m2 c2] 54)).alloc (.cells #[x0,x1,x2,x3] 48)) (by simp) rfl;have ha2:=((ha.alloc (.cells #[y0,.slice A1 m1 c1,.slice A2 m2 c2] 54)).alloc (.cells #[x0,x1,x2,x3] 48)).alloc (.cells #[se.x,se.y,se.wd,se.ht,se.cols,se.rows] 32);have hb2:=(hb.alloc (.cells #[x0,x1,x2,x3] 48)).alloc (.cells #[se.x,se.y,se.wd,se.ht,se.cols,se.rows] 32);have hc2:=hc.alloc (.cells #[se.x,se.y,se.wd,se.ht,se.cols,se.rows] 32);have hw:=(((bw1 w (.cells #[.slice m.an p.nodes.length m.cn,.slice m.aa p.arcs.length m.ca,.slice m.af p.faces.length m.cf] 26)).alloc (bw1 _ _).size (.cells #[y0,.slice A1 m1 c1,.slice A2 m2 c2] 54)).alloc (by simp;omega) (.cells #[x0,x1,x2,x3] 48)).alloc (by simp;omega) (.cells #[se.x,se.y,se.wd,se.ht,se.cols,se.rows] 32);have HPRE:=hid (And.intro ha2 (And.intro hb2 (And.intro hc2 (And.intro hd hw))));clear ha hb hc hd ha2 hb2 hc2 hw;go_enter Tryz.func12,Tryz.ntmps12;go_upto_region 1 with fail;generalize (((w.alloc (.cells #[.slice m.an p.nodes.length m.cn,.slice m.aa p.arcs.length m.ca,.slice m.af p.faces.length m.cf] 26)).alloc (.cells #[y0,.slice A1 m1 c1,.slice A2 m2 c2] 54)).alloc (.cells #[x0,x1,x2,x3] 48)).alloc (.cells #[se.x,se.y,se.wd,se.ht,se.cols,se.rows] 32)=w1 at *;generalize w.heap.size+1+1+1=nS at *;generalize w.heap.size+1+1=nX at *;generalize w.heap.size+1=nP at *;obtain⟨ha2,hb2,hc2,hd,hw⟩:=HPRE.out;have HBX:=hid (show ∀W,Below w1.heap.size w1 W→Bx W w.heap.size 26 [.slice m.an p.nodes.length m.cn,.slice m.aa p.arcs.length m.ca,.slice m.af p.faces.length m.cf]∧Bx W nP 54 [y0,.slice A1 m1 c1,.slice A2 m2 c2]∧Bx W nX 48 [x0,x1,x2,x3]∧Bx W nS 32 [se.x,se.y,se.wd,se.ht,se.cols,se.rows]∧Below w.heap.size w W from fun W h=>⟨ha2.below h,hb2.below h,hc2.below h,hd.below h,hw.trans (h.mono hw.size)⟩);clear hd ha2 hb2 hc2 hw HPRE;go_wp2_with fail;go_loopw [11] (fun i wr=>∃s:Nat,1≤s∧s≤5∧i=.int .i64 s∧Below w1.heap.size w1 wr) (fun i _=>5-(intOf i).toNat)
 case atStart=>exact⟨1,by omega,by omega,rfl,Below.refl _ _⟩
 case round=>
  obtain⟨s,hs1,hs2,rfl,hbr⟩:=hrel
  by_cases hs:s≤4
  ·have hsi:(s:Int)≤4:=by omega
   have cCs:=hid fun W hb=>cC2.out s hs1 hs W hb
   have cEs:=hid fun W hb=>cE1.out s hs1 hs W hb
   have cNs:=hid fun W hb=>cN.out s hs1 hs W hb
   have HFs:=hid fun j h=>HFL.out s hs1 hs j h
   have HNs:=hid fun j h=>(HNB.out s hs1 hs j h).1
   have HTL:=hid (HEL.out (mkEg ⟨x0,x1,x2,x3⟩ s));have hfm:=qc s ⟨hs1,hs⟩
   have hf:faceS s=1∨faceS s=2∨faceS s=3∨faceS s=4:=by
    have:s=1∨s=2∨s=3∨s=4:=by omega
    rcases this with rfl|rfl|rfl|rfl<;>decide
   generalize exTo (mkEg ⟨x0,x1,x2,x3⟩ s) (ndAt p.nodes) p p.arcs.length=T at *;obtain⟨hpa,hpb,hpc,hpd,hpw⟩:=HBX.out wr hbr;have b0:=hpb.cell 0;have b1:=hpb.cell 1;have b2:=hpb.cell 2;have d0:=hpc.cell 0;have d1:=hpc.cell 1;have d2:=hpc.cell 2;have d3:=hpc.cell 3;simp only[gz,gs]at b0 b1 b2 d0 d1 d2 d3;have HB:=hid hbr;have HPW:=hid hpw;clear hpa hpb hpc hpd hpw hbr;go_wp2_with fail;refine(cCs.out _ HPW.out).mono ?_;rintro e w3 ⟨v3,L3,rfl,hp3,hs3,ho3,hb3⟩;obtain⟨Aq,cq,rfl⟩:=Own.slice ho3;have HP3:=hid (And.intro hp3 hs3);have HR3:=hid (Own.rd aP ho3);have HB3:=hid (HB.out.trans (hb3.mono HB.out.size));clear hp3 hs3 ho3 hb3 b0 b1 b2 d0 d1 d2 d3;obtain⟨hpa,_,_,hpd,hpw⟩:=HBX.out w3 HB3.out;have b0:=hpa.cell 0;have b1:=hpa.cell 1;have b2:=hpa.cell 2;have d0:=hpd.cell 0;have d1:=hpd.cell 1;have d2:=hpd.cell 2;have d3:=hpd.cell 3;have d4:=hpd.cell 4;have d5:=hpd.cell 5;simp only[gz,gs]at b0 b1 b2 d0 d1 d2 d3 d4 d5;have HPW3:=hid hpw;clear hpa hpd hpw;go_wp2_with fail;refine(cEs.out _ HPW3.out).mono ?_;rintro e w4 ⟨v4,L4,rfl,hp4,hs4,ho4,hb4⟩;obtain rfl:L4=L3:=dK (hp4.trans HP3.out.1.symm) hs4 HP3.out.2;obtain⟨Ar,cr,rfl⟩:=Own.slice ho4;have HB4:=hid (HB3.out.trans (hb4.mono HB3.out.size));have hR4:=Own.rd aP ho4;have hR34:=HR3.out.below hb4;have cS:=hid (ko L4 Aq Ar cq cr w4 hR34 hR4 (by rw[HP3.out.1.length_eq];exact HTL.out));have HR34:=hid hR34;clear hp4 hs4 ho4 hb4 hR4 hR34 b0 b1 b2 d0 d1 d2 d3 d4 d5;go_wp2_with fail;refine cS.out.mono ?_;rintro e w5 ⟨rfl,hb5⟩;have HB5:=hid (HB4.out.trans (hb5.mono HB4.out.size));have HR5:=hid (HR34.out.below hb5);clear hb5 cS;obtain⟨_,_,_,hpd,hpw⟩:=HBX.out w5 HB5.out;have d0:=hpd.cell 0;have d1:=hpd.cell 1;have d2:=hpd.cell 2;have d3:=hpd.cell 3;have d4:=hpd.cell 4;have d5:=hpd.cell 5;simp only[gz,gs]at d0 d1 d2 d3 d4 d5;have HPW5:=hid hpw;clear hpd hpw;go_wp2_with fail;refine(cNs.out _ HPW5.out).mono ?_;rintro e w6 ⟨rfl,hb6⟩;have HB6:=hid (HB5.out.trans (hb6.mono HB5.out.size));have HR6:=hid (HR5.out.below hb6);clear hb6 d0 d1 d2 d3 d4 d5
   rcases hnb:nbS se y0 (s:Int)with _|j
   ·unfold nbV
    dsimp only;clear hnb hfm;go_wp2_with fail;go_roundw
    case rel=>exact⟨s+1,by omega,by omega,by go_num,HB6.out⟩
    case measure=>simp[intOf];omega
   ·have HFj:=hid (HFs.out j hnb)
    have cEj:=hid fun W hb=>cE.out j (faceS s) W hb (HNs.out j hnb) hf
    unfold nbV;dsimp only;clear hnb;obtain⟨hpa,_,_,hpd,hpw⟩:=HBX.out w6 HB6.out;have b0:=hpa.cell 0;have b1:=hpa.cell 1;have b2:=hpa.cell 2;have d0:=hpd.cell 0;have d1:=hpd.cell 1;have d2:=hpd.cell 2;have d3:=hpd.cell 3;have d4:=hpd.cell 4;have d5:=hpd.cell 5;simp only[gz,gs]at b0 b1 b2 d0 d1 d2 d3 d4 d5;have HPW6:=hid hpw;clear hpa hpd hpw;generalize faceS (s:Int)=fs at *;generalize exTo (mkEg (shBox se j) fs) (ndAt p.nodes) p p.arcs.length=T2 at *;have t0:((s:Int)+1).tmod 4=fs-1:=by omega
    have t1:=IntWalk.i64_in ((s:Int)+1) (by omega);have t2:=IntWalk.i64_in (fs-1) (by omega);have t3:=IntWalk.i64_in (fs-1+1) (by omega);rw[Int.sub_add_cancel]at t3;clear hf hfm;go_wp2_with fail;refine(cEj.out _ HPW6.out).mono ?_;rintro e w7 ⟨v7,L7,rfl,hp7,hs7,ho7,hb7⟩;obtain⟨As,cs,rfl⟩:=Own.slice ho7;have HP7:=hid (And.intro hp7 hs7);have HB7:=hid (HB6.out.trans (hb7.mono HB6.out.size));have HR7:=hid (Own.rd aP ho7);have cO:=hid (gv L4 Aq cq w7 (HR6.out.below hb7) (by rw[HP3.out.1.length_eq];exact HTL.out));clear hp7 hs7 ho7 hb7 b0 b1 b2 d0 d1 d2 d3 d4 d5 t0 t1 t2 t3;go_wp2_with fail;refine cO.out.mono ?_;rintro e w8 ⟨v8,L8,rfl,hp8,hs8,ho8,hb8⟩;obtain rfl:L8=L7:=dK (hp8.trans ((HP3.out.1.map bB).trans (HFj.out▸HP7.out.1.symm))) hs8 HP7.out.2;obtain⟨At,ct,rfl⟩:=Own.slice ho8;have HB8:=hid (HB7.out.trans (hb8.mono HB7.out.size));have cS:=hid (ko L8 At As ct cs w8 (Own.rd aP ho8) (HR7.out.below hb8) (by rw[hp8.length_eq,List.length_map,HP3.out.1.length_eq];exact HTL.out));clear hp8 hs8 ho8 hb8 cO;go_wp2_with fail;refine cS.out.mono ?_;rintro e w9 ⟨rfl,hb9⟩;have HB9:=hid (HB8.out.trans (hb9.mono HB8.out.size));clear hb9;go_wp2_with fail;go_roundw
    case rel=>exact⟨s+1,by omega,by omega,by go_num,HB9.out⟩
    case measure=>simp[intOf];omega
  ·have hsi:¬(s:Int)≤4:=by omega
   have HB:=hid (HBX.out wr hbr).2.2.2.2;clear hbr;go_wp2_with fail;go_ret;exact⟨rfl,HB.out⟩
end Go.Proofs
namespace Go.Proofs
open Go.RowKit Go.Proofs.Mp Go.Lib
def pX:Pn:=⟨[(1,10,20),(2,190,50)],[⟨3,1,2,[],0,0⟩],[]⟩
def seX:Se:=⟨0,0,100,100,2,1⟩
theorem lm:SeOK seX:=⟨rfl,rfl,rfl,rfl,rfl,rfl⟩
theorem shX:ShOK seX 1:=⟨lm,by decide,by decide⟩
theorem lt1{P:Nat→Prop}(h:P 0):∀k,k<1→P k:=fun k hk=>by
 obtain rfl:k=0:=by omega
 exact h
theorem lt2{P:Nat→Prop}(h0:P 0)(h1:P 1):∀k,k<2→P k:=fun k hk=>by
 rcases (show k=0∨k=1 by omega)with rfl|rfl
 ·exact h0
 ·exact h1
theorem pH:aL pX where
 an:=fun i hi=>by
  have hi:i+1<2:=hi;obtain rfl:i=0:=by omega
  decide
 aa:=fun i hi=>by
  have hi:i+1<1:=hi;omega
 bn:=lt2 rfl rfl
 pl:=⟨lt2 rfl rfl,lt1 (fun j hj=>absurd hj (Nat.not_lt_zero _))⟩
 cn:=⟨fun i j hi hj=>by
  have hi:i<2:=hi;obtain⟨rfl,rfl⟩:i=1∧j=0:=by omega
  decide,lt1 rfl,lt1 rfl⟩
theorem d9:CheckP pX where
 l1:=by decide
 l2:=by decide
 l3:=by decide
 lv:=lt1 (by decide)
 pre:=pH
 af:=fun i hi=>absurd (show i+1<0 from hi) (Nat.not_lt_zero _)
 ba:=lt1 rfl
 bf:=fun i hi=>absurd (show i<0 from hi) (Nat.not_lt_zero _)
 plane:=(iH pH).1 ⟨lt1 ⟨⟨[(10,20),(190,50)],rfl⟩,(fun h=>absurd h.1 (by decide)),(show tG [(10,20),(190,50)] from fun i hi=>by
  have hi:i+1<2:=hi;obtain rfl:i=0:=by omega
  decide)⟩,⟨fun s t hs ht hne=>by
  have e:ah pX pX.arcs.length=[(0,0)]:=by rfl
  rw[e,List.mem_singleton]at hs ht;exact absurd (hs.trans ht.symm) hne,fun s hs=>by
  have e:ah pX pX.arcs.length=[(0,0)]:=by rfl
  rw[e,List.mem_singleton]at hs;subst hs
  exact lt2 (by decide +kernel) (by decide +kernel)⟩⟩
theorem tq:exTo (mkEg (shBox seX 1) 3) (ndAt pX.nodes) pX pX.arcs.length=[(35,3,1)]:=by decide +kernel
def uw(w:World)(e:Ending)(w':World):Prop:=∃(a b:Addr),e=.returned (.tuple #[.agg #[.slice (some a) 2 2,.slice (some b) 1 1,.slice none 0 0],.agg #[.int .i64 0,.int .i64 0,.int .i64 100,.int .i64 100,.int .i64 2,.int .i64 1]])∧PlR w' pX ⟨some a,some b,none,2,1,0,[.slice none 0 0]⟩∧Below w.heap.size w w'
theorem tP{W:World}{a b:Nat}(hN:Bx W a 71 [.int .i64 1,.int .i64 10,.int .i64 20,.int .i64 2,.int .i64 190,.int .i64 50])(hA:Bx W b 58 [.int .i64 3,.int .i64 1,.int .i64 2,.slice none 0 0,.int .i64 0,.int .i64 0]) :
  PlR W pX ⟨some ⟨a,0,none⟩,some ⟨b,0,none⟩,none,2,1,0,[.slice none 0 0]⟩ where
 nd:=.inr ⟨a,0,rfl,hN.lt,lt2 (fun i u hu=>by
  match i,hu with
  | 0,hu=>exact hu▸hN.c6.1
  | 1,hu=>exact hu▸hN.c6.2.1
  | 2,hu=>exact hu▸hN.c6.2.2.1) (fun i u hu=>by
  match i,hu with
  | 0,hu=>exact hu▸hN.c6.2.2.2.1
  | 1,hu=>exact hu▸hN.c6.2.2.2.2.1
  | 2,hu=>exact hu▸hN.c6.2.2.2.2.2)⟩
 ar:=.inr ⟨b,0,rfl,hA.lt,lt1 (fun i u hu=>by
  match i,hu with
  | 0,hu=>exact hu▸hA.c6.1
  | 1,hu=>exact hu▸hA.c6.2.1
  | 2,hu=>exact hu▸hA.c6.2.2.1
  | 3,hu=>exact hu▸hA.c6.2.2.2.1
  | 4,hu=>exact hu▸hA.c6.2.2.2.2.1
  | 5,hu=>exact hu▸hA.c6.2.2.2.2.2)⟩
 len:=rfl
 via:=lt1 ⟨none,0,rfl,.inl rfl,Nat.le_refl _⟩
 fc:=.inl rfl
 cn:=Nat.le_refl _
 ca:=Nat.le_refl _
 cf:=Nat.le_refl _
 few:=jB d9
theorem lI(w:World):Calls Tryz.prog 13 #[] w (uw w):=by
 obtain⟨s,hs⟩:∃n,w.heap.size=n:=⟨_,rfl⟩;have hA:Bx (((((w.alloc (.cells #[.slice none 0 0,.slice none 0 0,.slice none 0 0] 26)).alloc (.cells #[.int .i64 0,.int .i64 0,.int .i64 0,.int .i64 0,.int .i64 0,.int .i64 0] 32)).alloc (.cells #[.int .i64 1,.int .i64 10,.int .i64 20,.int .i64 2,.int .i64 190,.int .i64 50] 71)).alloc (.cells #[.int .i64 3,.int .i64 1,.int .i64 2,.slice none 0 0,.int .i64 0,.int .i64 0] 58)).alloc (.cells #[.slice (some ⟨s+2,0,none⟩) 2 2,.slice (some ⟨s+3,0,none⟩) 1 1,.slice none 0 0] 26)) s 26 [.slice none 0 0,.slice none 0 0,.slice none 0 0]:=by subst hs;exact((((Bx.new w rfl).alloc _).alloc _).alloc _).alloc _
 have hB:Bx (((((w.alloc (.cells #[.slice none 0 0,.slice none 0 0,.slice none 0 0] 26)).alloc (.cells #[.int .i64 0,.int .i64 0,.int .i64 0,.int .i64 0,.int .i64 0,.int .i64 0] 32)).alloc (.cells #[.int .i64 1,.int .i64 10,.int .i64 20,.int .i64 2,.int .i64 190,.int .i64 50] 71)).alloc (.cells #[.int .i64 3,.int .i64 1,.int .i64 2,.slice none 0 0,.int .i64 0,.int .i64 0] 58)).alloc (.cells #[.slice (some ⟨s+2,0,none⟩) 2 2,.slice (some ⟨s+3,0,none⟩) 1 1,.slice none 0 0] 26)) (s+1) 32 [.int .i64 0,.int .i64 0,.int .i64 0,.int .i64 0,.int .i64 0,.int .i64 0]:=by subst hs;exact(((Bx.newAt _ (by simp) rfl).alloc _).alloc _).alloc _
 have hC:Bx (((((w.alloc (.cells #[.slice none 0 0,.slice none 0 0,.slice none 0 0] 26)).alloc (.cells #[.int .i64 0,.int .i64 0,.int .i64 0,.int .i64 0,.int .i64 0,.int .i64 0] 32)).alloc (.cells #[.int .i64 1,.int .i64 10,.int .i64 20,.int .i64 2,.int .i64 190,.int .i64 50] 71)).alloc (.cells #[.int .i64 3,.int .i64 1,.int .i64 2,.slice none 0 0,.int .i64 0,.int .i64 0] 58)).alloc (.cells #[.slice (some ⟨s+2,0,none⟩) 2 2,.slice (some ⟨s+3,0,none⟩) 1 1,.slice none 0 0] 26)) (s+2) 71 [.int .i64 1,.int .i64 10,.int .i64 20,.int .i64 2,.int .i64 190,.int .i64 50]:=by subst hs;exact((Bx.newAt _ (by simp) rfl).alloc _).alloc _
 have hD:Bx (((((w.alloc (.cells #[.slice none 0 0,.slice none 0 0,.slice none 0 0] 26)).alloc (.cells #[.int .i64 0,.int .i64 0,.int .i64 0,.int .i64 0,.int .i64 0,.int .i64 0] 32)).alloc (.cells #[.int .i64 1,.int .i64 10,.int .i64 20,.int .i64 2,.int .i64 190,.int .i64 50] 71)).alloc (.cells #[.int .i64 3,.int .i64 1,.int .i64 2,.slice none 0 0,.int .i64 0,.int .i64 0] 58)).alloc (.cells #[.slice (some ⟨s+2,0,none⟩) 2 2,.slice (some ⟨s+3,0,none⟩) 1 1,.slice none 0 0] 26)) (s+3) 58 [.int .i64 3,.int .i64 1,.int .i64 2,.slice none 0 0,.int .i64 0,.int .i64 0]:=by subst hs;exact(Bx.newAt _ (by simp) rfl).alloc _
 have hE:Bx (((((w.alloc (.cells #[.slice none 0 0,.slice none 0 0,.slice none 0 0] 26)).alloc (.cells #[.int .i64 0,.int .i64 0,.int .i64 0,.int .i64 0,.int .i64 0,.int .i64 0] 32)).alloc (.cells #[.int .i64 1,.int .i64 10,.int .i64 20,.int .i64 2,.int .i64 190,.int .i64 50] 71)).alloc (.cells #[.int .i64 3,.int .i64 1,.int .i64 2,.slice none 0 0,.int .i64 0,.int .i64 0] 58)).alloc (.cells #[.slice (some ⟨s+2,0,none⟩) 2 2,.slice (some ⟨s+3,0,none⟩) 1 1,.slice none 0 0] 26)) (s+4) 26 [.slice (some ⟨s+2,0,none⟩) 2 2,.slice (some ⟨s+3,0,none⟩) 1 1,.slice none 0 0]:=by subst hs;exact Bx.newAt _ (by simp) rfl
 have hb:Below s w (((((w.alloc (.cells #[.slice none 0 0,.slice none 0 0,.slice none 0 0] 26)).alloc (.cells #[.int .i64 0,.int .i64 0,.int .i64 0,.int .i64 0,.int .i64 0,.int .i64 0] 32)).alloc (.cells #[.int .i64 1,.int .i64 10,.int .i64 20,.int .i64 2,.int .i64 190,.int .i64 50] 71)).alloc (.cells #[.int .i64 3,.int .i64 1,.int .i64 2,.slice none 0 0,.int .i64 0,.int .i64 0] 58)).alloc (.cells #[.slice (some ⟨s+2,0,none⟩) 2 2,.slice (some ⟨s+3,0,none⟩) 1 1,.slice none 0 0] 26)):=by subst hs;exact((((bw1 w _).alloc (by simp) _).alloc (by simp;omega) _).alloc (by simp;omega) _).alloc (by simp;omega) _
 have HSz:=hid hs;go_enter Tryz.func13,Tryz.ntmps13;go_upto_region 2 with fail;rw[show s+1+1=s+2 from rfl,show s+2+1=s+3 from rfl,show s+3+1=s+4 from rfl];clear hs;generalize (((((w.alloc (.cells #[.slice none 0 0,.slice none 0 0,.slice none 0 0] 26)).alloc (.cells #[.int .i64 0,.int .i64 0,.int .i64 0,.int .i64 0,.int .i64 0,.int .i64 0] 32)).alloc (.cells #[.int .i64 1,.int .i64 10,.int .i64 20,.int .i64 2,.int .i64 190,.int .i64 50] 71)).alloc (.cells #[.int .i64 3,.int .i64 1,.int .i64 2,.slice none 0 0,.int .i64 0,.int .i64 0] 58)).alloc (.cells #[.slice (some ⟨s+2,0,none⟩) 2 2,.slice (some ⟨s+3,0,none⟩) 1 1,.slice none 0 0] 26))=w5 at *;have hA2:=(hA.set3 (.slice (some ⟨s+2,0,none⟩) 2 2) (.slice (some ⟨s+3,0,none⟩) 1 1) (.slice none 0 0));have hb2:=hA.set3B hb (Nat.le_refl _) (.slice (some ⟨s+2,0,none⟩) 2 2) (.slice (some ⟨s+3,0,none⟩) 1 1) (.slice none 0 0);have oth:∀b t (cs:List Value),b≠s→Bx w5 b t cs→Bx (st3 w5 s (.slice (some ⟨s+2,0,none⟩) 2 2) (.slice (some ⟨s+3,0,none⟩) 1 1) (.slice none 0 0)) b t cs:=fun b t cs h hx=>((hx.other h _ _).other h _ _).other h _ _
 have hB2:=oth _ _ _ (by omega) hB;have hC2:=oth _ _ _ (by omega) hC;have hD2:=oth _ _ _ (by omega) hD;obtain⟨a0,a1,a2⟩:=hA.c3;have fa0:=hA.frozen 0;have fa1:=hA.frozen 1;have fa2:=hA.frozen 2;have la:=hA.lt;obtain⟨e0,e1,e2⟩:=hE.c3;have HX:=hid (And.intro hA2 (And.intro hB2 (And.intro hC2 (And.intro hD2 hb2))));obtain⟨b0,b1,b2,b3,b4,b5⟩:=hB.c6;have fb0:=hB.frozen 0;have fb1:=hB.frozen 1;have fb2:=hB.frozen 2;have fb3:=hB.frozen 3;have fb4:=hB.frozen 4;have fb5:=hB.frozen 5;have lb:=hB.lt;clear hA hB hC hD hE hb hA2 hB2 hC2 hD2 hb2 oth;go_wp2_with fail;change bodyPost _ _ _ _ _ (st6 (st3 w5 s (.slice (some ⟨s+2,0,none⟩) 2 2) (.slice (some ⟨s+3,0,none⟩) 1 1) (.slice none 0 0)) (s+1) (.int .i64 0) (.int .i64 0) (.int .i64 100) (.int .i64 100) (.int .i64 2) (.int .i64 1));clear a0 a1 a2 fa0 fa1 fa2 la e0 e1 e2 b0 b1 b2 b3 b4 b5 fb0 fb1 fb2 fb3 fb4 fb5 lb;generalize st3 w5 s (.slice (some ⟨s+2,0,none⟩) 2 2) (.slice (some ⟨s+3,0,none⟩) 1 1) (.slice none 0 0)=w6 at *;obtain⟨hA,hB,hC,hD,hb⟩:=HX.out;have oth:∀b t (cs:List Value),b≠s+1→Bx w6 b t cs→Bx (st6 w6 (s+1) (.int .i64 0) (.int .i64 0) (.int .i64 100) (.int .i64 100) (.int .i64 2) (.int .i64 1)) b t cs:=fun b t cs h hx=>(((((hx.other h _ _).other h _ _).other h _ _).other h _ _).other h _ _).other h _ _
 have hA2:=oth _ _ _ (by omega) hA;have hC2:=oth _ _ _ (by omega) hC;have hD2:=oth _ _ _ (by omega) hD;have k1:=hB.set 0 (.int .i64 0);have k2:=k1.set 1 (.int .i64 0);have k3:=k2.set 2 (.int .i64 100);have k4:=k3.set 3 (.int .i64 100);have k5:=k4.set 4 (.int .i64 2);have k6:=k5.set 5 (.int .i64 1);have hb2:=k5.setB (k4.setB (k3.setB (k2.setB (k1.setB (hB.setB hb (by omega) 0 (.int .i64 0)) (by omega) 1 (.int .i64 0)) (by omega) 2 (.int .i64 100)) (by omega) 3 (.int .i64 100)) (by omega) 4 (.int .i64 2)) (by omega) 5 (.int .i64 1);change Bx (st6 w6 (s+1) _ _ _ _ _ _) _ _ [.int .i64 0,.int .i64 0,.int .i64 100,.int .i64 100,.int .i64 2,.int .i64 1]at k6;change Below _ _ (st6 w6 (s+1) (.int .i64 0) (.int .i64 0) (.int .i64 100) (.int .i64 100) (.int .i64 2) (.int .i64 1))at hb2;clear k1 k2 k3 k4 k5 oth hA hB hC hD hb HX;generalize st6 w6 (s+1) (.int .i64 0) (.int .i64 0) (.int .i64 100) (.int .i64 100) (.int .i64 2) (.int .i64 1)=w7 at *;obtain⟨r0,r1,r2⟩:=hA2.c3;obtain⟨q0,q1,q2,q3,q4,q5⟩:=k6.c6;refine bodyPost_ret (v:=.tuple #[.agg #[.slice (some ⟨s+2,0,none⟩) 2 2,.slice (some ⟨s+3,0,none⟩) 1 1,.slice none 0 0],.agg #[.int .i64 0,.int .i64 0,.int .i64 100,.int .i64 100,.int .i64 2,.int .i64 1]]) (by simp[results,Tryz.results13,go_sem,r0,r1,r2,q0,q1,q2,q3,q4,q5]) rfl ?_;exact⟨_,_,rfl,tP hC2 hD2,HSz.out▸hb2⟩
end Go.Proofs
namespace Go.Proofs
open Go.RowKit Go.Proofs.Mp Go.Lib
theorem gS{w w':World}{v:PtV}{x:Prt}{ok:Nat→Prop}(h:RPt w v x ok)(hb:Below w.heap.size w w'):RPt w' v x ok:=RPt.foot.keep h hb.size (fun g h _=>hb.block g h)
theorem kp(w:World)(hM:bT w):Calls Tryz.prog 5 #[] w (RetV w (.bool true)):=by
 have cAc:=hid (lI w);have cAll:Hid (∀m W,PlR W pX m→Calls Tryz.prog 9 #[plV pX m,.agg #[.int .i64 0,.int .i64 0,.int .i64 100,.int .i64 100,.int .i64 2,.int .i64 1]] W (qB W (allTo pX seX 2))):=hid fun m W hR=>kQ pX m seX W hR d9 lm
 have cMa:Hid (∀v ok W,oN W v (allTo pX seX 2) ok→bT W→Calls Tryz.prog 10 #[v,.agg #[.int .i64 0,.int .i64 0,.int .i64 100,.int .i64 100,.int .i64 2,.int .i64 1]] W (RetV W (.tuple #[.slice none 0 0,.int .i64 0]))):=hid fun v ok W hv hM=>kF seX v _ ok W hv hM (mI d9 lm)
 have cBo:Hid (∀W,Calls Tryz.prog 11 #[.agg #[.int .i64 0,.int .i64 0,.int .i64 100,.int .i64 100,.int .i64 2,.int .i64 1],.int .i64 1] W (RetV W (.tuple #[.agg #[.int .i64 0,.int .i64 0,.int .i64 100,.int .i64 100],.int .i64 0]))):=hid fun W=>(ep seX 1 W).mono (by
  rintro e w' ⟨h1|h1,hb⟩
  ·exact⟨h1.2,hb⟩
  ·exact absurd shX h1.1)
 have cCr:Hid (∀(y:PtV) ok W A c,RPt W y (partS pX 1 (shBox seX 1).to) ok→y.2.2=.slice A (partS pX 1 (shBox seX 1).to).nodes.length c→Rd 3 aQ W A (partS pX 1 (shBox seX 1).to).nodes→Calls Tryz.prog 14 #[.agg #[.int .i64 1,y.2.1,.slice A (partS pX 1 (shBox seX 1).to).nodes.length c],.agg #[.int .i64 0,.int .i64 0,.int .i64 100,.int .i64 100],.int .i64 3] W (i8 W [(35,3,1)])):=hid fun y ok W A c hy e hRn=>by
  have hpo:=gD d9 shX;rw[←tq,←gE d9 shX (s:=3) (by omega)];exact dQ 1 y.2.1 (partS pX 1 (shBox seX 1).to).pcs ok A c (partS pX 1 (shBox seX 1).to).nodes (shBox seX 1) 3 W hy.2.1 hpo.pcs hRn hpo.nl hpo.nn (by omega)
 have HL0:=hid (show(allTo pX seX 2).length=2 from rfl);have HL1:=hid (show(allTo pX seX 2)[0]! = partS pX 1 (shBox seX 1).to from rfl);generalize allTo pX seX 2=L at *;have HM:=hid hM;clear hM;have HG65:=hid Tryz.guard65;go_enter Tryz.func5,Tryz.ntmps5;go_wp2_with fail;refine cAc.out.mono ?_;rintro e w1 ⟨a,b,rfl,hR,hb1⟩;have hp:=(Bx.new (t:=26) (cs:=[.slice (some a) 2 2,.slice (some b) 1 1,.slice none 0 0]) w1 rfl).alloc (.cells #[.int .i64 0,.int .i64 0,.int .i64 100,.int .i64 100,.int .i64 2,.int .i64 1] 32);have hs:=Bx.newAt (b:=w1.heap.size+1) (t:=32) (cs:=[.int .i64 0,.int .i64 0,.int .i64 100,.int .i64 100,.int .i64 2,.int .i64 1]) (w1.alloc (.cells #[.slice (some a) 2 2,.slice (some b) 1 1,.slice none 0 0] 26)) (by simp) rfl;have hw:=bwx w1 (.cells #[.slice (some a) 2 2,.slice (some b) 1 1,.slice none 0 0] 26) (.cells #[.int .i64 0,.int .i64 0,.int .i64 100,.int .i64 100,.int .i64 2,.int .i64 1] 32);have HR:=hid (hR.below hw);have HB:=hid (hb1.trans (hw.mono hb1.size));have HX:=hid (And.intro hp hs);clear hR hb1 hp hs hw cAc;go_upto_region 2 with fail;generalize (w1.alloc (.cells #[.slice (some a) 2 2,.slice (some b) 1 1,.slice none 0 0] 26)).alloc (.cells #[.int .i64 0,.int .i64 0,.int .i64 100,.int .i64 100,.int .i64 2,.int .i64 1] 32)=w2 at *;generalize w1.heap.size=n at *;obtain⟨p0,p1,p2⟩:=HX.out.1.c3;obtain⟨s0,s1,s2,s3,s4,s5⟩:=HX.out.2.c6;go_wp2_with fail;refine(cAll.out _ _ HR.out).mono ?_;rintro e w3 ⟨v,rfl,hv,hb3⟩;have HB3:=hid (HB.out.trans (hb3.mono HB.out.size));have HS3:=hid (HX.out.2.below hb3);have HV3:=hid hv;clear p0 p1 p2 s0 s1 s2 s3 s4 s5 hv hb3 HX HR HB cAll;obtain⟨A,c,rfl,hG⟩:=fu HV3.out;obtain⟨bl,off,y,rfl,hbl,hy,hcel⟩:=hG 0 (by rw[HL0.out];omega);rw[HL1.out]at hy;rw[HL0.out]at HV3;rw[show off+0*3=off by omega]at hcel;have HCE:=hid hcel;have HRP:=hid hy;clear hG hcel hy hbl;rw[HL0.out];obtain⟨s0,s1,s2,s3,s4,s5⟩:=HS3.out.c6;go_wp2_with fail;refine(cMa.out _ _ _ HV3.out (HM.out.below (HB3.out))).mono ?_;rintro e w4 ⟨rfl,hb4⟩;have HB4:=hid (HB3.out.trans (hb4.mono HB3.out.size));have HS4:=hid (HS3.out.below hb4);have HC4:=hid hb4;clear s0 s1 s2 s3 s4 s5 hb4 HS3 HB3;obtain⟨s0,s1,s2,s3,s4,s5⟩:=HS4.out.c6;go_wp2_with fail;refine(cBo.out _).mono ?_;rintro e w5 ⟨rfl,hb5⟩;have hx6:=Bx.new (t:=48) (cs:=[.int .i64 0,.int .i64 0,.int .i64 100,.int .i64 100]) w5 rfl;have hb6:=hb5.trans ((bw1 w5 (.cells #[.int .i64 0,.int .i64 0,.int .i64 100,.int .i64 100] 48)).mono hb5.size);have HB6:=hid (HB4.out.trans (hb6.mono HB4.out.size));have HC6:=hid (HC4.out.trans (hb6.mono HC4.out.size));have HX6:=hid hx6;clear s0 s1 s2 s3 s4 s5 hb5 hb6 hx6 HS4;go_upto_region 7 with fail;generalize w5.alloc (.cells #[.int .i64 0,.int .i64 0,.int .i64 100,.int .i64 100] 48)=w6 at *;generalize w5.heap.size=nb at *;have HRP6:=hid (gS HRP.out HC6.out);obtain⟨hy0,⟨vs1,hq1,⟨A1,c1,e1,hq2⟩,hq3⟩,A2,c2,e2,hq4,hq5,hR2⟩:=HRP6.out
 have cC:Hid (∀W,Below w6.heap.size w6 W→Calls Tryz.prog 14 #[.agg #[y.1,y.2.1,y.2.2],.agg #[.int .i64 0,.int .i64 0,.int .i64 100,.int .i64 100],.int .i64 3] W (i8 W [(35,3,1)])):=hid fun W hb=>by
  have:=cCr.out y _ W A2 c2 (gS HRP6.out hb) e2 (hR2.below hb);rw[←e2]at this;rw[hy0];exact this
 have HCE6:=hid (show ∀W,Below w6.heap.size w6 W→_ from fun W hb=>HCE.out W (HC6.out.trans (hb.mono HC6.out.size)));obtain⟨y0,y1,y2⟩:=y;dsimp only at e1 e2;subst e1 e2;generalize vs1.length=m1 at *;generalize (partS pX 1 (shBox seX 1).to).nodes.length=m2 at *;clear hq1 hq2 hq3 hq4 hq5 hR2 hy0 HCE HRP HRP6 HV3 cCr;have hS1:(fun W:World=>Below w6.heap.size w6 W) w6.drew:=(Below.refl _ _).drew;refine wp_region_held_drew (S:=(fun W:World=>Below w6.heap.size w6 W)) (by kernel_rfl) hS1 (fun hHeld=>?_);clear hHeld;generalize hwd:w6.drew=wd at *;clear hwd;refine kk 0 rfl ?_;refine kk 1 rfl ?_;refine kf 2 HCE6.out rfl ?_;refine kf 3 (fun W h=>(HX6.out.below h).c4) rfl ?_;refine kr 4 rfl fun K hK=>?_
 go_simp;go_at_call 14;refine(cC.out _ hS1).mono ?_;rintro e w7 ⟨v,M,rfl,hM1,_,hO,hb7⟩;obtain rfl:M=[(35,3,1)]:=List.perm_singleton.1 hM1;have hS2:(fun W:World=>Below w6.heap.size w6 W) w7:=Below.trans (B:=w6.heap.size) hS1 (hb7.mono hS1.size);obtain⟨A3,c3,rfl⟩:=Own.slice hO;have HO:=hid (Own.rd aP hO);clear hM1 hO hb7 hS1;go_wp2_with fail;refine hK.out _ _ hS2 (fun hHeld=>?_);clear hK hHeld K
 try simp only[Act.put,sa,sz,ss]
 refine kk 5 rfl ?_;refine kk 6 rfl ?_;refine kk 7 rfl ?_;refine kk 8 rfl ?_;refine kk 9 rfl ?_;refine wpAnyH_done (by kernel_rfl) ?_ _;have HB7:=hid (HB6.out.trans (hS2.mono HB6.out.size));clear hS2;obtain⟨b3,o3,rfl,_,hcc⟩:=HO.out.get (Below.refl _ _) (j:=0) (by decide);have d0:=hcc 0 (by decide) 0 _ rfl;have d1:=hcc 0 (by decide) 1 _ rfl;have d2:=hcc 0 (by decide) 2 _ rfl;rw[show o3+0*3=o3 by omega]at d0 d1 d2;clear hcc;have hE:=Tryz.eql65 35 3 1 35 3 1;rw[decide_eq_true rfl]at hE;have hG:=HG65.out;go_wp2_with fail;go_ret;exact⟨rfl,HB7.out⟩
end Go.Proofs
