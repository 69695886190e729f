/- Lemmas and walks; no statement of a law is proved here. -/
import Derived.Test.YtaglmdebikglgaaGreatDoorX04
import Derived.Test.YtaglmdebikglgaaGreatDoorX08
set_option linter.unusedVariables false
set_option linter.unusedSimpArgs false
set_option maxRecDepth 100000
set_option maxHeartbeats 8000000
open Go.Lib
namespace Go.Proofs
open Go.RowKit Go.Proofs.Mp Go.Lib
theorem r7{a b c d:Pt}(h:max a.1 b.1<min c.1 d.1):aE a b c d=false:=by
 rw[aB];refine⟨?_,?_,?_,?_,?_⟩
 ·cases e:onB a b c with
  | false=>rfl
  | true=>rw[aM]at e;obtain⟨_,_,e2,_⟩:=e;omega
 ·cases e:onB a b d with
  | false=>rfl
  | true=>rw[aM]at e;obtain⟨_,_,e2,_⟩:=e;omega
 ·cases e:onB c d a with
  | false=>rfl
  | true=>rw[aM]at e;obtain⟨_,e2,_,_⟩:=e;omega
 ·cases e:onB c d b with
  | false=>rfl
  | true=>rw[aM]at e;obtain⟨_,e2,_,_⟩:=e;omega
 ·rintro⟨h1,h2⟩
  obtain⟨E,W,ha,hb,hc,hd,hEW⟩:∃E W:Int,0≤E-a.1∧0≤E-b.1∧0≤c.1-W∧0≤d.1-W∧0<W-E:=⟨max a.1 b.1,min c.1 d.1,by omega,by omega,by omega,by omega,by omega⟩;have hid:b.1*tw c d a-a.1*tw c d b=c.1*tw a b d-d.1*tw a b c:=by unfold tw;grind
  have hD:tw c d a-tw c d b=tw a b d-tw a b c:=by unfold tw;grind
  generalize tw c d a=u at *;generalize tw c d b=v at *;generalize tw a b c=s at *;generalize tw a b d=t at *;rw[aA]at h1 h2;have hkey:(E-b.1)*u-(E-a.1)*v+(c.1-W)*t-(d.1-W)*s+(W-E)*(u-v)=0:=by grind
  rcases h2 with⟨hu,hv⟩|⟨hu,hv⟩
  ·rcases h1 with⟨hs,ht⟩|⟨hs,ht⟩
   ·omega
   ·have q1:=Int.mul_nonneg hb (show 0≤-u by omega)
    have q2:=Int.mul_nonneg ha (show 0≤v by omega);have q3:=Int.mul_nonneg hc (show 0≤-t by omega);have q4:=Int.mul_nonneg hd (show 0≤s by omega);have q5:=Int.mul_pos hEW (show 0<v-u by omega);grind
  ·rcases h1 with⟨hs,ht⟩|⟨hs,ht⟩
   ·have q1:=Int.mul_nonneg hb (show 0≤u by omega)
    have q2:=Int.mul_nonneg ha (show 0≤-v by omega);have q3:=Int.mul_nonneg hc (show 0≤t by omega);have q4:=Int.mul_nonneg hd (show 0≤-s by omega);have q5:=Int.mul_pos hEW (show 0<u-v by omega);grind
   ·omega
def gM(p:Pn)(s:Nat×Nat):Pt:=(pth p s.1)[s.2]!
def gL(p:Pn)(s:Nat×Nat):Pt:=(pth p s.1)[s.2+1]!
def mS(p:Pn)(s t:Nat×Nat):Int:=meetN (gM p s) (gL p s) (gM p t) (gL p t)
def gP(p:Pn)(id:Int):Pt:=aX (gOf p.nodes) id
def ShS(p:Pn)(s t:Nat×Nat):Prop:=∃id,(id=p.arcs[s.1]!.frm∨id=p.arcs[s.1]!.dst)∧(id=p.arcs[t.1]!.frm∨id=p.arcs[t.1]!.dst)∧onB (gM p s) (gL p s) (gP p id)=true∧onB (gM p t) (gL p t) (gP p id)=true
def nxS(p:Pn)(s t:Nat×Nat):Bool:=nextB p.arcs[s.1]! (pth p s.1) (min s.2 t.2) (max s.2 t.2)
def cw(p:Pn)(s t:Nat×Nat):Prop:=if s.1=t.1 then (if nxS p s t=true then mS p s t=1 else mS p s t=0) else (mS p s t=0∨(mS p s t=1∧ShS p s t))
theorem kJ{p:Pn}(hO:gk p){s t:Nat×Nat}(hs:s.1<p.arcs.length)(ht:t.1<p.arcs.length):compS p s t=true↔cw p s t:=by
 unfold compS compB cw;dsimp only;have em:meetN (pth p s.1)[s.2]! (pth p s.1)[s.2+1]! (pth p t.1)[t.2]! (pth p t.1)[t.2+1]! = mS p s t:=rfl;rw[em]
 by_cases h:s.1=t.1
 ·rw[if_pos (by rw[h]),if_pos h]
  show(if nxS p s t=true then mS p s t==1 else mS p s t==0)=true↔_
  split<;>simp
 ·rw[if_neg (fun e=>h (hO.ids _ _ hs ht e)),if_neg h]
  by_cases h1:mS p s t=1
  ·rw[if_pos h1]
   unfold okId ShS;simp only[Bool.or_eq_true,Bool.and_eq_true,beq_iff_eq];constructor
   ·rintro (⟨⟨h2,h3⟩,h4⟩|⟨⟨h2,h3⟩,h4⟩)
    ·exact Or.inr ⟨h1,_,Or.inl rfl,h2,h3,h4⟩
    ·exact Or.inr ⟨h1,_,Or.inr rfl,h2,h3,h4⟩
   ·rintro (h2|⟨_,id,h2|h2,h3,h4,h5⟩)
    ·omega
    ·subst h2;exact Or.inl ⟨⟨h3,h4⟩,h5⟩
    ·subst h2;exact Or.inr ⟨⟨h3,h4⟩,h5⟩
  ·rw[if_neg h1]
   simp[h1]
structure kS(p:Pn)(s:Nat×Nat):Prop where
 k:s.1<p.arcs.length
 j:s.2+1<(pth p s.1).length
 a:Nr (gM p s)
 z:Nr (gL p s)
 ne:gM p s≠gL p s
theorem iD{p:Pn}(hO:gk p)(hS:eB p){s:Nat×Nat}(h:s∈ah p p.arcs.length):kS p s:=by
 obtain⟨h1,h2⟩:=bE h;exact⟨h1,h2,hO.pr _ h1 _ (by omega),hO.pr _ h1 _ h2,(hS _ h1).2.2 _ h2⟩
theorem eX{p:Pn}{s:Nat×Nat}(h1:s.1<p.arcs.length)(h2:s.2+1<(pth p s.1).length):s∈ah p p.arcs.length:=
 List.mem_flatMap.2 ⟨s.1,List.mem_range.2 h1,List.mem_map.2 ⟨s.2,List.mem_range.2 (by omega),rfl⟩⟩
theorem rx{p:Pn}{s t:Nat×Nat}(hs:kS p s)(ht:kS p t):mS p s t=mS p t s:=eI hs.a hs.z ht.a ht.z hs.ne ht.ne
theorem qP{p:Pn}{s t:Nat×Nat}(h:ShS p s t):ShS p t s:=by
 obtain⟨id,h1,h2,h3,h4⟩:=h;exact⟨id,h2,h1,h4,h3⟩
theorem rp{p:Pn}{s t:Nat×Nat}(h:s.1=t.1):nxS p s t=nxS p t s:=by
 unfold nxS;rw[h,Nat.min_comm,Nat.max_comm]
theorem gV{p:Pn}{s t:Nat×Nat}(hs:kS p s)(ht:kS p t)(h:cw p s t):cw p t s:=by
 unfold cw at h ⊢;rw[rx ht hs]
 by_cases e:s.1=t.1
 ·rw[if_pos e]at h
  rw[if_pos e.symm,rp e.symm];exact h
 ·rw[if_neg e]at h
  rw[if_neg (fun e2=>e e2.symm)];exact h.imp id fun ⟨h1,h2⟩=>⟨h1,qP h2⟩
theorem rq{p:Pn}{s t:Nat×Nat}(hloop:p.arcs[s.1]!.frm=p.arcs[s.1]!.dst→(pth p s.1)[(pth p s.1).length-1]! = (pth p s.1)[0]!)(h:s.1=t.1)(hx:nxS p s t=true):∃q:Pt,(q=gM p s∨q=gL p s)∧(q=gM p t∨q=gL p t):=by
 unfold nxS nextB at hx;simp only[Bool.or_eq_true,Bool.and_eq_true,decide_eq_true_eq,beq_iff_eq]at hx;unfold gM gL;rw[←h];generalize pth p s.1=l at *;generalize s.2=i at *;generalize t.2=j at *
 rcases hx with hx|⟨⟨h1,h2⟩,h3⟩
 ·by_cases hij:i≤j
  ·exact⟨l[j]!,Or.inr (by rw[show i+1=j by omega]),Or.inl rfl⟩
  ·exact⟨l[i]!,Or.inl rfl,Or.inr (by rw[show j+1=i by omega])⟩
 ·have hl:=hloop h1
  by_cases hij:i≤j
  ·exact⟨l[0]!,Or.inl (by rw[show i=0 by omega]),Or.inr (by rw[show j+1=l.length-1 by omega,hl])⟩
  ·exact⟨l[0]!,Or.inr (by rw[show i+1=l.length-1 by omega,hl]),Or.inl (by rw[show j=0 by omega])⟩
theorem jY{p:Pn}{s t:Nat×Nat}(hloop:∀k,k<p.arcs.length→p.arcs[k]!.frm=p.arcs[k]!.dst→(pth p k)[(pth p k).length-1]! = (pth p k)[0]!)(hs:kS p s)(ht:kS p t)(h:segEst p s<segWst p t):cw p s t:=by
 have hx:max (gM p s).1 (gL p s).1<min (gM p t).1 (gL p t).1:=h;have h0:mS p s t=0:=(bw hs.a hs.z ht.a ht.z hs.ne ht.ne).2 (r7 hx);unfold cw
 by_cases e:s.1=t.1
 ·rw[if_pos e]
  by_cases hn:nxS p s t=true
  ·exfalso
   obtain⟨q,h1,h2⟩:=rq (hloop _ hs.k) e hn
   rcases h1 with h1|h1<;>rcases h2 with h2|h2<;>(rw[←h1,←h2]at hx;omega)
  ·rw[if_neg hn]
   exact h0
 ·rw[if_neg e]
  exact Or.inl h0
theorem gJ(p:Pn):∀K,(ah p K).Nodup
 | 0=>by simp[ah]
 | K+1=>by
  rw[fR,List.nodup_append];refine⟨gJ p K,?_,fun a ha b hb e=>?_⟩
  ·unfold eY List.Nodup
   rw[List.pairwise_map];exact List.nodup_range.imp fun h e=>h (by injection e)
  ·obtain⟨i,_,rfl⟩:=List.mem_map.1 hb
   have:=(bE ha).1;rw[e]at this;exact Nat.lt_irrefl _ this
def sM(p:Pn):Prop:=(∀s t,s∈ah p p.arcs.length→t∈ah p p.arcs.length→s≠t→cw p s t)∧∀s,s∈ah p p.arcs.length→lq p s
theorem pm{p:Pn}(hO:gk p)(hS:eB p)(hloop:∀k,k<p.arcs.length→p.arcs[k]!.frm=p.arcs[k]!.dst→(pth p k)[(pth p k).length-1]! = (pth p k)[0]!){L:List (Nat×Nat)}(hp:L.Perm (ah p p.arcs.length)):RowsOK p L↔sM p:=by
 have hin:∀i,i<L.length→L[i]!∈ah p p.arcs.length:=fun i hi=>hp.mem_iff.1 (by rw[getElem!_pos L i hi];exact List.getElem_mem hi)
 have hnd:L.Nodup:=hp.nodup_iff.2 (gJ p _);constructor
 ·intro h
  have key:∀i j,i<j→j<L.length→cw p L[i]! L[j]!:=fun i j hij hj=>by
   have n1:=iD hO hS (hin i (by omega));have n2:=iD hO hS (hin j hj)
   by_cases e:segWst p L[j]!≤segEst p L[i]!
   ·exact(kJ hO n1.k n2.k).1 ((h i (by omega)).1 j hij hj e)
   ·exact jY hloop n1 n2 (by omega)
  refine⟨fun s t hs ht hne=>?_,fun s hs=>?_⟩
  ·obtain⟨i,hi,rfl⟩:=List.mem_iff_getElem.1 (hp.mem_iff.2 hs)
   obtain⟨j,hj,rfl⟩:=List.mem_iff_getElem.1 (hp.mem_iff.2 ht)
   rcases Nat.lt_trichotomy i j with q|q|q
   ·have:=key i j q hj
    rwa [getElem!_pos L i hi,getElem!_pos L j hj]at this
   ·subst q;exact absurd rfl hne
   ·have:=key j i q hi
    rw[getElem!_pos L i hi,getElem!_pos L j hj]at this;exact gV (iD hO hS ht) (iD hO hS hs) this
  ·obtain⟨i,hi,rfl⟩:=List.mem_iff_getElem.1 (hp.mem_iff.2 hs)
   have:=(h i hi).2
   rwa [getElem!_pos L i hi]at this
 ·rintro⟨h1,h2⟩ i hi
  refine⟨fun j hij hj _=>?_,h2 _ (hin i hi)⟩;have n1:=iD hO hS (hin i hi);have n2:=iD hO hS (hin j hj);refine(kJ hO n1.k n2.k).2 (h1 _ _ (hin i hi) (hin j hj) fun e=>?_);rw[getElem!_pos L i hi,getElem!_pos L j hj]at e;have:=(List.getElem_inj hnd).1 e;omega
end Go.Proofs
namespace Go.Proofs
open Go.RowKit Go.Proofs.Mp Go.Lib
theorem lS{l:List Int}(h:AscP l){i:Nat}:∀{j:Nat},i<j→j<l.length→l[i]!<l[j]!
 | 0,h1,_=>absurd h1 (Nat.not_lt_zero _)
 | j+1,h1,h2=>by
  have:=h j h2
  by_cases e:i=j
  ·subst e;exact this
  ·have:=lS h (i:=i) (j:=j) (by omega) (by omega)
   omega
theorem mH{l:List Int}(h:AscP l){i j:Nat}(hi:i<l.length)(hj:j<l.length)(e:l[i]! = l[j]!):i=j:=by
 rcases Nat.lt_trichotomy i j with q|q|q
 ·have:=lS h q hj;omega
 ·exact q
 ·have:=lS h q hi;omega
theorem aN{α β:Type}[Inhabited α][Inhabited β](f:α→β){l:List α}{i:Nat}(h:i<l.length):(l.map f)[i]! = f l[i]!:=by
 rw[getElem!_pos _ i (by simpa using h),List.getElem_map,getElem!_pos l i h]
theorem aw{α:Type}[Inhabited α]{l:List α}{x:α}(h:x∈l):∃i,i<l.length∧l[i]! = x:=by
 obtain⟨i,hi,e⟩:=List.mem_iff_getElem.1 h;exact⟨i,hi,by rw[getElem!_pos l i hi];exact e⟩
theorem ak{α:Type}[Inhabited α]{l:List α}{i:Nat}(h:i<l.length):l[i]!∈l:=by
 rw[getElem!_pos l i h];exact List.getElem_mem h
structure aL(p:Pn):Prop where
 an:AscP (p.nodes.map Prod.fst)
 aa:AscP (p.arcs.map Ar.id)
 bn:bg badN (p.nodes.map Prod.fst)
 pl:PlacedP p
 cn:ConnP p (p.nodes.map Prod.fst)
def isN(p:Pn)(id:Int):Prop:=∃q,(id,q)∈p.nodes
theorem dT{q:Pt}(h:badP q=false):Vp q:=by
 unfold badP at h;simp only[Bool.or_eq_false_iff,decide_eq_false_iff_not]at h;unfold Vp;omega
theorem iA{q:Pt}(h:Vp q):Nr q:=by
 unfold Vp at h;unfold Nr;omega
section
variable {p:Pn}(hP:aL p)
include hP
theorem aL.uniq{id:Int}{q r:Pt}(h1:(id,q)∈p.nodes)(h2:(id,r)∈p.nodes):q=r:=by
 obtain⟨i,hi,e1⟩:=aw h1;obtain⟨j,hj,e2⟩:=aw h2;have:i=j:=mH hP.an (by simpa using hi) (by simpa using hj) (by rw[aN _ hi,aN _ hj,e1,e2]);subst this;rw[e1]at e2;injection e2
theorem aL.gP{id:Int}{q:Pt}(h:(id,q)∈p.nodes):gP p id=q:=by
 have key:∀(l:List Nd) (f:Int→Option Pt),(∀n∈l,n.1=id→n.2=q)→((id,q)∈l∨f id=some q)→l.foldl je f id=some q:=by
  intro l
  induction l with
  | nil=>intro f _ h;exact h.resolve_left (by simp)
  | cons n l ih=>
   intro f hu h;refine ih _ (fun m hm=>hu m (List.mem_cons_of_mem _ hm)) ?_;unfold je
   by_cases e:id=n.1
   ·rw[if_pos e]
    exact Or.inr (by rw[hu n List.mem_cons_self e.symm])
   ·rw[if_neg e]
    rcases h with h|h
    ·rcases List.mem_cons.1 h with h|h
     ·exact absurd (congrArg Prod.fst h) e
     ·exact Or.inl h
    ·exact Or.inr h
 unfold Go.Proofs.gP aX gOf;rw[key p.nodes _ (fun n hn e=>hP.uniq (id:=id) (by rw[←e];exact hn) h) (Or.inl h)];rfl
theorem aL.find{id:Int}(h:isN p id):findN p.nodes id=some (id,Go.Proofs.gP p id):=by
 obtain⟨q,h⟩:=h;rw[hP.gP h];unfold findN;cases e:p.nodes.find? fun n=>decide (n.1=id) with
 | none=>exact absurd (List.find?_eq_none.1 e _ h) (by simp)
 | some n=>
  have h1:=List.mem_of_find?_eq_some e;have h2:=List.find?_some e;simp only[decide_eq_true_eq]at h2;have:n.2=q:=hP.uniq (id:=id) (by rw[←h2];exact h1) h;rw[←h2,←this]
theorem aL.ids{i j:Nat}(hi:i<p.arcs.length)(hj:j<p.arcs.length)(e:p.arcs[i]!.id=p.arcs[j]!.id):i=j:=
 mH hP.aa (by simpa using hi) (by simpa using hj) (by rw[aN _ hi,aN _ hj,e])
theorem aL.findA{k:Nat}(hk:k<p.arcs.length):findA p.arcs p.arcs[k]!.id=some p.arcs[k]!:=by
 unfold Go.Proofs.findA;cases e:p.arcs.find? fun a=>decide (a.id=p.arcs[k]!.id) with
 | none=>exact absurd (List.find?_eq_none.1 e _ (ak hk)) (by simp)
 | some a=>
  obtain⟨i,hi,e1⟩:=aw (List.mem_of_find?_eq_some e);have h2:=List.find?_some e;simp only[decide_eq_true_eq]at h2;rw[←e1]at h2;rw[←hP.ids hi hk h2,e1]
theorem aL.ends{k:Nat}(hk:k<p.arcs.length):isN p p.arcs[k]!.frm∧isN p p.arcs[k]!.dst:=by
 have h:=hP.cn.2.1 k hk;unfold okE at h;rw[Bool.and_eq_true,List.contains_iff_mem,List.contains_iff_mem]at h;obtain⟨n,hn,e⟩:=List.mem_map.1 h.1;obtain⟨m,hm,e2⟩:=List.mem_map.1 h.2;exact⟨⟨n.2,by rw[←e];exact hn⟩,⟨m.2,by rw[←e2];exact hm⟩⟩
theorem aL.path{k:Nat}(hk:k<p.arcs.length):pathS p p.arcs[k]!.id=some (Go.Proofs.gP p p.arcs[k]!.frm::(p.arcs[k]!.via++[Go.Proofs.gP p p.arcs[k]!.dst])):=by
 unfold pathS;rw[hP.findA hk];dsimp only;rw[hP.find (hP.ends hk).1,hP.find (hP.ends hk).2];rfl
theorem aL.pth{k:Nat}(hk:k<p.arcs.length):pth p k=Go.Proofs.gP p p.arcs[k]!.frm::(p.arcs[k]!.via++[Go.Proofs.gP p p.arcs[k]!.dst]):=by
 unfold Go.Proofs.pth;rw[hP.path hk];rfl
theorem aL.plen{k:Nat}(hk:k<p.arcs.length):(Go.Proofs.pth p k).length=p.arcs[k]!.via.length+2:=by rw[hP.pth hk];simp
theorem aL.p0{k:Nat}(hk:k<p.arcs.length):(Go.Proofs.pth p k)[0]! = Go.Proofs.gP p p.arcs[k]!.frm:=by rw[hP.pth hk];rfl
theorem aL.pn{k:Nat}(hk:k<p.arcs.length):(Go.Proofs.pth p k)[(Go.Proofs.pth p k).length-1]! = Go.Proofs.gP p p.arcs[k]!.dst:=by
 have h:=hP.plen hk;rw[getElem!_pos _ _ (by omega)];have e:=hP.pth hk;simp only[e];simp
theorem aL.nv{id:Int}(h:isN p id):Vp (Go.Proofs.gP p id):=by
 obtain⟨q,h⟩:=h;rw[hP.gP h];obtain⟨i,hi,e⟩:=aw h;have:=dT (hP.pl.1 i hi)
 rwa [e]at this
theorem aL.pv{k:Nat}(hk:k<p.arcs.length){q:Pt}(h:q∈Go.Proofs.pth p k):Vp q:=by
 rw[hP.pth hk]at h
 rcases List.mem_cons.1 h with rfl|h
 ·exact hP.nv (hP.ends hk).1
 rcases List.mem_append.1 h with h|h
 ·obtain⟨i,hi,e⟩:=aw h
  have:=dT (hP.pl.2 k hk i hi)
  rwa [e]at this
 ·rw[List.mem_singleton.1 h]
  exact hP.nv (hP.ends hk).2
theorem aL.idw{id:Int}(h:isN p id):(Lit.int .i64 id).wf=true:=by
 obtain⟨q,h⟩:=h;obtain⟨i,hi,e⟩:=aw h;have:=hP.bn i (by simpa using hi);rw[aN _ hi,e]at this;unfold badN at this;simp only[Bool.or_eq_false_iff,decide_eq_false_iff_not]at this
 show(decide (IntKind.min .i64≤id)&&decide (id≤IntKind.max .i64))=true
 rw[decide_eq_true,decide_eq_true]
 ·rfl
 ·show id≤9223372036854775807
  omega
 ·show -9223372036854775808≤id
  omega
theorem aL.ok:gk p where
 nr k hk:=iA (dT (hP.pl.1 k hk))
 pr k hk j hj:=iA (hP.pv hk (ak hj))
 wn k hk:=hP.idw ⟨_,ak hk⟩
 wa k hk:=⟨hP.idw (hP.ends hk).1,hP.idw (hP.ends hk).2⟩
 ids i j hi hj e:=hP.ids hi hj e
end
end Go.Proofs
namespace Go.Proofs
open Go.RowKit Go.Proofs.Mp Go.Lib
abbrev pf(p:Pn)(k:Nat):Nat→Pt:=fun i=>(pth p k)[i]!
abbrev pl(p:Pn)(k:Nat):Nat:=(pth p k).length
abbrev lp(p:Pn)(k:Nat):Prop:=p.arcs[k]!.frm=p.arcs[k]!.dst
structure i9(p:Pn):Prop where
 arc:∀k,k<p.arcs.length→dH (lp p k) (pf p k) (pl p k)
 pair:∀k q,k<p.arcs.length→q<p.arcs.length→k≠q→gm (gP p) (pf p k) (pl p k) p.arcs[k]!.frm p.arcs[k]!.dst (pf p q) (pl p q) p.arcs[q]!.frm p.arcs[q]!.dst
 node:∀k,k<p.arcs.length→fq (gP p) (isN p) (pf p k) (pl p k) p.arcs[k]!.frm p.arcs[k]!.dst
 ends:∀k,k<p.arcs.length→kW (gP p) (isN p) (pf p k) (pl p k) p.arcs[k]!.frm p.arcs[k]!.dst
theorem jk{p:Pn}{k i j:Nat}(h:i<j):nxS p (k,i) (k,j)=true↔Adj (lp p k) (pl p k) i j:=by
 unfold nxS nextB Adj;dsimp only;rw[Nat.min_eq_left (Nat.le_of_lt h),Nat.max_eq_right (Nat.le_of_lt h)];simp only[Bool.or_eq_true,Bool.and_eq_true,decide_eq_true_eq,beq_iff_eq];exact⟨fun h=>h.imp id fun ⟨⟨a,b⟩,c⟩=>⟨a,b,c⟩,fun h=>h.imp id fun ⟨a,b,c⟩=>⟨⟨a,b⟩,c⟩⟩
theorem mG{p:Pn}(hP:aL p){k:Nat}(hk:k<p.arcs.length):(∀j,j+1<pl p k→lq p (k,j))↔fq (gP p) (isN p) (pf p k) (pl p k) p.arcs[k]!.frm p.arcs[k]!.dst:=by
 have key:∀j n,badNode p (k,j) n=false↔(onB (pf p k j) (pf p k (j+1)) n.2=true→(j=0∧p.arcs[k]!.frm=n.1)∨(j+2=pl p k∧p.arcs[k]!.dst=n.1)):=by
  intro j n;unfold badNode;dsimp only;cases onB (pth p k)[j]! (pth p k)[j+1]! n.2 with
  | false=>simp
  | true=>
   have e1:(decide (j=0)&&p.arcs[k]!.frm==n.1)=true↔(j=0∧p.arcs[k]!.frm=n.1):=by rw[Bool.and_eq_true,decide_eq_true_eq,beq_iff_eq]
   have e2:(decide (j+2=(pth p k).length)&&p.arcs[k]!.dst==n.1)=true↔(j+2=(pth p k).length∧p.arcs[k]!.dst=n.1):=by rw[Bool.and_eq_true,decide_eq_true_eq,beq_iff_eq]
   show _↔(true=true→(j=0∧p.arcs[k]!.frm=n.1)∨(j+2=(pth p k).length∧p.arcs[k]!.dst=n.1))
   rw[←e1,←e2];generalize (decide (j=0)&&p.arcs[k]!.frm==n.1)=x;generalize (decide (j+2=(pth p k).length)&&p.arcs[k]!.dst==n.1)=y
   revert x y
   decide
 constructor
 ·rintro h id j ⟨q,hq⟩ hj hon
  obtain⟨i,hi,e⟩:=aw hq;have:=(key j _).1 (h j hj i hi);rw[e]at this;rw[hP.gP hq]at hon;exact this hon
 ·intro h j hj i hi
  refine(key j _).2 fun hon=>h _ j ⟨p.nodes[i]!.2,ak hi⟩ hj ?_
  have e:gP p p.nodes[i]!.1=p.nodes[i]!.2:=hP.gP (ak hi);rw[e];exact hon
theorem iH{p:Pn}(hP:aL p):(eB p∧sM p)↔i9 p:=by
 constructor
 ·rintro⟨hS,hA,hN⟩
  have ends:∀k,k<p.arcs.length→kW (gP p) (isN p) (pf p k) (pl p k) p.arcs[k]!.frm p.arcs[k]!.dst:=fun k hk=>⟨hP.p0 hk,hP.pn hk,(hP.ends hk).1,(hP.ends hk).2⟩
  refine⟨fun k hk=>?_,fun k q hk hq hne i j hi hj=>?_,fun k hk=>(mG hP hk).1 fun j hj=>hN (k,j) (eX hk hj),ends⟩
  ·have hl:=hP.plen hk
   refine⟨by show 2≤(pth p k).length;omega,fun i hi=>hP.ok.pr k hk i hi,fun hloop=>⟨?_,?_⟩,fun i hi=>(hS k hk).2.2 i hi,fun i j hij hj ha=>?_,fun i j hij hj ha=>?_⟩
   ·have:=(hS k hk).2.1
    by_cases h4:4≤(pth p k).length
    ·exact h4
    ·exact absurd ⟨hloop,by omega⟩ this
   ·rw[(ends k hk).b,(ends k hk).a,hloop]
   ·have:=hA (k,i) (k,j) (eX hk (show i+1<pl p k by omega)) (eX hk hj) (fun e=>by injection e;omega)
    unfold cw at this;rw[if_pos rfl,if_pos ((jk hij).2 ha)]at this;exact this
   ·have:=hA (k,i) (k,j) (eX hk (show i+1<pl p k by omega)) (eX hk hj) (fun e=>by injection e;omega)
    unfold cw at this;rw[if_pos rfl,if_neg (fun h=>ha ((jk hij).1 h))]at this;exact this
  ·have:=hA (k,i) (q,j) (eX hk hi) (eX hq hj) (fun e=>hne (by injection e))
   unfold cw at this;rw[if_neg hne]at this;exact this
 ·intro h
  refine⟨fun k hk=>⟨⟨_,hP.path hk⟩,fun ⟨hl,h4⟩=>by have:=((h.arc k hk).four hl).1;exact absurd this (by show ¬4≤(pth p k).length;omega),(h.arc k hk).ne⟩,fun s t hs ht hne=>?_,fun s hs=>?_⟩
  ·obtain⟨k,i⟩:=s
   obtain⟨q,j⟩:=t;obtain⟨hk,hi⟩:=bE hs;obtain⟨hq,hj⟩:=bE ht;dsimp only at hk hi hq hj
   by_cases e:k=q
   ·subst e
    have nn:∀i j,i+1<pl p k→j+1<pl p k→i<j→cw p (k,i) (k,j):=fun i j hi hj hij=>by
     unfold cw;rw[if_pos rfl]
     by_cases ha:Adj (lp p k) (pl p k) i j
     ·rw[if_pos ((jk hij).2 ha)]
      exact(h.arc k hk).adj i j hij hj ha
     ·rw[if_neg (fun h=>ha ((jk hij).1 h))]
      exact(h.arc k hk).far i j hij hj ha
    have sn:∀i,i+1<pl p k→kS p (k,i):=fun i hi=>⟨hk,hi,hP.ok.pr k hk i (Nat.lt_of_succ_lt hi),hP.ok.pr k hk (i+1) hi,(h.arc k hk).ne i hi⟩
    rcases Nat.lt_trichotomy i j with z|z|z
    ·exact nn i j hi hj z
    ·subst z;exact absurd rfl hne
    ·exact gV (sn j hj) (sn i hi) (nn j i hj hi z)
   ·unfold cw
    rw[if_neg e];exact h.pair k q hk hq e i j hi hj
  ·obtain⟨k,i⟩:=s
   obtain⟨hk,hi⟩:=bE hs;exact(mG hP hk).2 (h.node k hk) i hi
theorem ji{p:Pn}(hP:aL p){P:Prop}(h:kU p P):P↔i9 p:=by
 rw[←iH hP]
 rcases h with⟨h1,h2⟩|⟨h1,L,h2,h3,h4⟩
 ·exact⟨fun h=>absurd h h2,fun h=>absurd h.1 h1⟩
 ·rw[h4,pm hP.ok h1 (fun k hk e=>by rw[hP.pn hk,hP.p0 hk,e]) h2]
  exact⟨fun h=>⟨h1,h⟩,fun h=>h.2⟩
end Go.Proofs
namespace Go.Proofs
open Go.RowKit Go.Proofs.Mp Go.Lib
structure CheckP(p:Pn):Prop where
 l1:p.nodes.length≤256
 l2:p.arcs.length≤256
 l3:p.faces.length≤64
 lv:∀i,i<p.arcs.length→p.arcs[i]!.via.length≤64
 pre:aL p
 af:AscP p.faces
 ba:bg badN (p.arcs.map Ar.id)
 bf:bg badN p.faces
 plane:i9 p
theorem eZ(p:Pn)(m:Mem)(w:World)(hR:PlR w p m):Calls Tryz.prog 25 #[plV p m] w (aV w (CheckP p)):=by
 have HA:=hid fun (k:Nat) (hk:k<p.arcs.length) W hb=>hR.arc (W:=W) hb hk
 have hfn:=hR.few.n;have hfa:=hR.few.a;have hff:=hR.few.f;have cI:=hid fun W (hb:Below w.heap.size w W)=>fV p m W (hR.below hb)
 have cPl:=hid fun W (hb:Below w.heap.size w W)=>jT p m W (hR.below hb)
 have cCo:=hid fun W (hb:Below w.heap.size w W) ids AI cI hI hm=>gU p m ids AI cI W (hR.below hb) hI hm
 have cPn:=hid fun W (hb:Below w.heap.size w W) hO=>jS p m W (hR.below hb) hO
 have cAf:=hid fun W (hb:Below w.heap.size w W)=>bZ m.af m.cf p.faces W (by omega) (hR.fc.below hb)
 have cNf:=hid fun W (hb:Below w.heap.size w W)=>di m.af m.cf p.faces W (by omega) (hR.fc.below hb)
 have HY:=hid (show p.nodes.length≤256→p.arcs.length≤256→p.faces.length≤64→(∀i,i<p.arcs.length→p.arcs[i]!.via.length≤64)→aL p→AscP p.faces→bg badN (p.arcs.map Ar.id)→bg badN p.faces→i9 p→CheckP p from fun a b c d e f g h i=>⟨a,b,c,d,e,f,g,h,i⟩);have HN:=hid (show CheckP p→CheckP p from id);obtain⟨lA,hlA⟩:∃z,p.arcs.length=z:=⟨_,rfl⟩;obtain⟨lN,hlN⟩:∃z,p.nodes.length=z:=⟨_,rfl⟩;obtain⟨lF,hlF⟩:∃z,p.faces.length=z:=⟨_,rfl⟩;have N1:=hid (show CheckP p→lN≤256 from fun h=>hlN▸h.l1);have N2:=hid (show CheckP p→lA≤256 from fun h=>hlA▸h.l2);have N3:=hid (show CheckP p→lF≤64 from fun h=>hlF▸h.l3);have NV:=hid (show CheckP p→∀i,i<lA→p.arcs[i]!.via.length≤64 from fun h=>hlA▸h.lv);have M1:=hid (show CheckP p→AscP (p.nodes.map Prod.fst)from fun h=>h.pre.an);have M2:=hid (show CheckP p→AscP (p.arcs.map Ar.id)from fun h=>h.pre.aa);have M3:=hid (show CheckP p→AscP p.faces from fun h=>h.af);have M4:=hid (show CheckP p→bg badN (p.nodes.map Prod.fst)from fun h=>h.pre.bn);have M5:=hid (show CheckP p→bg badN (p.arcs.map Ar.id)from fun h=>h.ba);have M6:=hid (show CheckP p→bg badN p.faces from fun h=>h.bf);have M7:=hid (show CheckP p→PlacedP p from fun h=>h.pre.pl);have M8:=hid (show CheckP p→ConnP p (p.nodes.map Prod.fst)from fun h=>h.pre.cn);have M9:=hid (show CheckP p→i9 p from fun h=>h.plane);have PR:=hid (show AscP (p.nodes.map Prod.fst)→AscP (p.arcs.map Ar.id)→bg badN (p.nodes.map Prod.fst)→PlacedP p→ConnP p (p.nodes.map Prod.fst)→aL p from fun a b c d e=>⟨a,b,c,d,e⟩);have PL:=hid (show ∀hP:aL p,∀{P:Prop},kU p P→(P↔i9 p)from fun hP P h=>ji hP h);have POK:=hid (show aL p→gk p from fun h=>h.ok);have hlnm:(p.nodes.map Prod.fst).length=lN:=by rw[List.length_map,hlN]
 have hlam:(p.arcs.map Ar.id).length=lA:=by rw[List.length_map,hlA]
 rw[hlN,hlA,hlF]at HY;rw[hlA]at HA hfa;rw[hlN]at hfn;rw[hlF]at hff cAf cNf;generalize CheckP p=CP at *;unfold plV at *;rw[hlN,hlA,hlF]at cI cPl cCo cPn ⊢;have hn:=Bx.new (t:=26) (cs:=[.slice m.an lN m.cn,.slice m.aa lA m.ca,.slice m.af lF m.cf]) w rfl;have hb0:=bw1 w (.cells #[.slice m.an lN m.cn,.slice m.aa lA m.ca,.slice m.af lF m.cf] 26);clear hR HN hlN hlA hlF;obtain⟨an,aa,af,cn,ca,cf,vs⟩:=m;dsimp only at *;go_enter Tryz.func25,Tryz.ntmps25;go_upto_region 1 with fail;generalize w.alloc (.cells #[.slice an lN cn,.slice aa lA ca,.slice af lF cf] 26)=w1 at *;have k0:=hn.cell 0;have k1:=hn.cell 1;have k2:=hn.cell 2;simp only[gz,gs]at k0 k1 k2;have HB0:=hid hb0
 by_cases h1:(256:Int)<(lN:Int)
 ·have HP:=hid (show ¬CP from fun h=>by have:=N1.out h;omega)
  go_wp2_with fail;go_ret;exact aV.no (by decide) HP.out HB0.out
 by_cases h2:(256:Int)<(lA:Int)
 ·have HP:=hid (show ¬CP from fun h=>by have:=N2.out h;omega)
  go_wp2_with fail;go_ret;exact aV.no (by decide) HP.out HB0.out
 by_cases h3:(64:Int)<(lF:Int)
 ·have HP:=hid (show ¬CP from fun h=>by have:=N3.out h;omega)
  go_wp2_with fail;go_ret;exact aV.no (by decide) HP.out HB0.out
 have HY1:=hid (HY.out (by omega) (by omega) (by omega));clear N1 N2 N3 HY;go_wp2_with fail;go_loopw [26] (fun i wr=>∃k:Nat,k≤lA∧i=.int .i64 k∧Hid (∀i,i<k→p.arcs[i]!.via.length≤64)∧Below w1.heap.size w1 wr) (fun i _=>lA-(intOf i).toNat)
 case atStart=>exact⟨0,by omega,rfl,hid (fun i hi=>absurd hi (Nat.not_lt_zero _)),Below.refl _ _⟩
 case round=>
  obtain⟨k,hk,rfl,HD,hbr⟩:=hrel;have HBR:=hid hbr;have hsz:=hbr.size;have HBW:=hid (hb0.trans (hbr.mono hb0.size))
  by_cases hlt:k<lA
  ·have hli:(k:Int)<(lA:Int):=by omega
   obtain⟨b,off,A,c,rfl,hbl,c0,c1,c2,c3,c4,c5,_,_,_⟩:=HA.out k hlt wr HBW.out
   have HE:Hid (p.arcs[k]!.via.length≤64→∀i,i<k+1→p.arcs[i]!.via.length≤64):=hid fun h i hi=>by
    by_cases e:i=k
    ·subst e;exact h
    ·exact HD.out i (by omega)
   have HV:=hid (show CP→p.arcs[k]!.via.length≤64 from fun h=>NV.out h k hlt);generalize p.arcs[k]!.via.length=lv at *;generalize p.arcs[k]!.id=a0 at *;generalize p.arcs[k]!.frm=a1 at *;generalize p.arcs[k]!.dst=a2 at *;generalize p.arcs[k]!.lf=a4 at *;generalize p.arcs[k]!.rt=a5 at *;have hxa:=Bx.new (t:=58) (cs:=[.int .i64 a0,.int .i64 a1,.int .i64 a2,.slice A lv c,.int .i64 a4,.int .i64 a5]) wr rfl;have hba:=hbr.trans ((bw1 wr (.cells #[a0,a1,a2,.slice A lv c,a4,a5] 58)).mono hsz);clear hbr;go_upto_region 6 with fail;generalize wr.alloc (.cells #[a0,a1,a2,.slice A lv c,a4,a5] 58)=wa at *;generalize wr.heap.size=nb at *;have x3:=hxa.cell 3;simp only[gz,gs]at x3;have HBA:=hid hba;have HBAW:=hid (hb0.trans (hba.mono hb0.size))
   by_cases hv:(64:Int)<(lv:Int)
   ·have HP:=hid (show ¬CP from fun h=>by have:=HV.out h;omega)
    clear hba;go_wp2_with fail;go_ret;exact aV.no (by decide) HP.out HBAW.out
   ·have HQ:=hid (HE.out (by omega))
    clear hba;go_wp2_with fail;go_roundw
    case rel=>exact⟨k+1,by omega,by go_num,HQ,HBA.out⟩
    case measure=>simp[intOf];omega
  ·obtain rfl:lA=k:=by omega
   have hge:¬((lA:Int)<(lA:Int)):=by omega
   have HY2:=hid (HY1.out HD.out);have hn2:=hn.below hbr;generalize hwx:wr=w2 at *;clear HY1 HD HA NV k0 k1 k2 hn hbr hwx HBR hsz;have k0:=hn2.cell 0;have k1:=hn2.cell 1;have k2:=hn2.cell 2;simp only[gz,gs]at k0 k1 k2;go_wp2_with fail;refine(cI.out _ HBW.out).mono ?_;rintro e w3 ⟨v1,v2,rfl,ho1,ho2,hb3⟩;obtain⟨A1,c1,rfl⟩:=Own.slice ho1;obtain⟨A2,c2,rfl⟩:=Own.slice ho2;have hd1:=Own.rd encI_len ho1;have hd2:=Own.rd encI_len ho2;have HB3:=hid (HBW.out.trans (hb3.mono HBW.out.size));have hn3:=hn2.below hb3;have cA1:=hid fun W (hb:Below w3.heap.size w3 W)=>(show Calls Tryz.prog 58 #[.slice A1 lN c1] W _ from hlnm▸bZ A1 c1 (p.nodes.map Prod.fst) W (by omega) (hd1.below hb))
   have cA2:=hid fun W (hb:Below w3.heap.size w3 W)=>(show Calls Tryz.prog 58 #[.slice A2 lA c2] W _ from hlam▸bZ A2 c2 (p.arcs.map Ar.id) W (by omega) (hd2.below hb))
   have cN1:=hid fun W (hb:Below w3.heap.size w3 W)=>(show Calls Tryz.prog 59 #[.slice A1 lN c1] W _ from hlnm▸di A1 c1 (p.nodes.map Prod.fst) W (by omega) (hd1.below hb))
   have cN2:=hid fun W (hb:Below w3.heap.size w3 W)=>(show Calls Tryz.prog 59 #[.slice A2 lA c2] W _ from hlam▸di A2 c2 (p.arcs.map Ar.id) W (by omega) (hd2.below hb))
   have cC2:=hid fun W (hb:Below w3.heap.size w3 W)=>(show Calls Tryz.prog 61 #[_,.slice A1 lN c1] W _ from hlnm▸cCo.out W (HB3.out.trans (hb.mono HB3.out.size)) (p.nodes.map Prod.fst) A1 c1 (hd1.below hb) (by omega))
   rw[hlnm,hlam];clear ho1 ho2 hd1 hd2 hb3 hn2 cI cCo k0 k1 k2;have HX3:=hid (Below.refl w3.heap.size w3);have k0:=hn3.cell 0;have k1:=hn3.cell 1;have k2:=hn3.cell 2;simp only[gz,gs]at k0 k1 k2;go_wp2_with fail;refine(cA1.out _ HX3.out).mono ?_;rintro e w4 ⟨b,rfl,hb,hbel⟩;have HB4:=hid (HB3.out.trans (hbel.mono HB3.out.size));have HX4:=hid (HX3.out.trans (hbel.mono HX3.out.size));have hn4:=hn3.below hbel;clear hbel hn3;cases b
   ·have HP:=hid (show ¬CP from fun h=>by have:=hb.2 (M1.out h);cases this)
    go_wp2_with fail;go_ret;exact aV.no (by decide) HP.out HB4.out
   have X1:=hid (hb.1 (by trivial));clear hb
   try clear k0
   try clear k1
   try clear k2
   have k0:=hn4.cell 0;have k1:=hn4.cell 1;have k2:=hn4.cell 2;simp only[gz,gs]at k0 k1 k2;go_wp2_with fail;refine(cA2.out _ HX4.out).mono ?_;rintro e w5 ⟨b,rfl,hb,hbel⟩;have HB5:=hid (HB4.out.trans (hbel.mono HB4.out.size));have HX5:=hid (HX4.out.trans (hbel.mono HX4.out.size));have hn5:=hn4.below hbel;clear hbel hn4;cases b
   ·have HP:=hid (show ¬CP from fun h=>by have:=hb.2 (M2.out h);cases this)
    go_wp2_with fail;go_ret;exact aV.no (by decide) HP.out HB5.out
   have X2:=hid (hb.1 (by trivial));clear hb
   try clear k0
   try clear k1
   try clear k2
   have k0:=hn5.cell 0;have k1:=hn5.cell 1;have k2:=hn5.cell 2;simp only[gz,gs]at k0 k1 k2;go_wp2_with fail;refine(cAf.out _ HB5.out).mono ?_;rintro e w6 ⟨b,rfl,hb,hbel⟩;have HB6:=hid (HB5.out.trans (hbel.mono HB5.out.size));have HX6:=hid (HX5.out.trans (hbel.mono HX5.out.size));have hn6:=hn5.below hbel;clear hbel hn5;cases b
   ·have HP:=hid (show ¬CP from fun h=>by have:=hb.2 (M3.out h);cases this)
    go_wp2_with fail;go_ret;exact aV.no (by decide) HP.out HB6.out
   have X3:=hid (hb.1 (by trivial));clear hb
   try clear k0
   try clear k1
   try clear k2
   have k0:=hn6.cell 0;have k1:=hn6.cell 1;have k2:=hn6.cell 2;simp only[gz,gs]at k0 k1 k2;go_wp2_with fail;refine(cN1.out _ HX6.out).mono ?_;rintro e w7 ⟨b,rfl,hb,hbel⟩;have HB7:=hid (HB6.out.trans (hbel.mono HB6.out.size));have HX7:=hid (HX6.out.trans (hbel.mono HX6.out.size));have hn7:=hn6.below hbel;clear hbel hn6;cases b
   ·have HP:=hid (show ¬CP from fun h=>by have:=hb.2 (M4.out h);cases this)
    go_wp2_with fail;go_ret;exact aV.no (by decide) HP.out HB7.out
   have X4:=hid (hb.1 (by trivial));clear hb
   try clear k0
   try clear k1
   try clear k2
   have k0:=hn7.cell 0;have k1:=hn7.cell 1;have k2:=hn7.cell 2;simp only[gz,gs]at k0 k1 k2;go_wp2_with fail;refine(cN2.out _ HX7.out).mono ?_;rintro e w8 ⟨b,rfl,hb,hbel⟩;have HB8:=hid (HB7.out.trans (hbel.mono HB7.out.size));have HX8:=hid (HX7.out.trans (hbel.mono HX7.out.size));have hn8:=hn7.below hbel;clear hbel hn7;cases b
   ·have HP:=hid (show ¬CP from fun h=>by have:=hb.2 (M5.out h);cases this)
    go_wp2_with fail;go_ret;exact aV.no (by decide) HP.out HB8.out
   have X5:=hid (hb.1 (by trivial));clear hb
   try clear k0
   try clear k1
   try clear k2
   have k0:=hn8.cell 0;have k1:=hn8.cell 1;have k2:=hn8.cell 2;simp only[gz,gs]at k0 k1 k2;go_wp2_with fail;refine(cNf.out _ HB8.out).mono ?_;rintro e w9 ⟨b,rfl,hb,hbel⟩;have HB9:=hid (HB8.out.trans (hbel.mono HB8.out.size));have HX9:=hid (HX8.out.trans (hbel.mono HX8.out.size));have hn9:=hn8.below hbel;clear hbel hn8;cases b
   ·have HP:=hid (show ¬CP from fun h=>by have:=hb.2 (M6.out h);cases this)
    go_wp2_with fail;go_ret;exact aV.no (by decide) HP.out HB9.out
   have X6:=hid (hb.1 (by trivial));clear hb
   try clear k0
   try clear k1
   try clear k2
   have k0:=hn9.cell 0;have k1:=hn9.cell 1;have k2:=hn9.cell 2;simp only[gz,gs]at k0 k1 k2;go_wp2_with fail;refine(cPl.out _ HB9.out).mono ?_;rintro e w10 ⟨b,rfl,hb,hbel⟩;have HB10:=hid (HB9.out.trans (hbel.mono HB9.out.size));have HX10:=hid (HX9.out.trans (hbel.mono HX9.out.size));have hn10:=hn9.below hbel;clear hbel hn9;cases b
   ·have HP:=hid (show ¬CP from fun h=>by have:=hb.2 (M7.out h);cases this)
    go_wp2_with fail;go_ret;exact aV.no (by decide) HP.out HB10.out
   have X7:=hid (hb.1 (by trivial));clear hb
   try clear k0
   try clear k1
   try clear k2
   have k0:=hn10.cell 0;have k1:=hn10.cell 1;have k2:=hn10.cell 2;simp only[gz,gs]at k0 k1 k2;go_wp2_with fail;refine(cC2.out _ HX10.out).mono ?_;rintro e w11 ⟨en,rfl,hen,hbel⟩;have HB11:=hid (HB10.out.trans (hbel.mono HB10.out.size));have hn11:=hn10.below hbel;clear hbel hn10 k0 k1 k2;have k0:=hn11.cell 0;have k1:=hn11.cell 1;have k2:=hn11.cell 2;simp only[gz,gs]at k0 k1 k2
   by_cases he:en=0
   rotate_left
   ·have HP:=hid (show ¬CP from fun h=>he (hen.2 (M8.out h)))
    have heb:(en != 0)=true:=by simp[he]
    go_wp2_with fail;go_ret;exact aV.no he HP.out HB11.out
   subst he;have X8:=hid (hen.1 rfl);have HPR:=hid (PR.out X1.out X2.out X4.out X7.out X8.out);go_wp2_with fail;refine(cPn.out _ HB11.out (POK.out HPR.out)).mono ?_;rintro e w12 ⟨P,hPP,b,rfl,hb,hbel⟩;have HB12:=hid (HB11.out.trans (hbel.mono HB11.out.size));have HPL:=hid (hb.trans (PL.out HPR.out hPP));clear hbel hb;cases b
   ·have HP:=hid (show ¬CP from fun h=>by have:=HPL.out.2 (M9.out h);cases this)
    go_wp2_with fail;go_ret;exact aV.no (by decide) HP.out HB12.out
   have HP:=hid (HY2.out HPR.out X3.out X5.out X6.out (HPL.out.1 (by trivial)));go_wp2_with fail;go_ret;exact aV.yes HP.out HB12.out
end Go.Proofs
namespace Go.Proofs
open Go.RowKit Go.Proofs.Mp Go.Lib
def arC(a:Ar)(v:Value):List Value:=[.int .i64 a.id,.int .i64 a.frm,.int .i64 a.dst,v,.int .i64 a.lf,.int .i64 a.rt]
def parB(a b:Ar):Bool:=(b.id != a.id)&&(b.via.length==0)&&((b.frm==a.frm)&&(b.dst==a.dst)||(b.frm==a.dst)&&(b.dst==a.frm))
theorem qK(a b:Ar)(v:Value)(A:Option Addr)(c:Nat)(na:Nat)(w:World)(h:Bx w na 58 (arC a v))(hm:b.via.length≤1000000) :
  Calls Tryz.prog 191 #[.agg #[b.id,b.frm,b.dst,.slice A b.via.length c,b.lf,b.rt],.pointer (some ⟨na,0,none⟩)] w (RetV w (.bool (parB a b))):=by
 have hl:(b.via.length==0)=((b.via.length:Int)==0):=by
  cases h:b.via.length with
  | zero=>rfl
  | succ n=>simp;omega
 have HR:=hid (show parB a b=((b.id != a.id)&&((b.via.length:Int)==0)&&((b.frm==a.frm)&&(b.dst==a.dst)||(b.frm==a.dst)&&(b.dst==a.frm)))from by unfold parB;rw[hl]);generalize parB a b=R at *;obtain⟨ai,af,ad,av,al,ar⟩:=a;obtain⟨bi,bf,bd,bv,bl,br⟩:=b;unfold arC at h;dsimp only at *;clear hl;generalize bv.length=m at *;have hw:=bw1 w (.cells #[bi,bf,bd,.slice A m c,bl,br] 58);have hB:=Bx.new (t:=58) (cs:=[.int .i64 bi,.int .i64 bf,.int .i64 bd,.slice A m c,.int .i64 bl,.int .i64 br]) w rfl;have hA:=h.below hw;go_enter Tryz.func191,Tryz.ntmps191;go_upto_region 1 with fail;generalize w.alloc (.cells #[bi,bf,bd,.slice A m c,bl,br] 58)=w1 at *;obtain⟨a0,a1,a2,_,_,_⟩:=hA.c6;obtain⟨b0,b1,b2,b3,_,_⟩:=hB.c6;have HW:=hid hw;clear h hA hB hw;obtain⟨x1,h1⟩:∃x,(bf==af)=x:=⟨_,rfl⟩;obtain⟨x2,h2⟩:∃x,(bd==ad)=x:=⟨_,rfl⟩;obtain⟨x3,h3⟩:∃x,(bf==ad)=x:=⟨_,rfl⟩;obtain⟨x4,h4⟩:∃x,(bd==af)=x:=⟨_,rfl⟩;obtain⟨x5,h5⟩:∃x,(bi != ai)=x:=⟨_,rfl⟩;obtain⟨x6,h6⟩:∃x,((m:Int)==0)=x:=⟨_,rfl⟩;rw[h1,h2,h3,h4,h5,h6]at HR;obtain⟨y,hy⟩:∃y,(x1&&x2||x3&&x4)=y:=⟨_,rfl⟩;have HY:=hid hy;rw[hy]at HR;clear hy;go_cut [4] from 5 to 30 (fun v4 wx=>v4=.bool y∧wx=w1)
 case first=>
  cases x1<;>cases x2<;>cases x3<;>cases x4
  all_goals
   obtain rfl:=HY.out;clear HY;go_wp2_with fail;go_meet;exact⟨rfl,rfl⟩
 case rest=>
  obtain⟨rfl,rfl⟩:=hcut;clear h1 h2 h3 h4;cases x5<;>cases x6<;>cases y
  all_goals
   have HR2:=hid HR.out;clear HR;go_wp2_with fail;go_ret;exact⟨by rw[HR2.out];rfl,HW.out⟩
end Go.Proofs
namespace Go.Proofs
open Go.RowKit Go.Proofs.Mp Go.Lib
theorem qM(b:Ar)(id:Int)(A:Option Addr)(c na:Nat)(w:World)(h:Bx w na 3 [id]) :
  Calls Tryz.prog 55 #[.agg #[b.id,b.frm,b.dst,.slice A b.via.length c,b.lf,b.rt],.pointer (some ⟨na,0,none⟩)] w (RetV w (.bool (b.id==id))):=by
 obtain⟨bi,bf,bd,bv,bl,br⟩:=b;dsimp only;generalize bv.length=m at *;have hw:=bw1 w (.cells #[bi,bf,bd,.slice A m c,bl,br] 58);have hB:=Bx.new (t:=58) (cs:=[.int .i64 bi,.int .i64 bf,.int .i64 bd,.slice A m c,.int .i64 bl,.int .i64 br]) w rfl;have k0:=(h.below hw).c1;go_enter Tryz.func55,Tryz.ntmps55;go_upto_region 1 with fail;generalize w.alloc (.cells #[bi,bf,bd,.slice A m c,bl,br] 58)=w1 at *;obtain⟨b0,_⟩:=hB.c6;have HW:=hid hw;clear h hB hw;go_wp2_with fail;go_ret;exact⟨rfl,HW.out⟩
def sH(w:World)(f:Ar→Bool)(l:List Ar)(e:Ending)(w':World):Prop:=∃r:Int,e=.returned (.int .i64 r)∧Below w.heap.size w w'∧((r=-1∧∀j,j<l.length→f l[j]! = false)∨∃k:Nat,k<l.length∧r=k∧f l[k]! = true)
theorem tb(p:Pn)(m:Mem)(a:Ar)(v:Value)(na:Nat)(w:World)(hR:PlR w p m)(h:Bx w na 58 (arC a v)):Calls Tryz.prog 54 #[.slice m.aa p.arcs.length m.ca,.func (.func 191) #[] #[.pointer (some ⟨na,0,none⟩)]] w (sH w (parB a) p.arcs):=by
 have HA:=hid fun (k:Nat) (hk:k<p.arcs.length) W hb=>hR.arc (W:=W) hb hk
 have hal:=hR.few.a;have HV:=hid hR.few.v;have cC:=hid fun (b:Ar) A c W (hb:Below w.heap.size w W) (hv:b.via.length≤100000)=>qK a b v A c na W (h.below hb) (by omega)
 obtain⟨f,hf⟩:∃f,f=(parB a):=⟨_,rfl⟩;have hf2:∀b,(parB a) b=f b:=fun b=>by rw[hf]
 simp only[hf2]at cC;rw[←hf];clear hR h hf hf2;obtain⟨an,aa,af,cn,ca,cf,vs⟩:=m;dsimp only at *;go_enter Tryz.func54,Tryz.ntmps54;go_wp2_with fail;go_loopw [5,8] (fun _ i wr=>∃k:Nat,k≤p.arcs.length∧i=.int .i64 k∧Hid (∀j,j<k→f p.arcs[j]! = false)∧Below w.heap.size w wr) (fun _ i _=>p.arcs.length-(intOf i).toNat)
 case atStart=>exact⟨0,by omega,rfl,hid (fun j hj=>absurd hj (Nat.not_lt_zero _)),Below.refl _ _⟩
 case round=>
  obtain⟨k,hk,rfl,HN,hbr⟩:=hrel;have HB:=hid hbr
  by_cases hlt:k<p.arcs.length
  ·have hli:(k:Int)<(p.arcs.length:Int):=by omega
   obtain⟨b,off,A,c,rfl,hbl,a0,a1,a2,a3,a4,a5,_,_,_⟩:=HA.out k hlt wr hbr;have hC:=hid (cC.out p.arcs[k]! A c wr hbr (HV.out k hlt))
   have HE:=hid (show f p.arcs[k]! = false→∀j,j<k+1→f p.arcs[j]! = false from fun h j hj=>by
    by_cases e:j=k
    ·subst e;exact h
    ·exact HN.out j (by omega))
   have HK:=hid (show f p.arcs[k]! = true→∃k':Nat,k'<p.arcs.length∧(k:Int)=k'∧f p.arcs[k']! = true from fun h=>⟨k,hlt,rfl,h⟩);generalize f p.arcs[k]! = r at *;generalize p.arcs[k]! = ar at *;obtain⟨i1,i2,i3,i4,i5,i6⟩:=ar;dsimp only at a0 a1 a2 a3 a4 a5 hC;clear hbr;go_wp2_with fail;refine hC.out.mono ?_;rintro e w1 ⟨rfl,hb1⟩;have HB1:=hid (HB.out.trans (hb1.mono HB.out.size));clear hb1 a0 a1 a2 a3 a4 a5 hC;cases r
   ·have HQ:=hid (HE.out rfl)
    go_wp2_with fail;go_roundw
    case rel=>exact⟨k+1,by omega,by go_num,HQ,HB1.out⟩
    case measure=>simp[intOf];omega
   ·have HQ:=hid (HK.out rfl)
    go_wp2_with fail;go_ret;exact⟨_,rfl,HB1.out,.inr HQ.out⟩
  ·obtain rfl:p.arcs.length=k:=by omega
   have hge:¬((p.arcs.length:Int)<(p.arcs.length:Int)):=by omega
   clear hbr;go_wp2_with fail;go_ret;exact⟨_,rfl,HB.out,.inl ⟨rfl,HN.out⟩⟩
theorem tW(p:Pn)(m:Mem)(id:Int)(na:Nat)(w:World)(hR:PlR w p m)(h:Bx w na 3 [id]):Calls Tryz.prog 54 #[.slice m.aa p.arcs.length m.ca,.func (.func 55) #[] #[.pointer (some ⟨na,0,none⟩)]] w (sH w (fun b:Ar=>b.id==id) p.arcs):=by
 have HA:=hid fun (k:Nat) (hk:k<p.arcs.length) W hb=>hR.arc (W:=W) hb hk
 have hal:=hR.few.a;have HV:=hid hR.few.v;have cC:=hid fun (b:Ar) A c W (hb:Below w.heap.size w W) (hv:b.via.length≤100000)=>qM b id A c na W (h.below hb)
 obtain⟨f,hf⟩:∃f,f=(fun b:Ar=>b.id==id):=⟨_,rfl⟩;have hf2:∀b,(fun b:Ar=>b.id==id) b=f b:=fun b=>by rw[hf]
 simp only[hf2]at cC;rw[←hf];clear hR h hf hf2;obtain⟨an,aa,af,cn,ca,cf,vs⟩:=m;dsimp only at *;go_enter Tryz.func54,Tryz.ntmps54;go_wp2_with fail;go_loopw [5,8] (fun _ i wr=>∃k:Nat,k≤p.arcs.length∧i=.int .i64 k∧Hid (∀j,j<k→f p.arcs[j]! = false)∧Below w.heap.size w wr) (fun _ i _=>p.arcs.length-(intOf i).toNat)
 case atStart=>exact⟨0,by omega,rfl,hid (fun j hj=>absurd hj (Nat.not_lt_zero _)),Below.refl _ _⟩
 case round=>
  obtain⟨k,hk,rfl,HN,hbr⟩:=hrel;have HB:=hid hbr
  by_cases hlt:k<p.arcs.length
  ·have hli:(k:Int)<(p.arcs.length:Int):=by omega
   obtain⟨b,off,A,c,rfl,hbl,a0,a1,a2,a3,a4,a5,_,_,_⟩:=HA.out k hlt wr hbr;have hC:=hid (cC.out p.arcs[k]! A c wr hbr (HV.out k hlt))
   have HE:=hid (show f p.arcs[k]! = false→∀j,j<k+1→f p.arcs[j]! = false from fun h j hj=>by
    by_cases e:j=k
    ·subst e;exact h
    ·exact HN.out j (by omega))
   have HK:=hid (show f p.arcs[k]! = true→∃k':Nat,k'<p.arcs.length∧(k:Int)=k'∧f p.arcs[k']! = true from fun h=>⟨k,hlt,rfl,h⟩);generalize f p.arcs[k]! = r at *;generalize p.arcs[k]! = ar at *;obtain⟨i1,i2,i3,i4,i5,i6⟩:=ar;dsimp only at a0 a1 a2 a3 a4 a5 hC;clear hbr;go_wp2_with fail;refine hC.out.mono ?_;rintro e w1 ⟨rfl,hb1⟩;have HB1:=hid (HB.out.trans (hb1.mono HB.out.size));clear hb1 a0 a1 a2 a3 a4 a5 hC;cases r
   ·have HQ:=hid (HE.out rfl)
    go_wp2_with fail;go_roundw
    case rel=>exact⟨k+1,by omega,by go_num,HQ,HB1.out⟩
    case measure=>simp[intOf];omega
   ·have HQ:=hid (HK.out rfl)
    go_wp2_with fail;go_ret;exact⟨_,rfl,HB1.out,.inr HQ.out⟩
  ·obtain rfl:p.arcs.length=k:=by omega
   have hge:¬((p.arcs.length:Int)<(p.arcs.length:Int)):=by omega
   clear hbr;go_wp2_with fail;go_ret;exact⟨_,rfl,HB.out,.inl ⟨rfl,HN.out⟩⟩
theorem jL(p:Pn)(m:Mem)(a:Ar)(A:Option Addr)(c:Nat)(w:World)(hR:PlR w p m) :
  Calls Tryz.prog 143 #[plV p m,.agg #[a.id,a.frm,a.dst,.slice A a.via.length c,a.lf,a.rt]] w (fun e w'=>∃r,e=.returned (.bool r)∧(r=false→∀j,j<p.arcs.length→parB a p.arcs[j]! = false)∧Below w.heap.size w w'):=by
 have hmf:∀(fn:Fn) (first cap:Array Value) (w:World),(Instr.makeFunc fn first cap).run Tryz.prog w=.ok (.func fn first cap) w:=fun _ _ _ _=>rfl
 have ha:=Bx.new (t:=26) (cs:=[.slice m.an p.nodes.length m.cn,.slice m.aa p.arcs.length m.ca,.slice m.af p.faces.length m.cf]) w rfl;have hb:=Bx.newAt (b:=w.heap.size+1) (t:=58) (cs:=arC a (.slice A a.via.length c)) (c:=#[.int .i64 a.id,.int .i64 a.frm,.int .i64 a.dst,.slice A a.via.length c,.int .i64 a.lf,.int .i64 a.rt]) (w.alloc (.cells #[.slice m.an p.nodes.length m.cn,.slice m.aa p.arcs.length m.ca,.slice m.af p.faces.length m.cf] 26)) (by simp) rfl;have ha2:=ha.alloc (.cells #[a.id,a.frm,a.dst,.slice A a.via.length c,a.lf,a.rt] 58);have hw:=(bw1 w (.cells #[.slice m.an p.nodes.length m.cn,.slice m.aa p.arcs.length m.ca,.slice m.af p.faces.length m.cf] 26)).alloc (bw1 _ _).size (.cells #[a.id,a.frm,a.dst,.slice A a.via.length c,a.lf,a.rt] 58)
 have c2:∀W na,PlR W p m→Bx W na 58 (arC a (.slice A a.via.length c))→Calls Tryz.prog 190 #[.slice m.aa p.arcs.length m.ca,.func (.func 191) #[] #[.pointer (some ⟨na,0,none⟩)]] W (fun e w'=>∃r,e=.returned (.bool r)∧(r=false→∀j,j<p.arcs.length→parB a p.arcs[j]! = false)∧Below W.heap.size W w'):=by
  intro W na h1 h2;have c1:=hid (tb p m a _ na W h1 h2);clear h1 h2 ha hb ha2 hw hR;go_enter Tryz.func190,Tryz.ntmps190;go_wp2_with fail;refine c1.out.mono ?_;rintro e W1 ⟨r,rfl,hb1,hr⟩;have HB1:=hid hb1;have HR:=hid hr;obtain⟨q,hq⟩:∃q,decide (0≤r)=q:=⟨_,rfl⟩;have HQ:=hid hq;clear hb1 hr hq;go_wp2_with fail;go_ret;refine⟨_,rfl,fun h j hj=>?_,HB1.out⟩
  rcases HR.out with⟨_,h1⟩|⟨k,_,h1,_⟩
  ·exact h1 j hj
  ·have:¬0≤r:=by simpa using h
   omega
 unfold plV;go_enter Tryz.func143,Tryz.ntmps143;go_upto_region 1 with fail;have HP:=hid (hR.below hw);generalize (w.alloc (.cells #[.slice m.an p.nodes.length m.cn,.slice m.aa p.arcs.length m.ca,.slice m.af p.faces.length m.cf] 26)).alloc (.cells #[a.id,a.frm,a.dst,.slice A a.via.length c,a.lf,a.rt] 58)=w1 at *;obtain⟨_,k1,_⟩:=ha2.c3;have c3:=hid (c2 w1 _ HP.out hb);have HW:=hid hw;clear c2 ha hb ha2 hw hR;go_wp2_with fail;refine c3.out.mono ?_;rintro e w2 ⟨r,rfl,hr,hb2⟩;have HB2:=hid (HW.out.trans (hb2.mono HW.out.size));have HR:=hid hr;clear hb2 hr;go_wp2_with fail;go_ret;exact⟨_,rfl,HR.out,HB2.out⟩
end Go.Proofs
namespace Go.Proofs
open Go.RowKit Go.Proofs.Mp Go.Lib Go.Proofs.Ed
def blkB(a b c q:Pt):Bool:=!decide (q=a)&&!decide (q=b)&&!decide (q=c)&&inC (kY a b c) a b c q
theorem mR(a b c q:Pt)(na nm nh nf:Nat)(v:Value)(w:World)(h1:Bx w na 30 (cP a))(h2:Bx w nm 30 (cP b))(h3:Bx w nh 30 (cP c))(h4:Bx w nf 107 [v])(hT:lU w a b c v)(ha:Nr a)(hb:Nr b)(hc:Nr c)(hq:Nr q) :
  Calls Tryz.prog 145 #[ae q,.pointer (some ⟨na,0,none⟩),.pointer (some ⟨nm,0,none⟩),.pointer (some ⟨nh,0,none⟩),.pointer (some ⟨nf,0,none⟩)] w (RetV w (.bool (blkB a b c q))):=by
 obtain⟨mb,mt,ma,mm,mh,rfl,t1,t2,t3,t4,t5⟩:=hT;have cI:=hid fun W (hw:Below w.heap.size w W)=>tJ (kY a b c) a b c q mb mt ma mm mh W (t1.below hw) (t2.below hw) (t3.below hw) (t4.below hw) (t5.below hw) ha hb hc hq
 have HR:=hid (show blkB a b c q=(!decide (q=a)&&!decide (q=b)&&!decide (q=c)&&inC (kY a b c) a b c q)from rfl);have n1:=fun W=>Tryz.neq30 q.1 q.2 a.1 a.2 W
 have n2:=fun W=>Tryz.neq30 q.1 q.2 b.1 b.2 W
 have n3:=fun W=>Tryz.neq30 q.1 q.2 c.1 c.2 W
 change ∀W,_=Result.ok (Value.bool (!decide (q=a))) W at n1;change ∀W,_=Result.ok (Value.bool (!decide (q=b))) W at n2;change ∀W,_=Result.ok (Value.bool (!decide (q=c))) W at n3;have hG:=Tryz.guard30;generalize inC (kY a b c) a b c q=r at *;generalize blkB a b c q=R at *;generalize (!decide (q=a))=x1 at *;generalize (!decide (q=b))=x2 at *;generalize (!decide (q=c))=x3 at *;obtain⟨qx,qy⟩:=q;obtain⟨ax,ay⟩:=a;obtain⟨bx,by_⟩:=b;obtain⟨cx,cy⟩:=c;unfold ae cP at *;dsimp only at *;have h0:=Bx.new (t:=30) (cs:=[.int .i64 qx,.int .i64 qy]) w rfl;have hw:=bw1 w (.cells #[qx,qy] 30);have g1:=h1.below hw;have g2:=h2.below hw;have g3:=h3.below hw;have g4:=h4.below hw;clear t1 t2 t3 t4 t5 h1 h2 h3 h4 ha hb hc hq;go_enter Tryz.func145,Tryz.ntmps145;go_upto_region 1 with fail;generalize w.alloc (.cells #[qx,qy] 30)=w1 at *;obtain⟨k0,k1⟩:=h0.c2;obtain⟨a0,a1⟩:=g1.c2;obtain⟨b0,b1⟩:=g2.c2;obtain⟨d0,d1⟩:=g3.c2;have f0:=g4.c1;have HW:=hid hw;clear h0 hw g1 g2 g3 g4;have fin:Hid (R=(x1&&x2&&x3&&r)):=HR;clear HR;cases x1
 ·have HR2:=hid (show R=false from by rw[fin.out];cases r<;>rfl)
  go_wp2_with fail;go_ret;exact⟨by rw[HR2.out];rfl,HW.out⟩
 cases x2
 ·have HR2:=hid (show R=false from by rw[fin.out];cases r<;>rfl)
  go_wp2_with fail;go_ret;exact⟨by rw[HR2.out];rfl,HW.out⟩
 cases x3
 ·have HR2:=hid (show R=false from by rw[fin.out];cases r<;>rfl)
  go_wp2_with fail;go_ret;exact⟨by rw[HR2.out];rfl,HW.out⟩
 have HR2:=hid (show R=r from by rw[fin.out];cases r<;>rfl)
 go_wp2_with fail;refine(cI.out _ HW.out).mono ?_;rintro e w2 ⟨rfl,hb2⟩;have HB2:=hid (HW.out.trans (hb2.mono HW.out.size));clear hb2;go_wp2_with fail;go_ret;exact⟨by rw[HR2.out];rfl,HB2.out⟩
end Go.Proofs
namespace Go.Proofs
open Go.RowKit Go.Proofs.Mp Go.Lib
structure PlW(w:World)(p:Pn)(m:Mem):Prop where
 nd:Rd 3 aQ w m.an p.nodes
 ar:Rd 6 encA w m.aa (p.arcs.zip m.vs)
 len:m.vs.length=p.arcs.length
 via:∀i,i<p.arcs.length→SlP w m.vs[i]! p.arcs[i]!.via
 fc:RdI w m.af p.faces
 cn:p.nodes.length≤m.cn
 ca:p.arcs.length≤m.ca
 cf:p.faces.length≤m.cf
 l1:p.nodes.length≤9223372036854775807
 l2:p.arcs.length≤9223372036854775807
 l3:p.faces.length≤9223372036854775807
 lv:∀i,i<p.arcs.length→p.arcs[i]!.via.length≤9223372036854775807
theorem PlW.pl{w:World}{p:Pn}{m:Mem}(h:PlW w p m)(hf:Few p):PlR w p m:=⟨h.nd,h.ar,h.len,h.via,h.fc,h.cn,h.ca,h.cf,hf⟩
theorem PlW.below{w w':World}{p:Pn}{m:Mem}(h:PlW w p m)(hb:Below w.heap.size w w'):PlW w' p m:=
 ⟨h.nd.below hb,h.ar.below hb,h.len,fun i hi=>(h.via i hi).below hb,h.fc.below hb,h.cn,h.ca,h.cf,h.l1,h.l2,h.l3,h.lv⟩
theorem PlW.arc{w W:World}{p:Pn}{m:Mem}(h:PlW w p m)(hb:Below w.heap.size w W){i:Nat}(hi:i<p.arcs.length) :
  ∃b off A c,m.aa=some ⟨b,off,none⟩∧W.cell? ⟨b,off+i*6+3,none⟩=some (.slice A p.arcs[i]!.via.length c):=by
 obtain⟨b,off,e,hl,hc⟩:=h.ar.get hb (j:=i) (by rw[List.length_zip,h.len];omega);have hz:=hc i (by rw[List.length_zip,h.len];omega);rw[lX h.len hi]at hz;obtain⟨A,c,ev,h1,h2⟩:=h.via i hi;rw[ev]at hz;exact⟨b,off,A,c,e,hz 3 _ rfl⟩
def RetFw(w:World)(p:Pn)(e:Ending)(w':World):Prop:=∃b:Bool,e=.returned (.bool b)∧(b=true→Few p)∧Below w.heap.size w w'
theorem RetFw.no{w w':World}{p:Pn}(h:Below w.heap.size w w'):RetFw w p (.returned (.bool false)) w':=⟨false,rfl,(fun h=>by cases h),h⟩
theorem nZ(p:Pn)(m:Mem)(w:World)(hR:PlW w p m):Calls Tryz.prog 4 #[plV p m] w (RetFw w p):=by
 have HA:=hid fun (k:Nat) (hk:k<p.arcs.length) W hb=>hR.arc (W:=W) hb hk
 have HF:=hid (show p.nodes.length≤40→p.arcs.length≤40→p.faces.length≤40→(∀k,k<p.arcs.length→p.arcs[k]!.via.length≤12)→Few p from fun h1 h2 h3 h4=>⟨by omega,by omega,by omega,fun i hi=>by have:=h4 i hi;omega⟩);have HLV:=hid hR.lv;have m1:=hR.l1;have m2:=hR.l2;have m3:=hR.l3;have hplV:plV p m=.agg #[.slice m.an p.nodes.length m.cn,.slice m.aa p.arcs.length m.ca,.slice m.af p.faces.length m.cf]:=rfl;rw[hplV];clear hR hplV;generalize hq1:p.nodes.length=l1 at *;generalize hq2:p.arcs.length=l2 at *;generalize hq3:p.faces.length=l3 at *;clear hq1 hq2 hq3;obtain⟨an,aa,af,cn,ca,cf,mvs⟩:=m;dsimp only at *;have HN:=hid (fun W' (h:Below w.heap.size w W')=>RetFw.no (p:=p) h);have HY:=hid (show ∀W',Below w.heap.size w W'→Few p→RetFw w p (.returned (.bool true)) W' from fun W' h hf=>⟨true,rfl,fun _=>hf,h⟩);generalize RetFw w p=R at *;have ha:=Bx.new (t:=26) (cs:=[.slice an l1 cn,.slice aa l2 ca,.slice af l3 cf]) w rfl;have HW:=hid (bw1 w (.cells #[.slice an l1 cn,.slice aa l2 ca,.slice af l3 cf] 26));go_enter Tryz.func4,Tryz.ntmps4;go_upto_region 1 with fail;generalize w.alloc (.cells #[.slice an l1 cn,.slice aa l2 ca,.slice af l3 cf] 26)=w1 at *;generalize w.heap.size=s at *;have HX:=hid ha;obtain⟨a0,a1,a2⟩:=ha.c3;clear ha
 by_cases h1:(40:Int)<(l1:Int)
 ·go_wp2_with fail
  exact HN.out _ HW.out
 by_cases h2:(40:Int)<(l2:Int)
 ·go_wp2_with fail
  exact HN.out _ HW.out
 by_cases h3:(40:Int)<(l3:Int)
 ·go_wp2_with fail
  exact HN.out _ HW.out
 go_wp2_with fail;have HF2:=hid (HF.out (by omega) (by omega) (by omega));clear a0 a1 a2 h1 h3 HF;have hl2:l2≤40:=by omega
 clear h2;go_loopw [3] (fun i wr=>∃j:Nat,j≤l2∧i=.int .i64 j∧Hid (∀k,k<j→p.arcs[k]!.via.length≤12)∧wr=w1) (fun i _=>l2-(intOf i).toNat)
 case atStart=>exact⟨0,by omega,rfl,hid (fun k hk=>absurd hk (Nat.not_lt_zero _)),rfl⟩
 case round=>
  obtain⟨j,hj,rfl,HV,rfl⟩:=hrel;obtain⟨a0,a1,a2⟩:=HX.out.c3
  by_cases hlt:j<l2
  ·have hli:(j:Int)<(l2:Int):=by omega
   obtain⟨b,off,A,c,rfl,c3⟩:=HA.out j hlt _ HW.out;have HLV1:=HLV.out j hlt
   have HVS:=hid (show p.arcs[j]!.via.length≤12→∀k,k<j+1→p.arcs[k]!.via.length≤12 from fun h k hk=>by
    rcases Nat.lt_succ_iff_lt_or_eq.1 hk with h1|rfl
    ·exact HV.out k h1
    ·exact h)
   clear HV HA HLV;generalize p.arcs[j]!.via.length=n at *
   by_cases h12:(12:Int)<(n:Int)
   ·go_wp2_with fail
    exact HN.out _ HW.out
   ·have hn:n≤12:=by omega
    go_wp2_with fail;go_roundw
    case rel=>exact⟨j+1,by omega,by go_num,hid (HVS.out hn),trivial⟩
    case measure=>simp[intOf];omega
  ·obtain rfl:l2=j:=by omega
   have hge:¬((l2:Int)<(l2:Int)):=by omega
   have hfin:=HF2.out HV.out;have HFN:=hid hfin;clear hfin;go_wp2_with fail;exact HY.out _ HW.out HFN.out
end Go.Proofs
