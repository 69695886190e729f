/- Lemmas and walks; no statement of a law is proved here. -/
import Derived.Test.YtaglmdebikglgaaGreatDoorX07
import Derived.Test.YtaglmdebikglgaaGreatDoorX10
set_option linter.unusedVariables false
set_option linter.unusedSimpArgs false
set_option maxRecDepth 100000
set_option maxHeartbeats 8000000
open Go.Lib
namespace Go.Proofs
open Go.RowKit Go.Proofs.Mp Go.Lib
abbrev AV:=Ar×Value
def bN(vn va vf:Value)(L:List AV):Nat→Option Nat
 | 0=>vn.ownBlock
 | 1=>va.ownBlock
 | 2=>vf.ownBlock
 | j+3=>(L[j]?.map fun y=>y.2.ownBlock).getD none
def Inj(f:Nat→Option Nat):Prop:=∀i j g,i≠j→f i=some g→f j≠some g
theorem Inj.turn{f f':Nat→Option Nat}(h:Inj f)(c:Nat)(ho:∀i,i≠c→f' i=f i)(hc:f' c=f c∨∀g,f' c=some g→∀i,i≠c→f i≠some g):Inj f':=by
 intro i j g hij hi hj
 rcases hc with hc|hc
 ·have e:∀q,f' q=f q:=fun q=>by
   by_cases e:q=c
   ·rw[e];exact hc
   ·exact ho q e
  rw[e]at hi hj;exact h i j g hij hi hj
 ·by_cases e1:i=c
  ·subst e1
   rw[ho j (fun e=>hij e.symm)]at hj;exact hc g hi j (fun e=>hij e.symm) hj
  ·rw[ho i e1]at hi
   by_cases e2:j=c
   ·subst e2
    exact hc g hj i e1 hi
   ·rw[ho j e2]at hj
    exact h i j g hij hi hj
structure Bld(w:World)(base:Nat)(vn va vf:Value)(N:List Nd)(L:List AV)(F:List Int):Prop where
 nd:Own 71 3 aQ w base vn N
 ar:Own 58 6 encA w base va L
 fc:Own 3 1 Mp.encI w base vf F
 vi:∀y∈L,Own 30 2 encR w base y.2 y.1.via
 inj:Inj (bN vn va vf L)
section
variable {w w':World}{base:Nat}{vn va vf:Value}{N:List Nd}{L:List AV}{F:List Int}
theorem aR{j:Nat}(h:j<L.length):bN vn va vf L (j+3)=(L[j]!).2.ownBlock:=by
 show(L[j]?.map fun y=>y.2.ownBlock).getD none=_
 rw[List.getElem?_eq_getElem h,getElem!_pos L j h];rfl
theorem dt{j:Nat}(h:L.length≤j):bN vn va vf L (j+3)=none:=by
 show(L[j]?.map fun y=>y.2.ownBlock).getD none=_
 rw[List.getElem?_eq_none h];rfl
theorem Bld.lt(h:Bld w base vn va vf N L F):∀i g,bN vn va vf L i=some g→base≤g∧g<w.heap.size
 | 0,g,e=>World.ownsRow.lt h.nd g e
 | 1,g,e=>World.ownsRow.lt h.ar g e
 | 2,g,e=>World.ownsRow.lt h.fc g e
 | j+3,g,e=>by
  rcases Nat.lt_or_ge j L.length with k|k
  ·rw[aR k]at e
   exact World.ownsRow.lt (h.vi _ (ak k)) g e
  ·rw[dt k]at e;cases e
theorem Bld.keep(h:Bld w base vn va vf N L F){row:Option Nat}(hg:w.grownBy w' row)(hr:∀i g,bN vn va vf L i=some g→row≠some g):Bld w' base vn va vf N L F:=by
 have key:∀v:Value,(∀g,v.ownBlock=some g→row≠some g)→v.ownBlock=none∨v.ownBlock≠row:=fun v hv=>by
  cases e:v.ownBlock with
  | none=>exact .inl rfl
  | some g=>exact .inr fun e2=>hv g e e2.symm
 refine⟨World.ownsRow.kept h.nd hg (key _ (hr 0)),World.ownsRow.kept h.ar hg (key _ (hr 1)),World.ownsRow.kept h.fc hg (key _ (hr 2)),fun y hy=>World.ownsRow.kept (h.vi y hy) hg (key _ fun g e=>?_),h.inj⟩;obtain⟨j,hj,rfl⟩:=aw hy;exact hr (j+3) g (by rw[aR hj];exact e)
theorem Bld.below(h:Bld w base vn va vf N L F)(hb:Below w.heap.size w w'):Bld w' base vn va vf N L F:=h.keep (aD hb) (fun _ _ _ e=>by cases e)
theorem Bld.cell(h:Bld w base vn va vf N L F){q o:Nat}(hq:q<base)(v:Value):Bld (w.setCell ⟨q,o,none⟩ v) base vn va vf N L F:=
 h.keep (aj _ _ _) (fun i g e e2=>by
  have e2:q=g:=by injection e2
  have:=(h.lt i g e).1
  omega)
theorem Bld.arc(h:Bld w base vn va vf N L F){y:AV}(hv:Own 30 2 encR w base y.2 y.1.via)(hfr:∀g,y.2.ownBlock=some g→∀i,bN vn va vf L i≠some g){va':Value}(ho:Own 58 6 encA w' base va' (L++[y]))(hg:w.grownBy w' va.ownBlock)
  (hl:va'.ownBlock=va.ownBlock∨∃j,va'.ownBlock=some j∧w.heap.size≤j):Bld w' base vn va' vf N (L++[y]) F:=by
 have ne:∀i,i≠1→∀v:Value,bN vn va vf L i=v.ownBlock→v.ownBlock=none∨v.ownBlock≠va.ownBlock:=fun i hi v hv=>by
  cases e:v.ownBlock with
  | none=>exact .inl rfl
  | some g=>exact .inr fun e2=>h.inj i 1 g hi (hv.trans e) e2.symm
 have j1:Inj (bN vn va' vf L):=h.inj.turn 1 (fun i hi=>by match i,hi with|0,_=>rfl|2,_=>rfl|j+3,_=>rfl) (by
  rcases hl with hl|⟨j,hl,hj⟩
  ·exact .inl hl
  ·refine .inr fun g e i _ e2=>?_
   have e:va'.ownBlock=some g:=e;rw[hl]at e;have:j=g:=by injection e
   have:=(h.lt i g e2).2
   omega)
 refine⟨World.ownsRow.kept h.nd hg (ne 0 (by decide) _ rfl),ho,World.ownsRow.kept h.fc hg (ne 2 (by decide) _ rfl),fun z hz=>?_,j1.turn (L.length+3) (fun i hi=>?_) (.inr fun g e i hi e2=>?_)⟩
 ·rcases List.mem_append.1 hz with hz|hz
  ·obtain⟨j,hj,rfl⟩:=aw hz
   exact World.ownsRow.kept (h.vi _ hz) hg (ne (j+3) (by omega) _ (aR hj))
  ·rw[List.mem_singleton.1 hz]
   refine World.ownsRow.kept hv hg ?_;cases e:y.2.ownBlock with
   | none=>exact .inl rfl
   | some g=>exact .inr fun e2=>hfr g e 1 e2.symm
 ·match i,hi with
  | 0,_=>rfl
  | 1,_=>rfl
  | 2,_=>rfl
  | j+3,hi=>
   rcases Nat.lt_trichotomy j L.length with k|k|k
   ·rw[aR k,aR (by simp;omega)]
    congr 2
    simp[getElem!_def,List.getElem?_append_left k]
   ·exact absurd (by rw[k]) hi
   ·rw[dt (L:=L) (by omega),dt (L:=L++[y]) (by rw[List.length_append];show L.length+1≤j;omega)]
 ·rw[aR (by simp)]at e
  have ey:(L++[y])[L.length]! = y:=by simp[getElem!_def]
  rw[ey]at e
  match i,hi with
  | 0,_=>exact hfr g e 0 e2
  | 1,_=>
   have e2:va'.ownBlock=some g:=e2
   rcases hl with hl|⟨j,hl,hj⟩
   ·exact hfr g e 1 (hl.symm.trans e2)
   ·rw[hl]at e2
    have:j=g:=by injection e2
    have:=(World.ownsRow.lt hv g e).2;omega
  | 2,_=>exact hfr g e 2 e2
  | j+3,_=>exact hfr g e (j+3) e2
theorem Bld.faces(h:Bld w base vn va vf N L F){b:Nat}(hb0:base≤b){vf':Value}{F':List Int}(ho:Own 3 1 Mp.encI w' b vf' F')(hb:Below w.heap.size w w')(hbw:w.heap.size≤b):Bld w' base vn va vf' N L F':=by
 have h2:=h.below hb;refine⟨h2.nd,h2.ar,ho.mono hb0,h2.vi,h.inj.turn 2 (fun i hi=>by match i,hi with|0,_=>rfl|1,_=>rfl|j+3,_=>rfl) (.inr fun g e i _ e2=>?_)⟩;have:=(World.ownsRow.lt ho g e).1;have:=(h.lt i g e2).2;omega
theorem Bld.node(h:Bld w base vn va vf N L F){y:Nd}{vn':Value}(ho:Own 71 3 aQ w' base vn' (N++[y]))(hg:w.grownBy w' vn.ownBlock)
  (hl:vn'.ownBlock=vn.ownBlock∨∃j,vn'.ownBlock=some j∧w.heap.size≤j):Bld w' base vn' va vf (N++[y]) L F:=by
 have ne:∀i,i≠0→∀v:Value,bN vn va vf L i=v.ownBlock→v.ownBlock=none∨v.ownBlock≠vn.ownBlock:=fun i hi v hv=>by
  cases e:v.ownBlock with
  | none=>exact .inl rfl
  | some g=>exact .inr fun e2=>h.inj i 0 g hi (hv.trans e) e2.symm
 refine⟨ho,World.ownsRow.kept h.ar hg (ne 1 (by decide) _ rfl),World.ownsRow.kept h.fc hg (ne 2 (by decide) _ rfl),fun z hz=>?_,h.inj.turn 0 (fun i hi=>by match i,hi with|1,_=>rfl|2,_=>rfl|j+3,_=>rfl) ?_⟩
 ·obtain⟨j,hj,rfl⟩:=aw hz
  exact World.ownsRow.kept (h.vi _ hz) hg (ne (j+3) (by omega) _ (aR hj))
 ·rcases hl with hl|⟨j,hl,hj⟩
  ·exact .inl hl
  ·refine .inr fun g e i _ e2=>?_
   have e:vn'.ownBlock=some g:=e;rw[hl]at e;have:j=g:=by injection e
   have:=(h.lt i g e2).2;omega
end
def r8(w:World)(base:Nat)(y:AV):Prop:=
 (y.1.via=[]∧∃A c,y.2=.slice A 0 c)∨∃g c,y.2=.slice (some ⟨g,0,none⟩) y.1.via.length c∧base≤g∧g<w.heap.size∧aZ w w g y.1.via.toArray∧y.1.via.length≤c∧c≤9223372036854775807
structure PlO(w:World)(base:Nat)(vn va vf:Value)(N:List Nd)(L:List AV)(F:List Int):Prop where
 nd:∃A c,vn=.slice A N.length c∧N.length≤c∧Rd 3 aQ w A N
 fc:∃A c,vf=.slice A F.length c∧F.length≤c∧Rd 1 Mp.encI w A F
 ar:∃A c,va=.slice A L.length c∧L.length≤c∧Rd 6 encA w A L∧∀g o t,A=some ⟨g,o,t⟩→o=0∧t=none∧∀j,w.frozen? ⟨g,j,none⟩=false
 vi:∀y∈L,r8 w base y
 inj:Inj (bN vn va vf L)
 lt:∀i g,bN vn va vf L i=some g→base≤g∧g<w.heap.size
theorem Bld.done{w:World}{base:Nat}{vn va vf:Value}{N:List Nd}{L:List AV}{F:List Int}(h:Bld w base vn va vf N L F):PlO w base vn va vf N L F:=by
 have hcap:∀{α:Type} [Inhabited α] {e:TypeId} {k:Nat} {enc:α→List Value} {v:Value} {xs:List α},(∀x,(enc x).length=k)→Own e k enc w base v xs→∃A c,v=.slice A xs.length c∧xs.length≤c∧Rd k enc w A xs∧∀g o t,A=some ⟨g,o,t⟩→o=0∧t=none∧∀j,w.frozen? ⟨g,j,none⟩=false:=by
  intro α _ e k enc v xs hk h;have h':=h
  rcases h.2 with⟨e1,e2⟩|⟨g,cap,cur,e1,h1,h2,h3,h4,_⟩
  all_goals
   subst e1
  ·have hx:xs.length=0:=e2
   exact⟨none,0,by rw[hx],by omega,Own.rd hk h',fun g o t e=>by cases e⟩
  ·refine⟨_,cap,rfl,h3,Own.rd hk h',fun g' o t e=>?_⟩
   injection e with e;injection e with e1 e2 e3;subst e1 e2 e3;exact⟨rfl,rfl,fun j=>frozen_of_row w g j cur _ h2⟩
 refine⟨?_,?_,hcap fM h.ar,fun y hy=>?_,h.inj,h.lt⟩
 ·obtain⟨A,c,h1,h2,h3,_⟩:=hcap dE h.nd
  exact⟨A,c,h1,h2,h3⟩
 ·obtain⟨A,c,h1,h2,h3,_⟩:=hcap encI_len h.fc
  exact⟨A,c,h1,h2,h3⟩
 ·by_cases e:y.1.via=[]
  ·refine .inl ⟨e,?_⟩
   obtain⟨A,c,e2⟩:=Own.slice (h.vi y hy);rw[e]at e2;exact⟨A,c,e2⟩
  ·obtain⟨g,cap,e2,_,_⟩:=aG (h.vi y hy) e
   have h2:=h.vi y hy;rw[e2]at h2;obtain⟨r1,r2,r3,r4,r5⟩:=iK h2;exact .inr ⟨g,cap,e2,r1,r2,r3,r4,by unfold maxLen at r5;omega⟩
theorem Mp.Rd.keepA{α:Type}[Inhabited α]{k:Nat}{enc:α→List Value}{w w':World}{A:Option Addr}{xs:List α}(h:Rd k enc w A xs)(hs:w.heap.size≤w'.heap.size)(hk:∀g o t,A=some ⟨g,o,t⟩→w'.heap[g]?=w.heap[g]?):Rd k enc w' A xs:=by
 rcases h with h|⟨b,o,he,hb,hc⟩
 ·exact .inl h
 ·exact .inr ⟨b,o,he,by omega,fun j hj i u hu=>(World.cell?_of_block (hk b o none he)).trans (hc j hj i u hu)⟩
theorem aZ.keepB{w w':World}{g:Nat}{d:Array (Int×Int)}(h:aZ w w g d)(hk:w'.heap[g]?=w.heap[g]?):aZ w' w' g d:=
 ⟨World.grownBy.refl _ _,fun j=>(World.frozen?_of_block hk).trans (h.2.1 j),fun j hj=>⟨(World.cell?_of_block hk).trans (h.2.2 j hj).1,(World.cell?_of_block hk).trans (h.2.2 j hj).2⟩⟩
theorem r8.keep{w w':World}{base:Nat}{y:AV}(h:r8 w base y)(hs:w.heap.size≤w'.heap.size)(hk:∀g,y.2.ownBlock=some g→w'.heap[g]?=w.heap[g]?):r8 w' base y:=by
 rcases h with h|⟨g,c,e,h1,h2,h3,h4⟩
 ·exact .inl h
 ·exact .inr ⟨g,c,e,h1,by omega,h3.keepB (hk g (by rw[e];rfl)),h4⟩
section
variable {w w':World}{base:Nat}{vn va vf:Value}{N:List Nd}{L:List AV}{F:List Int}
theorem PlO.keep(h:PlO w base vn va vf N L F)(hs:w.heap.size≤w'.heap.size)(hk:∀i g,bN vn va vf L i=some g→w'.heap[g]?=w.heap[g]?):PlO w' base vn va vf N L F:=by
 obtain⟨A,c,e,h1,h2⟩:=h.nd;obtain⟨A',c',e',h1',h2'⟩:=h.fc;obtain⟨A2,c2,e2,h12,h22,h32⟩:=h.ar;refine⟨⟨A,c,e,h1,h2.keepA hs fun g o t ea=>hk 0 g (by rw[e,ea];rfl)⟩,⟨A',c',e',h1',h2'.keepA hs fun g o t ea=>hk 2 g (by rw[e',ea];rfl)⟩,⟨A2,c2,e2,h12,h22.keepA hs fun g o t ea=>hk 1 g (by rw[e2,ea];rfl),fun g o t ea=>?_⟩,fun y hy=>?_,h.inj,fun i g e=>⟨(h.lt i g e).1,by have:=(h.lt i g e).2;omega⟩⟩
 ·obtain⟨a,b,f⟩:=h32 g o t ea
  exact⟨a,b,fun j=>(World.frozen?_of_block (hk 1 g (by rw[e2,ea];rfl))).trans (f j)⟩
 ·obtain⟨j,hj,rfl⟩:=aw hy
  exact(h.vi _ hy).keep hs fun g e=>hk (j+3) g (by rw[aR hj];exact e)
theorem PlO.below(h:PlO w base vn va vf N L F)(hb:Below w.heap.size w w'):PlO w' base vn va vf N L F:=
 h.keep hb.size fun i g e=>hb.block g (h.lt i g e).2
theorem PlO.pl(h:PlO w base vn va vf N L F)(hf:Few ⟨N,L.map Prod.fst,F⟩):∃m:Mem,m.vs=L.map Prod.snd∧plV ⟨N,L.map Prod.fst,F⟩ m=.agg #[vn,va,vf]∧PlR w ⟨N,L.map Prod.fst,F⟩ m:=by
 obtain⟨A,c,e,h1,h2⟩:=h.nd;obtain⟨A',c',e',h1',h2'⟩:=h.fc;obtain⟨A2,c2,e2,h12,h22,h32⟩:=h.ar
 have hz:∀l:List AV,(l.map Prod.fst).zip (l.map Prod.snd)=l:=fun l=>by
  induction l with
  | nil=>rfl
  | cons y l ih=>rw[List.map_cons,List.map_cons,List.zip_cons_cons,ih]
 refine⟨⟨A,A2,A',c,c2,c',L.map Prod.snd⟩,rfl,?_,?_⟩
 ·unfold plV
  simp only[List.length_map];rw[e,e2,e']
 ·refine⟨h2,by rw[hz];exact h22,by simp,fun i hi=>?_,h2',h1,by simpa using h12,h1',hf⟩
  have hi:i<L.length:=by simpa using hi
  show SlP w (L.map Prod.snd)[i]! (L.map Prod.fst)[i]!.via
  rw[aN Prod.snd hi,aN Prod.fst hi]
  rcases h.vi _ (ak hi) with⟨e1,A,c,e2⟩|⟨g,c,e1,b1,b2,b3,b4,_⟩
  ·rw[e1,e2]
   exact⟨A,c,rfl,.inl rfl,Nat.zero_le _⟩
  ·refine⟨_,c,e1,.inr ⟨g,0,rfl,b2,fun j hj q u hu=>?_⟩,b4⟩
   have hc:=b3.2.2 j (by simpa using hj);have ej:L[i]!.1.via.toArray[j]! = L[i]!.1.via[j]!:=by simp[getElem!_def]
   rw[ej]at hc
   match q,hu with
   | 0,hu=>rw[show 0+j*2+0=j*2 by omega,hc.1];exact hu
   | 1,hu=>rw[show 0+j*2+1=j*2+1 by omega,hc.2];exact hu
theorem PlO.drop(h:PlO w base vn va vf N L F){k i g c ga cA:Nat}(hk:k<L.length)(hv:L[k]!.2=.slice (some ⟨g,0,none⟩) L[k]!.1.via.length c)(hg0:base≤g∧g<w.heap.size)(hc:L[k]!.1.via.length≤c∧c≤9223372036854775807)(hi:i<L[k]!.1.via.length)
  (hva:va=.slice (some ⟨ga,0,none⟩) L.length cA)(hR:aZ w w' g (L[k]!.1.via.eraseIdx i).toArray) :
  PlO (w'.setCell ⟨ga,k*6+3,none⟩ (.slice (some ⟨g,0,none⟩) (L[k]!.1.via.length-1) c)) base vn va vf N (L.set k (fO L[k]!.1 i,.slice (some ⟨g,0,none⟩) (L[k]!.1.via.length-1) c)) F:=by
 have oK:bN vn va vf L (k+3)=some g:=by rw[aR hk,hv];rfl
 have o1:bN vn va vf L 1=some ga:=by rw[hva];rfl
 have hne:ga≠g:=fun e=>h.inj 1 (k+3) ga (by omega) o1 (by rw[oK,e])
 have hsz:w.heap.size≤(w'.setCell ⟨ga,k*6+3,none⟩ (.slice (some ⟨g,0,none⟩) (L[k]!.1.via.length-1) c)).heap.size:=by
  have:=hR.1.size
  simpa [World.setCell] using this
 have hkb:∀q v,q<w.heap.size→q≠g→q≠ga→(w'.setCell ⟨ga,k*6+3,none⟩ v).heap[q]?=w.heap[q]?:=fun q v hq h1 h2=>
  (heap_setCell_other _ _ _ _ (fun e=>h2 (by first|exact e|exact e.symm))).trans (hR.1.block q hq (fun e=>h1 (by injection e)))
 generalize hv':(Value.slice (some ⟨g,0,none⟩) (L[k]!.1.via.length-1) c)=v' at *
 have oF:∀j,bN vn va vf (L.set k (fO L[k]!.1 i,v')) j=bN vn va vf L j:=fun j=>by
  match j with
  | 0=>rfl
  | 1=>rfl
  | 2=>rfl
  | j+3=>
   by_cases e:j=k
   ·subst e
    rw[aR (by simpa using hk),eE hk,if_pos rfl,oK,←hv'];rfl
   ·rcases Nat.lt_or_ge j L.length with q|q
    ·rw[aR (by simpa using q),eE hk,if_neg (fun x=>e x.symm),aR q]
    ·rw[dt (L:=L) q,dt (by simpa using q)]
 have apart:∀j x,j≠1→j≠k+3→bN vn va vf L j=some x→x<w.heap.size∧x≠g∧x≠ga:=fun j x h1 h2 e=>⟨(h.lt j x e).2,fun e2=>h.inj j (k+3) x h2 e (by rw[oK,e2]),fun e2=>h.inj j 1 x h1 e (by rw[o1,e2])⟩
 obtain⟨A,c0,e,h1,h2⟩:=h.nd;obtain⟨A',c',e',h1',h2'⟩:=h.fc;obtain⟨A2,c2,e2,h12,h22,h32⟩:=h.ar;have e2A:A2=some ⟨ga,0,none⟩:=by rw[e2]at hva;injection hva
 subst e2A;obtain⟨_,_,hfz⟩:=h32 ga 0 none rfl;have hgal:ga<w.heap.size:=(h.lt 1 ga o1).2;have hga:w'.heap[ga]?=w.heap[ga]?:=hR.1.block ga hgal (fun e=>hne (by injection e));refine⟨⟨A,c0,e,h1,h2.keepA hsz fun x o t ea=>?_⟩,⟨A',c',e',h1',h2'.keepA hsz fun x o t ea=>?_⟩,⟨_,c2,by simpa using e2,by simpa using h12,.inr ⟨ga,0,rfl,by omega,fun j hj q u hu=>?_⟩,fun x o t ea=>?_⟩,fun y hy=>?_,fun a b x hab ha hb=>h.inj a b x hab (by rw[←oF];exact ha) (by rw[←oF];exact hb),fun a x ha=>?_⟩
 ·obtain⟨b1,b2,b3⟩:=apart 0 x (by decide) (by omega) (by rw[show bN vn va vf L 0=vn.ownBlock from rfl,e,ea];rfl)
  exact hkb x _ b1 b2 b3
 ·obtain⟨b1,b2,b3⟩:=apart 2 x (by decide) (by omega) (by rw[show bN vn va vf L 2=vf.ownBlock from rfl,e',ea];rfl)
  exact hkb x _ b1 b2 b3
 ·have hj':j<L.length:=by simpa using hj
  have hold:∀q u,(encA L[j]!)[q]?=some u→w'.cell? ⟨ga,j*6+q,none⟩=some u:=fun q u hu=>by
   rcases h22 with h22|⟨b,o,eb,_,hc2⟩
   ·rw[h22]at hj';cases hj'
   ·injection eb with eb
    injection eb with eb1 eb2;subst eb1 eb2;have:=hc2 j hj' q u hu;rw[Nat.zero_add]at this;exact(World.cell?_of_block hga).trans this
  have hq:q<6:=by
   rcases Nat.lt_or_ge q 6 with k|k
   ·exact k
   ·rw[List.getElem?_eq_none (by rw[fM];exact k)]at hu;cases hu
  rw[Nat.zero_add];rw[eE hk]at hu
  by_cases ej:k=j
  ·subst ej
   rw[if_pos rfl]at hu
   by_cases eq3:q=3
   ·subst eq3
    rw[World.cell?_setCell_same _ _ _ (hold 3 _ rfl)];exact hu
   ·rw[World.cell?_setCell_other _ _ _ _ (by intro e;injection e with _ e _;omega)]
    have:q=0∨q=1∨q=2∨q=4∨q=5:=by omega
    rcases this with rfl|rfl|rfl|rfl|rfl<;>exact hold _ _ hu
  ·rw[if_neg ej]at hu
   rw[World.cell?_setCell_other _ _ _ _ (by intro e;injection e with _ e _;omega)];exact hold q u hu
 ·injection ea with ea
  injection ea with ea1 ea2 ea3;subst ea1 ea2 ea3;exact⟨rfl,rfl,fun j=>by rw[World.frozen?_setCell];exact(World.frozen?_of_block hga).trans (hfz j)⟩
 ·obtain⟨j,hj,rfl⟩:=aw hy
  have hj':j<L.length:=by simpa using hj
  rw[eE hk]
  by_cases ej:k=j
  ·rw[if_pos ej]
   refine .inr ⟨g,c,by rw[←hv'];show Value.slice _ _ _=Value.slice _ (L[k]!.1.via.eraseIdx i).length _;rw[List.length_eraseIdx_of_lt hi],hg0.1,by omega,?_,by show(L[k]!.1.via.eraseIdx i).length≤c;rw[List.length_eraseIdx_of_lt hi];omega,hc.2⟩;have h3:aZ w' w' g (L[k]!.1.via.eraseIdx i).toArray:=⟨World.grownBy.refl _ _,hR.2⟩;exact h3.keepB (heap_setCell_other _ _ _ _ (fun e=>hne (by first|exact e|exact e.symm)))
  ·rw[if_neg ej]
   refine(h.vi _ (ak hj')).keep hsz fun x ex=>?_
   obtain⟨b1,b2,b3⟩:=apart (j+3) x (by omega) (by omega) (by rw[aR hj'];exact ex);exact hkb x _ b1 b2 b3
 ·rw[oF]at ha
  have:=h.lt a x ha;exact⟨this.1,by omega⟩
end
end Go.Proofs
namespace Go.Proofs
open Go.RowKit Go.Proofs.Mp Go.Lib Go.Proofs.Ed
theorem ac{w:World}{b o:Nat}{v:Value}(h:w.cell? ⟨b,o,none⟩=some v):w.setCell ⟨b,o,none⟩ v=w:=by
 unfold World.setCell
 have e:(w.heap.modify b fun
   | .cells c elem frozen=>.cells (if (none:Option Nat).isSome then c else c.setIfInBounds o v) elem frozen
   | o=>o)=w.heap:=by
  apply Array.ext
  ·simp
  ·intro i h1 h2
   rw[Array.getElem_modify];split
   ·rename_i hb
    subst hb;unfold World.cell? at h;simp only[Array.getElem?_eq_getElem h2]at h;generalize w.heap[b]=x at *;cases x with
    | cells c elem fr=>
     dsimp only at h;simp only[Option.isSome_none,Bool.false_eq_true,if_false]
     congr 1
     have hl:o<c.size:=by
      rcases Nat.lt_or_ge o c.size with k|k
      ·exact k
      ·simp[Array.getElem?_eq_none k]at h
     rw[Array.setIfInBounds,dif_pos hl];apply Array.ext
     ·simp
     ·intro j h1 h2
      rw[Array.getElem_set];split
      ·rename_i e;subst e
       simp[hl]at h;exact h.symm
      ·rfl
    | _=>rfl
   ·rfl
 exact congrArg (fun h=>({ w with heap:=h }:World)) e
def bQ(w:World)(e:Ending)(w':World):Prop:=∃b,e=.returned (.bool b)∧Below w.heap.size w w'
theorem mT(nO nS nA nI:Nat)(o:Bool)(s a i id k n:Int)(w:World)(h1:Bx w nO 4 [.bool o])(h2:Bx w nS 3 [s])(h3:Bx w nA 3 [a])(h4:Bx w nI 3 [i]) :
  Calls Tryz.prog 87 #[id,k,n,.pointer (some ⟨nO,0,none⟩),.pointer (some ⟨nS,0,none⟩),.pointer (some ⟨nA,0,none⟩),.pointer (some ⟨nI,0,none⟩)] w (bQ w):=by
 have k1:=h1.c1;have k2:=h2.c1;have k3:=h3.c1;have k4:=h4.c1;clear h1 h2 h3 h4;have HB:=hid (Below.refl w.heap.size w);obtain⟨x1,e1⟩:∃x,(n==s)=x:=⟨_,rfl⟩;obtain⟨x2,e2⟩:∃x,decide (n<s)=x:=⟨_,rfl⟩;obtain⟨x3,e3⟩:∃x,decide (id<a)=x:=⟨_,rfl⟩;obtain⟨x4,e4⟩:∃x,(id==a)=x:=⟨_,rfl⟩;obtain⟨x5,e5⟩:∃x,decide (k<i)=x:=⟨_,rfl⟩;go_enter Tryz.func87,Tryz.ntmps87;cases o
 ·go_wp2_with fail
  go_ret;exact⟨_,rfl,HB.out⟩
 cases x1
 ·go_wp2_with fail
  go_ret;exact⟨_,rfl,HB.out⟩
 cases x3
 ·cases x4
  ·go_wp2_with fail
   go_ret;exact⟨_,rfl,HB.out⟩
  ·go_wp2_with fail
   go_ret;exact⟨_,rfl,HB.out⟩
 ·go_wp2_with fail
  go_ret;exact⟨_,rfl,HB.out⟩
structure LsM(w0 w:World)(nP:Nat)(cs:List Value)(n B N:Nat)(F:Int→Int→Prop)(f:Int→Option Value)(id ix sz:Int)(ok:Bool):Prop where
 mp:MapV Tryz.prog 3 w B N f
 tr:∀x v,f x=some v→v=.bool true
 pb:Bx w nP 26 cs
 ba:Bx w n 3 [id]
 bi:Bx w (n+1) 3 [ix]
 bs:Bx w (n+1+1) 3 [sz]
 bo:Bx w (n+1+1+1) 4 [.bool ok]
 fd:ok=true→F id ix
 hb:Below w0.heap.size w0 w
 lt:w0.heap.size≤nP∧nP<n∧n+1+1+1<B
theorem LsM.below{w0 w w':World}{nP:Nat}{cs:List Value}{n B N:Nat}{F:Int→Int→Prop}{f:Int→Option Value}{id ix sz:Int}{ok:Bool}(h:LsM w0 w nP cs n B N F f id ix sz ok)(hb:Below w.heap.size w w'):LsM w0 w' nP cs n B N F f id ix sz ok:=
 ⟨h.mp.below hb,h.tr,h.pb.below hb,h.ba.below hb,h.bi.below hb,h.bs.below hb,h.bo.below hb,h.fd,h.hb.trans (hb.mono h.hb.size),h.lt⟩
theorem LsM.mark{w0 w w':World}{nP:Nat}{cs:List Value}{n B N:Nat}{F:Int→Int→Prop}{f:Int→Option Value}{id ix sz:Int}{ok:Bool}(h:LsM w0 w nP cs n B N F f id ix sz ok){x:Int}{M:Nat}(hM:MapV Tryz.prog 3 w' B M (setV f x (.bool true)))(hg:w.grownBy w' (some B)) :
  LsM w0 w' nP cs n B M F (setV f x (.bool true)) id ix sz ok:=by
 obtain⟨l1,l2,l3⟩:=h.lt;have ne:∀q,q<B→(some B:Option Nat)≠some q:=fun q hq e=>by injection e;omega
 refine⟨hM,fun z v hz=>?_,h.pb.grown hg (ne _ (by omega)),h.ba.grown hg (ne _ (by omega)),h.bi.grown hg (ne _ (by omega)),h.bs.grown hg (ne _ (by omega)),h.bo.grown hg (ne _ (by omega)),h.fd,h.hb.grown hg h.hb.size (fun q e=>?_),h.lt⟩
 ·by_cases e:z=x
  ·subst e;rw[setV_same]at hz;injection hz with hz;exact hz.symm
  ·rw[setV_ne e]at hz;exact h.tr z v hz
 ·have e:B=q:=by injection e
  have:=h.mp.lt;have:=h.hb.size;omega
theorem LsM.more{w0 w:World}{nP:Nat}{cs:List Value}{n B N:Nat}{F:Int→Int→Prop}{f:Int→Option Value}{id ix sz:Int}{ok:Bool}(h:LsM w0 w nP cs n B N F f id ix sz ok):LsM w0 w nP cs n B (N+1) F f id ix sz ok:=
 ⟨h.mp.mono (Nat.le_succ _),h.tr,h.pb,h.ba,h.bi,h.bs,h.bo,h.fd,h.hb,h.lt⟩
theorem LsM.put{w0 w:World}{nP:Nat}{cs:List Value}{n B N:Nat}{F:Int→Int→Prop}{f:Int→Option Value}{id ix sz:Int}{ok:Bool}(h:LsM w0 w nP cs n B N F f id ix sz ok)(id' ix' sz':Int)(hF:F id' ix') :
  LsM w0 ((((w.setCell ⟨n,0,none⟩ (.int .i64 id')).setCell ⟨n+1,0,none⟩ (.int .i64 ix')).setCell ⟨n+1+1,0,none⟩ (.int .i64 sz')).setCell ⟨n+1+1+1,0,none⟩ (.bool true)) nP cs n B N F f id' ix' sz' true:=by
 obtain⟨l1,l2,l3⟩:=h.lt;refine⟨?_,h.tr,(((h.pb.other (by omega) _ _).other (by omega) _ _).other (by omega) _ _).other (by omega) _ _,(((h.ba.set 0 _).other (by omega) _ _).other (by omega) _ _).other (by omega) _ _,(((h.bi.other (by omega) _ _).set 0 _).other (by omega) _ _).other (by omega) _ _,(((h.bs.other (by omega) _ _).other (by omega) _ _).set 0 _).other (by omega) _ _,(((h.bo.other (by omega) _ _).other (by omega) _ _).other (by omega) _ _).set 0 _,fun _=>hF,?_,h.lt⟩
 ·have ne:∀q:Nat,q<B→(some B:Option Nat)≠some q:=fun q hq e=>by injection e;omega
  exact(((h.mp.kept (aj _ _ _) (ne n (by omega))).kept (aj _ _ _) (ne (n+1) (by omega))).kept (aj _ _ _) (ne (n+1+1) (by omega))).kept (aj _ _ _) (ne (n+1+1+1) (by omega))
 ·have a1:=h.ba.setB h.hb (by omega) 0 (.int .i64 id')
  have a2:=(h.bi.other (n:=n) (by omega) 0 (.int .i64 id')).setB a1 (by omega) 0 (.int .i64 ix');have a3:=((h.bs.other (n:=n) (by omega) 0 (.int .i64 id')).other (n:=n+1) (by omega) 0 (.int .i64 ix')).setB a2 (by omega) 0 (.int .i64 sz');exact(((h.bo.other (n:=n) (by omega) 0 (.int .i64 id')).other (n:=n+1) (by omega) 0 (.int .i64 ix')).other (n:=n+1+1) (by omega) 0 (.int .i64 sz')).setB a3 (by omega) 0 (.bool true)
theorem qX{w:World}{gp n:Nat}{path:List Pt}(h:RdR w (some ⟨gp,0,none⟩) path)(hq:∀q:Nat,q≤n+1+1+1→q≠gp)(v1 v2 v3 v4:Value) :
  RdR ((((w.setCell ⟨n,0,none⟩ v1).setCell ⟨n+1,0,none⟩ v2).setCell ⟨n+1+1,0,none⟩ v3).setCell ⟨n+1+1+1,0,none⟩ v4) (some ⟨gp,0,none⟩) path:=by
 have key:∀(W:World) (q:Nat) (v:Value),q≠gp→RdR W (some ⟨gp,0,none⟩) path→RdR (W.setCell ⟨q,0,none⟩ v) (some ⟨gp,0,none⟩) path:=by
  rintro W q v hne (h|⟨b,off,e,hl,hc⟩)
  ·exact .inl h
  ·injection e with e
   injection e with e1 e2;subst e1 e2;refine .inr ⟨gp,0,rfl,by simpa [World.setCell] using hl,fun j hj i u hu=>?_⟩;rw[World.cell?_setCell_other _ _ _ _ (by intro e;injection e with e _ _;exact hne (by first|exact e|exact e.symm))];exact hc j hj i u hu
 exact key _ _ _ (hq _ (by omega)) (key _ _ _ (hq _ (by omega)) (key _ _ _ (hq _ (by omega)) (key _ _ _ (hq _ (by omega)) h)))
theorem pU(w:World)(c:List Value)(F:Int→Int→Prop)(n:Nat)(hn:w.heap.size+1=n) :
  LsM w ((((((w.alloc (.cells c.toArray 26)).alloc (.cells #[.int .i64 0] 3)).alloc (.cells #[.int .i64 0] 3)).alloc (.cells #[.int .i64 0] 3)).alloc (.cells #[.bool false] 4)).alloc (.map #[] 0)) w.heap.size c n (n+1+1+1+1) 0 F (fun _=>none) 0 0 0 false:=by
 subst hn;have hmap:=MapV.made (P:=Tryz.prog) (k:=3) (((((w.alloc (.cells c.toArray 26)).alloc (.cells #[.int .i64 0] 3)).alloc (.cells #[.int .i64 0] 3)).alloc (.cells #[.int .i64 0] 3)).alloc (.cells #[.bool false] 4));refine⟨by simpa using hmap,(fun x v h=>by cases h),(((((Bx.newAt w rfl rfl).alloc _).alloc _).alloc _).alloc _).alloc _,((((Bx.newAt _ (by simp) rfl).alloc _).alloc _).alloc _).alloc _,(((Bx.newAt _ (by simp) rfl).alloc _).alloc _).alloc _,((Bx.newAt _ (by simp) rfl).alloc _).alloc _,(Bx.newAt _ (by simp) rfl).alloc _,(fun k=>by cases k),?_,by omega⟩;exact(((((bw1 w _).alloc (bw1 w _).size _).alloc (by simp;omega) _).alloc (by simp;omega) _).alloc (by simp;omega) _).alloc (by simp;omega) _
def LsF(p:Pn)(id ix:Int):Prop:=∃k i:Nat,k<p.arcs.length∧id=p.arcs[k]!.id∧ix=(i:Int)∧i<p.arcs[k]!.via.length∧FreeOK p p.arcs[k]! (pth p k)[i]! (pth p k)[i+1]! (pth p k)[i+2]!
def um(w:World)(F:Int→Int→Prop)(e:Ending)(w':World):Prop:=∃(id ix sz:Int) (ok:Bool),e=.returned (.tuple #[id,ix,sz,.bool ok])∧(ok=true→F id ix)∧Below w.heap.size w w'
theorem oY(p:Pn)(m:Mem)(tol:Int)(w:World)(hR:PlR w p m)(hC:CheckP p):Calls Tryz.prog 53 #[plV p m,tol] w (um w (LsF p)):=by
 have HA:=hid fun (k:Nat) (hk:k<p.arcs.length) W hb=>hR.arc (W:=W) hb hk
 have cPa:=hid fun id W (hb:Below w.heap.size w W)=>bJ p m id W (hR.below hb)
 have HCk:=hid hC;have hal:=hC.l2;have HPL:=hid (fun k (hk:k<p.arcs.length)=>(show(pth p k).length=p.arcs[k]!.via.length+2∧p.arcs[k]!.via.length≤64 from ⟨hC.pre.plen hk,hC.lv k hk⟩));have HNn:=hid (show ∀j,j<p.nodes.length→Nr p.nodes[j]!.2 from fun j hj=>iA (dT (hC.pre.pl.1 j hj)));have HNv:=hid (show ∀j,j<p.arcs.length→∀k,k<p.arcs[j]!.via.length→Nr p.arcs[j]!.via[k]! from fun j hj k hk=>iA (dT (hC.pre.pl.2 j hj k hk)));have cFr:=hid fun a A c path B d i W (hb:Below w.heap.size w W) h2 h3 h4 h5 h6=>qL p m a A c path B d i W (hR.below hb) h2 h3 h4 h5 HNn.out HNv.out h6
 have cTw:=hid gY;have HFd:=hid (show ∀k i:Nat,k<p.arcs.length→i<p.arcs[k]!.via.length→FreeOK p p.arcs[k]! (pth p k)[i]! (pth p k)[i+1]! (pth p k)[i+2]!→LsF p p.arcs[k]!.id i from fun k i h1 h2 h3=>⟨k,i,h1,rfl,rfl,h2,h3⟩);generalize LsF p=F at *;have hplV:plV p m=.agg #[.slice m.an p.nodes.length m.cn,.slice m.aa p.arcs.length m.ca,.slice m.af p.faces.length m.cf]:=rfl;rw[hplV]at cPa cFr ⊢;clear hR hC hplV HNn HNv;obtain⟨an,aa,af,cn,ca,cf,vs⟩:=m;dsimp only at *;obtain⟨n,hn⟩:∃n,w.heap.size+1=n:=⟨_,rfl⟩;have hst:=pU w [.slice an p.nodes.length cn,.slice aa p.arcs.length ca,.slice af p.faces.length cf] F n hn;have hmm:=@run_makeMap Tryz.prog
 have HID:=hid (show ∀k,k<p.arcs.length→(Lit.int .i64 p.arcs[k]!.id).wf=true from fun k hk=>by
  have:=HCk.out.ba k (by simpa using hk);rw[aN Ar.id hk]at this;unfold badN at this;simp only[Bool.or_eq_false_iff,decide_eq_false_iff_not]at this
  exact bz (by omega) (by omega))
 go_enter Tryz.func53,Tryz.ntmps53;go_upto_region 3 with fail;change LsM w ((((((w.alloc (.cells #[.slice an p.nodes.length cn,.slice aa p.arcs.length ca,.slice af p.faces.length cf] 26)).alloc (.cells #[.int .i64 0] 3)).alloc (.cells #[.int .i64 0] 3)).alloc (.cells #[.int .i64 0] 3)).alloc (.cells #[.bool false] 4)).alloc (.map #[] 0)) _ _ _ _ _ _ _ _ _ _ _ at hst;generalize (((((w.alloc (.cells #[.slice an p.nodes.length cn,.slice aa p.arcs.length ca,.slice af p.faces.length cf] 26)).alloc (.cells #[.int .i64 0] 3)).alloc (.cells #[.int .i64 0] 3)).alloc (.cells #[.int .i64 0] 3)).alloc (.cells #[.bool false] 4)).alloc (.map #[] 0)=w1 at *;clear hn;have HST:=hid hst;obtain⟨p0,p1,p2⟩:=hst.pb.c3;clear hst hmm;go_wp2_with fail;clear p0 p1 p2;go_loopw [11,12,13,14,15,21] (fun _ _ _ _ _ i wr=>∃(k:Nat) (f:Int→Option Value) (id ix sz:Int) (ok:Bool),k≤p.arcs.length∧i=.int .i64 k∧Hid (LsM w wr w.heap.size [.slice an p.nodes.length cn,.slice aa p.arcs.length ca,.slice af p.faces.length cf] n (n+1+1+1+1) k F f id ix sz ok)) (fun _ _ _ _ _ i _=>p.arcs.length-(intOf i).toNat)
 case atStart=>exact⟨0,_,_,_,_,_,by omega,rfl,HST⟩
 case round=>
  obtain⟨k,f,id,ix,sz,ok,hk,rfl,HLS⟩:=hrel
  by_cases hlt:k<p.arcs.length
  ·have hli:(k:Int)<(p.arcs.length:Int):=by omega
   obtain⟨b,off,A,c,rfl,hbl,a0,a1,a2,a3,a4,a5,_,_,_⟩:=HA.out k hlt wr HLS.out.hb;have hpk:=HCk.out.pre.path hlt;rw[←HCk.out.pre.pth hlt]at hpk;have HNP:=hid (show ∀j,j<(pth p k).length→Nr (pth p k)[j]! from fun j hj=>HCk.out.pre.ok.pr k hlt j hj);have HPL1:=hid (HPL.out k hlt);have cPk:=hid (cPa.out p.arcs[k]!.id);rw[hpk]at cPk;have hpne:pth p k≠[]:=fF hpk;have HFk:=hid fun i h1 h2=>HFd.out k i hlt h1 h2
   have hidw:=HID.out k hlt;generalize p.arcs[k]! = ar at *;obtain⟨arc,afr,ad,av,al,art⟩:=ar;dsimp only at a0 a1 a2 a3 a4 a5 cPk HFk HPL1 hidw;generalize pth p k=path at *;clear hpk;have hA:=Bx.new (t:=58) (cs:=[.int .i64 arc,.int .i64 afr,.int .i64 ad,.slice A av.length c,.int .i64 al,.int .i64 art]) wr rfl;have HL1:=hid (HLS.out.below (bw1 wr (.cells #[arc,afr,ad,.slice A av.length c,al,art] 58)));have HNB:=hid (show n+1+1+1+1<wr.heap.size from HLS.out.mp.lt);clear HLS;go_upto_region 6 with fail;generalize wr.alloc (.cells #[arc,afr,ad,.slice A av.length c,al,art] 58)=w4 at *;generalize wr.heap.size=nA at *;clear a0 a1 a2 a3 a4 a5;obtain⟨a0,_,_,_,_,_⟩:=hA.c6;have hm:=HL1.out.mp;obtain⟨v,hv⟩:∃v,(f arc).getD (.bool false)=v:=⟨_,rfl⟩
   have hvb:v=.bool true∨v=.bool false:=by
    cases e:f arc with
    | none=>rw[e]at hv;exact Or.inr hv.symm
    | some x=>rw[e]at hv;exact Or.inl (by rw[←hv];exact HL1.out.tr _ _ e)
   have HV:=hid hv;clear hv
   rcases hvb with rfl|rfl
   ·have HLm:=hid HL1.out.more
    go_wp2_with (at_lookup;refine MapV.look hm rfl _ _ rfl Tryz.underlying163 Tryz.underlying3 (Tryz.zeroValue4 _) rfl arc rfl hidw HV.out ?_);go_roundw
    case rel=>exact⟨k+1,_,_,_,_,_,by omega,by go_num,HLm⟩
    case measure=>simp[intOf];omega
   go_upto_region 7 with (at_lookup;refine MapV.look hm rfl _ _ rfl Tryz.underlying163 Tryz.underlying3 (Tryz.zeroValue4 _) rfl arc rfl hidw HV.out ?_);go_upto_region 8 with (at_mapUpdate;refine MapV.store hm rfl _ _ _ rfl Tryz.underlying163 Tryz.underlying3 rfl arc (.bool true) rfl rfl hidw (M:=k+1) (.inr (Nat.le_refl _)) (by unfold maxLen;omega) ?_;intro w5 hM5 hg5);have HL5:=hid (HL1.out.mark hM5 hg5);have hA5:=hA.grown hg5 (fun e=>by injection e with e;have:=HNB.out;omega);clear hm hM5 hg5 HL1 hA a0 HV;generalize setV f arc (.bool true)=f' at *;obtain⟨p0,p1,p2⟩:=HL5.out.pb.c3;obtain⟨a0,_,_,_,_,_⟩:=hA5.c6;go_wp2_with fail;refine(cPk.out _ HL5.out.hb).mono ?_;rintro e w6 ⟨vq,rfl,hO6,hb6⟩;obtain⟨gp,cp,rfl,hgp1,hgp2⟩:=aG hO6 hpne;have HL6:=hid (HL5.out.below hb6);have hA6:=hA5.below hb6;have HA6:=hid hA6;have HR6:=hid (show RdR w6 (some ⟨gp,0,none⟩) path from Own.rd encR_len hO6);have HGP:=hid (show n+1+1+1+1<gp from by have:=hA5.lt;have:=HNB.out;omega);clear p0 p1 p2 a0 hO6 hgp1 hgp2 hb6 HL5;obtain⟨_,_,_,a3,_,_⟩:=hA6.c6;clear hA6 hA5;go_wp2_with fail;clear a3;go_loopw [14,15,44] (fun _ _ i wr=>∃(j:Nat) (id ix sz:Int) (ok:Bool),j≤av.length∧i=.int .i64 j∧Hid (LsM w wr w.heap.size [.slice an p.nodes.length cn,.slice (some ⟨b,off,none⟩) p.arcs.length ca,.slice af p.faces.length cf] n (n+1+1+1+1) (k+1) F f' id ix sz ok)∧Hid (Bx wr nA 58 [arc,afr,ad,.slice A av.length c,al,art])∧Hid (RdR wr (some ⟨gp,0,none⟩) path)) (fun _ _ i _=>av.length-(intOf i).toNat)
   case atStart=>exact⟨0,_,_,_,_,by omega,rfl,HL6,HA6,HR6⟩
   case round=>
    clear HL6 HA6 HR6;obtain⟨j,id,ix,sz,ok,hj,rfl,HL,HX,HRP⟩:=hrel
    by_cases hlj:j<av.length
    ·have hlj2:(j:Int)<(av.length:Int):=by omega
     obtain⟨hpl1,hpl2⟩:=HPL1.out
     have HPP:=hid (show ∀W,Below wr.heap.size wr W→(W.cell? ⟨gp,j*2,none⟩=some (.int .i64 path[j]!.1)∧W.cell? ⟨gp,j*2+1,none⟩=some (.int .i64 path[j]!.2))∧(W.cell? ⟨gp,(j+1)*2,none⟩=some (.int .i64 path[j+1]!.1)∧W.cell? ⟨gp,(j+1)*2+1,none⟩=some (.int .i64 path[j+1]!.2))∧(W.cell? ⟨gp,(j+2)*2,none⟩=some (.int .i64 path[j+2]!.1)∧W.cell? ⟨gp,(j+2)*2+1,none⟩=some (.int .i64 path[j+2]!.2))from fun W hb=>by
      have g:∀q,q<path.length→W.cell? ⟨gp,q*2,none⟩=some (.int .i64 path[q]!.1)∧W.cell? ⟨gp,q*2+1,none⟩=some (.int .i64 path[q]!.2):=fun q hq=>by
       obtain⟨b',o',e,_,d0,d1⟩:=RdR.get HRP.out hb hq;injection e with e;injection e with e1 e2;subst e1 e2;rw[Nat.zero_add]at d0 d1;exact⟨d0,d1⟩
      exact⟨g j (by omega),g (j+1) (by omega),g (j+2) (by omega)⟩)
     have cTk:=hid fun W=>cTw.out path[j]! path[j+1]! path[j+2]! W (HNP.out _ (by omega)) (HNP.out _ (by omega)) (HNP.out _ (by omega))
     have cFk:=hid fun W (hb:Below w.heap.size w W) (hR:RdR W (some ⟨gp,0,none⟩) path)=>cFr.out ⟨arc,afr,ad,av,al,art⟩ A c path (some ⟨gp,0,none⟩) cp j W hb hR (by omega) (by omega) HNP.out (by show av.length≤1000000;omega)
     have HFj:=hid fun h=>HFk.out j hlj h
     generalize FreeOK p ⟨arc,afr,ad,av,al,art⟩ path[j]! path[j+1]! path[j+2]! = Q at *;generalize path[j]! = x at *;generalize path[j+1]! = y at *;generalize path[j+2]! = z at *;have hp2:(path.length:Int)=(av.length:Int)+2:=by omega
     have j1:(j:Int)<(path.length:Int):=by omega
     have j2:(j:Int)+1<(path.length:Int):=by omega
     have j3:(j:Int)+2<(path.length:Int):=by omega
     have j4:(0:Int)≤(j:Int)+1:=by omega
     have j5:(0:Int)≤(j:Int)+2:=by omega
     have j7:=IntWalk.i64_in ((j:Int)+1) (by omega);have j8:=IntWalk.i64_in ((j:Int)+2) (by omega);obtain⟨xx,xy⟩:=x;obtain⟨yx,yy⟩:=y;obtain⟨zx,zy⟩:=z;unfold ae at cTk;dsimp only at HPP cTk;generalize tw (xx,xy) (yx,yy) (zx,zy)=tv at *;clear hp2 hpl1 hpl2;go_upto_region 13 with fail;have hS1:(fun W:World=>Below wr.heap.size wr W) wr.drew:=(Below.refl _ _).drew;refine wp_region_held_drew (S:=(fun W:World=>Below wr.heap.size wr W)) (by kernel_rfl) hS1 (fun hHeld=>?_);clear hHeld;generalize hwd:wr.drew=wd at *;clear hwd;refine kk 0 rfl ?_;refine kk 1 rfl ?_;refine kk 2 rfl ?_;refine kk 3 (hy:=by intro W hSw;have j9:((j:Int)+2).toNat=j+2:=(by omega);obtain⟨d0,d1⟩:=(HPP.out W hSw).1;clear hSw;go_simp;try with_reducible rfl) rfl ?_
     refine kk 4 rfl ?_;refine kk 5 rfl ?_;refine kk 6 rfl ?_;refine kk 7 rfl ?_;refine kk 8 (hy:=by intro W hSw;have j9:((j:Int)+2).toNat=j+2:=(by omega);obtain⟨d0,d1⟩:=(HPP.out W hSw).2.1;clear hSw;go_simp;try with_reducible rfl) rfl ?_
     refine kk 9 rfl ?_;refine kk 10 rfl ?_;refine kk 11 rfl ?_;refine kk 12 rfl ?_;refine kk 13 (hy:=by intro W hSw;have j9:((j:Int)+2).toNat=j+2:=(by omega);obtain⟨d0,d1⟩:=(HPP.out W hSw).2.2;clear hSw;go_simp;try with_reducible rfl) rfl ?_
     refine kr 14 rfl fun K hK=>?_
     go_simp;go_at_call 88;refine(cTk.out _).mono ?_;rintro e Wra1 ⟨rfl,hbWra1⟩;have hSWra1:=hS1.trans (hbWra1.mono hS1.size)
     try clear hS1
     clear hbWra1;go_wp2_with fail;refine hK.out _ _ hSWra1 (fun hHeld=>?_);clear hK hHeld K
     try simp only[Act.put,sa,sz,ss]
     refine kk 15 rfl ?_;refine wpAnyH_done (by kernel_rfl) ?_ _;have HW:=hid hSWra1;clear hSWra1;generalize Wra1=w7 at *;clear j1 j2 j3 j4 j5 j8;go_upto_region 15 with fail;generalize max tv _=sv at *;have HL7:=hid (HL.out.below HW.out);have HX7:=hid (HX.out.below HW.out);have HR7:=hid (HRP.out.below HW.out);clear HL HX HRP HW HPP cTk;obtain⟨y1,hy1⟩:∃y,decide (sv<tol)=y:=⟨_,rfl⟩;cases y1
     ·go_wp2_with fail
      go_roundw
      case rel=>exact⟨j+1,_,_,_,_,by omega,by go_num,HL7,HX7,HR7⟩
      case measure=>simp[intOf];omega
     obtain⟨a0,a1,a2,a3,a4,a5⟩:=HX7.out.c6;go_wp2_with fail;refine(mT (n+1+1+1) (n+1+1) n (n+1) ok sz id ix arc j sv _ HL7.out.bo HL7.out.bs HL7.out.ba HL7.out.bi).mono ?_;rintro e w8 ⟨bb,rfl,hb8⟩;have HL8:=hid (HL7.out.below hb8);have HX8:=hid (HX7.out.below hb8);have HR8:=hid (HR7.out.below hb8);clear a0 a1 a2 a3 a4 a5 hb8 HL7 HX7 HR7;cases bb
     ·go_wp2_with fail
      go_roundw
      case rel=>exact⟨j+1,_,_,_,_,by omega,by go_num,HL8,HX8,HR8⟩
      case measure=>simp[intOf];omega
     obtain⟨a0,a1,a2,a3,a4,a5⟩:=HX8.out.c6;obtain⟨p0,p1,p2⟩:=HL8.out.pb.c3;go_wp2_with fail;refine(cFk.out _ HL8.out.hb HR8.out).mono ?_;rintro e w9 ⟨r,rfl,hf,hb9⟩;have HL9:=hid (HL8.out.below hb9);have HX9:=hid (HX8.out.below hb9);have HR9:=hid (HR8.out.below hb9);have HQ:=hid hf;clear a0 a1 a2 a3 a4 a5 p0 p1 p2 hf hb9 HL8 HX8 HR8;cases r
     ·go_wp2_with fail
      go_roundw
      case rel=>exact⟨j+1,_,_,_,_,by omega,by go_num,HL9,HX9,HR9⟩
      case measure=>simp[intOf];omega
     have HLp:=hid (HL9.out.put arc j sv (HFj.out (HQ.out rfl)));have HXp:=hid ((((HX9.out.other (n:=n) (by have:=HNB.out;omega) 0 (.int .i64 arc)).other (n:=n+1) (by have:=HNB.out;omega) 0 (.int .i64 j)).other (n:=n+1+1) (by have:=HNB.out;omega) 0 (.int .i64 sv)).other (n:=n+1+1+1) (by have:=HNB.out;omega) 0 (.bool true));have HRp:=hid (qX HR9.out (fun q hq=>by have:=HGP.out;omega) (n:=n) (.int .i64 arc) (.int .i64 j) (.int .i64 sv) (.bool true));have a0:=HX9.out.cell 0;have e0:=HL9.out.ba.c1;have e1:=HL9.out.ba.frozen 0;have e2:=HL9.out.ba.lt;have f0:=HL9.out.bi.c1;have f1:=HL9.out.bi.frozen 0;have f2:=HL9.out.bi.lt;have g0:=HL9.out.bs.c1;have g1:=HL9.out.bs.frozen 0;have g2:=HL9.out.bs.lt;have h0:=HL9.out.bo.c1;have h1:=HL9.out.bo.frozen 0;have h2:=HL9.out.bo.lt;simp only[gz]at a0;go_wp2_with fail;go_roundw
     case rel=>exact⟨j+1,_,_,_,_,by omega,by go_num,HLp,HXp,HRp⟩
     case measure=>simp[intOf];omega
    ·obtain rfl:av.length=j:=by omega
     have hge:¬((av.length:Int)<(av.length:Int)):=by omega
     go_wp2_with fail;go_roundw
     case rel=>exact⟨k+1,_,_,_,_,_,by omega,by go_num,HL⟩
     case measure=>simp[intOf];omega
  ·obtain rfl:p.arcs.length=k:=by omega
   have hge:¬((p.arcs.length:Int)<(p.arcs.length:Int)):=by omega
   go_upto_region 19 with fail;have HLE:=hid (HLS.out.below (Below.refl _ _).drew);refine wp_region_held_drew (S:=(fun W:World=>W=wr.drew)) (by kernel_rfl) rfl (fun hHeld=>?_);clear hHeld;generalize wr.drew=wd at *;have hS1:(fun W:World=>W=wd) wd:=rfl;refine kk 0 (hy:=by intro W hSw;cases hSw;have d0:=HLE.out.ba.c1;(try dsimp only at hSw);go_simp;try with_reducible rfl) rfl ?_
   refine kk 1 (hy:=by intro W hSw;cases hSw;have d0:=HLE.out.bi.c1;(try dsimp only at hSw);go_simp;try with_reducible rfl) rfl ?_
   refine kk 2 (hy:=by intro W hSw;cases hSw;have d0:=HLE.out.bs.c1;(try dsimp only at hSw);go_simp;try with_reducible rfl) rfl ?_
   refine kk 3 (hy:=by intro W hSw;cases hSw;have d0:=HLE.out.bo.c1;(try dsimp only at hSw);go_simp;try with_reducible rfl) rfl ?_
   refine kr 4 rfl fun K hK=>?_
   have k1:=HLE.out.ba.c1;have q1:=HLE.out.ba.frozen 0;have l1:=HLE.out.ba.lt;go_simp;rw[ac k1];clear k1 q1 l1;refine hK.out _ _ hS1 (fun hHeld=>?_);clear hK hHeld K
   try simp only[Act.put,sa,sz,ss]
   refine kr 5 rfl fun K hK=>?_
   have k1:=HLE.out.bi.c1;have q1:=HLE.out.bi.frozen 0;have l1:=HLE.out.bi.lt;go_simp;rw[ac k1];clear k1 q1 l1;refine hK.out _ _ hS1 (fun hHeld=>?_);clear hK hHeld K
   try simp only[Act.put,sa,sz,ss]
   refine kr 6 rfl fun K hK=>?_
   have k1:=HLE.out.bs.c1;have q1:=HLE.out.bs.frozen 0;have l1:=HLE.out.bs.lt;go_simp;rw[ac k1];clear k1 q1 l1;refine hK.out _ _ hS1 (fun hHeld=>?_);clear hK hHeld K
   try simp only[Act.put,sa,sz,ss]
   refine kr 7 rfl fun K hK=>?_
   have k1:=HLE.out.bo.c1;have q1:=HLE.out.bo.frozen 0;have l1:=HLE.out.bo.lt;go_simp;rw[ac k1];clear k1 q1 l1;refine hK.out _ _ hS1 (fun hHeld=>?_);clear hK hHeld K
   try simp only[Act.put,sa,sz,ss]
   refine wpAnyH_done (by kernel_rfl) ?_ _;go_wp2_with fail;have e0:=HLE.out.ba.c1;have f0:=HLE.out.bi.c1;have g0:=HLE.out.bs.c1;have h0:=HLE.out.bo.c1;refine bodyPost_ret (v:=.tuple #[id,ix,sz,.bool ok]) (by simp[results,Tryz.results53,go_sem,e0,f0,g0,h0]) rfl ?_;exact⟨_,_,_,_,rfl,HLE.out.fd,HLE.out.hb⟩
end Go.Proofs
namespace Go.Proofs
open Go.RowKit Go.Proofs.Mp Go.Lib
theorem Tryz.wpAr{w:World}{base:Nat}{v:Value}{xs:List AV}{o:Oper}{a:Act}{K:Act→World→Prop}{Q:Exit→Act→World→Prop}
  (hown:Own 58 6 encA w base v xs)(y:AV){A:Option Addr}{nA cA:Nat}(hy:y.2=.slice A nA cA)(s x:Operand)
  (ho:o.op=.call { callee:=.builtin .append,args:=#[s,x],argTypes:=#[23,23] })(hs:a.eval s=v)(hx:a.eval x=.slice (some ⟨w.heap.size,0,none⟩) 1 1)
  (hN:xs.length+1≤1000000000)(hbase:base≤w.heap.size)
  (h:∀v' w',Own 58 6 encA w' base v' (xs++[y])→w.grownBy w' v.ownBlock→(v'.ownBlock=v.ownBlock∨∃j,v'.ownBlock=some j∧w.heap.size≤j)→K (a.put o.dst v') w') :
  o.wp Tryz.prog a (w.alloc (.cells (encA y).toArray 58)) K Q:=by
 obtain⟨i0,hi0,hz0,hz1,hz2⟩:=Mp.info_parts Tryz.infoA
 exact Own.wpAt 23 i0 (.agg #[.int .i64 0,.int .i64 0,.int .i64 0,.slice none 0 0,.int .i64 0,.int .i64 0]) 64 Tryz.underlying23 hi0 hz0 hz1 hz2 rfl (by decide) (by decide) fM y (by
  intro u hu;simp only[encA,List.mem_cons,List.not_mem_nil,or_false]at hu
  rcases hu with rfl|rfl|rfl|rfl|rfl|rfl
  ·rfl
  ·rfl
  ·rfl
  ·rw[hy];rfl
  ·rfl
  ·rfl) s x ho hown hs hx (by omega) hbase h
theorem Bld.mono{w:World}{base b:Nat}{vn va vf:Value}{N:List Nd}{L:List AV}{F:List Int}(h:Bld w base vn va vf N L F)(hb:b≤base):Bld w b vn va vf N L F:=
 ⟨h.nd.mono hb,h.ar.mono hb,h.fc.mono hb,fun y hy=>(h.vi y hy).mono hb,h.inj⟩
def uk(w:World)(p:Pn)(e:Ending)(w':World):Prop:=∃(vn va vf:Value) (L:List AV),e=.returned (.agg #[vn,va,vf])∧L.map Prod.fst=p.arcs∧Bld w' w.heap.size vn va vf p.nodes L p.faces∧Below w.heap.size w w'
theorem oZ(p:Pn)(m:Mem)(w:World)(hR:PlR w p m):Calls Tryz.prog 21 #[plV p m] w (uk w p):=by
 have HA:=hid fun (k:Nat) (hk:k<p.arcs.length) W hb=>hR.arc (W:=W) hb hk
 have hal:=hR.few.a;have HFV:=hid hR.few.v;have cN:=hid fun W (hb:Below w.heap.size w W)=>rW m.an m.cn p.nodes W (by have:=hR.few.n;omega) (hR.nd.below hb)
 have cF:=hid fun W (hb:Below w.heap.size w W)=>mF m.af m.cf p.faces W (by have:=hR.few.f;omega) (hR.fc.below hb)
 have cV:=hid fun A c (l:List Pt) W (hl:l.length≤100000) (h:RdR W A l)=>mE A c l W (by omega) h
 have hplV:plV p m=.agg #[.slice m.an p.nodes.length m.cn,.slice m.aa p.arcs.length m.ca,.slice m.af p.faces.length m.cf]:=rfl;rw[hplV];clear hR hplV;obtain⟨an,aa,af,cn,ca,cf,vs⟩:=m;dsimp only at *;have ha:=(Bx.new (t:=26) (cs:=[.slice an p.nodes.length cn,.slice aa p.arcs.length ca,.slice af p.faces.length cf]) w rfl).alloc (.cells #[.slice none 0 0,.slice none 0 0,.slice none 0 0] 26);have hx:=Bx.newAt (b:=w.heap.size+1) (t:=26) (cs:=[.slice none 0 0,.slice none 0 0,.slice none 0 0]) (c:=#[.slice none 0 0,.slice none 0 0,.slice none 0 0]) (w.alloc (.cells #[.slice an p.nodes.length cn,.slice aa p.arcs.length ca,.slice af p.faces.length cf] 26)) (by simp) rfl;have hw:=(bw1 w (.cells #[.slice an p.nodes.length cn,.slice aa p.arcs.length ca,.slice af p.faces.length cf] 26)).alloc (bw1 _ _).size (.cells #[.slice none 0 0,.slice none 0 0,.slice none 0 0] 26);go_enter Tryz.func21,Tryz.ntmps21;go_upto_region 1 with fail;change Bx ((w.alloc (.cells #[.slice an p.nodes.length cn,.slice aa p.arcs.length ca,.slice af p.faces.length cf] 26)).alloc (.cells #[.slice none 0 0,.slice none 0 0,.slice none 0 0] 26)) _ _ _ at ha;generalize (w.alloc (.cells #[.slice an p.nodes.length cn,.slice aa p.arcs.length ca,.slice af p.faces.length cf] 26)).alloc (.cells #[.slice none 0 0,.slice none 0 0,.slice none 0 0] 26)=w0 at *;obtain⟨n,hn⟩:∃n,w.heap.size+1=n:=⟨_,rfl⟩;have HNN:=hid hn;rw[hn]at hx ⊢;clear hn;obtain⟨a0,a1,a2⟩:=ha.c3;obtain⟨x0,x1,x2⟩:=hx.c3;have HA0:=hid (And.intro ha hx);have HW0:=hid hw;clear ha hx hw;go_wp2_with fail;refine(cN.out _ HW0.out).mono ?_;rintro e w1 ⟨vn,rfl,hoN,hb1⟩;obtain⟨An,c1n,rfl⟩:=Own.slice hoN;have HW1:=hid (HW0.out.trans (hb1.mono HW0.out.size));have hx1:=HA0.out.2.below hb1;have ha1:=HA0.out.1.below hb1;obtain⟨y0,y1,y2⟩:=hx1.c3;have q0:=hx1.frozen 0;have l0:=hx1.lt;have HNl:=hid (show n+1≤w0.heap.size from HA0.out.2.lt)
 have HB2:=hid (show Bld (w1.setCell ⟨n,0,none⟩ (.slice An p.nodes.length c1n)) (n+1) (.slice An p.nodes.length c1n) (.slice none 0 0) (.slice none 0 0) p.nodes [] [] from
  Bld.cell ⟨hoN.mono HNl.out,Own.nil _ _,Own.nil _ _,fun y hy=>(by cases hy),fun i j g hij hi hj=>by
   match i,j,hij,hi,hj with
   | 0,0,h,_,_=>exact h rfl
   | 0,1,_,_,e=>cases e
   | 0,2,_,_,e=>cases e
   | 0,j+3,_,_,e=>cases e
   | 1,_,_,e,_=>cases e
   | 2,_,_,e,_=>cases e
   | i+3,_,_,e,_=>cases e⟩ (Nat.lt_succ_self n) (.slice An p.nodes.length c1n))
 have HX2:=hid (show Bx (w1.setCell ⟨n,0,none⟩ (.slice An p.nodes.length c1n)) n 26 [.slice An p.nodes.length c1n,.slice none 0 0,.slice none 0 0] from hx1.set 0 (.slice An p.nodes.length c1n));have HP2:=hid (ha1.other (n:=n) (by have:=HNN.out;omega) 0 (.slice An p.nodes.length c1n));have HW2:=hid (hx1.setB HW1.out (by have:=HNN.out;omega) 0 (.slice An p.nodes.length c1n));clear a0 a1 a2 x0 x1 x2 hoN hb1 hx1 ha1 HA0;go_upto_region 2 with fail;clear y0 y1 y2 q0 l0;generalize w1.setCell ⟨n,0,none⟩ (.slice An p.nodes.length c1n)=w2 at *;obtain⟨_,a1,_⟩:=HP2.out.c3;go_wp2_with fail;clear a1;go_loopw [4,12] (fun _ i wr=>∃(k:Nat) (va:Value) (L:List AV),k≤p.arcs.length∧i=.int .i64 k∧Hid (L.map Prod.fst=p.arcs.take k)∧Hid (Bld wr (n+1) (.slice An p.nodes.length c1n) va (.slice none 0 0) p.nodes L [])∧Hid (Bx wr n 26 [.slice An p.nodes.length c1n,va,.slice none 0 0])∧Hid (Bx wr w.heap.size 26 [.slice an p.nodes.length cn,.slice aa p.arcs.length ca,.slice af p.faces.length cf])∧Hid (Below w.heap.size w wr)) (fun _ i _=>p.arcs.length-(intOf i).toNat)
 case atStart=>exact⟨0,_,[],by omega,rfl,hid rfl,HB2,HX2,HP2,HW2⟩
 case round=>
  clear HB2 HX2 HP2 HW2 HW1 HW0;obtain⟨k,va,L,hk,rfl,HL,HB,HX,HP,HW⟩:=hrel
  by_cases hlt:k<p.arcs.length
  ·have hli:(k:Int)<(p.arcs.length:Int):=by omega
   obtain⟨b,off,A,c,rfl,hbl,a0,a1,a2,a3,a4,a5,hvr,_,_⟩:=HA.out k hlt wr HW.out;have HT:=hid (show p.arcs.take (k+1)=p.arcs.take k++[p.arcs[k]!] from by rw[List.take_succ_eq_append_getElem hlt,getElem!_pos p.arcs k hlt]);have hvl:=HFV.out k hlt
   have HLL:=hid (show L.length≤100000 from by
    have:=congrArg List.length HL.out;rw[List.length_map,List.length_take]at this
    omega)
   generalize p.arcs[k]! = ar at *;obtain⟨ri,rf,rd,rv,rl,rr⟩:=ar;dsimp only at a0 a1 a2 a3 a4 a5 hvr hvl;have hA:=Bx.new (t:=58) (cs:=[.int .i64 ri,.int .i64 rf,.int .i64 rd,.slice A rv.length c,.int .i64 rl,.int .i64 rr]) wr rfl;have hwA:=bw1 wr (.cells #[ri,rf,rd,.slice A rv.length c,rl,rr] 58);have HBA:=hid (HB.out.below hwA);have HXA:=hid (HX.out.below hwA);have HPA:=hid (HP.out.below hwA);have HWA:=hid (HW.out.trans (hwA.mono HW.out.size));have HRV:=hid (show RdR _ A rv from hvr.below hwA);have HNA:=hid (show n+1≤wr.heap.size from HX.out.lt);have HNR:=hid (show ∀i g,bN _ va _ L i=some g→g<wr.heap.size from fun i g e=>(HB.out.lt i g e).2);clear hvr HB HX HP HW hwA;go_upto_region 5 with fail;generalize wr.alloc (.cells #[ri,rf,rd,.slice A rv.length c,rl,rr] 58)=w4 at *;generalize wr.heap.size=nA at *;clear a0 a1 a2 a3 a4 a5;obtain⟨_,_,_,a3,_,_⟩:=hA.c6;go_wp2_with fail;refine(cV.out A c rv _ hvl HRV.out).mono ?_;rintro e w5 ⟨v,rfl,hoV,hb5⟩;obtain⟨Av,cv,rfl⟩:=Own.slice hoV;have hA5:=hA.below hb5;obtain⟨z0,z1,z2,z3,z4,z5⟩:=hA5.c6;have q3:=hA5.frozen 3;have l3:=hA5.lt;have HNW:=hid (show nA<w4.heap.size from hA.lt)
   have HB6:=hid ((HBA.out.below hb5).keep (aj w5 ⟨nA,3,none⟩ (.slice Av rv.length cv)) (fun i g e e2=>by
    have e2:nA=g:=by injection e2
    have:=HNR.out i g e
    omega))
   have HV6:=hid (show Own 30 2 encR (w5.setCell ⟨nA,3,none⟩ (.slice Av rv.length cv)) w4.heap.size (.slice Av rv.length cv) rv from World.ownsRow.kept hoV (aj _ _ _) (by
    rcases hb:(Value.slice Av rv.length cv).ownBlock with _|j
    ·exact .inl rfl
    ·refine .inr fun e=>?_
     have e:j=nA:=by injection e
     have:=(World.ownsRow.lt hoV j hb).1;have:=HNW.out
     omega))
   have HX6:=hid (((HXA.out.below hb5).other (n:=nA) (by have:=HNA.out;omega) 3 (.slice Av rv.length cv)));have HP6:=hid (((HPA.out.below hb5).other (n:=nA) (by have:=HNA.out;have:=HNN.out;omega) 3 (.slice Av rv.length cv)));have HW6:=hid (hA5.setB (HWA.out.trans (hb5.mono HWA.out.size)) (by have:=HNA.out;have:=HNN.out;omega) 3 (.slice Av rv.length cv));have HA6:=hid (hA5.set 3 (.slice Av rv.length cv));have HZ6:=hid (show w4.heap.size≤(w5.setCell ⟨nA,3,none⟩ (.slice Av rv.length cv)).heap.size from by have:=hb5.size;simpa [World.setCell] using this)
   clear hA hA5 hb5 hoV a3 HBA HXA HPA HWA;obtain⟨A2,c2,rfl⟩:=Own.slice HB6.out.ar;go_upto_region 6 with fail;clear z0 z1 z2 z3 z4 z5 q3 l3;generalize w5.setCell ⟨nA,3,none⟩ (.slice Av rv.length cv)=w6 at *;obtain⟨z0,z1,z2,z3,z4,z5⟩:=HA6.out.c6;change w6.cell? ⟨nA,3,none⟩=some (.slice Av rv.length cv)at z3;obtain⟨x0,x1,x2⟩:=HX6.out.c3;have hN:L.length+1≤1000000000:=by have:=HLL.out;omega
   have hbs:n+1≤w6.heap.size:=by have:=HNA.out;have:=HNW.out;have:=HZ6.out;omega
   have hown:=HB6.out.ar;go_wp2_with (at_builtin;refine wpList_plain rfl fun K' hK'=>Tryz.wpAr hown (⟨ri,rf,rd,rv,rl,rr⟩,.slice Av rv.length cv) rfl _ _ rfl rfl rfl hN hbs ?_;intro v9 w9 hO9 hg9 hl9;refine hK' _ _ ?_;obtain⟨A9,c9,rfl⟩:=Own.slice hO9;clear hK';have hx9:=HX6.out.grown hg9 (fun e=>by have:=World.ownsRow.lt HB6.out.ar n e;omega);obtain⟨f0,f1,f2⟩:=hx9.c3;have f3:=hx9.frozen 1;have f4:=hx9.lt)
   have hfr:∀g,(Value.slice Av rv.length cv).ownBlock=some g→∀i,bN _ _ _ L i≠some g:=fun g e i e2=>by
    have h1:=(World.ownsRow.lt HV6.out g e).1;have h2:=HNR.out i g e2;have h3:=HNW.out;omega
   have hv6:Own 30 2 encR w6 (n+1) (.slice Av rv.length cv) rv:=HV6.out.mono (by have:=HNA.out;have:=HNW.out;omega);have hlen:(L++[((⟨ri,rf,rd,rv,rl,rr⟩:Ar),Value.slice Av rv.length cv)]).length=L.length+1:=by simp
   have hB9:=HB6.out.arc (y:=(⟨ri,rf,rd,rv,rl,rr⟩,.slice Av rv.length cv)) hv6 hfr hO9 hg9 hl9;rw[hlen]at hB9;have hown9:=World.ownsRow.lt HB6.out.ar;have hW9:Below w.heap.size w w9:=HW6.out.grown hg9 HW6.out.size (fun j e=>by have:=(hown9 j e).1;have:=HNN.out;omega);have hP9:=HP6.out.grown hg9 (fun e=>by have:=(hown9 _ e).1;have:=HNN.out;omega);have HLk:=hid (show(L++[((⟨ri,rf,rd,rv,rl,rr⟩:Ar),Value.slice Av rv.length cv)]).map Prod.fst=p.arcs.take (k+1)from by rw[List.map_append,HL.out,HT.out];rfl);go_roundw
   case rel=>exact⟨k+1,_,_,by omega,by go_num,HLk,hid (hB9.cell (Nat.lt_succ_self n) _),hid (hx9.set 1 _),hid (hP9.other (by have:=HNN.out;omega) 1 _),hid (hx9.setB hW9 (by have:=HNN.out;omega) 1 _)⟩
   case measure=>simp[intOf];omega
  ·obtain rfl:p.arcs.length=k:=by omega
   have hge:¬((p.arcs.length:Int)<(p.arcs.length:Int)):=by omega
   have HLe:=hid (show L.map Prod.fst=p.arcs from by rw[HL.out,List.take_length]);obtain⟨_,_,a2⟩:=HP.out.c3;go_wp2_with fail;refine(cF.out _ HW.out).mono ?_;rintro e w8 ⟨vf,rfl,hoF,hb8⟩;obtain⟨A8,c8,rfl⟩:=Own.slice hoF;obtain⟨A2,c2,rfl⟩:=Own.slice HB.out.ar;have hx8:=HX.out.below hb8;have HX8:=hid (hx8.set 2 (.slice A8 p.faces.length c8));have HB8:=hid ((HB.out.faces (w':=w8) (b:=wr.heap.size) HX.out.lt hoF hb8 (Nat.le_refl _)).cell (Nat.lt_succ_self n) (o:=2) (.slice A8 p.faces.length c8));have HW8:=hid (hx8.setB (HW.out.trans (hb8.mono HW.out.size)) (by have:=HNN.out;omega) 2 (.slice A8 p.faces.length c8));obtain⟨f0,f1,f2⟩:=hx8.c3;have f3:=hx8.frozen 2;have f4:=hx8.lt;clear a2 hoF hb8 hx8;go_upto_region 9 with fail;clear f0 f1 f2 f3 f4;generalize w8.setCell ⟨n,2,none⟩ (.slice A8 p.faces.length c8)=w9 at *;have hx9:=HX8.out;change Bx w9 n 26 [.slice An p.nodes.length c1n,.slice A2 L.length c2,.slice A8 p.faces.length c8]at hx9;obtain⟨f0,f1,f2⟩:=hx9.c3;have g0:=hx9.frozen 0;have g1:=hx9.frozen 1;have g2:=hx9.frozen 2;have g4:=hx9.lt;go_wp2_with fail;rw[ac f0,ac f1,ac f2];refine bodyPost_ret (v:=.agg #[.slice An p.nodes.length c1n,.slice A2 L.length c2,.slice A8 p.faces.length c8]) (by simp[results,Tryz.results21,go_sem,f0,f1,f2]) rfl ?_;exact⟨_,_,_,L,rfl,HLe.out,HB8.out.mono (by have:=HNN.out;omega),HW8.out⟩
end Go.Proofs
namespace Go.Proofs
open Go.RowKit Go.Proofs.Mp Go.Lib
abbrev pnO(N:List Nd)(L:List AV)(F:List Int):Pn:=⟨N,L.map Prod.fst,F⟩
def tot(L:List AV):Nat:=(L.map fun y=>y.1.via.length).sum
theorem qH{L:List AV}{k:Nat}(hk:k<L.length){y:AV}(h:y.1.via.length<L[k]!.1.via.length):tot (L.set k y)<tot L:=by
 unfold tot;rw[getElem!_pos L k hk]at h
 induction L generalizing k with
 | nil=>cases hk
 | cons z l ih=>
  cases k with
  | zero=>
   simp only[sz,List.map_cons,List.sum_cons,List.getElem_cons_zero]at *;omega
  | succ k=>
   simp only[ss,List.map_cons,List.sum_cons,List.getElem_cons_succ]at *;have:=ih (k:=k) (by simpa using hk) h;omega
theorem qZ{N:List Nd}{L:List AV}{F:List Int}{k i:Nat}(hk:k<L.length)(v:Value):pnO N (L.set k (fO L[k]!.1 i,v)) F=aK (pnO N L F) k i:=by
 unfold aK pnO;rw[List.map_set];dsimp only;rw[aN Prod.fst hk]
theorem jB{p:Pn}(h:CheckP p):Few p:=⟨by have:=h.l1;omega,by have:=h.l2;omega,by have:=h.l3;omega,fun i hi=>by have:=h.lv i hi;omega⟩
def RetSt(w:World)(B:Nat)(vn va vf:Value)(N:List Nd)(L:List AV)(F:List Int)(e:Ending)(w':World):Prop:=
 ∃r:Bool,e=.returned (.bool r)∧Below B w w'∧∃L',PlO w' B vn va vf N L' F∧CheckP (pnO N L' F)∧(r=true→tot L'<tot L)
theorem qJ(N:List Nd)(L:List AV)(F:List Int)(vn va vf:Value)(B:Nat)(tol:Int)(w:World)(hB:B≤w.heap.size)(hP:PlO w B vn va vf N L F)(hC:CheckP (pnO N L F)) :
  Calls Tryz.prog 22 #[.agg #[vn,va,vf],.int .i64 tol] w (RetSt w B vn va vf N L F):=by
 have hw:=bw1 w (.cells #[vn,va,vf] 26);have hX:=Bx.new (t:=26) (cs:=[vn,va,vf]) w rfl;have HP1:=hid (hP.below hw);have HCk:=hid hC;have HB:=hid hB;have HP0:=hid hP
 have mk:∀W,Below w.heap.size w W→∃m:Mem,plV (pnO N L F) m=.agg #[vn,va,vf]∧PlR W (pnO N L F) m:=fun W hb=>by
  obtain⟨m,_,h1,h2⟩:=(hP.below hb).pl (jB hC);exact⟨m,h1,h2⟩
 have MK:=hid mk;clear mk hP hC hB;go_enter Tryz.func22,Tryz.ntmps22;go_upto_region 1 with fail;generalize w.alloc (.cells #[vn,va,vf] 26)=w1 at *;obtain⟨n,hn⟩:∃n,w.heap.size=n:=⟨_,rfl⟩;rw[hn]at hX ⊢;have HN:=hid hn;clear hn;obtain⟨An,cn,en,hn1,hn2⟩:=HP0.out.nd;obtain⟨Af,cf,ef,hf1,hf2⟩:=HP0.out.fc;obtain⟨Aa,ca,ea,ha1,ha2,ha3⟩:=HP0.out.ar;have HAA:=hid (And.intro ha2 ha3);clear hn1 hn2 hf1 hf2 ha1 ha2 ha3;subst en ef ea;obtain⟨k0,k1,k2⟩:=hX.c3;obtain⟨m,hm1,hm2⟩:=MK.out w1 hw;have cL:=hid (oY (pnO N L F) m tol w1 hm2 HCk.out);rw[hm1]at cL;have HW1:=hid hw;have HX1:=hid hX;clear hm1 hm2 m hw hX;go_wp2_with fail;refine cL.out.mono ?_;rintro e w2 ⟨id,ix,sz,ok,rfl,hf,hb2⟩;have HF:=hid hf;have HX2:=hid ((HX1.out.below hb2).alloc (.cells #[id] 3));have HI:=hid (Bx.new (t:=3) (cs:=[.int .i64 id]) w2 rfl);have HW2:=hid ((HW1.out.trans (hb2.mono HW1.out.size)).alloc (HW1.out.trans (hb2.mono HW1.out.size)).size (.cells #[id] 3));clear k0 k1 k2 hb2 hf;go_upto_region 2 with fail;generalize w2.alloc (.cells #[id] 3)=w3 at *;generalize w2.heap.size=nI at *;cases ok
 ·have HZ:=hid (HP0.out.below HW2.out)
  go_wp2_with fail;go_ret;exact⟨false,rfl,HW2.out.mono HB.out,L,HZ.out,HCk.out,fun h=>by cases h⟩
 obtain⟨k,i,hk,rfl,rfl,hi,hF⟩:=HF.out rfl;have hkL:k<L.length:=by simpa using hk
 have eA:(pnO N L F).arcs[k]! = L[k]!.1:=aN Prod.fst hkL;have HE:=hid eA;have HFK:=hid hF;rw[eA]at hi HI;obtain⟨_,k1,_⟩:=HX2.out.c3;obtain⟨m,hm1,hm2⟩:=MK.out w3 HW2.out;have cI:=hid (tW (pnO N L F) m L[k]!.1.id nI w3 hm2 HI.out)
 have eS:(Value.slice m.aa (pnO N L F).arcs.length m.ca)=.slice Aa L.length ca:=by
  unfold plV at hm1;injection hm1 with hm1;have:=congrArg (fun a:Array Value=>a[1]!) hm1
  simpa using this
 rw[eS]at cI;have HKU:=hid (show ∀k':Nat,k'<(pnO N L F).arcs.length→((pnO N L F).arcs[k']!.id==L[k]!.1.id)=true→k'=k from fun k' h1 h2=>HCk.out.pre.ids h1 hk (by rw[eA];simpa using h2))
 have HKK:=hid (show ¬ ∀j,j<(pnO N L F).arcs.length→((pnO N L F).arcs[j]!.id==L[k]!.1.id)=false from fun h=>by
  have:=h k hk;rw[eA]at this
  simp at this)
 clear hm1 hm2 m eS hF eA;go_wp2_with fail;refine cI.out.mono ?_;rintro e w5 ⟨r,rfl,hb5,hr⟩
 obtain rfl:r=(k:Int):=by
  rcases hr with⟨_,hr⟩|⟨k',h1,h2,h3⟩
  ·exact absurd hr HKK.out
  ·rw[h2,HKU.out k' h1 h3]
 have HX5:=hid (HX2.out.below hb5);have HW5:=hid (HW2.out.trans (hb5.mono HW2.out.size));have HP5:=hid (HP0.out.below HW5.out);clear k1 hb5 hr;go_upto_region 5 with fail
 obtain⟨ga,hga,hfz,hce⟩:∃ga,Aa=some ⟨ga,0,none⟩∧(∀j,w5.frozen? ⟨ga,j,none⟩=false)∧(w5.cell? ⟨ga,k*6+3,none⟩=some L[k]!.2∧ga<w5.heap.size):=by
  obtain⟨A2,c2,e2,_,h2,h3⟩:=HP5.out.ar;injection e2 with e2 _ _;subst e2
  rcases h2 with h2|⟨b,o,eb,hl,hc⟩
  ·rw[h2]at hkL;cases hkL
  ·obtain⟨rfl,_,hf⟩:=h3 b o none eb
   have:=hc k hkL 3 _ rfl;rw[Nat.zero_add]at this;exact⟨b,eb,hf,this,hl⟩
 subst hga
 obtain⟨g,cv,hv,hg1,hg2,hro,hcv,hcm⟩:∃g cv,L[k]!.2=.slice (some ⟨g,0,none⟩) L[k]!.1.via.length cv∧B≤g∧g<w5.heap.size∧aZ w5 w5 g L[k]!.1.via.toArray∧L[k]!.1.via.length≤cv∧cv≤9223372036854775807:=by
  rcases HP5.out.vi _ (ak hkL) with⟨e,_⟩|⟨g,c,e⟩
  ·rw[e]at hi;cases hi
  ·exact⟨g,c,e⟩
 have hil:=hi
 have hvl:L[k]!.1.via.length≤1000000:=by
  have:=HCk.out.lv k hk;rw[HE.out]at this;omega
 rw[hv]at hce;have oK:bN (.slice An N.length cn) (.slice (some ⟨ga,0,none⟩) L.length ca) (.slice Af F.length cf) L (k+3)=some g:=by rw[aR hkL,hv];rfl
 have hne:ga≠g:=fun e=>HP5.out.inj 1 (k+3) ga (by omega) rfl (by rw[oK,e])
 have HRO:=hid (show aZ w5.drew w5.drew g L[k]!.1.via.toArray from ⟨World.grownBy.refl _ _,hro.2⟩);have HCE:=hid (And.intro hce.1 (hfz (k*6+3)));have HGA:=hid (And.intro hce.2 hne);have hnB:n<B∨B≤n:=by omega
 have HLO:=hid (HP0.out.lt);have HNG:=hid (show n≠g from fun e=>by have:=(HP0.out.lt _ g oK).2;have:=HN.out;omega);have HNGA:=hid (show n≠ga from fun e=>by have:=(HP0.out.lt 1 ga rfl).2;have:=HN.out;omega)
 have HDONE:=hid (show ∀W,aZ w5 W g (L[k]!.1.via.eraseIdx i).toArray→Below B w (W.setCell ⟨ga,k*6+3,none⟩ (.slice (some ⟨g,0,none⟩) (L[k]!.1.via.length-1) cv)) ∧
   PlO (W.setCell ⟨ga,k*6+3,none⟩ (.slice (some ⟨g,0,none⟩) (L[k]!.1.via.length-1) cv)) B (.slice An N.length cn) (.slice (some ⟨ga,0,none⟩) L.length ca) (.slice Af F.length cf) N (L.set k (fO L[k]!.1 i,.slice (some ⟨g,0,none⟩) (L[k]!.1.via.length-1) cv)) F ∧
   CheckP (pnO N (L.set k (fO L[k]!.1 i,.slice (some ⟨g,0,none⟩) (L[k]!.1.via.length-1) cv)) F)∧tot (L.set k (fO L[k]!.1 i,.slice (some ⟨g,0,none⟩) (L[k]!.1.via.length-1) cv))<tot L from fun W hrow=>by
  refine⟨?_,HP5.out.drop hkL hv ⟨hg1,hg2⟩ ⟨hcv,hcm⟩ hi rfl hrow,?_,qH hkL (by show(L[k]!.1.via.eraseIdx i).length<_;rw[List.length_eraseIdx_of_lt hi];omega)⟩
  ·have h1:Below B w W:=(HW5.out.mono HB.out).grown hrow.1 (by have:=HW5.out.size;have:=HB.out;omega) (fun j e=>by injection e;omega)
   exact h1.setCell (p:=⟨ga,k*6+3,none⟩) (HP0.out.lt 1 ga rfl).1 _
  ·rw[qZ hkL]
   exact lP HCk.out hk (by rw[HE.out];exact hi) HFK.out)
 have j1:(k:Int)<(L.length:Int):=by omega
 have hle64:=hvl;have j7:=IntWalk.i64_in ((i:Int)+1) (by omega);clear hce hfz hro hne oK hnB hi hv;have HSx:=hid (show(fun W:World=>Bx W n 26 [.slice An N.length cn,.slice (some ⟨ga,0,none⟩) L.length ca,.slice Af F.length cf]) w5.drew from HX5.out);have hS1:(fun W:World=>Bx W n 26 [.slice An N.length cn,.slice (some ⟨ga,0,none⟩) L.length ca,.slice Af F.length cf]) w5.drew:=HSx.out;have cDl:=hid (mU g cv i L[k]!.1.via w5.drew HRO.out hil hvl hcv hcm)
 have HG2:=hid (show ∀W:World,w5.drew.grownBy W (some g)→W.cell? ⟨ga,k*6+3,none⟩=some (.slice (some ⟨g,0,none⟩) L[k]!.1.via.length cv)∧W.frozen? ⟨ga,k*6+3,none⟩=false∧ga<W.heap.size from fun W hg=>by
  have e:W.heap[ga]?=w5.heap[ga]?:=hg.block ga HGA.out.1 (fun e=>HGA.out.2 (by injection e))
  exact⟨(World.cell?_of_block e).trans HCE.out.1,(World.frozen?_of_block e).trans HCE.out.2,Nat.lt_of_lt_of_le HGA.out.1 hg.size⟩)
 have HCA:=hid (show w5.drew.cell? ⟨ga,k*6+3,none⟩=some (.slice (some ⟨g,0,none⟩) L[k]!.1.via.length cv)from HCE.out.1);have HDR:=hid (show ∀W,aZ w5.drew W g (L[k]!.1.via.eraseIdx i).toArray→aZ w5 W g (L[k]!.1.via.eraseIdx i).toArray from fun W h=>⟨⟨h.1.os,h.1.tape,h.1.output,h.1.size,h.1.block⟩,h.2⟩)
 have HD2:=hid (show ∀W,aZ w5.drew W g (L[k]!.1.via.eraseIdx i).toArray→RetSt w B (.slice An N.length cn) (.slice (some ⟨ga,0,none⟩) L.length ca) (.slice Af F.length cf) N L F (.returned (.bool true)) (W.setCell ⟨ga,k*6+3,none⟩ (.slice (some ⟨g,0,none⟩) (L[k]!.1.via.length-1) cv))from fun W h=>
  have h:=HDONE.out W (HDR.out W h)
  ⟨true,rfl,h.1,_,h.2.1,h.2.2.1,fun _=>h.2.2.2⟩)
 clear HDONE HDR HFK HE HKU HKK cI cL HF HLO HRO HCE HI HX1 HX2 HAA HP0 HP5 MK HCk hil hvl hle64;generalize L[k]!.1.via=xs at *;generalize RetSt w B (.slice An N.length cn) (.slice (some ⟨ga,0,none⟩) L.length ca) (.slice Af F.length cf) N L F=R at *;refine wp_region_held_drew (S:=(fun W:World=>Bx W n 26 [.slice An N.length cn,.slice (some ⟨ga,0,none⟩) L.length ca,.slice Af F.length cf])) (by kernel_rfl) hS1 (fun hHeld=>?_);clear hHeld;generalize hwd:w5.drew=wd at *;clear hwd;refine kk 0 rfl ?_;refine kf 1 (fun W h=>h.c3.2.1) rfl ?_;refine kk 2 rfl ?_;refine kk 3 rfl ?_;refine kf 4 (fun W h=>h.c3.2.1) rfl ?_;refine kk 5 rfl ?_;refine kk 6 rfl ?_;refine kk 7 rfl ?_;refine kk 9 rfl ?_;refine kk 10 rfl ?_;refine kk 11 rfl ?_;refine kr 8 rfl fun K hK=>?_
 have k1:=HCA.out;go_simp;clear k1;refine hK.out _ _ hS1 (fun hHeld=>?_);clear hK hHeld K
 try simp only[Act.put,sa,sz,ss]
 refine kr 12 rfl fun K hK=>?_
 go_simp;go_at_call 56;refine(cDl.out).mono ?_;rintro e Wra1 ⟨rfl,hrow⟩;have hSWra1:(fun W:World=>Bx W n 26 [.slice An N.length cn,.slice (some ⟨ga,0,none⟩) L.length ca,.slice Af F.length cf]) Wra1:=(Bx.grown (w:=wd) hS1 hrow.1 (fun e=>HNG.out (by injection e with e;exact e.symm)));have HROW:=hid hrow;have HC2:=hid (HG2.out Wra1 hrow.1);clear hrow hS1;go_wp2_with fail;refine hK.out _ _ hSWra1 (fun hHeld=>?_);clear hK hHeld K
 try simp only[Act.put,sa,sz,ss]
 refine kk 13 rfl ?_;refine kk 14 rfl ?_;refine kr 15 rfl fun K hK=>?_
 obtain⟨k1,k2,k3⟩:=HC2.out;go_simp;have hSWra2:(fun W:World=>Bx W n 26 [.slice An N.length cn,.slice (some ⟨ga,0,none⟩) L.length ca,.slice Af F.length cf]) (Wra1.setCell ⟨ga,k*6+3,none⟩ (.slice (some ⟨g,0,none⟩) (xs.length-1) cv)):=Bx.other hSWra1 HNGA.out _ _;clear k1 k2 k3;refine hK.out _ _ hSWra2 (fun hHeld=>?_);clear hK hHeld K hSWra2
 try simp only[Act.put,sa,sz,ss]
 refine wpAnyH_done (by kernel_rfl) ?_ _;have HFIN:=hid (HD2.out Wra1 HROW.out);generalize Wra1.setCell ⟨ga,k*6+3,none⟩ (.slice (some ⟨g,0,none⟩) (xs.length-1) cv)=w7 at *;go_wp2_with fail;exact HFIN.out
end Go.Proofs
namespace Go.Proofs
open Go.RowKit Go.Proofs.Mp Go.Lib
def ndAt(l:List Nd)(p:Pt):Bool:=l.any fun n=>decide (n.2=p)
theorem nU{l:List Nd}{k:Nat}(h:k<l.length)(p:Pt):ndAt (l.take (k+1)) p=me (ndAt (l.take k)) l[k]!.2 p:=by
 unfold ndAt me;rw[List.take_succ_eq_append_getElem h,List.any_append,getElem!_pos l k h]
 by_cases e:p=l[k].2
 ·rw[if_pos e]
  simp[e]
 ·rw[if_neg e]
  have:¬l[k].2=p:=fun e2=>e e2.symm
  simp[this]
def ul(w:World)(l:List Nd)(en:Ending)(w':World):Prop:=∃B,en=.returned (.map (some B))∧w.heap.size≤B∧cJ w' B l.length (ndAt l)∧Below w.heap.size w w'
theorem iX(A:Option Addr)(c:Nat)(l:List Nd)(w:World)(hR:Rd 3 aQ w A l)(hm:l.length≤100000)(hn:∀k,k<l.length→Nr l[k]!.2):Calls Tryz.prog 34 #[.slice A l.length c] w (ul w l):=by
 have HN:=hid fun (k:Nat) (hk:k<l.length) W (hb:Below w.heap.size w W)=>hR.get hb hk
 have hM0:=cJ.made w;have hb0:=bw1 w (.map #[] 0);have hmm:=@run_makeMap Tryz.prog;clear hR;go_enter Tryz.func34,Tryz.ntmps34;go_upto_region 2 with fail;clear hmm;generalize w.alloc (.map #[] 0)=w1 at *;obtain⟨M,hM⟩:∃z,w.heap.size=z:=⟨_,rfl⟩;rw[hM]at hM0 ⊢;have HM:=hid hM;clear hM;go_wp2_with fail;go_loopw [9] (fun i wr=>∃k:Nat,k≤l.length∧i=.int .i64 k∧Hid (cJ wr M k (ndAt (l.take k)))∧Hid (w1.grownBy wr (some M))) (fun i _=>l.length-(intOf i).toNat)
 case atStart=>exact⟨0,by omega,rfl,hid (hM0.congr fun x=>rfl),hid (World.grownBy.refl _ _)⟩
 case round=>
  obtain⟨k,hk,rfl,HMK,HGK⟩:=hrel
  by_cases hlt:k<l.length
  ·have hli:(k:Int)<(l.length:Int):=by omega
   have hbk:=hid (bP hb0 HGK.out (Nat.le_of_eq HM.out) hb0.size);obtain⟨b,off,rfl,hbl,hcc⟩:=HN.out k hlt wr hbk.out;have c0:=hcc k hlt 0 _ rfl;have c1:=hcc k hlt 1 _ rfl;have c2:=hcc k hlt 2 _ rfl;have hwk:=jb (hn k hlt);have HGS:=hid (fun x=>nU hlt x);obtain⟨⟨ni,nx,ny⟩,hnk⟩:∃z,l[k]! = z:=⟨_,rfl⟩;rw[hnk]at c0 c1 c2 hwk HGS;simp only[Nat.add_zero]at c0 c1 c2;dsimp only at c0 c1 c2 hwk HGS;clear hnk hcc;have hxn:=Bx.new (t:=71) (cs:=[.int .i64 ni,.int .i64 nx,.int .i64 ny]) wr rfl;have hMa:=HMK.out.below (bw1 wr (.cells #[ni,nx,ny] 71));have HGA:=hid (kw HGK.out (aD (bw1 wr (.cells #[ni,nx,ny] 71))));go_upto_region 5 with fail;generalize wr.alloc (.cells #[ni,nx,ny] 71)=wa at *;generalize wr.heap.size=nb at *;have x0:=hxn.cell 0;have x1:=hxn.cell 1;have x2:=hxn.cell 2;simp only[gz,gs]at x0 x1 x2;go_wp2_with (at_mapUpdate;refine cJ.store hMa rfl _ _ _ rfl rfl (nx,ny) rfl rfl hwk (by unfold maxLen;omega) ?_;intro w5 hM5 hg5);go_roundw
   case rel=>exact⟨k+1,by omega,by go_num,hid (hM5.congr fun x=>(HGS.out x).symm),hid (iP HGA.out hg5)⟩
   case measure=>simp[intOf];omega
  ·obtain rfl:k=l.length:=by omega
   have hge:¬((l.length:Int)<(l.length:Int)):=by omega
   rw[List.take_length]at HMK;have hbk:=hid (bP hb0 HGK.out (Nat.le_of_eq HM.out) hb0.size);go_wp2_with fail;go_ret;exact⟨M,rfl,Nat.le_of_eq HM.out,HMK.out,hbk.out⟩
end Go.Proofs
namespace Go.Proofs
open Go.RowKit Go.Proofs.Mp Go.Lib
def jC(g:Eg):List Value:=[.int .i64 g.side,.bool g.up,.int .i64 g.line,.int .i64 g.lo,.int .i64 g.hi]
def closedB(g:Eg)(f:Pt→Bool)(p:Pt):Bool:=decide (g.u p≤g.lo)||decide (g.hi≤g.u p)||f p
def openB(g:Eg)(f:Pt→Bool)(run:List Pt):Bool:=!run.isEmpty&&!closedB g f run[0]!&&!closedB g f run[run.length-1]!
theorem oA(g:Eg)(f:Pt→Bool)(p:Pt)(B N nb nm:Nat)(w:World)(hg:Bx w nb 91 (jC g))(hm:Bx w nm 94 [.map (some B)])(hM:cJ w B N f)(hp:wfP p) :
  Calls Tryz.prog 71 #[ae p,.pointer (some ⟨nb,0,none⟩),.pointer (some ⟨nm,0,none⟩)] w (RetV w (.bool (closedB g f p))):=by
 have cA:=hid fun W=>fN g p W
 have HR:=hid (show closedB g f p=(decide (g.u p≤g.lo)||decide (g.hi≤g.u p)||f p)from rfl);generalize closedB g f p=R at *;obtain⟨sd,up,ln,lo,hi⟩:=g;unfold jC at hg;unfold egE at cA;dsimp only at *;have HMR:=hid fun W (hb:Below w.heap.size w W)=>(hM.below hb).run p hp
 generalize f p=fp at *;generalize Eg.u _ p=u at *;obtain⟨x,y⟩:=p;unfold ae at *;dsimp only at *;have hb0:=bw1 w (.cells #[x,y] 30);have hp0:=Bx.new (t:=30) (cs:=[.int .i64 x,.int .i64 y]) w rfl;have hg0:=hg.below hb0;have hm0:=hm.below hb0;clear hg hm hM hp;go_enter Tryz.func71,Tryz.ntmps71;go_upto_region 1 with fail;generalize w.alloc (.cells #[x,y] 30)=w1 at *;have k0:=hg0.cell 0;have k1:=hg0.cell 1;have k2:=hg0.cell 2;have k3:=hg0.cell 3;have k4:=hg0.cell 4;have q0:=hp0.cell 0;have q1:=hp0.cell 1;simp only[gz,gs]at k0 k1 k2 k3 k4 q0 q1;go_wp2_with fail;refine(cA.out _).mono ?_;rintro e w2 ⟨rfl,hb2⟩;have hg2:=hg0.below hb2;have hm2:=hm0.below hb2;have hp2:=hp0.below hb2;have HB2:=hid (hb0.trans (hb2.mono hb0.size));clear hg0 hm0 hp0 hb0 hb2 k0 k1 k2 k3 k4 q0 q1;have k3:=hg2.cell 3;have k4:=hg2.cell 4;have m0:=hm2.cell 0;have q0:=hp2.cell 0;have q1:=hp2.cell 1;simp only[gz,gs]at k3 k4 m0 q0 q1;have hrun:=HMR.out w2 HB2.out
 by_cases h1:u≤lo
 ·rw[decide_eq_true h1,Bool.true_or,Bool.true_or]at HR
  go_wp2_with fail;go_ret;exact RetV.bool (by rw[HR.out]) HB2.out
 rw[decide_eq_false h1,Bool.false_or]at HR
 by_cases h2:hi≤u
 ·rw[decide_eq_true h2,Bool.true_or]at HR
  go_wp2_with fail;go_ret;exact RetV.bool (by rw[HR.out]) HB2.out
 rw[decide_eq_false h2,Bool.false_or]at HR;go_wp2_with fail;go_ret;exact RetV.bool (by rw[HR.out];simp[show ¬u≤lo by omega,show ¬hi≤u by omega]) HB2.out
theorem jq(g:Eg)(f:Pt→Bool)(A:Option Addr)(c:Nat)(run:List Pt)(B N:Nat)(w:World)(hR:RdR w A run)(hm:run.length≤1000000000)(hM:cJ w B N f)(hp:∀p∈run,wfP p) :
  Calls Tryz.prog 36 #[egE g,.slice A run.length c,.map (some B)] w (RetV w (.bool (openB g f run))):=by
 have hE:egE g=.agg #[g.side,.bool g.up,g.line,g.lo,g.hi]:=rfl;rw[hE];have hg0:=(Bx.new (t:=91) (cs:=jC g) w rfl).alloc (.cells #[.map (some B)] 94);have hm0:=Bx.newAt (b:=w.heap.size+1) (t:=94) (cs:=[.map (some B)]) (w.alloc (.cells #[g.side,.bool g.up,g.line,g.lo,g.hi] 91)) (by simp) rfl;have hb0:=bwx w (.cells #[g.side,.bool g.up,g.line,g.lo,g.hi] 91) (.cells #[.map (some B)] 94);have hmf:∀(fn:Fn) (first cap:Array Value) (w:World),(Instr.makeFunc fn first cap).run Tryz.prog w=.ok (.func fn first cap) w:=fun _ _ _ _=>rfl
 change Bx (((w.alloc (.cells #[g.side,.bool g.up,g.line,g.lo,g.hi] 91))).alloc (.cells #[.map (some B)] 94)) _ _ _ at hg0
 by_cases h0:run=[]
 ·subst h0
  have HR:openB g f []=false:=rfl;rw[HR];clear HR hg0 hm0 hR hM;go_enter Tryz.func36,Tryz.ntmps36;go_wp2_with fail;go_ret;exact RetV.bool rfl hb0
 have hl:=List.length_pos_iff.2 h0;have HRB:=hid (show openB g f run=(!closedB g f run[0]!&&!closedB g f run[run.length-1]!)from by unfold openB;rw[List.isEmpty_eq_false_iff.2 h0];rfl);generalize openB g f run=R at *;go_enter Tryz.func36,Tryz.ntmps36;go_upto_region 1 with fail;generalize (w.alloc (.cells #[g.side,.bool g.up,g.line,g.lo,g.hi] 91)).alloc (.cells #[.map (some B)] 94)=w1 at *;generalize w.heap.size+1=nm at *;have cC:=hid fun i (hi:i<run.length) W (hb:Below w1.heap.size w1 W)=>oA g f run[i]! B N w.heap.size nm W (hg0.below hb) (hm0.below hb) (hM.below (hb0.trans (hb.mono hb0.size))) (hp _ (by rw[getElem!_pos run i hi];exact List.getElem_mem hi))
 obtain⟨b,off,rfl,hbl,hcc⟩:=RdR.getAll hR hb0 hl
 have HCC:=hid fun i (hi:i<run.length) W (hb:Below w1.heap.size w1 W)=>(show W.cell? ⟨b,off+i*2,none⟩=some (.int .i64 run[i]!.1)∧W.cell? ⟨b,off+i*2+1,none⟩=some (.int .i64 run[i]!.2)from by
  have h1:=Nat.lt_of_lt_of_le hbl hb0.size;obtain⟨q1,q2⟩:=hcc i hi
  exact⟨(hb.cell (p:=⟨b,off+i*2,none⟩) h1).trans q1,(hb.cell (p:=⟨b,off+i*2+1,none⟩) h1).trans q2⟩)
 obtain⟨c0,c1⟩:=HCC.out 0 hl w1 (Below.refl _ _);have cC0:=cC.out 0 hl w1 (Below.refl _ _);have cC1:=hid (cC.out (run.length-1) (by omega));have HC1:=hid (HCC.out (run.length-1) (by omega));generalize closedB g f run[0]! = r0 at *;generalize closedB g f run[run.length-1]! = r1 at *;generalize run[0]! = p0 at *;generalize run[run.length-1]! = p1 at *;obtain⟨x0,y0⟩:=p0;obtain⟨x1,y1⟩:=p1;unfold ae at *;dsimp only at *;simp only[Nat.zero_mul,Nat.add_zero]at c0 c1;have hl1:((run.length:Int)-1)=((run.length-1:Nat):Int):=by omega
 have hl2:run.length-1<run.length:=by omega
 have hli:(0:Int)<(run.length:Int):=by omega
 have HB0:=hid hb0;clear cC HCC hcc hp hM hR hb0 hg0 hm0;generalize hn:run.length=n at *;clear hn;go_wp2_with fail;refine cC0.mono ?_;rintro e w2 ⟨rfl,hb2⟩;have HB2:=hid (HB0.out.trans (hb2.mono HB0.out.size));cases r0
 rotate_left
 ·go_wp2_with fail
  go_ret;exact RetV.bool (by rw[HRB.out];simp) HB2.out
 obtain⟨c2,c3⟩:=HC1.out w2 hb2;have cC2:=cC1.out w2 hb2;clear hb2 cC0 cC1 HC1 c0 c1;have hw:=IntWalk.i64_in ((n:Int)-1) (by omega);rw[hl1]at hw;generalize n-1=n1 at *;have hn1:(n1:Int)<(n:Int):=by omega
 have hn2:(0:Int)≤(n1:Int):=by omega
 go_wp2_with fail;refine cC2.mono ?_;rintro e w3 ⟨rfl,hb3⟩;have HB3:=hid (HB2.out.trans (hb3.mono HB2.out.size));clear hb3;cases r1
 ·go_wp2_with fail
  go_ret;exact RetV.bool (by rw[HRB.out];simp) HB3.out
 ·go_wp2_with fail
  go_ret;exact RetV.bool (by rw[HRB.out];simp) HB3.out
end Go.Proofs
namespace Go.Proofs
open Go.RowKit Go.Proofs.Mp Go.Lib
def pcV(arc:Int)(A:Option Addr)(n c:Nat)(en le:Int):Value:=.agg #[arc,.slice A n c,en,le]
def pcC(arc:Int)(A:Option Addr)(n c:Nat)(en le:Int):List Value:=[.int .i64 arc,.slice A n c,.int .i64 en,.int .i64 le]
def bA(g:Eg):List Pt→Nat
 | []=>0
 | p::l=>if g.off p=0 then bA g l+1 else 0
theorem gW(g:Eg):∀l,bA g l≤l.length
 | []=>Nat.le_refl _
 | p::l=>by
  unfold bA;have:=gW g l;split<;>simp<;>omega
theorem f9{g:Eg}:∀{l:List Pt} {k:Nat},k<l.length→(∀j,j<k→g.off l[j]! = 0)→g.off l[k]!≠0→bA g l=k
 | [],k,h,_,_=>absurd h (Nat.not_lt_zero _)
 | p::l,0,_,_,h=>by
  unfold bA;rw[if_neg (show ¬g.off p=0 from h)]
 | p::l,k+1,h,h1,h2=>by
  have h0:g.off p=0:=h1 0 (Nat.succ_pos _);unfold bA;rw[if_pos h0];have:=f9 (l:=l) (k:=k) (by simpa using h) (fun j hj=>by have:=h1 (j+1) (by omega);simpa using this) (by simpa using h2)
  omega
theorem fg{g:Eg}:∀{l:List Pt},(∀j,j<l.length→g.off l[j]! = 0)→bA g l=l.length
 | [],_=>rfl
 | p::l,h=>by
  have h0:g.off p=0:=h 0 (Nat.succ_pos _);unfold bA;rw[if_pos h0];have:=fg (l:=l) (fun j hj=>by have:=h (j+1) (by simpa using hj);simpa using this)
  simp[this]
def entN(g:Eg)(l:List Pt)(en le:Int):Option Nat:=
 if en≠g.side then none
 else if bA g l=l.length then (if le=0∨le=g.side then none else if 1<bA g l then some (bA g l-1) else some (bA g l)) else some (bA g l)
def uC(A:Option Addr)(c:Nat):Option Nat→Value
 | none=>.slice none 0 0
 | some n=>.slice A n c
theorem kG(g:Eg)(arc:Int)(A:Option Addr)(c:Nat)(l:List Pt)(en le:Int)(w:World)(hR:RdR w A l)(hm:l.length≤1000000000)(hc:l.length≤c)(hcm:c≤maxLen) :
  Calls Tryz.prog 35 #[egE g,pcV arc A l.length c en le] w (RetV w (uC A c (entN g l en le))):=by
 have hE:egE g=.agg #[g.side,.bool g.up,g.line,g.lo,g.hi]:=rfl;have cO0:=hid fun (i:Nat) W=>jr g l[i]! W
 rw[hE]at cO0 ⊢;unfold pcV;have hg0:=(Bx.new (t:=91) (cs:=jC g) w rfl).alloc (.cells #[arc,.slice A l.length c,en,le] 97);have hx0:=Bx.newAt (b:=w.heap.size+1) (t:=97) (cs:=pcC arc A l.length c en le) (w.alloc (.cells #[g.side,.bool g.up,g.line,g.lo,g.hi] 91)) (by simp) rfl;have hb0:=bwx w (.cells #[g.side,.bool g.up,g.line,g.lo,g.hi] 91) (.cells #[arc,.slice A l.length c,en,le] 97);change Bx (((w.alloc (.cells #[g.side,.bool g.up,g.line,g.lo,g.hi] 91))).alloc (.cells #[arc,.slice A l.length c,en,le] 97)) _ _ _ at hg0;change Bx ((w.alloc (.cells #[g.side,.bool g.up,g.line,g.lo,g.hi] 91)).alloc (.cells #[arc,.slice A l.length c,en,le] 97)) _ _ _ at hx0;go_enter Tryz.func35,Tryz.ntmps35;go_upto_region 1 with fail;generalize (w.alloc (.cells #[g.side,.bool g.up,g.line,g.lo,g.hi] 91)).alloc (.cells #[arc,.slice A l.length c,en,le] 97)=w1 at *;generalize hnx:w.heap.size+1=nx at *;clear hnx;have HX:=hid (And.intro hg0 hx0);have HRR:=hid fun (i:Nat) (hi:i<l.length) W (hb:Below w1.heap.size w1 W)=>RdR.get hR (hb0.trans (hb.mono hb0.size)) hi
 go_upto_block 0 with fail;go_cut [5] from 6 to 22 (fun v5 wx=>∃k:Nat,v5=.int .i64 k∧bA g l=k∧Below w1.heap.size w1 wx)
 case first=>
  go_wp2_with fail;go_loopw [5] (fun i wr=>∃k:Nat,k≤l.length∧i=.int .i64 k∧Hid (∀j,j<k→g.off l[j]! = 0)∧Below w1.heap.size w1 wr) (fun i _=>l.length-(intOf i).toNat)
  case atStart=>exact⟨0,by omega,rfl,hid (fun i hi=>absurd hi (Nat.not_lt_zero _)),Below.refl _ _⟩
  case round=>
   obtain⟨k,hk,rfl,HD,hbr⟩:=hrel;have HBR:=hid hbr
   have HCC:=hid fun (W:World) (hb:Below wr.heap.size wr W)=>(show W.cell? ⟨nx,1,none⟩=some (.slice A l.length c)∧W.cell? ⟨nx,2,none⟩=some (.int .i64 en)∧W.cell? ⟨nx,3,none⟩=some (.int .i64 le)∧W.cell? ⟨w.heap.size,0,none⟩=some (.int .i64 g.side)∧W.cell? ⟨w.heap.size,1,none⟩=some (.bool g.up)∧W.cell? ⟨w.heap.size,2,none⟩=some (.int .i64 g.line)∧W.cell? ⟨w.heap.size,3,none⟩=some (.int .i64 g.lo)∧W.cell? ⟨w.heap.size,4,none⟩=some (.int .i64 g.hi)∧True from by
    have hz:=HBR.out.trans (hb.mono HBR.out.size);have h1:=HX.out.1.below hz;have h2:=HX.out.2.below hz
    exact⟨h2.cell 1,h2.cell 2,h2.cell 3,h1.cell 0,h1.cell 1,h1.cell 2,h1.cell 3,h1.cell 4,trivial⟩)
   by_cases hlt:k<l.length
   ·have hli:(k:Int)<(l.length:Int):=by omega
    obtain⟨b,off,rfl,hbl,_⟩:=HRR.out k hlt wr hbr
    have HPC:=hid fun (W:World) (hb:Below wr.heap.size wr W)=>(show W.cell? ⟨b,off+k*2,none⟩=some (.int .i64 l[k]!.1)∧W.cell? ⟨b,off+k*2+1,none⟩=some (.int .i64 l[k]!.2)from by
     obtain⟨b',o',e,_,q1,q2⟩:=HRR.out k hlt W (HBR.out.trans (hb.mono HBR.out.size));injection e with e;injection e with e1 e2;subst e1 e2
     exact⟨q1,q2⟩)
    have HE:=hid (show g.off l[k]! = 0→∀j,j<k+1→g.off l[j]! = 0 from fun h j hj=>by
     by_cases e:j=k
     ·subst e;exact h
     ·exact HD.out j (by omega))
    have cO:=hid (cO0.out k);obtain⟨go,hgo⟩:∃z,g.off l[k]! = z:=⟨_,rfl⟩;have HGO:=hid hgo;rw[hgo]at cO HE;clear hgo hbr;obtain⟨⟨px,py⟩,hpx⟩:∃z,l[k]! = z:=⟨_,rfl⟩;rw[hpx]at cO HPC;dsimp only at HPC;unfold ae at cO;dsimp only at cO;clear hpx;go_upto_region 2 with fail;have hS1:(fun W:World=>Below wr.heap.size wr W) wr.drew:=(Below.refl _ _).drew;refine wp_region_held_drew (S:=fun W:World=>Below wr.heap.size wr W) (by kernel_rfl) hS1 (fun hHeld=>?_);clear hHeld;generalize hwd:wr.drew=wd at *;clear hwd;refine kk 0 rfl ?_;refine kk 1 rfl ?_;refine kf 2 HCC.out rfl ?_;refine kk 3 rfl ?_;refine kk 4 rfl ?_;refine kk 5 rfl ?_;refine kf 6 HCC.out rfl ?_;refine kk 7 rfl ?_;refine kf 8 HCC.out rfl ?_;refine kk 9 rfl ?_;refine kk 10 rfl ?_;refine kf 11 HPC.out rfl ?_;refine kr 12 rfl fun K hK=>?_
    go_simp;go_at_call 69;refine(cO.out _).mono ?_;rintro e Wra1 ⟨rfl,hbWra1⟩;have hSWra1:=hS1.trans (hbWra1.mono hS1.size)
    try clear hS1
    clear hbWra1;go_wp2_with fail;refine hK.out _ _ hSWra1 (fun hHeld=>?_);clear hK hHeld K
    try simp only[Act.put,sa,sz,ss]
    refine kk 13 rfl ?_;refine kk 14 rfl ?_;refine wpAnyH_done (by kernel_rfl) ?_ _;have HBZ:=hid (HBR.out.trans (hSWra1.mono HBR.out.size))
    by_cases ho:go=0
    ·subst ho
     have HQ:=hid (HE.out rfl);go_wp2_with fail;go_roundw
     case rel=>exact⟨k+1,by omega,by go_num,HQ,HBZ.out⟩
     case measure=>simp[intOf];omega
    ·have hob:(go==0)=false:=by simp[ho]
     have HN:=hid (f9 hlt HD.out (show g.off l[k]!≠0 from HGO.out▸ho));go_wp2_with fail;go_meet;exact⟨k,rfl,HN.out,HBZ.out⟩
   ·obtain rfl:k=l.length:=by omega
    have hge:¬((l.length:Int)<(l.length:Int)):=by omega
    have HN:=hid (fg HD.out);clear hbr;go_upto_region 2 with fail;have hS1:(fun W:World=>Below wr.heap.size wr W) wr.drew:=(Below.refl _ _).drew;refine wp_region_held_drew (S:=fun W:World=>Below wr.heap.size wr W) (by kernel_rfl) hS1 (fun hHeld=>?_);clear hHeld;generalize hwd:wr.drew=wd at *;clear hwd;refine kk 0 rfl ?_;refine kk 1 rfl ?_;refine kf 2 HCC.out rfl ?_;refine kk 3 rfl ?_;refine kk 4 rfl ?_;refine kk 5 rfl ?_;refine ku 6 rfl ?_;refine ku 7 rfl ?_;refine ku 8 rfl ?_;refine ku 9 rfl ?_;refine ku 10 rfl ?_;refine ku 11 rfl ?_;refine ku 12 rfl ?_;refine ku 13 rfl ?_;refine kk 14 rfl ?_;refine wpAnyH_done (by kernel_rfl) ?_ _;have HBZ:=hid (HBR.out.trans (hS1.mono HBR.out.size));go_wp2_with fail;go_meet;exact⟨_,rfl,HN.out,HBZ.out⟩
 case rest=>
  obtain⟨k,rfl,hk,hbx⟩:=hcut;generalize wc=w8 at *;have hg8:=HX.out.1.below hbx;have hx8:=HX.out.2.below hbx;have HB8:=hid (hb0.trans (hbx.mono hb0.size));have k0:=hg8.cell 0;have k1:=hx8.cell 1;have k2:=hx8.cell 2;have k3:=hx8.cell 3;have kl:=gW g l;rw[hk]at kl;simp only[jC,pcC,gz,gs]at k0 k1 k2 k3;have HEN:=hid (show entN g l en le=(if en≠g.side then none else if k=l.length then (if le=0∨le=g.side then none else if 1<k then some (k-1) else some k) else some k)from by unfold entN;rw[hk]);generalize entN g l en le=R at *;clear hbx hb0 HX HRR cO0 hR hk;generalize hln:l.length=n at *;clear hln
  by_cases h1:en=g.side
  rotate_left
  ·have h1b:(en != g.side)=true:=by simp[h1]
   have HE:=hid (show R=none from by rw[HEN.out,if_pos h1]);go_wp2_with fail;go_ret;exact⟨by rw[HE.out];rfl,HB8.out⟩
  have h1b:(en != g.side)=false:=by simp[h1]
  have HE1:=hid (show R=(if k=n then (if le=0∨le=g.side then none else if 1<k then some (k-1) else some k) else some k)from by rw[HEN.out,if_neg (fun h=>h h1)]);have fin:∀q:Nat,q≤n→(0:Int)≤(q:Int)∧(q:Int)≤(c:Int):=fun q hq=>by omega
  clear HEN
  by_cases h2:k=n
  rotate_left
  ·have h2b:((k:Int)==(n:Int))=false:=by simp;omega
   have HE:=hid (show R=some k from by rw[HE1.out,if_neg h2]);obtain⟨z1,z2⟩:=fin k kl;go_wp2_with fail;go_ret;exact⟨by rw[HE.out];rfl,HB8.out⟩
  subst h2;have h2b:((k:Int)==(k:Int))=true:=by simp
  by_cases h3:le=0
  ·have HE:=hid (show R=none from by rw[HE1.out,if_pos rfl,if_pos (Or.inl h3)])
   subst h3;go_wp2_with fail;go_ret;exact⟨by rw[HE.out];rfl,HB8.out⟩
  have h3b:(le==0)=false:=by simp[h3]
  by_cases h4:le=g.side
  ·have HE:=hid (show R=none from by rw[HE1.out,if_pos rfl,if_pos (Or.inr h4)])
   have h4b:(le==g.side)=true:=by simp[h4]
   go_wp2_with fail;go_ret;exact⟨by rw[HE.out];rfl,HB8.out⟩
  have h4b:(le==g.side)=false:=by simp[h4]
  by_cases h5:1<k
  ·have h5b:(1:Int)<(k:Int):=by omega
   have HE:=hid (show R=some (k-1)from by rw[HE1.out,if_pos rfl,if_neg (by omega),if_pos h5]);have e1:(k:Int)-1=((k-1:Nat):Int):=by omega
   obtain⟨z1,z2⟩:=fin (k-1) (by omega);have hw:=IntWalk.i64_in ((k:Int)-1) (by omega);rw[e1]at hw;go_wp2_with fail;go_ret;exact⟨by rw[HE.out];rfl,HB8.out⟩
  ·have h5b:¬(1:Int)<(k:Int):=by omega
   have HE:=hid (show R=some k from by rw[HE1.out,if_pos rfl,if_neg (by omega),if_neg h5]);obtain⟨z1,z2⟩:=fin k kl;go_wp2_with fail;go_ret;exact⟨by rw[HE.out];rfl,HB8.out⟩
end Go.Proofs
