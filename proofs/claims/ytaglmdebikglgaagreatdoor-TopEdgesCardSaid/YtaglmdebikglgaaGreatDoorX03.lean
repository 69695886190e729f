/- Lemmas and walks; no statement of a law is proved here. -/
import Derived.Test.YtaglmdebikglgaaGreatDoorX02
import Derived.Sort.Grow
import Derived.Lib.SlicesCompact
import Derived.Shelf.RegionOpenPlain
import Derived.Deep.RegionLaw
import Derived.Shelf.SlSortCmp.NoneTotal
import Derived.Deep.CutBlock
set_option linter.unusedVariables false
set_option linter.unusedSimpArgs false
set_option maxRecDepth 100000
set_option maxHeartbeats 8000000
open Go.Lib
namespace Go.Proofs
open Go.RowKit Go.Proofs.Mp Go.Lib
def bS(s:Nat×Nat):List Value:=[.pointer (some ⟨s.1,0,none⟩),.int .i64 s.2]
theorem eL(s:Nat×Nat):(bS s).length=2:=rfl
theorem iU(s:Nat×Nat):∀u∈bS s,u.oneCell'=true:=by
 intro u hu;simp only[bS,List.mem_cons,List.not_mem_nil,or_false]at hu
 rcases hu with rfl|rfl<;>rfl
theorem aD{w w':World}(h:Below w.heap.size w w'):w.grownBy w' none:=⟨h.os,h.tape,h.output,h.size,fun k hk _=>h.block k hk⟩
theorem Mp.Rd.grown{α:Type}[Inhabited α]{k:Nat}{enc:α→List Value}{w w':World}{g:Nat}{xs:List α}{row:Option Nat}(h:Rd k enc w (some ⟨g,0,none⟩) xs)(hg:w.grownBy w' row)(hl:g<w.heap.size)(hne:row≠some g):Rd k enc w' (some ⟨g,0,none⟩) xs:=by
 rcases h with h|⟨b,off,he,hb,hc⟩
 ·exact .inl h
 ·injection he with he
  injection he with e1 e2;subst e1 e2;refine .inr ⟨g,0,rfl,Nat.lt_of_lt_of_le hb hg.size,fun j hj i u hu=>?_⟩;have:=hc j hj i u hu;unfold World.cell? at this ⊢;rw[hg.block g hl (fun e=>hne e.symm)];exact this
theorem Bx.grown{w w':World}{b:Nat}{t:TypeId}{cs:List Value}{row:Option Nat}(h:Bx w b t cs)(hg:w.grownBy w' row)(hne:row≠some b):Bx w' b t cs:=(hg.block b h.lt (fun e=>hne e.symm)).trans h
theorem aG{α:Type}{e:TypeId}{k:Nat}{enc:α→List Value}{w:World}{base:Nat}{v:Value}{xs:List α}(h:Own e k enc w base v xs)(h0:xs≠[]):∃g cap,v=.slice (some ⟨g,0,none⟩) xs.length cap∧base≤g∧g<w.heap.size:=by
 rcases h.2 with⟨rfl,hn⟩|⟨g,cap,cur,rfl,hb,hh,hnc,_⟩
 ·exact absurd (List.length_eq_zero_iff.1 hn) h0
 ·exact⟨g,cap,rfl,hb,(Array.getElem?_eq_some_iff.1 hh).1⟩
def bk(W:World)(b:Nat)(a:Ar)(l:List Pt)(ok:Nat→Prop):Prop:=
 ∃va g c,Bx W b 185 [a.id,a.frm,a.dst,va,a.lf,a.rt,.slice (some ⟨g,0,none⟩) l.length c]∧RdR W (some ⟨g,0,none⟩) l∧g<W.heap.size∧ok b∧ok g
theorem bk.grown{W W':World}{b:Nat}{a:Ar}{l:List Pt}{ok ok':Nat→Prop}{row:Option Nat}(h:bk W b a l ok)(hg:W.grownBy W' row)(hr:∀x,ok x→x<W.heap.size→row≠some x)(ho:∀x,ok x→x<W.heap.size→ok' x):bk W' b a l ok':=by
 obtain⟨va,g,c,h1,h2,h3,h4,h5⟩:=h;exact⟨va,g,c,h1.grown hg (hr b h4 h1.lt),h2.grown hg h3 (hr g h5 h3),Nat.lt_of_lt_of_le h3 hg.size,ho b h4 h1.lt,ho g h5 h3⟩
theorem bk.below{W W':World}{b:Nat}{a:Ar}{l:List Pt}{ok:Nat→Prop}(h:bk W b a l ok)(hb:Below W.heap.size W W'):bk W' b a l ok:=h.grown (aD hb) (fun _ _ _ e=>by cases e) (fun _ h _=>h)
def kV(v:Value)(x:Nat):Prop:=v.ownBlock≠some x
def pth(p:Pn)(k:Nat):List Pt:=(pathS p p.arcs[k]!.id).getD []
def tG(l:List Pt):Prop:=∀i,i+1<l.length→l[i]!≠l[i+1]!
def jN(p:Pn)(k:Nat):Prop:=(∃l,pathS p p.arcs[k]!.id=some l)∧¬(p.arcs[k]!.frm=p.arcs[k]!.dst∧(pth p k).length<4)∧tG (pth p k)
def eB(p:Pn):Prop:=∀k,k<p.arcs.length→jN p k
def eY(p:Pn)(k:Nat):List (Nat×Nat):=(List.range ((pth p k).length-1)).map fun i=>(k,i)
def ah(p:Pn)(K:Nat):List (Nat×Nat):=(List.range K).flatMap (eY p)
theorem bE{p:Pn}{K:Nat}{s:Nat×Nat}(h:s∈ah p K):s.1<K∧s.2+1<(pth p s.1).length:=by
 obtain⟨k,hk,hs⟩:=List.mem_flatMap.1 h;obtain⟨i,hi,rfl⟩:=List.mem_map.1 hs;rw[List.mem_range]at hk hi;exact⟨hk,by dsimp only;omega⟩
theorem fR(p:Pn)(K:Nat):ah p (K+1)=ah p K++eY p K:=by
 unfold ah;rw[List.range_succ,List.flatMap_append];simp
def toB(bs:List Nat)(L:List (Nat×Nat)):List (Nat×Nat):=L.map fun s=>(bs[s.1]!,s.2)
theorem lZ{p:Pn}{K:Nat}{bs:List Nat}(h:bs.length=K)(b:Nat):toB (bs++[b]) (ah p K)=toB bs (ah p K):=by
 unfold toB;apply List.map_congr_left;intro s hs;have:=(bE hs).1;rw[getElem!_pos _ s.1 (by simp;omega),getElem!_pos bs s.1 (by omega),List.getElem_append_left (by omega)]
theorem lY{p:Pn}{K:Nat}{bs:List Nat}(h:bs.length=K)(b:Nat):toB (bs++[b]) (eY p K)=(List.range ((pth p K).length-1)).map fun i=>(b,i):=by
 unfold toB eY;rw[List.map_map];apply List.map_congr_left;intro i hi;subst h;simp
theorem pp(b i:Nat):((List.range (i+1)).map fun i=>(b,i))=((List.range i).map fun i=>(b,i))++[(b,i)]:=by
 rw[List.range_succ,List.map_append];rfl
theorem Tryz.infoS:(Tryz.prog.info? 177).map (fun i=>(i.zero,i.size,i.bytes))=some (some (.agg #[.pointer none,.int .i64 0]),2,16):=by kernel_rfl
theorem Tryz.appS{w:World}{base:Nat}{v:Value}{xs:List (Nat×Nat)}{ops:Array Oper}{rest:List Oper}{o:Oper}{a:Act}{Q:Exit→Act→World→Prop}
  (hown:Own 177 2 bS w base v xs)(y:Nat×Nat)(hgd:o.guard=none)(s x:Operand)
  (ho:o.op=.call { callee:=.builtin .append,args:=#[s,x],argTypes:=#[171,171] })(hs:a.eval s=v)(hx:a.eval x=.slice (some ⟨w.heap.size,0,none⟩) 1 1)
  (hN:xs.length+1≤1000000000000)(hbase:base≤w.heap.size)
  (h:∀v' w',Own 177 2 bS w' base v' (xs++[y])→Below base w w'→w.grownBy w' v.ownBlock→(∀q,kV v q→q<w.heap.size→kV v' q)→wpList Tryz.prog ops Q rest (a.put o.dst v') w') :
  wpList Tryz.prog ops Q (o::rest) a (w.alloc (.cells #[.pointer (some ⟨y.1,0,none⟩),y.2] 177)):=by
 obtain⟨i0,hi0,hz0,hz1,hz2⟩:=Mp.info_parts Tryz.infoS
 exact OwnA.append1 (av:=fun _=>False) 171 i0 (.agg #[.pointer none,.int .i64 0]) 16 Tryz.underlying171 hi0 hz0 hz1 hz2 rfl (by decide) (by decide) eL y (iU y) hgd s x ho ⟨hown,fun _ _ h=>h⟩ (fun _ h=>h.elim) hs hx (by omega) hbase
  (fun v' w' ho' hg' hl'=>h v' w' ho'.1 ((Below.refl _ _).grown hg' hbase (fun j hj=>(World.ownsRow.lt hown j hj).1)) hg' (fun q hq hlt e=>by
   rcases hl' with hl|⟨j,hl,hj⟩
   ·exact hq (hl▸e)
   ·rw[hl]at e
    injection e with e
    omega))
structure SgM(p:Pn)(W:World)(base:Nat)(v:Value)(K:Nat)(bs:List Nat):Prop where
 len:bs.length=K
 own:Own 177 2 bS W base v (toB bs (ah p K))
 ln:∀k,k<K→bk W bs[k]! p.arcs[k]! (pth p k) (kV v)
structure InR(p:Pn)(W:World)(base:Nat)(v:Value)(ys:List (Nat×Nat))(lb:Nat)(a:Ar)(pt:List Pt)(pg k:Nat)(bs:List Nat)(j:Nat):Prop where
 own:Own 177 2 bS W base v (ys++(List.range j).map fun i=>(lb,i))
 ln:∀q,q<k→bk W bs[q]! p.arcs[q]! (pth p q) (kV v)
 cur:∃va c,Bx W lb 185 [a.id,a.frm,a.dst,va,a.lf,a.rt,.slice (some ⟨pg,0,none⟩) pt.length c]
 rd:RdR W (some ⟨pg,0,none⟩) pt
 lt:pg<W.heap.size
 nb:kV v lb
 ng:kV v pg
theorem InR.step{p:Pn}{W W':World}{base:Nat}{v v':Value}{ys:List (Nat×Nat)}{lb:Nat}{a:Ar}{pt:List Pt}{pg k:Nat}{bs:List Nat}{j:Nat}(h:InR p W base v ys lb a pt pg k bs j)
  (ho:Own 177 2 bS W' base v' ((ys++(List.range j).map fun i=>(lb,i))++[(lb,j)]))(hg:W.grownBy W' v.ownBlock)(hn:∀q,kV v q→q<W.heap.size→kV v' q):InR p W' base v' ys lb a pt pg k bs (j+1):=by
 obtain⟨va,c,hc⟩:=h.cur;exact⟨by rw[pp,←List.append_assoc];exact ho,fun q hq=>(h.ln q hq).grown hg (fun x hx _=>hx) hn,⟨va,c,hc.grown hg h.nb⟩,h.rd.grown hg h.lt h.ng,Nat.lt_of_lt_of_le h.lt hg.size,hn _ h.nb hc.lt,hn _ h.ng h.lt⟩
theorem InR.drewN{p:Pn}{W:World}{base:Nat}{v:Value}{ys:List (Nat×Nat)}{lb:Nat}{a:Ar}{pt:List Pt}{pg k:Nat}{bs:List Nat}{j:Nat}(h:InR p W base v ys lb a pt pg k bs j)(n:Nat):InR p (W.drewN n) base v ys lb a pt pg k bs j:=
 ⟨h.own,h.ln,h.cur,h.rd,h.lt,h.nb,h.ng⟩
theorem InR.done{p:Pn}{W:World}{base:Nat}{v:Value}{bs:List Nat}{lb k pg:Nat}(h:InR p W base v (toB bs (ah p k)) lb p.arcs[k]! (pth p k) pg k bs ((pth p k).length-1))(hl:bs.length=k):SgM p W base v (k+1) (bs++[lb]):=by
 refine⟨by simp[hl],?_,fun q hq=>?_⟩
 ·rw[fR]
  unfold toB;rw[List.map_append];have e1:=lZ (p:=p) hl lb;have e2:=lY (p:=p) hl lb;unfold toB at e1 e2;rw[e1,e2];exact h.own
 ·by_cases e:q=k
  ·subst e
   have:(bs++[lb])[q]! = lb:=by subst hl;simp
   rw[this];obtain⟨va,c,hc⟩:=h.cur;exact⟨va,pg,c,hc,h.rd,h.lt,h.nb,h.ng⟩
  ·have:(bs++[lb])[q]! = bs[q]!:=by
    rw[getElem!_pos _ q (by simp;omega),getElem!_pos bs q (by omega),List.getElem_append_left (by omega)]
   rw[this];exact h.ln q (by omega)
def ue(p:Pn)(w:World)(en:Ending)(w':World):Prop:=
 (¬eB p∧en=.returned (.tuple #[.slice none 0 0,.bool false])∨eB p∧∃v bs,en=.returned (.tuple #[v,.bool true])∧SgM p w' w.heap.size v p.arcs.length bs)∧Below w.heap.size w w'
theorem eF{p:Pn}(h:Few p)(k:Nat):(pth p k).length≤100002:=by
 unfold pth pathS;have hf:=gd (id:=p.arcs[k]!.id) h;cases ha:findA p.arcs p.arcs[k]!.id with
 | none=>simp
 | some a=>
  rw[ha]at hf;simp only[Option.getD_some]at hf;dsimp only;split
  ·simp;omega
  ·simp
theorem fA{p:Pn}(h:Few p):∀K,(ah p K).length≤K*100002
 | 0=>by simp[ah]
 | K+1=>by
  rw[fR,List.length_append];have h1:=fA h K
  have h2:(eY p K).length≤100002:=by
   unfold eY;rw[List.length_map,List.length_range];have:=eF h K;omega
  rw[Nat.succ_mul];omega
theorem jX{p:Pn}{id:Int}{l:List Pt}(h:pathS p id=some l):1≤l.length:=by
 unfold pathS at h;split at h
 ·cases h
 ·split at h
  ·injection h with h
   rw[←h];simp
  ·cases h
theorem fF{p:Pn}{id:Int}{l:List Pt}(h:pathS p id=some l):l≠[]:=by
 have:=jX h;intro e;rw[e]at this;cases this
theorem dc(bs:List Nat)(L:List (Nat×Nat)):(toB bs L).length=L.length:=by simp[toB]
theorem iu(p:Pn)(m:Mem)(w:World)(hR:PlR w p m):Calls Tryz.prog 95 #[plV p m] w (ue p w):=by
 have HA:=hid fun (k:Nat) (hk:k<p.arcs.length) W hb=>hR.arc (W:=W) hb hk
 have hfa:=hR.few.a;have HPL:=hid (eF hR.few);have HSL:=hid (fA hR.few);have cP:=hid fun id W (hb:Below w.heap.size w W)=>bJ p m id W (hR.below hb)
 have HP0:=hid (show ∀k l,pathS p p.arcs[k]!.id=some l→pth p k=l from fun k l h=>by unfold pth;rw[h];rfl);have HPN:=hid (show ∀k,k<p.arcs.length→pathS p p.arcs[k]!.id=none→¬eB p from fun k hk h hs=>by obtain⟨⟨l,hl⟩,_⟩:=hs k hk;rw[h]at hl;cases hl);have HP4:=hid (show ∀k,k<p.arcs.length→p.arcs[k]!.frm=p.arcs[k]!.dst→(pth p k).length<4→¬eB p from fun k hk h1 h2 hs=>(hs k hk).2.1 ⟨h1,h2⟩);have HPE:=hid (show ∀k i,k<p.arcs.length→i+1<(pth p k).length→(pth p k)[i]! = (pth p k)[i+1]!→¬eB p from fun k i hk hi h hs=>(hs k hk).2.2 i hi h);have HOK:=hid (show ∀k l,pathS p p.arcs[k]!.id=some l→¬(p.arcs[k]!.frm=p.arcs[k]!.dst∧(pth p k).length<4)→tG (pth p k)→jN p k from fun k l h1 h2 h3=>⟨⟨l,h1⟩,h2,h3⟩);obtain⟨an,aa,af,cn,ca,cf,vs⟩:=m;unfold plV at *;dsimp only at *;have hn:=Bx.new (t:=26) (cs:=[.slice an p.nodes.length cn,.slice aa p.arcs.length ca,.slice af p.faces.length cf]) w rfl;have hb0:=bw1 w (.cells #[.slice an p.nodes.length cn,.slice aa p.arcs.length ca,.slice af p.faces.length cf] 26);clear hR;go_enter Tryz.func95,Tryz.ntmps95;go_upto_region 1 with fail;generalize w.alloc (.cells #[.slice an p.nodes.length cn,.slice aa p.arcs.length ca,.slice af p.faces.length cf] 26)=w1 at *;have k0:=hn.cell 0;have k1:=hn.cell 1;have k2:=hn.cell 2;simp only[gz,gs]at k0 k1 k2;have hl1:=hn.lt;go_wp2_with fail;go_loopw [2,13] (fun v i wr=>∃(k:Nat) (bs:List Nat),k≤p.arcs.length∧i=.int .i64 k∧Hid (SgM p wr w1.heap.size v k bs)∧Hid (∀j,j<k→jN p j)∧Below w1.heap.size w1 wr) (fun _ i _=>p.arcs.length-(intOf i).toNat)
 case atStart=>exact⟨0,[],by omega,rfl,hid ⟨rfl,Own.nil _ _,fun k hk=>absurd hk (Nat.not_lt_zero _)⟩,hid (fun j hj=>absurd hj (Nat.not_lt_zero _)),Below.refl _ _⟩
 case round=>
  obtain⟨k,bs,hk,rfl,hM,hS,hbr⟩:=hrel;have HBR:=hid hbr;have hsz:=hbr.size;have HBW:=hid (hb0.trans (hbr.mono (by omega)))
  by_cases hlt:k<p.arcs.length
  ·have hli:(k:Int)<(p.arcs.length:Int):=by omega
   obtain⟨b,off,A,c,rfl,hbl,c0,c1,c2,c3,c4,c5,hv1,_⟩:=HA.out k hlt wr HBW.out;have HKN:=hid (HPN.out k hlt);have HK4:=hid (HP4.out k hlt);have HKE:=hid (HPE.out k · hlt);have HKO:=hid (HOK.out k);have HK0:=hid (HP0.out k);have hpl:=HPL.out k
   have hnl:(toB bs (ah p k)).length≤10000200000:=by
    rw[dc];have:=HSL.out k;have:k*100002≤100000*100002:=Nat.mul_le_mul_right _ (by omega);omega
   have HSK:=hid (fun (h:jN p k)=>(show ∀j,j<k+1→jN p j from fun j hj=>by
    by_cases e:j=k
    ·subst e;exact h
    ·exact hS.out j (by omega)))
   have HMN:=hid hM.out.ln;have hlb:=hM.out.len;have HOW:=hid hM.out.own;have HTA:=hid (fun b'=>lZ (p:=p) hlb b');have HTR:=hid (fun b'=>lY (p:=p) hlb b');have HAK:=hid (show ∀a l,a=p.arcs[k]!→l=pth p k→True from fun _ _ _ _=>trivial);clear HA hM HPN HP4 HPE HOK HP0 HPL HSL hS;generalize hys0:toB bs (ah p k)=ys at *;have HYS:=hid hys0;clear hys0;generalize har:p.arcs[k]! = ar at *;generalize hpt:pth p k=pt at *;have HAR:=hid har;have HPT:=hid hpt;clear har hpt;obtain⟨ai,afr,ad,av,al,art⟩:=ar;dsimp only at c0 c1 c2 c3 c4 c5 hv1;have cPk:=hid (cP.out ai);generalize hop:pathS p ai=o at *;have HO0:=hid hop;clear hop;have hxa:=Bx.new (t:=58) (cs:=[.int .i64 ai,.int .i64 afr,.int .i64 ad,.slice A av.length c,.int .i64 al,.int .i64 art]) wr rfl;have hba:=hbr.trans ((bw1 wr (.cells #[ai,afr,ad,.slice A av.length c,al,art] 58)).mono hsz);have hbb:=bw1 wr (.cells #[ai,afr,ad,.slice A av.length c,al,art] 58);have hna:=(hn.below hbr).alloc (.cells #[ai,afr,ad,.slice A av.length c,al,art] 58);clear hbr hv1;go_upto_region 4 with fail;generalize wr.alloc (.cells #[ai,afr,ad,.slice A av.length c,al,art] 58)=wa at *;generalize hnb:wr.heap.size=nb at *;have x0:=hxa.cell 0;have x1:=hxa.cell 1;have x2:=hxa.cell 2;have z0:=hna.cell 0;have z1:=hna.cell 1;have z2:=hna.cell 2;have xl:=hxa.lt;simp only[gz,gs]at x0 x1 x2 z0 z1 z2;have HBA:=hid hba;have HBAW:=hid (hb0.trans (hba.mono (by omega)));have HBB:=hid hbb;clear hba hbb;go_wp2_with fail;refine(cPk.out _ HBAW.out).mono ?_;rintro e w4 hP;cases o with
   | none=>
    obtain⟨rfl,hb4⟩:=hP;have HP:=hid (HKN.out rfl);have HF:=hid (HBAW.out.trans (hb4.mono HBAW.out.size));clear hb4;go_wp2_with fail;refine bodyPost_ret (v:=.tuple #[.slice none 0 0,.bool false]) (by simp[results,Tryz.results95,go_sem]) rfl ?_;exact⟨Or.inl ⟨HP.out,rfl⟩,HF.out⟩
   | some l=>
    obtain⟨v4,rfl,hO4,hb4⟩:=hP;obtain rfl:pt=l:=HK0.out l rfl;obtain⟨pg,pc,rfl,hpg1,hpg2⟩:=aG hO4 (fF HO0.out);have hR4:=Own.rd encR_len hO4;have HOV:=hid (fun j hj=>(World.ownsRow.lt HOW.out j hj).2);have hxa4:=hxa.below hb4;clear x0 x1 x2 z0 z1 z2;have x0:=hxa4.cell 0;have x1:=hxa4.cell 1;have x2:=hxa4.cell 2;have x3:=hxa4.cell 3;have x4:=hxa4.cell 4;have x5:=hxa4.cell 5;have xl4:=hxa4.lt;simp only[gz,gs]at x0 x1 x2 x3 x4 x5;have HB4:=hid (HBA.out.trans (hb4.mono HBA.out.size));have HB4W:=hid (HBAW.out.trans (hb4.mono HBAW.out.size));have HB4R:=hid (HBB.out.trans (hb4.mono (by have:=HBB.out.size;omega)));have HR4:=hid hR4;clear hO4 hb4 hR4 HKN cPk;have hpl4:pt.length≤100002:=hpl
    by_cases hbad:afr=ad∧pt.length<4
    ·obtain⟨h1,h2⟩:=hbad
     subst h1;have HP:=hid (HK4.out rfl h2);have h2i:(pt.length:Int)<4:=by omega
     go_wp2_with fail;refine bodyPost_ret (v:=.tuple #[.slice none 0 0,.bool false]) (by simp[results,Tryz.results95,go_sem]) rfl ?_;exact⟨Or.inl ⟨HP.out,rfl⟩,HB4W.out⟩
    have HKO2:=hid (HKO.out pt rfl hbad);have HPO:Hid (1≤pt.length):=hid (jX HO0.out);go_upto_region 5 with fail;go_cut [37] (fun v37 wx=>v37=.bool false∧wx=w4)
    case first=>
     clear HKE HKO HK4 HKO2
     by_cases h1:afr=ad
     ·subst h1
      have h2:¬((pt.length:Int)<4):=by omega
      go_wp2_with fail;go_meet;exact⟨rfl,rfl⟩
     ·have h1b:(afr==ad)=false:=by simp[h1]
      go_wp2_with fail;go_meet;exact⟨rfl,rfl⟩
    case rest=>
    obtain⟨rfl,rfl⟩:=hcut;generalize wc=w4 at *;have hLN:=Bx.new (t:=185) (cs:=[.int .i64 ai,.int .i64 afr,.int .i64 ad,.slice A av.length c,.int .i64 al,.int .i64 art,.slice (some ⟨pg,0,none⟩) pt.length pc]) w4 rfl;have hbl5:=bw1 w4 (.cells #[ai,afr,ad,.slice A av.length c,al,art,.slice (some ⟨pg,0,none⟩) pt.length pc] 185);have HB5:=hid (HB4.out.trans (hbl5.mono HB4.out.size));have HB5W:=hid (HB4W.out.trans (hbl5.mono HB4W.out.size));have HB5R:=hid (HB4R.out.trans (hbl5.mono (by have:=HB4R.out.size;omega)));have HR5:=hid (HR4.out.alloc (.cells #[ai,afr,ad,.slice A av.length c,al,art,.slice (some ⟨pg,0,none⟩) pt.length pc] 185))
    have HIN:Hid (InR p (w4.alloc (.cells #[ai,afr,ad,.slice A av.length c,al,art,.slice (some ⟨pg,0,none⟩) pt.length pc] 185)) w1.heap.size u2 ys w4.heap.size ⟨ai,afr,ad,av,al,art⟩ pt pg k bs 0):=hid {
     own:=by have:=(HOW.out.below (by rw[hnb];exact HB5R.out));simpa using this
     ln:=fun q hq=>(HMN.out q hq).below (by rw[hnb];exact HB5R.out)
     cur:=⟨_,pc,hLN⟩
     rd:=HR4.out.alloc _
     lt:=by have:=HB5R.out.size;simp;omega
     nb:=fun e=>by have:=HOV.out _ e;have:=HB4R.out.size;omega
     ng:=fun e=>by have:=HOV.out _ e;omega }
    clear hbl5 hLN HR4 HB4 HB4W HB4R HOW HMN HOV;go_upto_region 8 with fail;generalize w4.alloc (.cells #[ai,afr,ad,.slice A av.length c,al,art,.slice (some ⟨pg,0,none⟩) pt.length pc] 185)=w5 at *;generalize w4.heap.size=lb at *;have hp1:1≤pt.length:=HPO.out;have hwl:=IntWalk.i64_in ((pt.length:Int)-1) (by omega);have hys:ys.length≤10000200000:=hnl;clear hnl k0 k1 k2 hn;go_wp2_with fail;generalize wr=wo at *;go_loopw [2,45] (fun v i wq=>∃j:Nat,j+1≤pt.length∧i=.int .i64 j∧Hid (InR p wq w1.heap.size v ys lb ⟨ai,afr,ad,av,al,art⟩ pt pg k bs j)∧Hid (∀i,i<j→pt[i]!≠pt[i+1]!)∧Below w1.heap.size w1 wq) (fun _ i _=>pt.length-(intOf i).toNat)
    case atStart=>exact⟨0,by omega,rfl,HIN,hid (fun i hi=>absurd hi (Nat.not_lt_zero _)),HB5.out⟩
    case round=>
     obtain⟨j,hj,rfl,hOj,hNj,hq1⟩:=hrel;have HQ1:=hid hq1;have hsq:=hq1.size
     by_cases hjl:j+1<pt.length
     ·have hji:(j:Int)<(pt.length:Int)-1:=by omega
      obtain⟨pb,po,hpe,hpb,hpc⟩:=Rd.get hOj.out.rd (Below.refl _ _) (show j<pt.length by omega);injection hpe with hpe;injection hpe with e1 e2;subst e1 e2;have g0:=hpc j (by omega) 0 (.int .i64 pt[j]!.1) rfl;have g1:=hpc j (by omega) 1 (.int .i64 pt[j]!.2) rfl;have g2:=hpc (j+1) hjl 0 (.int .i64 pt[j+1]!.1) rfl;have g3:=hpc (j+1) hjl 1 (.int .i64 pt[j+1]!.2) rfl;rw[Nat.add_zero,Nat.zero_add]at g0 g2;rw[Nat.zero_add]at g1 g3;have HKEj:=hid (HKE.out j hjl)
      have HNE:=hid (fun (h:pt[j]!≠pt[j+1]!)=>(show ∀i,i<j+1→pt[i]!≠pt[i+1]! from fun i hi=>by
       by_cases e:i=j
       ·subst e;exact h
       ·exact hNj.out i (by omega)))
      generalize pt[j]! = pa at *;generalize pt[j+1]! = pb2 at *;obtain⟨ax,ay⟩:=pa;obtain⟨bx,by_⟩:=pb2;dsimp only at g0 g1 g2 g3;have hG:=Tryz.guard30;have hEq:=fun W=>Tryz.eql30 ax ay bx by_ W
      have hw1:=IntWalk.i64_in ((j:Int)+1) (by omega);have hj0:(0:Int)≤(j:Int):=by omega
      have hj1:(0:Int)≤(j:Int)+1:=by omega
      have hj2:(j:Int)<(pt.length:Int):=by omega
      have hj3:(j:Int)+1<(pt.length:Int):=by omega
      clear hpc hq1
      by_cases he:((ax,ay):Int×Int)=(bx,by_)
      ·have HP:=hid (HKEj.out he)
       rw[decide_eq_true he]at hEq;clear he;go_wp2_with fail;go_quiet (fail);go_wp2_with fail;refine bodyPost_ret (v:=.tuple #[.slice none 0 0,.bool false]) (by simp[results,Tryz.results95,go_sem]) rfl ?_;exact⟨Or.inl ⟨HP.out,rfl⟩,below_drewN (hb0.trans (HQ1.out.mono (by omega))) _⟩
      ·have HNE2:=hid (HNE.out he)
       rw[decide_eq_false he]at hEq;clear he;go_wp2_with fail;go_quiet (fail);have hO6:=hOj.out.drewN nq;have hq4:=below_drewN HQ1.out nq;have hsz6:w1.heap.size≤(wr.drewN nq).heap.size:=hq4.size;generalize wr.drewN nq=w6 at *;have hN6:(ys++(List.range j).map fun i=>(lb,i)).length+1≤1000000000000:=by simp;omega
       have HO6:=hid hO6;have HQ4:=hid hq4;clear hO6 hOj hq4 g0 g1 g2 g3 HQ1;go_wp2_with (at_builtin;refine Tryz.appS HO6.out.own (lb,j) rfl _ _ rfl rfl rfl hN6 hsz6 ?_;intro v9 w9 hO9 hb9 hg9 hn9);go_roundw
       case rel=>exact⟨j+1,by omega,by go_num,hid (HO6.out.step hO9 hg9 hn9),HNE2,HQ4.out.trans hb9⟩
       case measure=>simp[intOf];omega
     ·have hjn:j=pt.length-1:=by omega
      have hji:¬((j:Int)<(pt.length:Int)-1):=by omega
      have HSN:=hid (HKO2.out (fun i hi=>hNj.out i (by omega)))
      have HD:=hid (show SgM p wr w1.heap.size u2 (k+1) (bs++[lb])from by
       have h9:=hOj.out;subst hjn
       have h10:InR p wr w1.heap.size u2 (toB bs (ah p k)) lb p.arcs[k]! (pth p k) pg k bs ((pth p k).length-1):=by
        rw[HAR.out,HPT.out,HYS.out];exact h9
       exact h10.done hlb)
      clear hq1 hjn;go_wp2_with fail;go_roundw
      case rel=>exact⟨k+1,bs++[lb],by omega,by go_num,HD,hid (HSK.out HSN.out),HQ1.out⟩
      case measure=>simp[intOf];omega
  ·obtain rfl:p.arcs.length=k:=by omega
   have hge:¬((p.arcs.length:Int)<(p.arcs.length:Int)):=by omega
   clear hbr;go_wp2;refine bodyPost_ret (v:=.tuple #[u2,.bool true]) (by simp[results,Tryz.results95,go_sem]) rfl ?_;exact⟨Or.inr ⟨hS.out,_,bs,rfl,⟨hM.out.len,hM.out.own.mono (by omega),hM.out.ln⟩⟩,HBW.out⟩
end Go.Proofs
namespace Go.Proofs
open Go.RowKit Go.Proofs.Mp Go.Lib
def sgV(b i:Nat):Value:=.agg #[.pointer (some ⟨b,0,none⟩),i]
abbrev cU(W:World)(b:Nat)(a:Ar)(l:List Pt):Prop:=bk W b a l fun _=>True
theorem bk.r{W:World}{b:Nat}{a:Ar}{l:List Pt}{ok:Nat→Prop}(h:bk W b a l ok):cU W b a l:=h.grown (World.grownBy.refl _ none) (fun _ _ _ e=>by cases e) (fun _ _ _=>trivial)
theorem bk.cells{W W':World}{b:Nat}{a:Ar}{l:List Pt}{ok:Nat→Prop}(h:bk W b a l ok)(hb:Below W.heap.size W W') :
  ∃g c,b<W.heap.size∧g<W.heap.size∧W'.cell? ⟨b,0,none⟩=some (.int .i64 a.id)∧W'.cell? ⟨b,1,none⟩=some (.int .i64 a.frm)∧W'.cell? ⟨b,2,none⟩=some (.int .i64 a.dst)∧W'.cell? ⟨b,6,none⟩=some (.slice (some ⟨g,0,none⟩) l.length c) ∧
   ∀i,i<l.length→W'.cell? ⟨g,i*2,none⟩=some (.int .i64 l[i]!.1)∧W'.cell? ⟨g,i*2+1,none⟩=some (.int .i64 l[i]!.2):=by
 obtain⟨va,g,c,h1,h2,h3,_⟩:=h;have h4:=h1.below hb;refine⟨g,c,h1.lt,h3,h4.cell 0,h4.cell 1,h4.cell 2,h4.cell 6,fun i hi=>?_⟩;obtain⟨b',o',e,_,k1,k2⟩:=RdR.get (h2.below hb) (Below.refl _ _) hi;injection e with e;injection e with e1 e2;subst e1 e2;rw[Nat.zero_add]at k1 k2;exact⟨k1,k2⟩
theorem oD(w:World)(a:Addr)(v:Value):(w.setCell a v).drawn=w.drawn:=by unfold World.setCell;split<;>rfl
structure BD(w w':World):Prop where
 bel:RowKit.Below w.heap.size w w'
 drawn:w.drawn≤w'.drawn
def eC(w:World)(v:Value)(e:Ending)(w':World):Prop:=e=.returned v∧BD w w'
theorem eC.r{w w':World}{v:Value}{e:Ending}(h:eC w v e w'):RetV w v e w':=⟨h.1,h.2.bel⟩
theorem gF{w w':World}(hb:RowKit.Below w.heap.size w w')(hd:w.drawn≤w'.drawn):∃q os,w'=Go.Sort.grow (w.drewN q) os:=by
 refine⟨w'.drawn-w.drawn,w'.heap.extract w.heap.size w'.heap.size,?_⟩;obtain⟨h1,h2,h3,h4,h5⟩:=hb
 have hh:w'.heap=w.heap++w'.heap.extract w.heap.size w'.heap.size:=by
  apply Array.ext_getElem?;intro k
  by_cases hk:k<w.heap.size
  ·rw[h5 k hk,Array.getElem?_append_left hk]
  ·rw[Array.getElem?_append_right (by omega)]
   simp only[Array.getElem?_extract]
   by_cases hl:k<w'.heap.size
   ·rw[if_pos (by omega),show w.heap.size+(k-w.heap.size)=k by omega]
   ·rw[if_neg (by omega),Array.getElem?_eq_none (by omega)]
 show w'={ w with heap:=w.heap++w'.heap.extract w.heap.size w'.heap.size,drawn:=w.drawn+(w'.drawn-w.drawn) }
 rw[←hh,show w.drawn+(w'.drawn-w.drawn)=w'.drawn by omega,←h1,←h2,←h3]
theorem fT(b i:Nat)(a:Ar)(l:List Pt)(w:World)(hL:cU w b a l)(hi:i+1<l.length)(hm:l.length≤1000000000):Calls Tryz.prog 101 #[sgV b i] w (eC w (.tuple #[ae l[i]!,ae l[i+1]!])):=by
 have HC:=hid fun W hb=>hL.cells (W':=W) hb
 clear hL;unfold sgV;have hx:=((Bx.new (t:=177) (cs:=[.pointer (some ⟨b,0,none⟩),.int .i64 i]) w rfl).alloc (.cells #[.int .i64 0,.int .i64 0] 30)).alloc (.cells #[.int .i64 0,.int .i64 0] 30);have h2:=(Bx.newAt (b:=w.heap.size+1) (t:=30) (cs:=[.int .i64 0,.int .i64 0]) (w.alloc (.cells #[.pointer (some ⟨b,0,none⟩),i] 177)) (by simp) rfl).alloc (.cells #[.int .i64 0,.int .i64 0] 30);have h3:=Bx.newAt (b:=w.heap.size+1+1) (t:=30) (cs:=[.int .i64 0,.int .i64 0]) ((w.alloc (.cells #[.pointer (some ⟨b,0,none⟩),i] 177)).alloc (.cells #[.int .i64 0,.int .i64 0] 30)) (by simp) rfl;have hb:=bw3 w (.cells #[.pointer (some ⟨b,0,none⟩),i] 177) (.cells #[.int .i64 0,.int .i64 0] 30) (.cells #[.int .i64 0,.int .i64 0] 30);go_enter Tryz.func101,Tryz.ntmps101;go_upto_region 1 with fail;have HDR:Hid (w.drawn≤(((w.alloc (.cells #[.pointer (some ⟨b,0,none⟩),i] 177)).alloc (.cells #[.int .i64 0,.int .i64 0] 30)).alloc (.cells #[.int .i64 0,.int .i64 0] 30)).drawn):=hid (Nat.le_refl _);generalize ((w.alloc (.cells #[.pointer (some ⟨b,0,none⟩),i] 177)).alloc (.cells #[.int .i64 0,.int .i64 0] 30)).alloc (.cells #[.int .i64 0,.int .i64 0] 30)=w1 at *;obtain⟨g,c,hbl,hgl,_,_,_,c6,hp⟩:=HC.out w1 hb;obtain⟨p0,p1⟩:=hp i (by omega);obtain⟨p2,p3⟩:=hp (i+1) hi;obtain⟨⟨ax,ay⟩,hpa⟩:∃z,l[i]! = z:=⟨_,rfl⟩;obtain⟨⟨bx,by_⟩,hpb⟩:∃z,l[i+1]! = z:=⟨_,rfl⟩;rw[hpa]at p0 p1;rw[hpb]at p2 p3;have HPA:=hid hpa;have HPB:=hid hpb;clear hpa hpb;dsimp only at *;clear hp HC;generalize hn3:w.heap.size+1+1=n3 at *;generalize hn2:w.heap.size+1=n2 at *;generalize hn1:w.heap.size=n1 at *;have k0:=hx.cell 0;have k1:=hx.cell 1;have g0:=h2.cell 0;have g1:=h2.cell 1;have q0:=h2.frozen 0;have q1:=h2.frozen 1;have g2:=h3.cell 0;have g3:=h3.cell 1;have q2:=h3.frozen 0;have q3:=h3.frozen 1;simp only[gz,gs]at k0 k1 g0 g1 g2 g3;have e1:n2≠n3:=by omega
 have e2:n1≠n2:=by omega
 have e3:n1≠n3:=by omega
 have e4:b≠n2:=by omega
 have e5:b≠n3:=by omega
 have e6:g≠n2:=by omega
 have e7:g≠n3:=by omega
 have j0:(0:Int)≤(i:Int):=by omega
 have j1:(0:Int)≤(i:Int)+1:=by omega
 have j2:(i:Int)<(l.length:Int):=by omega
 have j3:(i:Int)+1<(l.length:Int):=by omega
 have jw:=IntWalk.i64_in ((i:Int)+1) (by omega);have hN:=hid (And.intro hn1 (And.intro hn2 hn3));clear hn1 hn2 hn3;go_region
 all_goals
  go_wp2_with fail;have z2:=((h2.set 0 (.int .i64 ax)).set 1 (.int .i64 ay)).other (n:=n3) e1 0 (.int .i64 bx) |>.other (n:=n3) e1 1 (.int .i64 by_);have z3:=((h3.other (n:=n2) (Ne.symm e1) 0 (.int .i64 ax)).other (n:=n2) (Ne.symm e1) 1 (.int .i64 ay)).set 0 (.int .i64 bx) |>.set 1 (.int .i64 by_)
  have zb:Below n1 w ((((w1.setCell ⟨n2,0,none⟩ (.int .i64 ax)).setCell ⟨n2,1,none⟩ (.int .i64 ay)).setCell ⟨n3,0,none⟩ (.int .i64 bx)).setCell ⟨n3,1,none⟩ (.int .i64 by_)):=
   (((hb.setCell (p:=⟨n2,0,none⟩) (by show n1≤n2;have:=hN.out;omega) _).setCell (p:=⟨n2,1,none⟩) (by show n1≤n2;have:=hN.out;omega) _).setCell (p:=⟨n3,0,none⟩) (by show n1≤n3;have:=hN.out;omega) _).setCell (p:=⟨n3,1,none⟩) (by show n1≤n3;have:=hN.out;omega) _
  have zd:w.drawn≤((((w1.setCell ⟨n2,0,none⟩ (.int .i64 ax)).setCell ⟨n2,1,none⟩ (.int .i64 ay)).setCell ⟨n3,0,none⟩ (.int .i64 bx)).setCell ⟨n3,1,none⟩ (.int .i64 by_)).drawn:=by simp only[oD];exact HDR.out
  generalize (((w1.setCell ⟨n2,0,none⟩ (.int .i64 ax)).setCell ⟨n2,1,none⟩ (.int .i64 ay)).setCell ⟨n3,0,none⟩ (.int .i64 bx)).setCell ⟨n3,1,none⟩ (.int .i64 by_)=w5 at *;have r1:w5.drew.cell? ⟨n2,0,none⟩=some (.int .i64 ax):=z2.cell 0;have r2:w5.drew.cell? ⟨n2,1,none⟩=some (.int .i64 ay):=z2.cell 1;have r3:w5.drew.cell? ⟨n3,0,none⟩=some (.int .i64 bx):=z3.cell 0;have r4:w5.drew.cell? ⟨n3,1,none⟩=some (.int .i64 by_):=z3.cell 1;refine bodyPost_ret (v:=.tuple #[ae (ax,ay),ae (bx,by_)]) (by simp[results,Tryz.results101,go_sem,r1,r2,r3,r4,ae]) rfl ?_;exact⟨by rw[HPA.out,HPB.out],⟨by rw[hN.out.1];exact zb.drew,Nat.le_succ_of_le zd⟩⟩
theorem gK(b i:Nat)(a:Ar)(l:List Pt)(w:World)(hL:cU w b a l)(hi:i+1<l.length)(hm:l.length≤1000000000):Calls Tryz.prog 101 #[sgV b i] w (RetV w (.tuple #[ae l[i]!,ae l[i+1]!])):=(fT b i a l w hL hi hm).mono fun _ _ h=>h.r
theorem iE(b i:Nat)(w:World)(hm:i≤1000000000):Calls Tryz.prog 103 #[sgV b i] w (RetV w (.bool (decide (i=0)))):=by
 unfold sgV;have hb:=bw1 w (.cells #[.pointer (some ⟨b,0,none⟩),i] 177)
 by_cases h:i=0
 ·subst h
  go_enter Tryz.func103,Tryz.ntmps103;go_wp2;go_ret;exact RetV.bool (by simp) hb
 ·have h1:((i:Int)==0)=false:=by simp;omega
  go_enter Tryz.func103,Tryz.ntmps103;go_wp2;go_ret;exact RetV.bool (by simp[h]) hb
theorem jM(b i:Nat)(a:Ar)(l:List Pt)(w:World)(hL:cU w b a l)(hm:l.length≤1000000000)(hm2:i≤1000000000):Calls Tryz.prog 104 #[sgV b i] w (RetV w (.bool (decide (i+2=l.length)))):=by
 unfold sgV;have hb:=bw1 w (.cells #[.pointer (some ⟨b,0,none⟩),i] 177);have hx:=Bx.new (t:=177) (cs:=[.pointer (some ⟨b,0,none⟩),.int .i64 i]) w rfl;obtain⟨g,c,hbl,hgl,_,_,_,c6,_⟩:=hL.cells hb;have hw:=IntWalk.i64_in ((l.length:Int)-2) (by omega);clear hL;go_enter Tryz.func104,Tryz.ntmps104;go_upto_region 1 with fail;generalize w.alloc (.cells #[.pointer (some ⟨b,0,none⟩),i] 177)=w1 at *;have k0:=hx.cell 0;have k1:=hx.cell 1;have HB:=hid hb;simp only[gz,gs]at k0 k1
 by_cases h:i+2=l.length
 ·have h1:((i:Int)==(l.length:Int)-2)=true:=by simp;omega
  clear hb hx;go_quiet (fail);go_wp2;go_ret;exact RetV.bool (by rw[decide_eq_true h]) (below_drewN HB.out nq)
 ·have h1:((i:Int)==(l.length:Int)-2)=false:=by simp;omega
  clear hb hx;go_quiet (fail);go_wp2;go_ret;exact RetV.bool (by rw[decide_eq_false h]) (below_drewN HB.out nq)
def sgW(l:List Pt)(i:Nat):Int:=min l[i]!.1 l[i+1]!.1
def sgE(l:List Pt)(i:Nat):Int:=max l[i]!.1 l[i+1]!.1
theorem fS(b i:Nat)(a:Ar)(l:List Pt)(w:World)(hL:cU w b a l)(hi:i+1<l.length)(hm:l.length≤1000000000):Calls Tryz.prog 98 #[sgV b i] w (eC w (.int .i64 (sgW l i))):=by
 have cE:=hid fun W (hb:Below w.heap.size w W)=>fT b i a l W (hL.below hb) hi hm
 have HR:=hid (show sgW l i=min l[i]!.1 l[i+1]!.1 from rfl);generalize sgW l i=r at *;generalize l[i]! = pa at *;generalize l[i+1]! = pb at *;obtain⟨ax,ay⟩:=pa;obtain⟨bx,by_⟩:=pb;unfold sgV ae at *;dsimp only at *;have hb:=bw1 w (.cells #[.pointer (some ⟨b,0,none⟩),i] 177);have hx:=Bx.new (t:=177) (cs:=[.pointer (some ⟨b,0,none⟩),.int .i64 i]) w rfl;clear hL hi hm;go_enter Tryz.func98,Tryz.ntmps98;go_upto_region 1 with fail;have hdr:w.drawn≤(w.alloc (.cells #[.pointer (some ⟨b,0,none⟩),i] 177)).drawn:=Nat.le_refl _;generalize w.alloc (.cells #[.pointer (some ⟨b,0,none⟩),i] 177)=w1 at *;have k0:=hx.cell 0;have k1:=hx.cell 1;simp only[gz,gs]at k0 k1;go_wp2_with fail;refine(cE.out _ hb).mono ?_;rintro e w2 ⟨rfl,hb2,hd2⟩;have HD2:=hid (Nat.le_trans hdr hd2);clear hd2;have HB:=hid (hb.trans (hb2.mono hb.size));have HB2:=hid (HB.out.trans (((bw1 w2 (.cells #[ax,ay] 30)).trans ((bw1 _ (.cells #[bx,by_] 30)).mono (bw1 _ _).size)).mono HB.out.size));clear k0 k1 hx hb hb2 cE;go_wp2;go_ret;exact⟨by rw[HR.out];rfl,HB2.out,HD2.out⟩
theorem mV(b i:Nat)(a:Ar)(l:List Pt)(w:World)(hL:cU w b a l)(hi:i+1<l.length)(hm:l.length≤1000000000):Calls Tryz.prog 99 #[sgV b i] w (eC w (.int .i64 (sgE l i))):=by
 have cE:=hid fun W (hb:Below w.heap.size w W)=>fT b i a l W (hL.below hb) hi hm
 have HR:=hid (show sgE l i=max l[i]!.1 l[i+1]!.1 from rfl);generalize sgE l i=r at *;generalize l[i]! = pa at *;generalize l[i+1]! = pb at *;obtain⟨ax,ay⟩:=pa;obtain⟨bx,by_⟩:=pb;unfold sgV ae at *;dsimp only at *;have hb:=bw1 w (.cells #[.pointer (some ⟨b,0,none⟩),i] 177);have hx:=Bx.new (t:=177) (cs:=[.pointer (some ⟨b,0,none⟩),.int .i64 i]) w rfl;clear hL hi hm;go_enter Tryz.func99,Tryz.ntmps99;go_upto_region 1 with fail;have hdr:w.drawn≤(w.alloc (.cells #[.pointer (some ⟨b,0,none⟩),i] 177)).drawn:=Nat.le_refl _;generalize w.alloc (.cells #[.pointer (some ⟨b,0,none⟩),i] 177)=w1 at *;have k0:=hx.cell 0;have k1:=hx.cell 1;simp only[gz,gs]at k0 k1;go_wp2_with fail;refine(cE.out _ hb).mono ?_;rintro e w2 ⟨rfl,hb2,hd2⟩;have HD2:=hid (Nat.le_trans hdr hd2);clear hd2;have HB:=hid (hb.trans (hb2.mono hb.size));have HB2:=hid (HB.out.trans (((bw1 w2 (.cells #[ax,ay] 30)).trans ((bw1 _ (.cells #[bx,by_] 30)).mono (bw1 _ _).size)).mono HB.out.size));clear k0 k1 hx hb hb2 cE;go_wp2;go_ret;exact⟨by rw[HR.out];rfl,HB2.out,HD2.out⟩
theorem pi(b i:Nat)(a:Ar)(l:List Pt)(w:World)(hL:cU w b a l)(hi:i+1<l.length)(hm:l.length≤1000000000):Calls Tryz.prog 98 #[sgV b i] w (RetV w (.int .i64 (sgW l i))):=(fS b i a l w hL hi hm).mono fun _ _ h=>h.r
theorem pk(b i:Nat)(a:Ar)(l:List Pt)(w:World)(hL:cU w b a l)(hi:i+1<l.length)(hm:l.length≤1000000000):Calls Tryz.prog 99 #[sgV b i] w (RetV w (.int .i64 (sgE l i))):=(mV b i a l w hL hi hm).mono fun _ _ h=>h.r
end Go.Proofs
namespace Go.Proofs
open Go.RowKit Go.Proofs.Mp Go.Lib
def aZ(w W:World)(g:Nat)(dk:Array (Int×Int)):Prop:=
 w.grownBy W (some g)∧(∀j,W.frozen? ⟨g,j,none⟩=false)∧∀j,j<dk.size→W.cell? ⟨g,j*2,none⟩=some (.int .i64 dk[j]!.1)∧W.cell? ⟨g,j*2+1,none⟩=some (.int .i64 dk[j]!.2)
theorem aZ.drewN{w W:World}{g:Nat}{dk:Array (Int×Int)}(h:aZ w W g dk)(n:Nat):aZ w (W.drewN n) g dk:=⟨⟨h.1.os,h.1.tape,h.1.output,h.1.size,h.1.block⟩,h.2⟩
theorem aZ.drew{w W:World}{g:Nat}{dk:Array (Int×Int)}(h:aZ w W g dk):aZ w W.drew g dk:=⟨⟨h.1.os,h.1.tape,h.1.output,h.1.size,h.1.block⟩,h.2⟩
theorem aj(w:World)(p:Addr)(v:Value):w.grownBy (w.setCell p v) (some p.block):=
 ⟨rfl,rfl,rfl,by simp[World.setCell],fun k hk hne=>by rw[heap_setCell_other _ _ _ _ (by intro e;exact hne (by rw[e]))]⟩
theorem aZ.set{w W:World}{g:Nat}{dk:Array (Int×Int)}(h:aZ w W g dk){i:Nat}(hi:i<dk.size)(x y:Int) :
  aZ w ((W.setCell ⟨g,i*2,none⟩ (.int .i64 x)).setCell ⟨g,i*2+1,none⟩ (.int .i64 y)) g (dk.setIfInBounds i (x,y)):=by
 obtain⟨h1,h2,h3⟩:=h;refine⟨(h1.trans (aj W _ _)).trans (aj _ _ _),fun j=>by simp[h2 j],fun j hj=>?_⟩;rw[Array.size_setIfInBounds]at hj
 by_cases e:j=i
 ·subst e
  obtain⟨c1,c2⟩:=h3 j hj;have e1:(dk.setIfInBounds j (x,y))[j]! = (x,y):=by simp[hj]
  rw[e1];constructor
  ·rw[World.cell?_setCell_other _ _ _ _ (by intro e;injection e with _ e _;omega)]
   exact World.cell?_setCell_same _ _ _ c1
  ·refine World.cell?_setCell_same _ _ _ (u:=.int .i64 dk[j]!.2) ?_
   rw[World.cell?_setCell_other _ _ _ _ (by intro e;injection e with _ e _;omega)];exact c2
 ·have e1:(dk.setIfInBounds i (x,y))[j]! = dk[j]!:=by
   simp only[getElem!_def,Array.getElem?_setIfInBounds,if_neg (Ne.symm e)]
  rw[e1];obtain⟨c1,c2⟩:=h3 j hj;constructor
  ·rw[World.cell?_setCell_other _ _ _ _ (by intro e;injection e with _ e _;omega),World.cell?_setCell_other _ _ _ _ (by intro e;injection e with _ e _;omega)]
   exact c1
  ·rw[World.cell?_setCell_other _ _ _ _ (by intro e;injection e with _ e _;omega),World.cell?_setCell_other _ _ _ _ (by intro e;injection e with _ e _;omega)]
   exact c2
theorem dO(b:Nat):∀(vs:List Value) (o:Nat) (w:World),w.grownBy (w.setCells b o vs) (some b)
 | [],_,w=>World.grownBy.refl _ _
 | v::r,o,w=>(aj w ⟨b,o,none⟩ v).trans (dO b r (o+1) _)
theorem d6{P:Program}(w:World)(t e ty:TypeId)(z:Value)(ht:P.underlying t=some (.slice e))(hv:∀w,(zeroValue e).run P w=.ok z w)(h1:∀v∈z.cells,v.oneCell'=true)(b o n c:Nat)(hn:0<n)(hz:0<z.cells.size)
  (hc:∀j,j<n*z.cells.size→(w.cell? ⟨b,o+j,none⟩).isSome=true)(hf:∀j,j<n*z.cells.size→w.frozen? ⟨b,o+j,none⟩=false) :
  ∃vs:List Value,vs.length=n*z.cells.size∧(Builtin.clear_ #[t] ty #[.slice (some ⟨b,o,none⟩) n c]).run P w=.ok (.tuple #[]) (w.setCells b o vs):=by
 refine⟨(Builtin.zeroCells z.cells n).toList,by simp[Builtin.zeroCells],?_⟩
 have hst:=run_storeCells_cells (P:=P) b o (Builtin.zeroCells z.cells n).toList 0 w (by simpa [Builtin.zeroCells] using hc) (by simpa [Builtin.zeroCells] using hf) (by
  intro v hv';simp only[Builtin.zeroCells,Array.toList_map,List.mem_map]at hv';obtain⟨i,_,rfl⟩:=hv';have hm:=Nat.mod_lt i hz;rw[getElem!_pos z.cells _ hm]
  exact h1 _ (Array.getElem_mem hm))
 simp only[Nat.add_zero]at hst;obtain⟨m,rfl⟩:∃m,n=m+1:=⟨n-1,by omega⟩;simp[Builtin.clear_,run_underlying ht,hv,hst]
def oE(xs:List (Int×Int)):List (Int×Int):=compactUpTo xs.toArray xs.toArray.size
theorem aZ.done{w W:World}{g k:Nat}{d dk:Array (Int×Int)}(h:aZ w W g dk)(hg:g<w.heap.size)(hI:CompInv d d.size k dk){vs:List Value}(hk:k≤d.size) :
  w.grownBy (W.setCells g (k*2) vs) (some g)∧Rd 2 encR (W.setCells g (k*2) vs) (some ⟨g,0,none⟩) (compactUpTo d d.size):=by
 obtain⟨h1,h2,h3⟩:=h;have hg2:=h1.trans (dO g vs (k*2) W);refine⟨hg2,.inr ⟨g,0,rfl,Nat.lt_of_lt_of_le hg hg2.size,fun j hj i u hu=>?_⟩⟩;rw[hI.len]at hj;have hlow:=hI.low j hj
 have he:(compactUpTo d d.size)[j]! = dk[j]!:=by
  rw[getElem!_pos _ _ (by rw[hI.len];exact hj)];rw[List.getElem?_eq_getElem (by rw[hI.len];exact hj)]at hlow;injection hlow
 rw[he]at hu;obtain⟨c1,c2⟩:=h3 j (by rw[hI.size];omega)
 have hi:i<2:=by
  rcases Nat.lt_or_ge i 2 with h|h
  ·exact h
  ·rw[List.getElem?_eq_none (by rw[encR_len];exact h)]at hu;cases hu
 rw[World.cell?_setCells_out _ _ _ _ _ (fun _ _=>.inl (by simp only[];omega))];have:i=0∨i=1:=by omega
 rcases this with rfl|rfl
 ·rw[show 0+j*2+0=j*2 by omega,c1]
  exact hu
 ·rw[show 0+j*2+1=j*2+1 by omega,c2]
  exact hu
theorem aZ.rd{w W:World}{g:Nat}{d:Array (Int×Int)}(h:aZ w W g d)(hg:g<w.heap.size)(hall:∀j,j<d.size→keeps d j=true):Rd 2 encR W (some ⟨g,0,none⟩) (compactUpTo d d.size):=by
 obtain⟨h1,h2,h3⟩:=h;rw[compactUpTo_all d _ hall,range_map_get];refine .inr ⟨g,0,rfl,Nat.lt_of_lt_of_le hg h1.size,fun j hj i u hu=>?_⟩;rw[Array.length_toList]at hj;obtain⟨c1,c2⟩:=h3 j hj;have he:d.toList[j]! = d[j]!:=by simp[getElem!_def]
 rw[he]at hu
 have hi:i<2:=by
  rcases Nat.lt_or_ge i 2 with h|h
  ·exact h
  ·rw[List.getElem?_eq_none (by rw[encR_len];exact h)]at hu;cases hu
 have:i=0∨i=1:=by omega
 rcases this with rfl|rfl
 ·rw[show 0+j*2+0=j*2 by omega,c1]
  exact hu
 ·rw[show 0+j*2+1=j*2+1 by omega,c2]
  exact hu
theorem Tryz.neq30(x1 x2 y1 y2:Int)(W:World):(binOp .neq 30 (.agg #[x1,x2]) (.agg #[y1,y2])).run Tryz.prog W=.ok (.bool (!decide ((x1,x2)=(y1,y2)))) W:=by
 have h:=Tryz.eql30 x1 x2 y1 y2 W;simp only[binOp]at h ⊢;simp only[Sem.run_bind]at h ⊢;generalize (Op.equal 30 _ _).run Tryz.prog W=r at h ⊢;cases r<;>simp_all [Result.andThen]
theorem lk(g cap:Nat)(xs:List (Int×Int))(w:World)(hg:g<w.heap.size)(hC:aZ w w g xs.toArray)(hsz:xs.length≤1000000)(hcap:xs.length≤cap) :
  Calls Tryz.prog 109 #[.slice (some ⟨g,0,none⟩) xs.length cap] w (fun e w'=>e=.returned (.slice (some ⟨g,0,none⟩) (oE xs).length cap)∧Rd 2 encR w' (some ⟨g,0,none⟩) (oE xs)∧w.grownBy w' (some g)):=by
 have hn:xs.length=xs.toArray.size:=by simp
 unfold oE;rw[hn]at hsz hcap ⊢;generalize xs.toArray=d at *;clear hn;have HC:=hid hC;have heq:=Tryz.eql30;have hne:=Tryz.neq30;have hgd:=Tryz.guard30
 have same:∀q,(∀j,j<d.size→keeps d j=true)→(compactUpTo d d.size).length=d.size∧Rd 2 encR (w.drewN q) (some ⟨g,0,none⟩) (compactUpTo d d.size)∧w.grownBy (w.drewN q) (some g):=by
  intro q hall;refine⟨by rw[compactUpTo_all d _ hall,range_map_get];simp,(hC.drewN q).rd hg hall,(hC.drewN q).1⟩
 have HS:=hid same;clear same hC
 by_cases h2:d.size<2
 ·go_enter Tryz.func109,Tryz.ntmps109
  go_wp2;go_ret;obtain⟨e1,e2,e3⟩:=HS.out 0 (fun j hj=>keeps_lt_one d j (by omega));exact⟨by rw[e1];rfl,e2,e3⟩
 ·go_enter Tryz.func109,Tryz.ntmps109
  go_wp2;go_loopw [3] (fun s3 wr=>∃k q:Nat,1≤k∧k≤d.size∧s3=.int .i64 k∧wr=w.drewN q∧∀j,j<k→keeps d j=true) (fun s3 _=>d.size-(intOf s3).toNat)
  case atStart=>exact⟨1,0,Nat.le_refl _,by omega,rfl,rfl,keeps_lt_one d⟩
  case round=>
   obtain⟨k,q,hk1,hk,rfl,rfl,hall⟩:=hrel
   by_cases hlt:k<d.size
   rotate_left
   ·have hkd:d.size=k:=by omega
    subst hkd;have hge:¬((d.size:Int)<(d.size:Int)):=by omega
    obtain⟨e1,e2,e3⟩:=HS.out q hall;clear hall;go_wp2;go_ret;exact⟨rfl,e2,e3⟩
   ·obtain⟨c1,c2⟩:=HC.out.2.2 k hlt
    obtain⟨p1,p2⟩:=HC.out.2.2 (k-1) (by omega);have A:=hid hall;have hli:(k:Int)<(d.size:Int):=by omega
    obtain⟨k0,rfl⟩:∃k0,k=k0+1:=⟨k-1,by omega⟩;rw[Nat.add_sub_cancel]at p1 p2;obtain⟨x1,x2,hx⟩:∃x1 x2,d[k0+1]! = (x1,x2):=⟨_,_,rfl⟩;obtain⟨y1,y2,hy⟩:∃y1 y2,d[k0]! = (y1,y2):=⟨_,_,rfl⟩;rw[hx]at c1 c2;rw[hy]at p1 p2;dsimp only at c1 c2 p1 p2;have B:=hid (And.intro hx hy);clear hx hy hall;rw[show(((k0+1:Nat)):Int)=(k0:Int)+1 by omega]at *;have hk00:(0:Int)≤(k0:Int)+1:=by omega
    by_cases hdup:(x1,x2)=(y1,y2)
    ·have hneg:=keeps_neg (d:=d) (m:=k0+1) (by omega) (by rw[Nat.add_sub_cancel,B.out.1,B.out.2,hdup])
     injection hdup with hd1 hd2;subst hd1 hd2;have HI0:=hid (CompInv.start A.out hneg);clear hneg;go_wp2_with fail;go_region;go_wp2;clear c1 c2 p1 p2;go_loopw [3,5] (fun s3 s5 wr=>∃(kk m:Nat) (dk:Array (Int×Int)),s3=.int .i64 kk∧s5=.int .i64 ((m:Int)+1)∧k0+1+(m+1)≤d.size∧Hid (aZ w wr g dk)∧Hid (CompInv d (k0+1+(m+1)) kk dk)) (fun _ s5 _=>d.size-(intOf s5).toNat)
     case atStart=>exact⟨k0+1,0,d,by go_num,by go_num,by omega,hid (HC.out.drewN _),HI0⟩
     case round=>
      obtain⟨kk,m,dk,rfl,rfl,hle,HR,HI⟩:=hrel;have hkk:=HI.out.lt;have hds:=HI.out.size
      by_cases hlt2:k0+1+(m+1)<d.size
      ·have hmi:(m:Int)+1<(d.size:Int)-((k0:Int)+1):=by omega
       have hm0:(0:Int)≤(m:Int)+1:=by omega
       have hmn:m+1<d.size-(k0+1):=by omega
       have hkd:kk<d.size:=by omega
       obtain⟨c1,c2⟩:=HR.out.2.2 (k0+1+(m+1)) (by omega);obtain⟨p1,p2⟩:=HR.out.2.2 (k0+1+m) (by omega);obtain⟨o1,o2⟩:=HR.out.2.2 kk (by omega);have f1:=HR.out.2.1 (kk*2);have f2:=HR.out.2.1 (kk*2+1);rw[HI.out.high _ (by omega),show(k0+1+(m+1))*2=(k0+1)*2+(m+1)*2 by omega]at c1 c2;rw[HI.out.high _ (by omega),show(k0+1+m)*2=(k0+1)*2+m*2 by omega]at p1 p2;obtain⟨u1,u2,hu⟩:∃x1 x2,d[k0+1+(m+1)]! = (x1,x2):=⟨_,_,rfl⟩;obtain⟨v1,v2,hv⟩:∃y1 y2,d[k0+1+m]! = (y1,y2):=⟨_,_,rfl⟩;rw[hu]at c1 c2;rw[hv]at p1 p2;dsimp only at c1 c2 p1 p2;have C:=hid (And.intro hu hv);clear hu hv
       by_cases huv:(u1,u2)=(v1,v2)
       ·have hneg:=keeps_neg (d:=d) (m:=k0+1+(m+1)) (by omega) (by rw[show k0+1+(m+1)-1=k0+1+m by omega,C.out.1,C.out.2,huv])
        have HI1:=hid (HI.out.skip hneg);clear hneg;injection huv with hd1 hd2;subst hd1 hd2;go_wp2_with fail;go_region;go_wp2;go_roundw
        case rel=>exact⟨kk,m+1,dk,rfl,by go_num,by omega,hid HR.out.drew,HI1⟩
        case measure=>simp[intOf];omega
       ·have hpos:=keeps_pos (d:=d) (m:=k0+1+(m+1)) (by rw[show k0+1+(m+1)-1=k0+1+m by omega,C.out.1,C.out.2];exact huv)
        have HI1:=hid (HI.out.keep hlt2 hpos);rw[C.out.1]at HI1;clear hpos;go_wp2_with fail;go_region;go_wp2;go_roundw
        case rel=>exact⟨kk+1,m+1,_,by go_num,by go_num,by omega,hid (HR.out.drew.set (by omega) u1 u2),HI1⟩
        case measure=>simp[intOf];omega
      ·have hend:k0+1+(m+1)=d.size:=by omega
       have hge:¬((m:Int)+1<(d.size:Int)-((k0:Int)+1)):=by omega
       have hmn:¬(m+1<d.size-(k0+1)):=by omega
       have hme:m+1=d.size-(k0+1):=by omega
       have hcl:∃vs:List Value,∀ty,(Builtin.clear_ #[56] ty #[.slice (some ⟨g,kk*2,none⟩) (d.size-kk) (cap-kk)]).run Tryz.prog wr=.ok (.tuple #[]) (wr.setCells g (kk*2) vs):=by
        obtain⟨vs,_,hrun⟩:=d6 (P:=Tryz.prog) wr 56 30 0 (.agg #[.int .i64 0,.int .i64 0]) (by kernel_rfl) (fun w=>by kernel_rfl) (by intro v hv;simp[Value.cells]at hv;rw[hv];rfl) g (kk*2) (d.size-kk) (cap-kk) (by omega) (by decide) (fun j hj=>by
         have hj:j<(d.size-kk)*2:=hj;obtain⟨o1,o2⟩:=HR.out.2.2 (kk+j/2) (by omega)
         rcases Nat.mod_two_eq_zero_or_one j with h|h
         ·rw[show kk*2+j=(kk+j/2)*2 by omega,o1];rfl
         ·rw[show kk*2+j=(kk+j/2)*2+1 by omega,o2];rfl) (fun j hj=>HR.out.2.1 _)
        exact⟨vs,fun ty=>hrun⟩
       obtain⟨vs,hcl⟩:=hcl;rw[hend]at HI;have HE:=hid (HR.out.done (vs:=vs) hg HI.out (by omega));have HL:=hid HI.out.len;go_wp2;go_ret;exact⟨by rw[HL.out];rfl,HE.out.2,HE.out.1⟩
    ·have hpos:=keeps_pos (d:=d) (m:=k0+1) (by rw[Nat.add_sub_cancel,B.out.1,B.out.2];exact hdup)
     have HP:=hid hpos;clear hpos;go_wp2_with fail;go_region;go_wp2;go_roundw
     case rel=>exact⟨k0+1+1,q+1,by omega,by omega,by go_num,rfl,fun j hj=>by
      by_cases e:j=k0+1
      ·rw[e];exact HP.out
      ·exact A.out j (by omega)⟩
     case measure=>simp[intOf];omega
end Go.Proofs
namespace Go.Proofs
open Go.RowKit Go.Proofs.Mp Go.Lib
theorem kO(l:List Pt):∀m,m≤l.length→compactUpTo l.toArray m=Ed.cmpL (l.take m)∧(0<m→(Ed.cmpL (l.take m)).getLast?=some l[m-1]!)
 | 0,_=>⟨by simp[compactUpTo,Ed.cmpL],fun h=>absurd h (Nat.lt_irrefl _)⟩
 | m+1,h=>by
  obtain⟨h1,h2⟩:=kO l m (by omega)
  have et:l.take (m+1)=l.take m++[l[m]!]:=by
   rw[getElem!_pos l m (by omega)];exact List.take_succ_eq_append_getElem (by omega)
  have ed:∀j,j<l.length→l.toArray[j]! = l[j]!:=fun j hj=>by
   rw[getElem!_pos l j hj,getElem!_pos l.toArray j (by simpa using hj)];simp
  rw[compactUpTo_succ,h1,et,Nat.add_sub_cancel,ed m (by omega)]
  by_cases h0:m=0
  ·subst h0
   rw[keeps_lt_one _ 0 (by omega)];simp[Ed.cmpL,Ed.cmpA]
  ·have hl:=h2 (by omega)
   rw[Ed.cmp_app hl]
   by_cases e:l[m-1]! = l[m]!
   ·rw[if_pos e,keeps_neg (by omega) (by rw[ed _ (by omega),ed _ (by omega),e])]
    exact⟨by simp,fun _=>by rw[hl,e]⟩
   ·rw[if_neg e,keeps_pos (by rw[ed _ (by omega),ed _ (by omega)];exact fun h=>e h.symm)]
    exact⟨by simp,fun _=>by simp⟩
theorem rV(l:List Pt):oE l=Ed.cmpL l:=by
 have:=(kO l l.length (Nat.le_refl _)).1;rw[List.take_length]at this;unfold oE;rw[List.size_toArray];exact this
end Go.Proofs
namespace Go.Proofs
open Go.RowKit Go.Proofs.Mp Go.Lib
def dU(xs:List Pt)(j:Nat):List Value:=List.ofFn (n:=(xs.length-j)*2) fun q=>if q.val%2=0 then .int .i64 xs[j+q.val/2]!.1 else .int .i64 xs[j+q.val/2]!.2
theorem bV(xs:List Pt)(j:Nat):(dU xs j).length=(xs.length-j)*2:=by simp[dU]
theorem iC{xs:List Pt}{j q:Nat}(h:q<(xs.length-j)*2):(dU xs j)[q]?=some (if q%2=0 then .int .i64 xs[j+q/2]!.1 else .int .i64 xs[j+q/2]!.2):=by
 unfold dU;rw[List.getElem?_ofFn,dif_pos h]
theorem rJ{xs:List Pt}{i j:Nat}(h:j+1<xs.length):(xs.eraseIdx i)[j]! = if j<i then xs[j]! else xs[j+1]!:=by
 by_cases e:j<i
 ·rw[if_pos e]
  simp[getElem!_def,List.getElem?_eraseIdx,e]
 ·rw[if_neg e]
  simp[getElem!_def,List.getElem?_eraseIdx,e]
theorem aZ.del{w:World}{g i:Nat}{xs:List Pt}(hC:aZ w w g xs.toArray)(hi:i<xs.length){W:World}(hW:w.grownBy W (some g))(hf:∀j,W.frozen? ⟨g,j,none⟩=false)(hc:∀j,W.cell? ⟨g,j,none⟩=w.cell? ⟨g,j,none⟩){vs:List Value} :
  aZ w ((W.setCells g (i*2) (dU xs (i+1))).setCells g ((xs.length-1)*2) vs) g (xs.eraseIdx i).toArray:=by
 obtain⟨_,h2,h3⟩:=hC;refine⟨(hW.trans (dO g _ _ _)).trans (dO g _ _ _),fun j=>by rw[World.frozen?_setCells,World.frozen?_setCells,hf],fun j hj=>?_⟩;have hl:(xs.eraseIdx i).toArray.size=xs.length-1:=by simp[List.length_eraseIdx_of_lt hi]
 rw[hl]at hj;have he:(xs.eraseIdx i).toArray[j]! = (xs.eraseIdx i)[j]!:=by simp[getElem!_def]
 rw[he,rJ (by omega)]
 have hcell:∀q,q<xs.length→w.cell? ⟨g,q*2,none⟩=some (.int .i64 xs[q]!.1)∧w.cell? ⟨g,q*2+1,none⟩=some (.int .i64 xs[q]!.2):=fun q hq=>by
  have:=h3 q (by simpa using hq);have e:xs.toArray[q]! = xs[q]!:=by simp[getElem!_def]
  rwa [e]at this
 have out:∀(W:World) (o q:Nat) (us:List Value),q<o→(W.setCells g o us).cell? ⟨g,q,none⟩=W.cell? ⟨g,q,none⟩:=fun W o q us h=>World.cell?_setCells_out g us o W ⟨g,q,none⟩ (fun _ _=>.inl h)
 rw[out _ ((xs.length-1)*2) (j*2) _ (by omega),out _ ((xs.length-1)*2) (j*2+1) _ (by omega)]
 by_cases h:j<i
 ·rw[if_pos h,out _ (i*2) (j*2) _ (by omega),out _ (i*2) (j*2+1) _ (by omega),hc,hc]
  exact hcell j (by omega)
 ·rw[if_neg h]
  have hsm:∀q,q<(dU xs (i+1)).length→(W.cell? ⟨g,i*2+q,none⟩).isSome=true:=fun q hq=>by
   rw[bV]at hq;rw[hc];obtain⟨o1,o2⟩:=hcell (i+q/2) (by omega)
   rcases Nat.mod_two_eq_zero_or_one q with h|h
   ·rw[show i*2+q=(i+q/2)*2 by omega,o1];rfl
   ·rw[show i*2+q=(i+q/2)*2+1 by omega,o2];rfl
  have key:∀q,q<(xs.length-(i+1))*2→(W.setCells g (i*2) (dU xs (i+1))).cell? ⟨g,i*2+q,none⟩=some (if q%2=0 then .int .i64 xs[i+1+q/2]!.1 else .int .i64 xs[i+1+q/2]!.2):=fun q hq=>by
   rw[World.cell?_setCells_in g _ (i*2) W hsm q (by rw[bV];exact hq),←iC hq,List.getElem?_eq_getElem]
  have k1:=key ((j-i)*2) (by omega);have k2:=key ((j-i)*2+1) (by omega);rw[show i*2+(j-i)*2=j*2 by omega,if_pos (by omega),show i+1+(j-i)*2/2=j+1 by omega]at k1;rw[show i*2+((j-i)*2+1)=j*2+1 by omega,if_neg (by omega),show i+1+((j-i)*2+1)/2=j+1 by omega]at k2;exact⟨k1,k2⟩
theorem mU(g cap i:Nat)(xs:List Pt)(w:World)(hC:aZ w w g xs.toArray)(hi:i<xs.length)(hsz:xs.length≤1000000)(hcap:xs.length≤cap)(hcm:cap≤9223372036854775807) :
  Calls Tryz.prog 56 #[.slice (some ⟨g,0,none⟩) xs.length cap,i,.int .i64 ((i:Int)+1)] w (fun e w'=>e=.returned (.slice (some ⟨g,0,none⟩) (xs.length-1) cap)∧aZ w w' g (xs.eraseIdx i).toArray):=by
 obtain⟨i0,hi0,hz0,hz1,hz2⟩:=Mp.info_parts Tryz.infoP
 have hcell:∀q,q<xs.length→w.cell? ⟨g,q*2,none⟩=some (.int .i64 xs[q]!.1)∧w.cell? ⟨g,q*2+1,none⟩=some (.int .i64 xs[q]!.2):=fun q hq=>by
  have:=hC.2.2 q (by simpa using hq);have e:xs.toArray[q]! = xs[q]!:=by simp[getElem!_def]
  rwa [e]at this
 obtain⟨A,hA,HS⟩:∃A:Addr,(if cap=i+1 then some (⟨g,0,none⟩:Addr) else some ⟨g,(i+1)*2,none⟩)=some A∧Hid (∀t u,(dU xs (i+1))[t]?=some u→w.drew.cell? (A.add t)=some u):=by
  by_cases h:cap=i+1
  ·refine⟨⟨g,0,none⟩,by simp[h],hid fun t u hu=>?_⟩
   have:=(List.getElem?_eq_some_iff.1 hu).1;rw[bV]at this;omega
  ·refine⟨⟨g,(i+1)*2,none⟩,by simp[h],hid fun t u hu=>?_⟩
   have ht:=(List.getElem?_eq_some_iff.1 hu).1;rw[bV]at ht;rw[iC ht]at hu;injection hu with hu;subst hu;rw[Addr.add_lit]
   show w.cell? _=_
   obtain⟨o1,o2⟩:=hcell (i+1+t/2) (by omega)
   rcases Nat.mod_two_eq_zero_or_one t with h|h
   ·rw[if_pos h,show(i+1)*2+t=(i+1+t/2)*2 by omega,o1]
   ·rw[if_neg (by omega),show(i+1)*2+t=(i+1+t/2)*2+1 by omega,o2]
 have H1:=hid (bV xs (i+1))
 have H2:=hid (show ∀u∈dU xs (i+1),u.oneCell'=true from fun u hu=>by
  unfold dU at hu;obtain⟨q,hq⟩:=List.mem_ofFn.1 hu;rw[←hq]
  split<;>rfl)
 have H3:=hid (show ∀t,t<(dU xs (i+1)).length→(w.drew.cell? ⟨g,0+i*2+t,none⟩).isSome=true∧w.drew.frozen? ⟨g,0+i*2+t,none⟩=false from fun t ht=>by
  rw[bV]at ht;refine⟨?_,hC.2.1 _⟩
  show(w.cell? _).isSome=true
  obtain⟨o1,o2⟩:=hcell (i+t/2) (by omega)
  rcases Nat.mod_two_eq_zero_or_one t with h|h
  ·rw[show 0+i*2+t=(i+t/2)*2 by omega,o1];rfl
  ·rw[show 0+i*2+t=(i+t/2)*2+1 by omega,o2];rfl)
 have HD:=hid (fun vs=>hC.del hi (W:=w.drew) (vs:=vs) hC.drew.1 (fun j=>hC.2.1 j) (fun j=>rfl));have HCC:=hid hC;generalize htl:dU xs (i+1)=news at *;have hilt:(i:Int)<(xs.length:Int):=by omega
 have hile:(i:Int)≤(i:Int)+1:=by omega
 have hi1:(i:Int)+1≤(xs.length:Int):=by omega
 have hne:((i:Int)==(i:Int)+1)=false:=by rw[beq_eq_false_iff_ne];omega
 have hi0':(0:Int)≤(i:Int)+1:=by omega
 have mixed:Tryz.prog.follows Departure.mixedOrders=true:=by kernel_rfl
 have hic:i≤cap:=by omega
 have hic1:i+1≤cap:=by omega
 clear hC hcell htl;go_enter Tryz.func56,Tryz.ntmps56;go_upto_region 5 with fail;go_wp2_with fail;go_region_law_o (refine step_append_room rfl (.tmp 22) (.tmp 25) 56 rfl 30 i0 2 Tryz.underlying56 hi0 hz1 g 0 i cap (by simp[Act.eval,Act.put]) A (xs.length-(i+1)) (cap-(i+1)) news (by simp[Act.eval,Act.put]) H1.out HS.out H2.out (by omega) H3.out ?_);rw[show i+(xs.length-(i+1))=xs.length-1 by omega];obtain⟨m,hm⟩:∃m,xs.length-1=m:=⟨_,rfl⟩;rw[hm]at HD ⊢
 have hcl:∃vs:List Value,∀ty,(Builtin.clear_ #[56] ty #[.slice (some ⟨g,m*2,none⟩) (xs.length-m) (cap-m)]).run Tryz.prog (w.drew.setCells g (i*2) news)=.ok (.tuple #[]) ((w.drew.setCells g (i*2) news).setCells g (m*2) vs):=by
  obtain⟨vs,_,hrun⟩:=d6 (P:=Tryz.prog) (w.drew.setCells g (i*2) news) 56 30 0 (.agg #[.int .i64 0,.int .i64 0]) (by kernel_rfl) (fun w=>by kernel_rfl) (by intro v hv;simp[Value.cells]at hv;rw[hv];rfl) g (m*2) (xs.length-m) (cap-m) (by omega) (by decide) (fun j hj=>by
   have hj:j<(xs.length-m)*2:=hj;rw[World.cell?_setCells_out g news (i*2) w.drew ⟨g,m*2+j,none⟩ (fun _ _=>.inr (by rw[H1.out];show i*2+(xs.length-(i+1))*2≤m*2+j;omega))]
   show(w.cell? _).isSome=true
   have hcell:=HCC.out.2.2 m (by simp;omega)
   rcases (show j=0∨j=1 by omega)with rfl|rfl
   ·rw[Nat.add_zero,hcell.1];rfl
   ·rw[hcell.2];rfl) (fun j hj=>by rw[World.frozen?_setCells];exact HCC.out.2.1 _)
  exact⟨vs,fun ty=>hrun⟩
 obtain⟨vs,hcl⟩:=hcl;have HDv:=hid (HD.out vs);have h1:(m:Int)≤(xs.length:Int):=by omega
 have h2:(xs.length:Int)≤(cap:Int):=by omega
 have h3:¬cap=m:=by omega
 have h4:m≤cap:=by omega
 have HM:=hid hm;clear HD hi0' hA hm hne hi1 hile hilt hic hic1;generalize w.drew.setCells g (i*2) news=W1 at *;go_wp2_with fail;go_ret;exact⟨by rw[HM.out];rfl,HDv.out⟩
end Go.Proofs
namespace Go.Proofs
open Go.RowKit Go.Proofs.Mp Go.Lib
abbrev gC(g:Int→Option Pt):Int→Option Value:=fun id=>(g id).map ae
def aX(g:Int→Option Pt)(id:Int):Pt:=(g id).getD (0,0)
def okId(A2:Ar)(pa pb pc pd:Pt)(g:Int→Option Pt)(id:Int):Bool:=(id==A2.frm||id==A2.dst)&&onB pa pb (aX g id)&&onB pc pd (aX g id)
def nextB(A:Ar)(l:List Pt)(i j:Nat):Bool:=decide (i+1=j)||(A.frm==A.dst&&decide (i=0)&&decide (j+2=l.length))
def compB(A1 A2:Ar)(l1 l2:List Pt)(i j:Nat)(g:Int→Option Pt):Bool:=
 let n:=meetN l1[i]! l1[i+1]! l2[j]! l2[j+1]!
 if A1.id=A2.id then (if nextB A1 l1 (min i j) (max i j)=true then n==1 else n==0)
 else if n=1 then okId A2 l1[i]! l1[i+1]! l2[j]! l2[j+1]! g A1.frm||okId A2 l1[i]! l1[i+1]! l2[j]! l2[j+1]! g A1.dst else n==0
theorem bk.small{W:World}{b:Nat}{a:Ar}{l:List Pt}{ok:Nat→Prop}(h:bk W b a l ok):bk W b a l (·<W.heap.size):=h.grown (World.grownBy.refl _ none) (fun _ _ _ e=>by cases e) (fun _ _ h=>h)
theorem dB(w:World)(n j:Nat)(v:Value):w.grownBy (w.setCell ⟨n,j,none⟩ v) (some n):=⟨by unfold World.setCell;split<;>rfl,by unfold World.setCell;split<;>rfl,by unfold World.setCell;split<;>rfl,by simp,fun k _ hk=>heap_setCell_other _ _ _ _ (fun e=>hk (by simp at e;rw[e]))⟩
theorem bk.set{W:World}{b n:Nat}{a:Ar}{l:List Pt}{m:Nat}(h:bk W b a l (·<m))(hn:m≤n)(j:Nat)(v:Value):bk (W.setCell ⟨n,j,none⟩ v) b a l (·<m):=h.grown (dB W n j v) (fun x hx _ e=>by injection e with e;omega) (fun _ h _=>h)
structure CpB(w W:World)(nS nT na nb nc nd b1 b2 i j:Nat)(A1 A2:Ar)(l1 l2:List Pt)(pa pb pc pd:Pt)(B N:Nat)(g:Int→Option Pt):Prop where
 s:Bx W nS 177 [.pointer (some ⟨b1,0,none⟩),i]
 t:Bx W nT 177 [.pointer (some ⟨b2,0,none⟩),j]
 a:Bx W na 30 [pa.1,pa.2]
 b:Bx W nb 30 [pb.1,pb.2]
 c:Bx W nc 30 [pc.1,pc.2]
 d:Bx W nd 30 [pd.1,pd.2]
 l1:bk W b1 A1 l1 (·<nS)
 l2:bk W b2 A2 l2 (·<nS)
 mp:MapV Tryz.prog 3 W B N (gC g)
 bel:Below w.heap.size w W
 bm:B<nS
 o:nT<na∧nT<nb∧nT<nc∧nT<nd
theorem CpB.below{w W W':World}{nS nT na nb nc nd b1 b2 i j:Nat}{A1 A2:Ar}{l1 l2:List Pt}{pa pb pc pd:Pt}{B N:Nat}{g:Int→Option Pt}(h:CpB w W nS nT na nb nc nd b1 b2 i j A1 A2 l1 l2 pa pb pc pd B N g)(hb:Below W.heap.size W W') :
  CpB w W' nS nT na nb nc nd b1 b2 i j A1 A2 l1 l2 pa pb pc pd B N g:=
 ⟨h.s.below hb,h.t.below hb,h.a.below hb,h.b.below hb,h.c.below hb,h.d.below hb,h.l1.below hb,h.l2.below hb,h.mp.below hb,h.bel.trans (hb.mono h.bel.size),h.bm,h.o⟩
theorem CpB.swap{w W:World}{nS nT na nb nc nd b1 i j:Nat}{A1:Ar}{l1:List Pt}{pa pb pc pd:Pt}{B N:Nat}{g:Int→Option Pt}(hne:nS≠nT)(hS:w.heap.size=nS)(hT:nS+1=nT)(h:CpB w W nS nT na nb nc nd b1 b1 i j A1 A1 l1 l1 pa pb pc pd B N g) :
  CpB w ((((W.setCell ⟨nS,0,none⟩ (.pointer (some ⟨b1,0,none⟩))).setCell ⟨nS,1,none⟩ (.int .i64 j)).setCell ⟨nT,0,none⟩ (.pointer (some ⟨b1,0,none⟩))).setCell ⟨nT,1,none⟩ (.int .i64 i)) nS nT na nb nc nd b1 b1 j i A1 A1 l1 l1 pa pb pc pd B N g:=by
 obtain⟨o1,o2,o3,o4⟩:=h.o;have o5:=h.bm;refine⟨?_,?_,?_,?_,?_,?_,?_,?_,?_,?_,h.bm,h.o⟩
 ·exact(((h.s.set 0 _).set 1 _).other (n:=nT) hne 0 _).other (n:=nT) hne 1 _
 ·exact(((h.t.other (n:=nS) hne.symm 0 (.pointer (some ⟨b1,0,none⟩))).other (n:=nS) hne.symm 1 (.int .i64 j)).set 0 _).set 1 _
 ·exact(((h.a.other (n:=nS) (by omega) 0 _).other (n:=nS) (by omega) 1 _).other (n:=nT) (by omega) 0 _).other (n:=nT) (by omega) 1 _
 ·exact(((h.b.other (n:=nS) (by omega) 0 _).other (n:=nS) (by omega) 1 _).other (n:=nT) (by omega) 0 _).other (n:=nT) (by omega) 1 _
 ·exact(((h.c.other (n:=nS) (by omega) 0 _).other (n:=nS) (by omega) 1 _).other (n:=nT) (by omega) 0 _).other (n:=nT) (by omega) 1 _
 ·exact(((h.d.other (n:=nS) (by omega) 0 _).other (n:=nS) (by omega) 1 _).other (n:=nT) (by omega) 0 _).other (n:=nT) (by omega) 1 _
 ·exact(((h.l1.set (Nat.le_refl _) 0 _).set (Nat.le_refl _) 1 _).set (by omega) 0 _).set (by omega) 1 _
 ·exact(((h.l2.set (Nat.le_refl _) 0 _).set (Nat.le_refl _) 1 _).set (by omega) 0 _).set (by omega) 1 _
 ·refine(((h.mp.kept (dB _ nS 0 _) (fun e=>?_)).kept (dB _ nS 1 _) (fun e=>?_)).kept (dB _ nT 0 _) (fun e=>?_)).kept (dB _ nT 1 _) (fun e=>?_)<;>(injection e with e;omega)
 ·rw[hS]
  have hb:=h.bel;rw[hS]at hb;exact(((hb.setCell (p:=⟨nS,0,none⟩) (Nat.le_refl _) _).setCell (p:=⟨nS,1,none⟩) (Nat.le_refl _) _).setCell (p:=⟨nT,0,none⟩) (by show nS≤nT;omega) _).setCell (p:=⟨nT,1,none⟩) (by show nS≤nT;omega) _
theorem gB(b1 b2 i j:Nat)(A1 A2:Ar)(l1 l2:List Pt)(B N:Nat)(g:Int→Option Pt)(w:World)(h1:cU w b1 A1 l1)(h2:cU w b2 A2 l2)(hi:i+1<l1.length)(hj:j+1<l2.length)(hm1:l1.length≤1000000000)(hm2:l2.length≤1000000000)
  (hn1:∀k,k<l1.length→Nr l1[k]!)(hn2:∀k,k<l2.length→Nr l2[k]!)(hM:MapV Tryz.prog 3 w B N (gC g))(hg:∀id q,g id=some q→Nr q)(hwf:(Lit.int .i64 A1.frm).wf=true∧(Lit.int .i64 A1.dst).wf=true)
  (hsame:A1.id=A2.id→b1=b2∧A1=A2∧l1=l2) :
  Calls Tryz.prog 100 #[sgV b1 i,sgV b2 j,.map (some B)] w (RetV w (.bool (compB A1 A2 l1 l2 i j g))):=by
 have HR:=Lib.hid (show ∀pa pb pc pd,l1[i]! = pa→l1[i+1]! = pb→l2[j]! = pc→l2[j+1]! = pd→compB A1 A2 l1 l2 i j g=if A1.id=A2.id then (if nextB A1 l1 (min i j) (max i j)=true then meetN pa pb pc pd==1 else meetN pa pb pc pd==0)
  else if meetN pa pb pc pd=1 then okId A2 pa pb pc pd g A1.frm||okId A2 pa pb pc pd g A1.dst else meetN pa pb pc pd==0 from fun _ _ _ _ e1 e2 e3 e4=>by subst e1 e2 e3 e4;rfl)
 generalize compB A1 A2 l1 l2 i j g=R at *;have hs0:=(Bx.new (t:=177) (cs:=[.pointer (some ⟨b1,0,none⟩),.int .i64 i]) w rfl).alloc (.cells #[.pointer (some ⟨b2,0,none⟩),j] 177);have ht0:=Bx.newAt (b:=w.heap.size+1) (t:=177) (cs:=[.pointer (some ⟨b2,0,none⟩),.int .i64 j]) (w.alloc (.cells #[.pointer (some ⟨b1,0,none⟩),i] 177)) (by simp) rfl;have hb0:=(bw1 w (.cells #[.pointer (some ⟨b1,0,none⟩),i] 177)).trans ((bw1 _ (.cells #[.pointer (some ⟨b2,0,none⟩),j] 177)).mono (bw1 w _).size);have na:=hn1 i (by omega);have nb:=hn1 (i+1) hi;have nc:=hn2 j (by omega);have nd:=hn2 (j+1) hj;unfold sgV at *;obtain⟨⟨ax,ay⟩,hpa⟩:∃z,l1[i]! = z:=⟨_,rfl⟩;obtain⟨⟨bx,by_⟩,hpb⟩:∃z,l1[i+1]! = z:=⟨_,rfl⟩;obtain⟨⟨cx,cy⟩,hpc⟩:∃z,l2[j]! = z:=⟨_,rfl⟩;obtain⟨⟨dx,dy⟩,hpd⟩:∃z,l2[j+1]! = z:=⟨_,rfl⟩;have HR2:=Lib.hid (HR.out _ _ _ _ hpa hpb hpc hpd)
 have cE1:=Lib.hid fun W (hb:Below w.heap.size w W)=>(show Calls Tryz.prog 101 #[.agg #[.pointer (some ⟨b1,0,none⟩),i]] W (RetV W (.tuple #[.agg #[ax,ay],.agg #[bx,by_]]))from by
  have:=gK b1 i A1 l1 W (h1.below hb) hi hm1
  rwa [hpa,hpb]at this)
 have cE2:=Lib.hid fun W (hb:Below w.heap.size w W)=>(show Calls Tryz.prog 101 #[.agg #[.pointer (some ⟨b2,0,none⟩),j]] W (RetV W (.tuple #[.agg #[cx,cy],.agg #[dx,dy]]))from by
  have:=gK b2 j A2 l2 W (h2.below hb) hj hm2
  rwa [hpc,hpd]at this)
 rw[hpa]at na;rw[hpb]at nb;rw[hpc]at nc;rw[hpd]at nd;have cM:=Lib.hid fun W=>(show Calls Tryz.prog 150 #[.agg #[ax,ay],.agg #[bx,by_],.agg #[cx,cy],.agg #[dx,dy]] W (RetV W (.int .i64 (meetN (ax,ay) (bx,by_) (cx,cy) (dx,dy))))from oj (ax,ay) (bx,by_) (cx,cy) (dx,dy) W na nb nc nd)
 have HNR:=Lib.hid (And.intro na (And.intro nb (And.intro nc nd)))
 have HGN:=Lib.hid (show ∀id,Nr (aX g id)from fun id=>by
  unfold aX;cases h:g id with
  | none=>exact⟨by decide,by decide,by decide,by decide⟩
  | some q=>exact hg id q h)
 have HIJ:=Lib.hid (And.intro hi hj);have HL:=Lib.hid (And.intro h1 (And.intro h2 hM));have HSM:=Lib.hid hsame;have HWF:=Lib.hid hwf;clear HR hpa hpb hpc hpd na nb nc nd h1 h2 hM hn1 hn2 hg hsame hwf hi hj;generalize meetN (ax,ay) (bx,by_) (cx,cy) (dx,dy)=n at *;go_enter Tryz.func100,Tryz.ntmps100;go_upto_region 1 with fail;generalize (w.alloc (.cells #[.pointer (some ⟨b1,0,none⟩),i] 177)).alloc (.cells #[.pointer (some ⟨b2,0,none⟩),j] 177)=w1 at *;generalize hnT:w.heap.size+1=nT at *;have HNT:=Lib.hid hnT;clear hnT;have k0:=hs0.cell 0;have k1:=hs0.cell 1;simp only[gz,gs]at k0 k1;go_wp2_with fail;refine(cE1.out _ hb0).mono ?_;rintro e w2 ⟨rfl,hb2⟩;have hTS:nT<w2.heap.size:=(ht0.below hb2).lt;have hs1:=(hs0.below hb2).alloc (.cells #[ax,ay] 30) |>.alloc (.cells #[bx,by_] 30);have ht1:=(ht0.below hb2).alloc (.cells #[ax,ay] 30) |>.alloc (.cells #[bx,by_] 30);have ha1:=(Bx.new (t:=30) (cs:=[.int .i64 ax,.int .i64 ay]) w2 rfl).alloc (.cells #[bx,by_] 30);have hbb1:=Bx.newAt (b:=w2.heap.size+1) (t:=30) (cs:=[.int .i64 bx,.int .i64 by_]) (w2.alloc (.cells #[ax,ay] 30)) (by simp) rfl;have hbs:=hb2.trans (((bw1 w2 (.cells #[ax,ay] 30)).trans ((bw1 _ (.cells #[bx,by_] 30)).mono (bw1 w2 (.cells #[ax,ay] 30)).size)).mono hb2.size);have hb1:=hb0.trans (hbs.mono hb0.size);clear hb2 hbs k0 k1 hs0 ht0 hb0;go_upto_region 2 with fail;generalize (w2.alloc (.cells #[ax,ay] 30)).alloc (.cells #[bx,by_] 30)=w3 at *;have HOA:Hid (nT<w2.heap.size∧nT<w2.heap.size+1∧w2.heap.size+1<w3.heap.size):=Lib.hid (by have h1:=hbb1.lt;have h2:=hTS;omega);generalize w2.heap.size+1=nb at *;generalize w2.heap.size=na at *;have k0:=ht1.cell 0;have k1:=ht1.cell 1;simp only[gz,gs]at k0 k1;go_wp2_with fail;refine(cE2.out _ hb1).mono ?_;rintro e w4 ⟨rfl,hb4⟩;have hb1s:=hb4.size;have hs2:=(hs1.below hb4).alloc (.cells #[cx,cy] 30) |>.alloc (.cells #[dx,dy] 30);have ht2:=(ht1.below hb4).alloc (.cells #[cx,cy] 30) |>.alloc (.cells #[dx,dy] 30);have ha2:=(ha1.below hb4).alloc (.cells #[cx,cy] 30) |>.alloc (.cells #[dx,dy] 30);have hbb2:=(hbb1.below hb4).alloc (.cells #[cx,cy] 30) |>.alloc (.cells #[dx,dy] 30);have hc2:=(Bx.new (t:=30) (cs:=[.int .i64 cx,.int .i64 cy]) w4 rfl).alloc (.cells #[dx,dy] 30);have hd2:=Bx.newAt (b:=w4.heap.size+1) (t:=30) (cs:=[.int .i64 dx,.int .i64 dy]) (w4.alloc (.cells #[cx,cy] 30)) (by simp) rfl;have hbs:=hb4.trans (((bw1 w4 (.cells #[cx,cy] 30)).trans ((bw1 _ (.cells #[dx,dy] 30)).mono (bw1 w4 (.cells #[cx,cy] 30)).size)).mono hb4.size);have hb2:=hb1.trans (hbs.mono hb1.size);clear hb4 hbs k0 k1 hs1 ht1 ha1 hbb1 hb1;go_upto_region 3 with fail;generalize (w4.alloc (.cells #[cx,cy] 30)).alloc (.cells #[dx,dy] 30)=w5 at *;have HORD:Hid (nT<na∧nT<nb∧nT<w4.heap.size∧nT<w4.heap.size+1):=Lib.hid (by have:=HOA.out;have:=hb1s;omega);generalize w4.heap.size+1=nd at *;generalize w4.heap.size=nc at *
 have hC:CpB w w5 w.heap.size nT na nb nc nd b1 b2 i j A1 A2 l1 l2 (ax,ay) (bx,by_) (cx,cy) (dx,dy) B N g:=
  ⟨hs2,ht2,ha2,hbb2,hc2,hd2,HL.out.1.small.below hb2,HL.out.2.1.small.below hb2,HL.out.2.2.below hb2,hb2,HL.out.2.2.lt,HORD.out⟩
 have k0:=ha2.cell 0;have k1:=ha2.cell 1;have k2:=hbb2.cell 0;have k3:=hbb2.cell 1;have k4:=hc2.cell 0;have k5:=hc2.cell 1;have k6:=hd2.cell 0;have k7:=hd2.cell 1;simp only[gz,gs]at k0 k1 k2 k3 k4 k5 k6 k7;clear hs2 ht2 ha2 hbb2 hc2 hd2 hb2 cE1 cE2 HL;go_wp2_with fail;refine(cM.out _).mono ?_;rintro e w6 ⟨rfl,hb6⟩;have HC6:=Lib.hid (hC.below hb6);clear hC hb6 k0 k1 k2 k3 k4 k5 k6 k7 cM;generalize hnS:w.heap.size=nS at HC6 HNT ⊢;have HNS:=Lib.hid hnS;clear hnS;go_upto_region 4 with fail;have hc6:=HC6.out;have k0:=hc6.s.cell 0;have k1:=hc6.t.cell 0;obtain⟨g1,c1,q1,q2,m0,_⟩:=hc6.l1.cells (Below.refl _ _);obtain⟨g2,c2,q3,q4,m1,_⟩:=hc6.l2.cells (Below.refl _ _);simp only[gz,gs]at k0 k1;clear hc6
 by_cases hid:A1.id=A2.id
 ·have hidb:(A1.id==A2.id)=true:=by simp[hid]
  obtain⟨rfl,rfl,rfl⟩:=HSM.out hid;have HR3:=Lib.hid (show R=if nextB A1 l1 (min i j) (max i j)=true then n==1 else n==0 from by rw[HR2.out,if_pos rfl]);clear HR2 hid hm2 HSM HGN HNR HWF;go_quiet (fail);have HC7:Hid (CpB w (w6.drewN nq) nS nT na nb nc nd b1 b1 i j A1 A1 l1 l1 (ax,ay) (bx,by_) (cx,cy) (dx,dy) B N g):=Lib.hid (HC6.out.below (below_drewN (Below.refl _ _) nq));clear HC6 k0 k1 m0 m1;generalize w6.drewN nq=w7 at *;have k2:=HC7.out.s.cell 1;have k3:=HC7.out.t.cell 1;simp only[gz,gs]at k2 k3;go_upto_if 47 with fail;go_cut [] (fun wx=>CpB w wx nS nT na nb nc nd b1 b1 (min i j) (max i j) A1 A1 l1 l1 (ax,ay) (bx,by_) (cx,cy) (dx,dy) B N g)
  case first=>
   by_cases hij:j<i
   ·have hiji:(j:Int)<(i:Int):=by omega
    have hc7:=HC7.out;have k0:=hc7.s.cell 0;have k1:=hc7.t.cell 0;have f0:=hc7.s.frozen 0;have f1:=hc7.s.frozen 1;have f2:=hc7.t.frozen 0;have f3:=hc7.t.frozen 1;have hne:nS≠nT:=by have:=HNT.out;omega
    simp only[gz,gs]at k0 k1;have e1:min i j=j:=by omega
    have e2:max i j=i:=by omega
    have HSW:=Lib.hid (CpB.swap hne HNS.out HNT.out hc7);clear hc7 HR3 HIJ;go_wp2_with fail;go_meet;rw[e1,e2];exact HSW.out
   ·have hiji:¬((j:Int)<(i:Int)):=by omega
    have e1:min i j=i:=by omega
    have e2:max i j=j:=by omega
    clear HR3 HIJ;go_wp2_with fail;go_meet;rw[e1,e2];exact HC7.out
  case rest=>
   have HC8:=Lib.hid hcut;have hi8:min i j≤1000000000:=by have:=HIJ.out;omega
   have hj8:max i j≤1000000000:=by have:=HIJ.out;omega
   clear HC7 hcut k2 k3 HIJ;generalize min i j=i' at *;generalize max i j=j' at *;generalize wc=w8 at *;have HB8:=Lib.hid HC8.out.bel
   have HCC:=Lib.hid fun (W:World) (hb:Below w8.heap.size w8 W)=>(show W.cell? ⟨nS,0,none⟩=some (.pointer (some ⟨b1,0,none⟩))∧W.cell? ⟨nS,1,none⟩=some (.int .i64 i')∧W.cell? ⟨nT,0,none⟩=some (.pointer (some ⟨b1,0,none⟩))∧W.cell? ⟨nT,1,none⟩=some (.int .i64 j')∧W.cell? ⟨b1,1,none⟩=some (.int .i64 A1.frm)∧W.cell? ⟨b1,2,none⟩=some (.int .i64 A1.dst)from by
    have h:=HC8.out.below hb;obtain⟨_,_,_,_,_,m1,m2,_⟩:=h.l1.cells (Below.refl _ _)
    exact⟨h.s.cell 0,h.s.cell 1,h.t.cell 0,h.t.cell 1,m1,m2⟩)
   have cF:=Lib.hid fun W=>(show Calls Tryz.prog 103 #[.agg #[.pointer (some ⟨b1,0,none⟩),i']] W _ from iE b1 i' W hi8)
   have cL:=Lib.hid fun W (hb:Below w8.heap.size w8 W)=>(show Calls Tryz.prog 104 #[.agg #[.pointer (some ⟨b1,0,none⟩),j']] W _ from jM b1 j' A1 l1 W ((HC8.out.below hb).l1.r) hm1 hj8)
   have HNB:=Lib.hid (show nextB A1 l1 i' j'=(decide (i'+1=j')||(A1.frm==A1.dst&&decide (i'=0)&&decide (j'+2=l1.length)))from rfl);generalize nextB A1 l1 i' j'=nb' at *;have hwi:=IntWalk.i64_in ((i':Int)+1) (by omega)
   by_cases ha:i'+1=j'
   ·obtain rfl:nb'=true:=by rw[HNB.out,decide_eq_true ha];rfl
    have hai:((i':Int)+1==(j':Int))=true:=by simp;omega
    have HR4:=Lib.hid (show R=(n==1)from by rw[HR3.out,if_pos rfl]);obtain⟨r0,r1,r2,r3,r4,r5⟩:=HCC.out _ (Below.refl _ _);clear cF cL HNB HR3 HCC HC8;go_wp2_with fail;go_quiet (fail);go_wp2_with fail;go_ret;exact RetV.bool (by rw[HR4.out]) (below_drewN HB8.out nq)
   have hai:((i':Int)+1==(j':Int))=false:=by simp;omega
   rw[decide_eq_false ha,Bool.false_or]at HNB
   by_cases hb:A1.frm=A1.dst
   rotate_left
   ·have hbb:(A1.frm==A1.dst)=false:=by simp[hb]
    obtain rfl:nb'=false:=by rw[HNB.out,hbb];rfl
    have HR4:=Lib.hid (show R=(n==0)from by rw[HR3.out,if_neg (by decide)]);obtain⟨r0,r1,r2,r3,r4,r5⟩:=HCC.out _ (Below.refl _ _);clear cF cL HNB HR3 HCC HC8;go_wp2_with fail;go_quiet (fail);go_wp2_with fail;go_ret;exact RetV.bool (by rw[HR4.out]) (below_drewN HB8.out nq)
   have hbb:(A1.frm==A1.dst)=true:=by simp[hb]
   rw[hbb,Bool.true_and]at HNB
   by_cases hc:i'=0
   rotate_left
   ·rw[decide_eq_false hc]at cF HNB
    obtain rfl:nb'=false:=by rw[HNB.out];rfl
    have HR4:=Lib.hid (show R=(n==0)from by rw[HR3.out,if_neg (by decide)]);clear cL HNB HR3 hb hc;go_upto_region 7 with fail;have hS8:(fun W:World=>Below w8.heap.size w8 W) w8.drew:=(Below.refl _ _).drew;refine wp_region_held_drew (S:=fun W:World=>Below w8.heap.size w8 W) (by kernel_rfl) hS8 (fun hHeld=>?_);clear hHeld;generalize w8.drew=w8d at *;refine kk 0 rfl ?_;refine kf 1 HCC.out rfl ?_;refine kk 2 rfl ?_;refine kk 3 rfl ?_;refine kf 4 HCC.out rfl ?_;refine kk 5 rfl ?_;refine kk 6 rfl ?_;refine kk 7 rfl ?_;refine kf 8 HCC.out rfl ?_;refine kk 9 rfl ?_;refine kk 10 rfl ?_;refine kk 11 rfl ?_;refine kf 12 HCC.out rfl ?_;refine kk 13 rfl ?_;refine kf 14 HCC.out rfl ?_;refine kk 15 rfl ?_;refine kk 16 rfl ?_;refine kk 17 rfl ?_;refine kf 18 HCC.out rfl ?_;refine kk 19 rfl ?_;refine kk 20 rfl ?_;refine kf 21 HCC.out rfl ?_;refine kr 22 rfl fun K hK=>?_
    go_simp;go_at_call 103;refine(cF.out _).mono ?_;rintro e Wrc1 ⟨rfl,hbWrc1⟩;have hSWrc1:=hS8.trans (hbWrc1.mono hS8.size)
    try clear hS8
    clear hbWrc1;go_wp2_with fail;refine hK.out _ _ hSWrc1 (fun hHeld=>?_);clear hK hHeld K
    try simp only[Act.put,sa,sz,ss]
    refine kk 23 rfl ?_;refine kk 24 rfl ?_;refine ku 25 rfl ?_;refine ku 26 rfl ?_;refine kk 27 rfl ?_;refine kk 28 rfl ?_;refine wpAnyH_done (by kernel_rfl) ?_ _;go_wp2_with fail;have HBZ:=Lib.hid (HB8.out.trans (hSWrc1.mono HB8.out.size));go_ret;exact RetV.bool (by rw[HR4.out]) HBZ.out
   ·rw[decide_eq_true hc]at cF HNB
    rw[Bool.true_and]at HNB;generalize decide (j'+2=l1.length)=ls at *;obtain rfl:nb'=ls:=HNB.out;have HR4:=Lib.hid HR3.out;clear HNB HR3 hb hc;go_upto_region 7 with fail;have hS8:(fun W:World=>Below w8.heap.size w8 W) w8.drew:=(Below.refl _ _).drew;refine wp_region_held_drew (S:=fun W:World=>Below w8.heap.size w8 W) (by kernel_rfl) hS8 (fun hHeld=>?_);clear hHeld;generalize w8.drew=w8d at *;refine kk 0 rfl ?_;refine kf 1 HCC.out rfl ?_;refine kk 2 rfl ?_;refine kk 3 rfl ?_;refine kf 4 HCC.out rfl ?_;refine kk 5 rfl ?_;refine kk 6 rfl ?_;refine kk 7 rfl ?_;refine kf 8 HCC.out rfl ?_;refine kk 9 rfl ?_;refine kk 10 rfl ?_;refine kk 11 rfl ?_;refine kf 12 HCC.out rfl ?_;refine kk 13 rfl ?_;refine kf 14 HCC.out rfl ?_;refine kk 15 rfl ?_;refine kk 16 rfl ?_;refine kk 17 rfl ?_;refine kf 18 HCC.out rfl ?_;refine kk 19 rfl ?_;refine kk 20 rfl ?_;refine kf 21 HCC.out rfl ?_;refine kr 22 rfl fun K hK=>?_
    go_simp;go_at_call 103;refine(cF.out _).mono ?_;rintro e Wrd1 ⟨rfl,hbWrd1⟩;have hSWrd1:=hS8.trans (hbWrd1.mono hS8.size)
    try clear hS8
    clear hbWrd1;go_wp2_with fail;refine hK.out _ _ hSWrd1 (fun hHeld=>?_);clear hK hHeld K
    try simp only[Act.put,sa,sz,ss]
    refine kk 23 rfl ?_;refine kk 24 rfl ?_;refine kf 25 HCC.out rfl ?_;refine kr 26 rfl fun K hK=>?_
    go_simp;go_at_call 104;refine(cL.out _ hSWrd1).mono ?_;rintro e Wrd2 ⟨rfl,hbWrd2⟩;have hSWrd2:=hSWrd1.trans (hbWrd2.mono hSWrd1.size)
    try clear hSWrd1
    clear hbWrd2;go_wp2_with fail;refine hK.out _ _ hSWrd2 (fun hHeld=>?_);clear hK hHeld K
    try simp only[Act.put,sa,sz,ss]
    refine kk 27 rfl ?_;refine kk 28 rfl ?_;refine wpAnyH_done (by kernel_rfl) ?_ _;have HBZ:=Lib.hid (HB8.out.trans (hSWrd2.mono HB8.out.size));cases nb'
    ·go_wp2_with fail
     go_ret;exact RetV.bool (by rw[HR4.out];rfl) HBZ.out
    ·go_wp2_with fail
     go_ret;exact RetV.bool (by rw[HR4.out];rfl) HBZ.out
 ·have hidb:(A1.id==A2.id)=false:=by simp[hid]
  have HR3:=Lib.hid (show R=if n=1 then okId A2 (ax,ay) (bx,by_) (cx,cy) (dx,dy) g A1.frm||okId A2 (ax,ay) (bx,by_) (cx,cy) (dx,dy) g A1.dst else n==0 from by rw[HR2.out,if_neg hid]);clear HR2 hid HSM HIJ;go_quiet (fail);have HC7:Hid (CpB w (w6.drewN nq) nS nT na nb nc nd b1 b2 i j A1 A2 l1 l2 (ax,ay) (bx,by_) (cx,cy) (dx,dy) B N g):=Lib.hid (HC6.out.below (below_drewN (Below.refl _ _) nq));clear HC6 k0 k1 m0 m1;generalize w6.drewN nq=w7 at *
  by_cases hn:n=1
  rotate_left
  ·have HR4:=Lib.hid (show R=(n==0)from by rw[HR3.out,if_neg hn])
   have hnb:(n != 1)=true:=by simp[hn]
   clear HR3;go_wp2_with fail;go_ret;exact RetV.bool (by rw[HR4.out]) HC7.out.bel
  subst hn;have HR4:=Lib.hid (show R=(okId A2 (ax,ay) (bx,by_) (cx,cy) (dx,dy) g A1.frm||okId A2 (ax,ay) (bx,by_) (cx,cy) (dx,dy) g A1.dst)from by rw[HR3.out,if_pos rfl]);clear HR3;have hc7:=HC7.out;have k0:=hc7.s.cell 0;have k1:=hc7.t.cell 0;obtain⟨g1,c1,q1,q2,_,m1,m2,_⟩:=hc7.l1.cells (Below.refl _ _);simp only[gz,gs]at k0 k1;clear hc7;go_wp2_with fail;go_quiet (fail);have HC8:Hid (CpB w (w7.drewN nq) nS nT na nb nc nd b1 b2 i j A1 A2 l1 l2 (ax,ay) (bx,by_) (cx,cy) (dx,dy) B N g):=Lib.hid (HC7.out.below (below_drewN (Below.refl _ _) nq));clear HC7 k0 k1 m1 m2;generalize w7.drewN nq=w8 at *;have hix:=fun W=>Tryz.index170 A1.frm A1.dst W
  go_wp2_with fail;go_loopw [100] (fun v wz=>∃q:Nat,q≤2∧v=.int .i64 q∧Hid ((1≤q→okId A2 (ax,ay) (bx,by_) (cx,cy) (dx,dy) g A1.frm=false)∧(2≤q→okId A2 (ax,ay) (bx,by_) (cx,cy) (dx,dy) g A1.dst=false))∧Hid (CpB w wz nS nT na nb nc nd b1 b2 i j A1 A2 l1 l2 (ax,ay) (bx,by_) (cx,cy) (dx,dy) B N g)) (fun v _=>2-(intOf v).toNat)
  case atStart=>exact⟨0,by omega,rfl,Lib.hid ⟨fun h=>by omega,fun h=>by omega⟩,HC8⟩
  case round=>
   obtain⟨q,hq,rfl,HJ,HC9⟩:=hrel
   match q,hq with
   | 0,hq=>
    have HPT:=Lib.hid (show(gC g A1.frm).getD (.agg #[.int .i64 0,.int .i64 0])=.agg #[.int .i64 (aX g A1.frm).1,.int .i64 (aX g A1.frm).2] from by unfold gC aX;cases g A1.frm<;>rfl)
    have cO1:=Lib.hid fun W=>(show Calls Tryz.prog 102 #[.agg #[ax,ay],.agg #[bx,by_],.agg #[.int .i64 (aX g A1.frm).1,.int .i64 (aX g A1.frm).2]] W _ from bG (ax,ay) (bx,by_) (aX g A1.frm) W HNR.out.1 HNR.out.2.1 (HGN.out _))
    have cO2:=Lib.hid fun W=>(show Calls Tryz.prog 102 #[.agg #[cx,cy],.agg #[dx,dy],.agg #[.int .i64 (aX g A1.frm).1,.int .i64 (aX g A1.frm).2]] W _ from bG (cx,cy) (dx,dy) (aX g A1.frm) W HNR.out.2.2.1 HNR.out.2.2.2 (HGN.out _))
    have HOK:=Lib.hid (show okId A2 (ax,ay) (bx,by_) (cx,cy) (dx,dy) g A1.frm=((A1.frm==A2.frm||A1.frm==A2.dst)&&onB (ax,ay) (bx,by_) (aX g A1.frm)&&onB (cx,cy) (dx,dy) (aX g A1.frm))from rfl);generalize okId A2 (ax,ay) (bx,by_) (cx,cy) (dx,dy) g A1.frm=ok0 at *;generalize onB (ax,ay) (bx,by_) (aX g A1.frm)=o1 at *;generalize onB (cx,cy) (dx,dy) (aX g A1.frm)=o2 at *;obtain⟨⟨px,py⟩,hpt⟩:∃z,aX g A1.frm=z:=⟨_,rfl⟩;rw[hpt]at HPT cO1 cO2;dsimp only at HPT cO1 cO2;clear hpt;have HMx:=Lib.hid HC9.out.mp;go_upto_region 16 with (at_lookup;refine MapV.look HMx.out rfl _ _ rfl Tryz.underlying69 Tryz.underlying3 (Tryz.zeroValue30 _) rfl A1.frm rfl HWF.out.1 HPT.out ?_);clear HMx HPT;have hc9:=HC9.out.below (bw1 wr (.cells #[px,py] 30));have hat:=Bx.new (t:=30) (cs:=[.int .i64 px,.int .i64 py]) wr rfl;generalize wr.alloc (.cells #[px,py] 30)=wa at *;generalize wr.heap.size=nA at *;have HCA:=Lib.hid hc9;have k1:=hc9.t.cell 0;obtain⟨g1,c1,q1,q2,_,m1,m2,_⟩:=hc9.l2.cells (Below.refl _ _);have ka:=hc9.a.cell 0;have kb:=hc9.a.cell 1;have kc:=hc9.b.cell 0;have kd:=hc9.b.cell 1;have ke:=hat.cell 0;have kf:=hat.cell 1;simp only[gz,gs]at k1 ka kb kc kd ke kf;clear hc9
    by_cases hmem:A1.frm=A2.frm∨A1.frm=A2.dst
    rotate_left
    ·have h1:(A1.frm==A2.frm)=false:=by simp;exact fun h=>hmem (Or.inl h)
     have h2:(A1.frm==A2.dst)=false:=by simp;exact fun h=>hmem (Or.inr h)
     obtain rfl:ok0=false:=by rw[HOK.out,h1,h2];rfl
     clear HOK hmem cO1 cO2;go_wp2_with fail;go_roundw
     case rel=>exact⟨1,by omega,by go_num,Lib.hid ⟨fun _=>by trivial,fun h=>by omega⟩,HCA⟩
     case measure=>simp[intOf]
    have HOK2:=Lib.hid (show ok0=(o1&&o2)from by
     have:(A1.frm==A2.frm||A1.frm==A2.dst)=true:=by simpa using hmem
     rw[HOK.out,this,Bool.true_and])
    clear HOK
    have HM2:Hid ((A1.frm==A2.frm)=true∨((A1.frm==A2.frm)=false∧(A1.frm==A2.dst)=true)):=Lib.hid (by
     by_cases h1:A1.frm=A2.frm
     ·exact Or.inl (by simp[h1])
     ·exact Or.inr ⟨by simp[h1],by simp;exact hmem.resolve_left h1⟩)
    clear hmem
    rcases HM2.out with h1b|⟨h1b,h2b⟩
    all_goals
     go_wp2_with fail;refine(cO1.out _).mono ?_;rintro e w10 ⟨rfl,hb10⟩;have hc10:=HCA.out.below hb10;have hat10:=hat.below hb10;have HC10:=Lib.hid hc10;clear hb10 k1 ka kb kc kd ke kf m1 m2;cases o1
     ·obtain rfl:ok0=false:=HOK2.out
      go_wp2_with fail;go_roundw
      case rel=>exact⟨1,by omega,by go_num,Lib.hid ⟨fun _=>by trivial,fun h=>by omega⟩,HC10⟩
      case measure=>simp[intOf]
     ·obtain rfl:ok0=o2:=HOK2.out
      have ka:=hc10.c.cell 0;have kb:=hc10.c.cell 1;have kc:=hc10.d.cell 0;have kd:=hc10.d.cell 1;have ke:=hat10.cell 0;have kf:=hat10.cell 1;simp only[gz,gs]at ka kb kc kd ke kf;clear hc10 hat10;go_wp2_with fail;refine(cO2.out _).mono ?_;rintro e w11 ⟨rfl,hb11⟩;have HC11:=Lib.hid (HC10.out.below hb11);have HB11:=Lib.hid HC11.out.bel;clear hb11 ka kb kc kd ke kf;cases ok0
      ·go_wp2_with fail
       go_roundw
       case rel=>exact⟨1,by omega,by go_num,Lib.hid ⟨fun _=>by trivial,fun h=>by omega⟩,HC11⟩
       case measure=>simp[intOf]
      ·go_wp2_with fail
       go_ret;exact RetV.bool (by rw[HR4.out];rfl) HB11.out
   | 1,hq=>
    have HJ0:=HJ.out.1 (Nat.le_refl _);have HPT:=Lib.hid (show(gC g A1.dst).getD (.agg #[.int .i64 0,.int .i64 0])=.agg #[.int .i64 (aX g A1.dst).1,.int .i64 (aX g A1.dst).2] from by unfold gC aX;cases g A1.dst<;>rfl)
    have cO1:=Lib.hid fun W=>(show Calls Tryz.prog 102 #[.agg #[ax,ay],.agg #[bx,by_],.agg #[.int .i64 (aX g A1.dst).1,.int .i64 (aX g A1.dst).2]] W _ from bG (ax,ay) (bx,by_) (aX g A1.dst) W HNR.out.1 HNR.out.2.1 (HGN.out _))
    have cO2:=Lib.hid fun W=>(show Calls Tryz.prog 102 #[.agg #[cx,cy],.agg #[dx,dy],.agg #[.int .i64 (aX g A1.dst).1,.int .i64 (aX g A1.dst).2]] W _ from bG (cx,cy) (dx,dy) (aX g A1.dst) W HNR.out.2.2.1 HNR.out.2.2.2 (HGN.out _))
    have HOK:=Lib.hid (show okId A2 (ax,ay) (bx,by_) (cx,cy) (dx,dy) g A1.dst=((A1.dst==A2.frm||A1.dst==A2.dst)&&onB (ax,ay) (bx,by_) (aX g A1.dst)&&onB (cx,cy) (dx,dy) (aX g A1.dst))from rfl);generalize okId A2 (ax,ay) (bx,by_) (cx,cy) (dx,dy) g A1.dst=ok1 at *;generalize onB (ax,ay) (bx,by_) (aX g A1.dst)=o1 at *;generalize onB (cx,cy) (dx,dy) (aX g A1.dst)=o2 at *;obtain⟨⟨px,py⟩,hpt⟩:∃z,aX g A1.dst=z:=⟨_,rfl⟩;rw[hpt]at HPT cO1 cO2;dsimp only at HPT cO1 cO2;clear hpt;have HMx:=Lib.hid HC9.out.mp;go_upto_region 16 with (at_lookup;refine MapV.look HMx.out rfl _ _ rfl Tryz.underlying69 Tryz.underlying3 (Tryz.zeroValue30 _) rfl A1.dst rfl HWF.out.2 HPT.out ?_);clear HMx HPT;have hc9:=HC9.out.below (bw1 wr (.cells #[px,py] 30));have hat:=Bx.new (t:=30) (cs:=[.int .i64 px,.int .i64 py]) wr rfl;generalize wr.alloc (.cells #[px,py] 30)=wa at *;generalize wr.heap.size=nA at *;have HCA:=Lib.hid hc9;have k1:=hc9.t.cell 0;obtain⟨g1,c1,q1,q2,_,m1,m2,_⟩:=hc9.l2.cells (Below.refl _ _);have ka:=hc9.a.cell 0;have kb:=hc9.a.cell 1;have kc:=hc9.b.cell 0;have kd:=hc9.b.cell 1;have ke:=hat.cell 0;have kf:=hat.cell 1;simp only[gz,gs]at k1 ka kb kc kd ke kf;clear hc9
    by_cases hmem:A1.dst=A2.frm∨A1.dst=A2.dst
    rotate_left
    ·have h1:(A1.dst==A2.frm)=false:=by simp;exact fun h=>hmem (Or.inl h)
     have h2:(A1.dst==A2.dst)=false:=by simp;exact fun h=>hmem (Or.inr h)
     obtain rfl:ok1=false:=by rw[HOK.out,h1,h2];rfl
     clear HOK hmem cO1 cO2;go_wp2_with fail;go_roundw
     case rel=>exact⟨2,by omega,by go_num,Lib.hid ⟨fun _=>HJ0,fun _=>by trivial⟩,HCA⟩
     case measure=>simp[intOf]
    have HOK2:=Lib.hid (show ok1=(o1&&o2)from by
     have:(A1.dst==A2.frm||A1.dst==A2.dst)=true:=by simpa using hmem
     rw[HOK.out,this,Bool.true_and])
    clear HOK
    have HM2:Hid ((A1.dst==A2.frm)=true∨((A1.dst==A2.frm)=false∧(A1.dst==A2.dst)=true)):=Lib.hid (by
     by_cases h1:A1.dst=A2.frm
     ·exact Or.inl (by simp[h1])
     ·exact Or.inr ⟨by simp[h1],by simp;exact hmem.resolve_left h1⟩)
    clear hmem
    rcases HM2.out with h1b|⟨h1b,h2b⟩
    all_goals
     go_wp2_with fail;refine(cO1.out _).mono ?_;rintro e w10 ⟨rfl,hb10⟩;have hc10:=HCA.out.below hb10;have hat10:=hat.below hb10;have HC10:=Lib.hid hc10;clear hb10 k1 ka kb kc kd ke kf m1 m2;cases o1
     ·obtain rfl:ok1=false:=HOK2.out
      go_wp2_with fail;go_roundw
      case rel=>exact⟨2,by omega,by go_num,Lib.hid ⟨fun _=>HJ0,fun _=>by trivial⟩,HC10⟩
      case measure=>simp[intOf]
     ·obtain rfl:ok1=o2:=HOK2.out
      have ka:=hc10.c.cell 0;have kb:=hc10.c.cell 1;have kc:=hc10.d.cell 0;have kd:=hc10.d.cell 1;have ke:=hat10.cell 0;have kf:=hat10.cell 1;simp only[gz,gs]at ka kb kc kd ke kf;clear hc10 hat10;go_wp2_with fail;refine(cO2.out _).mono ?_;rintro e w11 ⟨rfl,hb11⟩;have HC11:=Lib.hid (HC10.out.below hb11);have HB11:=Lib.hid HC11.out.bel;clear hb11 ka kb kc kd ke kf;cases ok1
      ·go_wp2_with fail
       go_roundw
       case rel=>exact⟨2,by omega,by go_num,Lib.hid ⟨fun _=>HJ0,fun _=>by trivial⟩,HC11⟩
       case measure=>simp[intOf]
      ·go_wp2_with fail
       go_ret;exact RetV.bool (by rw[HR4.out];simp) HB11.out
   | 2,hq=>
    have HR5:=Lib.hid (show R=false from by rw[HR4.out,HJ.out.1 (by omega),HJ.out.2 (by omega)];rfl);have HB9:=Lib.hid HC9.out.bel;go_wp2;go_ret;exact RetV.bool (by rw[HR5.out]) HB9.out
end Go.Proofs
namespace Go.Proofs
open Go.RowKit Go.Proofs.Mp Go.Sort Go.Lib
abbrev Ix(n:Nat):Type:={k:Nat // k<n}
def ixs(n:Nat):Array (Ix n):=Array.ofFn fun i:Fin n=>(⟨i.1,i.2⟩:Ix n)
theorem aS(n:Nat):(ixs n).size=n:=by simp[ixs]
theorem rC{n:Nat}[Inhabited (Ix n)]{j:Nat}(hj:j<n):(ixs n)[j]! = ⟨j,hj⟩:=by
 rw[getElem!_pos (ixs n) j (by rw[aS];exact hj)];simp[ixs]
section
variable {α:Type}[Inhabited α]{k:Nat}{e:TypeId}{enc:α→List Value}{w:World}{base g cap:Nat}{xs:List α}
omit [Inhabited α] in
theorem bW(h:Own e k enc w base (.slice (some ⟨g,0,none⟩) xs.length cap) xs):∃cur:Array Value,base≤g∧w.heap[g]?=some (.cells cur e (0,0))∧xs.length≤cap∧cap≤maxLen∧cur.size=cap*k∧cur.toList.take (xs.length*k)=xs.flatMap enc:=by
 rcases h.2 with⟨e1,_⟩|⟨g',cap',cur,e1,h1,h2,h3,h4,h5,h6⟩
 ·cases e1
 ·injection e1 with e1 e2 e3
  injection e1 with e1;injection e1 with e1 _ _;subst e1 e3;exact⟨cur,h1,h2,h3,h4,h5,h6⟩
theorem eK[Inhabited (Ix xs.length)](hk:∀x,(enc x).length=k)(h:Own e k enc w base (.slice (some ⟨g,0,none⟩) xs.length cap) xs):HoldsK (fun x:Ix xs.length=>enc xs[x.1]!) k w g 0 (ixs xs.length):=by
 obtain⟨cur,h1,h2,h3,h4,h5,h6⟩:=bW h;intro t ht;rw[size_flatK,aS]at ht;rw[Nat.zero_add];refine⟨?_,frozen_of_row w g t cur e h2⟩;rw[cell_of_row w g t cur e (0,0) h2,get_flatK _ _ _ _ (by rw[aS];exact ht)]
 have hk0:0<k:=by
  rcases Nat.eq_zero_or_pos k with e0|h
  ·rw[e0,Nat.mul_zero]at ht;omega
  ·exact h
 have hq:t/k<xs.length:=(Nat.div_lt_iff_lt_mul hk0).2 ht;rw[rC hq];have hr:t%k<(enc xs[t/k]!).length:=by rw[hk];exact Nat.mod_lt _ hk0
 have hf:=flat_get hk xs (t/k) hq (t%k) _ (List.getElem?_eq_getElem hr);rw[Nat.mul_comm,Nat.div_add_mod]at hf;rw[←h6,List.getElem?_take,if_pos ht]at hf
 show cur[t]?=some (enc xs[t/k]!)[t%k]!
 rw[getElem!_pos (enc xs[t/k]!) (t%k) hr,←hf];simp
theorem eP{β:Type}[Inhabited β]{en:β→List Value}{n:Nat}{d:Array β}{os:Array Obj}:w.grownBy (sortWorldK en k w g 0 n d os) (some g):=by
 unfold sortWorldK;refine⟨rfl,rfl,rfl,by simp[putRowK,putRow,mapBlock],fun q hq hne=>?_⟩;rw[heap_grow_old _ _ (by simp[putRowK,putRow,mapBlock];exact hq)];simp only[putRowK,putRow,mapBlock,Array.getElem?_modify];rw[if_neg (fun e=>hne (by rw[e]))];rfl
theorem lg[Inhabited (Ix xs.length)](hk:∀x,(enc x).length=k)(h:Own e k enc w base (.slice (some ⟨g,0,none⟩) xs.length cap) xs)(q:Nat)(os:Array Obj)(d:Array (Ix xs.length))(hd:d.size=xs.length) :
  Own e k enc (sortWorldK (fun x:Ix xs.length=>enc xs[x.1]!) k w g 0 q d os) base (.slice (some ⟨g,0,none⟩) xs.length cap) (d.toList.map fun x:Ix xs.length=>xs[x.1]!):=by
 have hH:=eK hk h
 have hH2:HoldsK (fun x:Ix xs.length=>enc xs[x.1]!) k (sortWorldK (fun x:Ix xs.length=>enc xs[x.1]!) k w g 0 q d os) g 0 d:=by
  obtain⟨cur,h1,h2,_⟩:=bW h;exact holdsK_sortWorldK_c _ _ _ _ _ _ d q os hH (Array.getElem?_eq_some_iff.1 h2).1 (by rw[hd,aS])
 obtain⟨cur,h1,h2,h3,h4,h5,h6⟩:=bW h;have hgl:=(Array.getElem?_eq_some_iff.1 h2).1
 have hb:∃cur':Array Value,(sortWorldK (fun x:Ix xs.length=>enc xs[x.1]!) k w g 0 q d os).heap[g]?=some (.cells cur' e (0,0))∧cur'.size=cur.size:=by
  unfold sortWorldK;rw[heap_grow_old _ _ (by simp[putRowK,putRow,mapBlock];exact hgl)];simp only[putRowK,putRow,mapBlock,Array.getElem?_modify,if_pos rfl]
  show ∃cur',(w.heap[g]?).map _=_∧_
  rw[h2];exact⟨_,rfl,by simp[putCells]⟩
 obtain⟨cur',hc1,hc2⟩:=hb;have hl:(d.toList.map fun x:Ix xs.length=>xs[x.1]!).length=xs.length:=by simp[hd]
 refine⟨by rw[flat_len hk],Or.inr ⟨g,cap,cur',by rw[hl],h1,hc1,by rw[hl];exact h3,h4,by rw[hc2];exact h5,?_⟩⟩;rw[hl];have hk0:xs.length*k≤cap*k:=Nat.mul_le_mul_right _ h3;apply List.ext_getElem?;intro t
 by_cases ht:t<xs.length*k
 ·rw[List.getElem?_take,if_pos ht]
  have hkp:0<k:=by
   rcases Nat.eq_zero_or_pos k with e0|h
   ·rw[e0,Nat.mul_zero]at ht;omega
   ·exact h
  have hq:t/k<xs.length:=(Nat.div_lt_iff_lt_mul hkp).2 ht;have h7:=(hH2 t (by rw[size_flatK,hd];exact ht)).1;rw[Nat.zero_add,cell_of_row _ g t cur' e (0,0) hc1,get_flatK _ _ _ _ (by rw[hd];exact ht)]at h7;have hq2:t/k<(d.toList.map fun x:Ix xs.length=>xs[x.1]!).length:=by rw[hl];exact hq
  have e1:((d.toList.map fun x:Ix xs.length=>xs[x.1]!):List α)[t/k]! = xs[(d[t/k]!).1]!:=by
   rw[getElem!_pos (d.toList.map fun x:Ix xs.length=>xs[x.1]!) (t/k) hq2,List.getElem_map,Array.getElem_toList,getElem!_pos d (t/k) (by omega)]
  have hr:t%k<(enc xs[(d[t/k]!).1]!).length:=by rw[hk];exact Nat.mod_lt _ hkp
  have hf:=flat_get hk (d.toList.map fun x:Ix xs.length=>xs[x.1]!) (t/k) hq2 (t%k) (enc xs[(d[t/k]!).1]!)[t%k] (by rw[e1];exact List.getElem?_eq_getElem hr);rw[Nat.mul_comm,Nat.div_add_mod]at hf;rw[hf];have h8:cur'.toList[t]?=cur'[t]?:=by simp
  rw[h8,h7]
  show some (enc xs[(d[t/k]!).1]!)[t%k]! = _
  rw[getElem!_pos (enc xs[(d[t/k]!).1]!) (t%k) hr]
 ·rw[List.getElem?_eq_none (by simp;omega),List.getElem?_eq_none (by rw[flat_len hk,hl];omega)]
theorem oW{P:Program}{f:FuncId}{clo:Value}[Inhabited (Ix xs.length)](hk:∀x,(enc x).length=k)(h:Own e k enc w base (.slice (some ⟨g,0,none⟩) xs.length cap) xs)(cf:Nat→Nat→Int)
  (hcon:Calls P f #[.slice (some ⟨g,0,none⟩) (ixs xs.length).size cap,clo] w (fun en w'=>en=.returned (.tuple #[])∧∃d' n os,PermIn 0 (ixs xs.length).size (ixs xs.length) d'∧SortedIn (ltOf fun x y:Ix xs.length=>cf x.1 y.1) 0 (ixs xs.length).size d'∧w'=sortWorldK (fun x:Ix xs.length=>enc xs[x.1]!) k w g 0 n d' os)) :
  Calls P f #[.slice (some ⟨g,0,none⟩) xs.length cap,clo] w (fun en w'=>en=.returned (.tuple #[])∧∃p:List Nat,p.Perm (List.range xs.length)∧p.Pairwise (fun a b=>¬cf b a<0)∧Own e k enc w' base (.slice (some ⟨g,0,none⟩) xs.length cap) (p.map fun i=>xs[i]!)∧w.grownBy w' (some g)):=by
 rw[aS]at hcon;refine hcon.mono ?_;rintro en w' ⟨he,d',n,os,hp,hs,rfl⟩;obtain⟨hp1,hp2,hp3⟩:=hp;have hd:d'.size=xs.length:=by rw[hp1,aS]
 have hxx:∀(q:Array (Ix xs.length)) N,N=q.size→(q.extract 0 N).toList=q.toList:=by rintro q _ rfl;simp
 rw[hxx d' _ hd.symm,hxx (ixs xs.length) _ (aS _).symm]at hp3;refine⟨he,d'.toList.map (·.1),?_,?_,?_,eP⟩
 ·have h1:=hp3.map (fun x:Ix xs.length=>x.1)
  have h2:(ixs xs.length).toList.map (fun x:Ix xs.length=>x.1)=List.range xs.length:=by
   apply List.ext_getElem
   ·simp[aS]
   ·intro i h1 h2
    simp[ixs]
  rwa [h2]at h1
 ·rw[List.pairwise_map,List.pairwise_iff_getElem]
  intro i j hi hj hij;have h5:=hs i j (Nat.zero_le _) hij (by simpa [hd] using hj);have hi':i<d'.size:=by simpa using hi
  have hj':j<d'.size:=by simpa using hj
  unfold ltOf at h5;rw[decide_eq_false_iff_not,getElem!_pos d' i hi',getElem!_pos d' j hj']at h5
  simpa using h5
 ·rw[List.map_map]
  exact lg hk h n os d' hd
end
end Go.Proofs
namespace Go.Proofs
open Go.RowKit Go.Proofs.Mp Go.Lib Go.Sort Go.Shelf
theorem BD.size{w w':World}(h:BD w w'):w.heap.size≤w'.heap.size:=h.bel.size
theorem BD.mono{w w':World}(h:BD w w'){n:Nat}(_:n≤w.heap.size):BD w w':=h
theorem BD.trans{a b c:World}(h:BD a b)(k:BD b c):BD a c:=⟨h.bel.trans (k.bel.mono h.bel.size),Nat.le_trans h.drawn k.drawn⟩
theorem BD.refl(w:World):BD w w:=⟨RowKit.Below.refl _ _,Nat.le_refl _⟩
theorem BD.drew'(w:World):BD w w.drew:=⟨(RowKit.Below.refl _ _).drew,Nat.le_succ _⟩
theorem kL(x y:Int)(w:World):Calls Tryz.prog 75 #[x,y] w (eC w (.int .i64 (Lib.compareInt x y))):=(Tryz.cmp_Compare_int x y w).mono fun e w' ⟨h1,h2⟩=>by subst h2;exact⟨h1,BD.refl _⟩
theorem qR(b1 b2 i j:Nat)(A1 A2:Ar)(l1 l2:List Pt)(w:World)(h1:cU w b1 A1 l1)(h2:cU w b2 A2 l2)(hi:i+1<l1.length)(hj:j+1<l2.length)(hm1:l1.length≤1000000000)(hm2:l2.length≤1000000000) :
  Calls Tryz.prog 97 #[sgV b1 i,sgV b2 j] w (eC w (.int .i64 (Lib.compareInt (sgW l1 i) (sgW l2 j)))):=by
 have hs0:=(Bx.new (t:=177) (cs:=[.pointer (some ⟨b1,0,none⟩),.int .i64 i]) w rfl).alloc (.cells #[.pointer (some ⟨b2,0,none⟩),j] 177);have ht0:=Bx.newAt (b:=w.heap.size+1) (t:=177) (cs:=[.pointer (some ⟨b2,0,none⟩),.int .i64 j]) (w.alloc (.cells #[.pointer (some ⟨b1,0,none⟩),i] 177)) (by simp) rfl;have hb0:BD w ((w.alloc (.cells #[.pointer (some ⟨b1,0,none⟩),i] 177)).alloc (.cells #[.pointer (some ⟨b2,0,none⟩),j] 177)):=⟨(bw1 w (.cells #[.pointer (some ⟨b1,0,none⟩),i] 177)).trans ((bw1 _ (.cells #[.pointer (some ⟨b2,0,none⟩),j] 177)).mono (bw1 w _).size),Nat.le_refl _⟩;unfold sgV at *;have h3:=h1.below hb0.bel;have h4:=h2.below hb0.bel;have cC:=hid fun W=>kL (sgW l1 i) (sgW l2 j) W
 go_enter Tryz.func97,Tryz.ntmps97;go_upto_region 1 with fail;generalize (w.alloc (.cells #[.pointer (some ⟨b1,0,none⟩),i] 177)).alloc (.cells #[.pointer (some ⟨b2,0,none⟩),j] 177)=w1 at *;have cW1:=hid fun W (hb:BD w1 W)=>(show Calls Tryz.prog 98 #[.agg #[.pointer (some ⟨b1,0,none⟩),i]] W _ from fS b1 i A1 l1 W (h3.below hb.bel) hi hm1)
 have cW2:=hid fun W (hb:BD w1 W)=>(show Calls Tryz.prog 98 #[.agg #[.pointer (some ⟨b2,0,none⟩),j]] W _ from fS b2 j A2 l2 W (h4.below hb.bel) hj hm2)
 have HCC:=hid fun (W:World) (hb:RowKit.Below w1.heap.size w1 W)=>(show W.cell? ⟨w.heap.size,0,none⟩=some (.pointer (some ⟨b1,0,none⟩))∧W.cell? ⟨w.heap.size,1,none⟩=some (.int .i64 i)∧W.cell? ⟨w.heap.size+1,0,none⟩=some (.pointer (some ⟨b2,0,none⟩))∧W.cell? ⟨w.heap.size+1,1,none⟩=some (.int .i64 j) from
  ⟨(hs0.below hb).cell 0,(hs0.below hb).cell 1,(ht0.below hb).cell 0,(ht0.below hb).cell 1⟩)
 have HB1:=hid hb0;obtain⟨r,hr⟩:∃r,Lib.compareInt (sgW l1 i) (sgW l2 j)=r:=⟨_,rfl⟩;rw[hr]at cC;generalize sgW l1 i=wi at *;generalize sgW l2 j=wj at *;have hrr:=hid hr;clear hs0 ht0 hb0 h1 h2 h3 h4 hi hj hm1 hm2 hr;have hS1:(fun W:World=>BD w1 W) w1.drew:=BD.drew' _;refine wp_region_held_drew (S:=fun W:World=>BD w1 W) (by kernel_rfl) hS1 (fun hHeld=>?_);clear hHeld;generalize w1.drew=w1d at *;refine kf 0 (fun W h=>HCC.out W h.bel) rfl ?_;refine kf 2 (fun W h=>HCC.out W h.bel) rfl ?_;refine kr 1 rfl fun K hK=>?_
 go_simp;go_at_call 98;refine(cW1.out _ hS1).mono ?_;rintro e Wra1 ⟨rfl,hbWra1⟩;have hSWra1:=hS1.trans (hbWra1.mono hS1.size)
 try clear hS1
 clear hbWra1;go_wp2_with fail;refine hK.out _ _ hSWra1 (fun hHeld=>?_);clear hK hHeld K
 try simp only[Act.put,sa,sz,ss]
 refine kr 3 rfl fun K hK=>?_
 go_simp;go_at_call 98;refine(cW2.out _ hSWra1).mono ?_;rintro e Wra2 ⟨rfl,hbWra2⟩;have hSWra2:=hSWra1.trans (hbWra2.mono hSWra1.size)
 try clear hSWra1
 clear hbWra2;go_wp2_with fail;refine hK.out _ _ hSWra2 (fun hHeld=>?_);clear hK hHeld K
 try simp only[Act.put,sa,sz,ss]
 refine kr 4 rfl fun K hK=>?_
 go_simp;go_at_call 75;refine(cC.out _).mono ?_;rintro e Wra3 ⟨rfl,hbWra3⟩;have hSWra3:=hSWra2.trans (hbWra3.mono hSWra2.size)
 try clear hSWra2
 clear hbWra3;go_wp2_with fail;refine hK.out _ _ hSWra3 (fun hHeld=>?_);clear hK hHeld K
 try simp only[Act.put,sa,sz,ss]
 refine kk 5 rfl ?_;refine wpAnyH_done (by kernel_rfl) ?_ _;have HZ:=hid (HB1.out.trans hSWra3);go_wp2_with fail;refine bodyPost_ret (v:=.int .i64 r) (by simp[results,Tryz.results97,go_sem]) rfl ?_;exact⟨by rw[hrr.out],HZ.out⟩
def segWst(p:Pn)(s:Nat×Nat):Int:=sgW (pth p s.1) s.2
theorem aH(a b:Int):Lib.compareInt a b<0↔a<b:=by
 unfold Lib.compareInt;split
 ·omega
 ·split<;>omega
theorem mu{n:Nat}(key:Nat→Int)(x y:Ix n):ltOf (fun x y:Ix n=>Lib.compareInt (key x.1) (key y.1)) x y=true↔key x.1<key y.1:=by
 unfold ltOf;rw[decide_eq_true_iff];exact aH _ _
theorem pS{n:Nat}(key:Nat→Int)(x y:Ix n):ltOf (fun x y:Ix n=>Lib.compareInt (key x.1) (key y.1)) x y=false↔¬key x.1<key y.1:=by
 rw[←Bool.not_eq_true,mu]
theorem sW{n:Nat}(key:Nat→Int):SWO (ltOf fun x y:Ix n=>Lib.compareInt (key x.1) (key y.1)) where
 irrefl x:=(pS key x x).2 (by omega)
 trans x y z h1 h2:=(mu key x z).2 (Int.lt_trans ((mu key x y).1 h1) ((mu key y z).1 h2))
 ntrans x y z h1 h2:=by
  rw[pS]at *;omega
theorem ft{bs:List Nat}{L:List (Nat×Nat)}{i:Nat}(h:i<L.length):(toB bs L)[i]! = (bs[L[i]!.1]!,L[i]!.2):=by
 unfold toB;rw[getElem!_pos _ i (by simpa using h),List.getElem_map,getElem!_pos L i h]
theorem pj(p:Pn)(w:World)(base:Nat)(v:Value)(n:Nat)(bs:List Nat)(hM:SgM p w base v n bs)(hf:Few p)(hn:n≤100000) :
  Calls Tryz.prog 96 #[v,.func (.func 97) #[] #[]] w (fun e w'=>e=.returned (.tuple #[])∧∃L:List (Nat×Nat),L.Perm (ah p n)∧L.Pairwise (fun a b=>segWst p a≤segWst p b)∧Own 177 2 bS w' base v (toB bs L)∧w.grownBy w' v.ownBlock):=by
 have hlen:(ah p n).length≤10000200000:=by
  have h1:=fA hf n;have:n*100002≤100000*100002:=Nat.mul_le_mul_right _ hn;omega
 by_cases h0:ah p n=[]
 ·have ho:=hM.own
  rw[h0]at ho ⊢;obtain⟨A,c,rfl⟩:=Own.slice ho;have hcon:=AnyF.slices_SortFunc_none Tryz.sortSg A c (.func (.func 97) #[] #[]) w;change Calls Tryz.prog 96 _ _ _ at hcon;refine hcon.mono ?_;rintro e w' ⟨he,rfl⟩;exact⟨he,[],List.Perm.refl _,List.Pairwise.nil,ho,World.grownBy.refl _ _⟩
 ·have hne:toB bs (ah p n)≠[]:=fun e=>h0 (by unfold toB at e;simpa using e)
  have hl0:0<(toB bs (ah p n)).length:=List.length_pos_iff.2 hne;obtain⟨g,cap,rfl,hg1,hg2⟩:=aG hM.own hne
  letI:Inhabited (Ix (toB bs (ah p n)).length):=⟨⟨0,hl0⟩⟩
  have eg:∀args w,(callFunc 97 args).run Tryz.prog w=.ok (.enter 97 args) w:=enters_of Tryz.func97 (by kernel_rfl) rfl;have hH:=eK eL hM.own
  have hcmp:CmpLays Tryz.prog 97 #[] (fun x:Ix (toB bs (ah p n)).length=>bS (toB bs (ah p n))[x.1]!) 2 (fun x y=>Lib.compareInt (segWst p (ah p n)[x.1]!) (segWst p (ah p n)[y.1]!)) g 0 (ixs (toB bs (ah p n)).length).size w:=by
   intro m os dk _ x y;have hgw:=eP (w:=w) (g:=g) (k:=2) (en:=fun x:Ix (toB bs (ah p n)).length=>bS (toB bs (ah p n))[x.1]!) (n:=m) (d:=dk) (os:=os);generalize sortWorldK (fun x:Ix (toB bs (ah p n)).length=>bS (toB bs (ah p n))[x.1]!) 2 w g 0 m dk os=W at *;have hx:x.1<(ah p n).length:=Nat.lt_of_lt_of_eq x.2 (dc _ _);have hy:y.1<(ah p n).length:=Nat.lt_of_lt_of_eq y.2 (dc _ _);have hx2:=bE (p:=p) (K:=n) (s:=(ah p n)[x.1]!) (by rw[getElem!_pos (ah p n) x.1 hx];exact List.getElem_mem hx);have hy2:=bE (p:=p) (K:=n) (s:=(ah p n)[y.1]!) (by rw[getElem!_pos (ah p n) y.1 hy];exact List.getElem_mem hy);have lx:=(hM.ln _ hx2.1).grown hgw (fun q hq _ e=>hq (by rw[←e];rfl)) (fun _ _ _=>trivial);have ly:=(hM.ln _ hy2.1).grown hgw (fun q hq _ e=>hq (by rw[←e];rfl)) (fun _ _ _=>trivial)
   show Calls Tryz.prog 97 #[.agg (bS (toB bs (ah p n))[x.1]!).toArray,.agg (bS (toB bs (ah p n))[y.1]!).toArray] W _
   rw[ft hx,ft hy];refine(qR _ _ _ _ _ _ _ _ W lx ly hx2.2 hy2.2 (by have:=eF hf (ah p n)[x.1]!.1;omega) (by have:=eF hf (ah p n)[y.1]!.1;omega)).mono ?_;rintro e w' ⟨he,hb⟩;exact⟨he,gF hb.bel hb.drawn⟩
  have hcon:=AnyQ.slices_SortFunc Tryz.sortSg 2 Tryz.isAgg177 Tryz.sizeOf177 (fun x:Ix (toB bs (ah p n)).length=>bS (toB bs (ah p n))[x.1]!) (fun _=>rfl) (fun x=>iU _) (fun x y=>Lib.compareInt (segWst p (ah p n)[x.1]!) (segWst p (ah p n)[y.1]!)) (sW fun i=>segWst p (ah p n)[i]!) 97 #[] g 0 cap (ixs (toB bs (ah p n)).length) w eg hcmp hH hg2 (by rw[aS,dc];omega);change Calls Tryz.prog 96 _ _ _ at hcon;refine(oW eL hM.own (fun a b=>Lib.compareInt (segWst p (ah p n)[a]!) (segWst p (ah p n)[b]!)) hcon).mono ?_;rintro e w' ⟨he,q,hq1,hq2,hq3,hq4⟩;rw[dc]at hq1;refine⟨he,q.map fun i=>(ah p n)[i]!,?_,?_,?_,hq4⟩
  ·have:=hq1.map fun i=>(ah p n)[i]!
   have e1:(List.range (ah p n).length).map (fun i=>(ah p n)[i]!)=ah p n:=by
    apply List.ext_getElem
    ·simp
    ·intro i h1 h2
     rw[List.getElem_map,List.getElem_range,getElem!_pos (ah p n) i h2]
   rwa [e1]at this
  ·rw[List.pairwise_map]
   refine hq2.imp fun h=>?_
   rw[aH]at h;omega
  ·have e2:toB bs (q.map fun i=>(ah p n)[i]!)=q.map fun i=>(toB bs (ah p n))[i]!:=by
    unfold toB;rw[List.map_map];apply List.map_congr_left;intro i hi;have hi2:i<(ah p n).length:=by have:=hq1.mem_iff.1 hi;rwa [List.mem_range]at this
    have:=ft (bs:=bs) hi2;unfold toB at this;rw[this];rfl
   rw[e2];exact hq3
end Go.Proofs
namespace Go.Proofs
open Go.RowKit Go.Proofs.Mp Go.Lib
def je(f:Int→Option Pt)(n:Nd):Int→Option Pt:=fun z=>if z=n.1 then some n.2 else f z
def gOf(l:List Nd):Int→Option Pt:=l.foldl je fun _=>none
theorem qa{l:List Nd}{k:Nat}(h:k<l.length):gOf (l.take (k+1))=je (gOf (l.take k)) l[k]!:=by
 unfold gOf;rw[foldl_take_succ _ _ _ _ h]
theorem pR(f:Int→Option Pt)(n:Nd):gC (je f n)=setV (gC f) n.1 (ae n.2):=by
 funext z
 unfold gC je setV;dsimp only;split<;>rfl
theorem rF{l:List Nd}{id:Int}{q:Pt}(h:gOf l id=some q):(id,q)∈l:=by
 have key:∀(l:List Nd) (f:Int→Option Pt),(∀z r,f z=some r→(z,r)∈l∨(∃h:True,f z=some r))→l.foldl je f id=some q→(id,q)∈l∨f id=some q:=by
  intro l
  induction l with
  | nil=>intro f _ h;exact Or.inr h
  | cons n l ih=>
   intro f _ h
   rcases ih (je f n) (fun z r h=>Or.inr ⟨trivial,h⟩) h with h|h
   ·exact Or.inl (List.mem_cons_of_mem _ h)
   ·unfold je at h
    split at h
    ·rename_i e
     injection h with h
     left
     rw[show(id,q)=n from Prod.ext e h.symm];exact List.mem_cons_self
    ·exact Or.inr h
 rcases key l _ (fun z r h=>Or.inr ⟨trivial,h⟩) h with h|h
 ·exact h
 ·cases h
def segEst(p:Pn)(s:Nat×Nat):Int:=sgE (pth p s.1) s.2
def compS(p:Pn)(s t:Nat×Nat):Bool:=compB p.arcs[s.1]! p.arcs[t.1]! (pth p s.1) (pth p t.1) s.2 t.2 (gOf p.nodes)
def badNode(p:Pn)(s:Nat×Nat)(n:Nd):Bool:=
 onB (pth p s.1)[s.2]! (pth p s.1)[s.2+1]! n.2&&!(decide (s.2=0)&&p.arcs[s.1]!.frm==n.1)&&!(decide (s.2+2=(pth p s.1).length)&&p.arcs[s.1]!.dst==n.1)
def lr(p:Pn)(L:List (Nat×Nat))(i:Nat):Prop:=∀j,i<j→j<L.length→segWst p L[j]!≤segEst p L[i]!→compS p L[i]! L[j]! = true
def lq(p:Pn)(s:Nat×Nat):Prop:=∀k,k<p.nodes.length→badNode p s p.nodes[k]! = false
def RowsOK(p:Pn)(L:List (Nat×Nat)):Prop:=∀i,i<L.length→lr p L i∧lq p L[i]!
end Go.Proofs
