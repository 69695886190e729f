/- Lemmas and walks; no statement of a law is proved here. -/
import Derived.Deep.RegionHeld3
import Derived.WalkKit
import Derived.WalkSpells
import Derived.WalkLawsBesides
import Derived.Lib.Hide
import Derived.Laws.CopyOwn
import Derived.Test.YtaglmdebikglgaaGreatDoorProg
import Derived.BigQuiet
import Derived.Deep.QuietTactic
import Derived.Lib.MinMax
import Derived.Deep.DeepCutAuto
import Derived.Deep.CutRange
import Derived.Maps.AppendAt
import Derived.Laws.OwnMore
import Derived.Shelf.Small.Bits
import Derived.Shelf.Small.Wraps
import Derived.Shelf.Strconv.Itoa0
import Derived.Shelf.Sort.Plain
import Derived.Shelf.Bits.Mul64
import Derived.Shelf.Slices.Turned
import Derived.Shelf.Slices.Equal
import Derived.Ground.Names2Prog
import Derived.Shelf.Slices.Clone
import Derived.Shelf.Slices.SearchI
import Derived.Shelf.Slices.In.SortNone
import Derived.Shelf.Slices.Empties2
import Derived.Ground.SlgnProg
import Derived.Shelf.SlicesE.Clone
import Derived.Ground.SlsfProg
import Derived.Shelf.SlSortCmp.Insertion
import Derived.Shelf.Spec.SlicesGrow
import Derived.Ground.Names8Prog
import Derived.Maps.Own
import Derived.Maps.OwnOps
import Derived.Maps.OwnSet
import Derived.Maps.Views
import Derived.Shelf.SlSortCmp.WholeK
import Derived.Shelf.SlSortCmp.Whole1
set_option linter.unusedVariables false
set_option linter.unusedSimpArgs false
set_option maxRecDepth 100000
set_option maxHeartbeats 8000000
open Go.Lib
namespace Go.Proofs
open Go.RowKit
instance intVal:Coe Int Value:=⟨.int .i64⟩
instance natVal:Coe Nat Value:=⟨fun n=>.int .i64 n⟩
theorem gz{α:Type}{a:α}{l:List α}:(a::l)[0]?=some a:=rfl
theorem gs{α:Type}{a:α}{l:List α}{i:Nat}:(a::l)[i+1]?=l[i]?:=rfl
theorem sa{α:Type}{l:List α}{i:Nat}{a:α}:l.toArray.setIfInBounds i a=(l.set i a).toArray:=List.setIfInBounds_toArray l i a
theorem sz{α:Type}{a b:α}{l:List α}:(a::l).set 0 b=b::l:=rfl
theorem ss{α:Type}{a b:α}{l:List α}{i:Nat}:(a::l).set (i+1) b=a::l.set i b:=rfl
section
variable {P:Program}{md:Region.Mode}{ops:Array Oper}{Q:Exit→Act→World→Prop}{S F:World→Prop}{v:Value}{fuel:Nat}{listed:Array Bool}{a a':Act}{w:World}
theorem kk(i:Nat){d o t p f g}(hi:ops[i]?=some ⟨d,o,t,p,f,g⟩)(h:wpAnyH P md ops Q S fuel (listed.setIfInBounds i true) a' w)
  (hs:Region.noSelect ops=true:=by kernel_rfl)(hf:Region.free md ops listed i=true:=by kernel_rfl)(hr:(Region.ready md ops listed).contains i=true:=by kernel_rfl)
  (hQ:∀c a w,Q (.panic c) (a.put d v) w→Q (.panic c) a w:=by exact fun _ _ _ h=>h)
  (hw:Region.wanted ⟨d,o,t,p,f,g⟩ (yielded ops a.tmps)=true:=by kernel_rfl)
  (hy:∀w,S w→(execOp a.eval ⟨d,o,t,p,f,g⟩).run P w=.ok (.value v) w:=by (intro W hSw;(try dsimp only at hSw);go_simp;try with_reducible rfl))
  (hp:a.put d v=a':=by ((try simp only[Act.put,List.setIfInBounds_toArray,List.set_cons_zero,List.set_cons_succ]);rfl))
  (hS:S w:=by assumption):wpAnyH P md ops Q S (fuel+1) listed a w:=by
 subst hp;exact wpAnyH_take hi hs hf hr hQ (.inl ⟨hw,hy⟩) hS h
theorem kf(i:Nat){d o t p f g}(hF:∀w,S w→F w)(hi:ops[i]?=some ⟨d,o,t,p,f,g⟩)(h:wpAnyH P md ops Q S fuel (listed.setIfInBounds i true) a' w)
  (hs:Region.noSelect ops=true:=by kernel_rfl)(hf:Region.free md ops listed i=true:=by kernel_rfl)(hr:(Region.ready md ops listed).contains i=true:=by kernel_rfl)
  (hQ:∀c a w,Q (.panic c) (a.put d v) w→Q (.panic c) a w:=by exact fun _ _ _ h=>h)
  (hw:Region.wanted ⟨d,o,t,p,f,g⟩ (yielded ops a.tmps)=true:=by kernel_rfl)
  (hy:∀w,F w→(execOp a.eval ⟨d,o,t,p,f,g⟩).run P w=.ok (.value v) w:=by (intro W hq;(repeat obtain⟨_,hq⟩:=hq);go_simp;try with_reducible rfl))
  (hp:a.put d v=a':=by ((try simp only[Act.put,List.setIfInBounds_toArray,List.set_cons_zero,List.set_cons_succ]);rfl))
  (hS:S w:=by assumption):wpAnyH P md ops Q S (fuel+1) listed a w:=by
 subst hp;exact wpAnyH_take hi hs hf hr hQ (.inl ⟨hw,fun w k=>hy w (hF w k)⟩) hS h
theorem ku(i:Nat){d o t p f g}(hi:ops[i]?=some ⟨d,o,t,p,f,g⟩)(h:wpAnyH P md ops Q S fuel (listed.setIfInBounds i true) a' w)
  (hs:Region.noSelect ops=true:=by kernel_rfl)(hf:Region.free md ops listed i=true:=by kernel_rfl)(hr:(Region.ready md ops listed).contains i=true:=by kernel_rfl)
  (hQ:∀c a w,Q (.panic c) (a.put d undef) w→Q (.panic c) a w:=by exact fun _ _ _ h=>h)
  (hw:Region.wanted ⟨d,o,t,p,f,g⟩ (yielded ops a.tmps)=false:=by kernel_rfl)
  (hp:a.put d undef=a':=by ((try simp only[Act.put,List.setIfInBounds_toArray,List.set_cons_zero,List.set_cons_succ]);rfl))
  (hS:S w:=by assumption):wpAnyH P md ops Q S (fuel+1) listed a w:=by
 subst hp;exact wpAnyH_take hi hs hf hr hQ (.inr ⟨hw,rfl⟩) hS h
theorem kr(i:Nat){d o t p f g}(hi:ops[i]?=some ⟨d,o,t,p,f,g⟩)(h:∀K':Act→World→Prop,Shut (∀a w,S w→(S w→wpAnyH P md ops Q S fuel (listed.setIfInBounds i true) a w)→K' a w)→if Region.wanted ⟨d,o,t,p,f,g⟩ (yielded ops a.tmps)=true then Oper.wp P ⟨d,o,t,p,f,g⟩ a w K' Q else K' (a.put d undef) w)
  (hr:Region.ready md ops listed=[i]:=by kernel_rfl):wpAnyH P md ops Q S (fuel+1) listed a w:=
 wpAnyH_ready hr (by simp) (AllReadyH.cons hi h AllReadyH.nil)
end
end Go.Proofs
namespace Go.Proofs
open Go.RowKit
section
variable {P:Program}{md:Region.Mode}{ops:Array Oper}{Q:Exit→Act→World→Prop}{S:World→Prop}{i:Nat}{oi:Oper}{v:Value}{fuel:Nat}{listed:Array Bool}{a a':Act}{w:World}
theorem tk(hi:ops[i]?=some oi)(h:wpAnyH P md ops Q S fuel (listed.setIfInBounds i true) a' w)
  (hs:Region.noSelect ops=true:=by kernel_rfl)(hf:Region.free md ops listed i=true:=by kernel_rfl)(hr:(Region.ready md ops listed).contains i=true:=by kernel_rfl)
  (hQ:∀c a w,Q (.panic c) (a.put oi.dst v) w→Q (.panic c) a w:=by exact fun _ _ _ h=>h)
  (hw:Region.wanted oi (yielded ops a.tmps)=true:=by kernel_rfl)
  (hy:∀w,S w→(execOp a.eval oi).run P w=.ok (.value v) w:=by (intro W hSw;(try dsimp only at hSw);go_simp;try with_reducible rfl))
  (hp:a.put oi.dst v=a':=by ((try simp only[Act.put,List.setIfInBounds_toArray,List.set_cons_zero,List.set_cons_succ]);rfl))
  (hS:S w:=by assumption):wpAnyH P md ops Q S (fuel+1) listed a w:=by
 subst hp;exact wpAnyH_take hi hs hf hr hQ (.inl ⟨hw,hy⟩) hS h
theorem tu(hi:ops[i]?=some oi)(h:wpAnyH P md ops Q S fuel (listed.setIfInBounds i true) a' w)
  (hs:Region.noSelect ops=true:=by kernel_rfl)(hf:Region.free md ops listed i=true:=by kernel_rfl)(hr:(Region.ready md ops listed).contains i=true:=by kernel_rfl)
  (hQ:∀c a w,Q (.panic c) (a.put oi.dst undef) w→Q (.panic c) a w:=by exact fun _ _ _ h=>h)
  (hw:Region.wanted oi (yielded ops a.tmps)=false:=by kernel_rfl)
  (hp:a.put oi.dst undef=a':=by ((try simp only[Act.put,List.setIfInBounds_toArray,List.set_cons_zero,List.set_cons_succ]);rfl))
  (hS:S w:=by assumption):wpAnyH P md ops Q S (fuel+1) listed a w:=by
 subst hp;exact wpAnyH_take hi hs hf hr hQ (.inr ⟨hw,rfl⟩) hS h
theorem rd1(hi:ops[i]?=some oi)(h:∀K':Act→World→Prop,Shut (∀a w,S w→(S w→wpAnyH P md ops Q S fuel (listed.setIfInBounds i true) a w)→K' a w)→if Region.wanted oi (yielded ops a.tmps)=true then Oper.wp P oi a w K' Q else K' (a.put oi.dst undef) w)
  (hr:Region.ready md ops listed=[i]:=by kernel_rfl):wpAnyH P md ops Q S (fuel+1) listed a w:=
 wpAnyH_ready hr (by simp) (AllReadyH.cons hi h AllReadyH.nil)
end
end Go.Proofs
namespace Go.Proofs.Mp
open Go.RowKit
def Rd{α:Type}[Inhabited α](k:Nat)(enc:α→List Value)(w:World)(A:Option Addr)(xs:List α):Prop:=
 xs=[]∨∃b off,A=some ⟨b,off,none⟩∧b<w.heap.size∧∀j,j<xs.length→∀i u,(enc xs[j]!)[i]?=some u→w.cell? ⟨b,off+j*k+i,none⟩=some u
section
variable {α:Type}[Inhabited α]{k:Nat}{enc:α→List Value}{w w':World}{A:Option Addr}{xs:List α}
theorem Rd.nil(A:Option Addr):Rd k enc w A ([]:List α):=.inl rfl
theorem Rd.at_(h:Rd k enc w A xs){j:Nat}(hj:j<xs.length) :
  ∃b off,A=some ⟨b,off,none⟩∧b<w.heap.size∧∀j,j<xs.length→∀i u,(enc xs[j]!)[i]?=some u→w.cell? ⟨b,off+j*k+i,none⟩=some u:=by
 rcases h with rfl|h
 ·simp at hj
 ·exact h
theorem Rd.keep(h:Rd k enc w A xs)(hs:w.heap.size≤w'.heap.size)(hk:∀p:Addr,p.block<w.heap.size→w'.cell? p=w.cell? p):Rd k enc w' A xs:=by
 rcases h with rfl|⟨b,off,rfl,hb,hc⟩
 ·exact .inl rfl
 ·exact .inr ⟨b,off,rfl,by omega,fun j hj i u hu=>(hk _ hb).trans (hc j hj i u hu)⟩
theorem Rd.below(h:Rd k enc w A xs)(hb:Below w.heap.size w w'):Rd k enc w' A xs:=h.keep hb.size fun _ hp=>hb.cell hp
theorem Rd.alloc(h:Rd k enc w A xs)(o:Obj):Rd k enc (w.alloc o) A xs:=h.below ((Below.refl _ _).alloc (Nat.le_refl _) o)
theorem Rd.drop{a:Addr}(h:Rd k enc w (some a) xs)(hn:xs≠[])(n:Nat):Rd k enc w (some (a.add (n*k))) (xs.drop n):=by
 rcases h with rfl|⟨b,off,he,hb,hc⟩
 ·exact absurd rfl hn
 ·injection he with he
  subst he;refine .inr ⟨b,off+n*k,?_,hb,fun j hj i u hu=>?_⟩
  ·unfold Addr.add
   split
   ·rename_i h0;simp[h0]
   ·rfl
  ·simp only[List.length_drop]at hj
   have e:(xs.drop n)[j]! = xs[n+j]!:=by simp[getElem!_def,List.getElem?_drop]
   rw[e]at hu;have:=hc (n+j) (by omega) i u hu;rw[←this,Nat.add_mul]
   congr 2
   omega
end
theorem Rd.get{α:Type}[Inhabited α]{k:Nat}{enc:α→List Value}{w wr:World}{A:Option Addr}{xs:List α}(h:Rd k enc w A xs)(hb:Below w.heap.size w wr){j:Nat}(hj:j<xs.length) :
  ∃b off,A=some ⟨b,off,none⟩∧b<w.heap.size∧∀j,j<xs.length→∀i u,(enc xs[j]!)[i]?=some u→wr.cell? ⟨b,off+j*k+i,none⟩=some u:=by
 obtain⟨b,off,rfl,hlt,hc⟩:=h.at_ hj;exact⟨b,off,rfl,hlt,fun j hj i u hu=>(hb.cell (p:=⟨b,off+j*k+i,none⟩) hlt).trans (hc j hj i u hu)⟩
def encR(r:Int×Int):List Value:=[.int .i64 r.1,.int .i64 r.2]
def encI(n:Int):List Value:=[.int .i64 n]
abbrev RdR(w:World)(A:Option Addr)(xs:List (Int×Int)):Prop:=Rd 2 encR w A xs
abbrev RdI(w:World)(A:Option Addr)(xs:List Int):Prop:=Rd 1 encI w A xs
theorem RdR.get{w wr:World}{A:Option Addr}{xs:List (Int×Int)}(h:Rd 2 encR w A xs)(hb:Below w.heap.size w wr){j:Nat}(hj:j<xs.length) :
  ∃b off,A=some ⟨b,off,none⟩∧b<w.heap.size∧wr.cell? ⟨b,off+j*2,none⟩=some (.int .i64 xs[j]!.1)∧wr.cell? ⟨b,off+j*2+1,none⟩=some (.int .i64 xs[j]!.2):=by
 obtain⟨b,off,rfl,hlt,hc⟩:=h.get hb hj;exact⟨b,off,rfl,hlt,hc j hj 0 _ rfl,hc j hj 1 _ rfl⟩
theorem RdI.get{w wr:World}{A:Option Addr}{xs:List Int}(h:Rd 1 encI w A xs)(hb:Below w.heap.size w wr){j:Nat}(hj:j<xs.length) :
  ∃b off,A=some ⟨b,off,none⟩∧b<w.heap.size∧wr.cell? ⟨b,off+j,none⟩=some (.int .i64 xs[j]!):=by
 obtain⟨b,off,rfl,hlt,hc⟩:=h.get hb hj;exact⟨b,off,rfl,hlt,by simpa using hc j hj 0 _ rfl⟩
theorem RdR.getAll{w wr:World}{A:Option Addr}{xs:List (Int×Int)}(h:Rd 2 encR w A xs)(hb:Below w.heap.size w wr){j:Nat}(hj:j<xs.length) :
  ∃b off,A=some ⟨b,off,none⟩∧b<w.heap.size∧∀j,j<xs.length→wr.cell? ⟨b,off+j*2,none⟩=some (.int .i64 xs[j]!.1)∧wr.cell? ⟨b,off+j*2+1,none⟩=some (.int .i64 xs[j]!.2):=by
 obtain⟨b,off,rfl,hlt,hc⟩:=h.get hb hj;exact⟨b,off,rfl,hlt,fun j hj=>⟨hc j hj 0 _ rfl,hc j hj 1 _ rfl⟩⟩
theorem RdI.getAll{w wr:World}{A:Option Addr}{xs:List Int}(h:Rd 1 encI w A xs)(hb:Below w.heap.size w wr){j:Nat}(hj:j<xs.length) :
  ∃b off,A=some ⟨b,off,none⟩∧b<w.heap.size∧∀j,j<xs.length→wr.cell? ⟨b,off+j,none⟩=some (.int .i64 xs[j]!):=by
 obtain⟨b,off,rfl,hlt,hc⟩:=h.get hb hj;exact⟨b,off,rfl,hlt,fun j hj=>by simpa using hc j hj 0 _ rfl⟩
section
variable {P:Program}{w:World}
theorem wpList_append1{ops:Array Oper}{rest:List Oper}{o:Oper}{a:Act}{Q:Exit→Act→World→Prop}(hgd:o.guard=none)(s x:Operand)(t:TypeId)
  (ho:o.op=.call { callee:=.builtin .append,args:=#[s,x],argTypes:=#[t,t] })
  (base:Nat)(e:TypeId)(i:TypeInfo)(z:Value)(size bytes:Nat)(ht:P.underlying t=some (.slice e))(hi:P.info? e=some i)(hz:i.zero=some z)
  (hsize:i.size=size)(hby:i.bytes=bytes)(hzs:z.cells.size=size)(hsz:0<size)(hbpos:0<bytes)
  (v:Value)(n:Nat)(xs:List Value)(hs:a.eval s=v)(hown:w.ownsRow base e size v n xs)
  (cs:Array Value)(hx:a.eval x=.slice (some ⟨w.heap.size,0,none⟩) 1 1)(hl:cs.size=size)(h1:∀u∈cs.toList,u.oneCell'=true)
  (hbytes:(n+1)*bytes≤140737488355328)(hbase:base≤w.heap.size)
  (h:∀v' w',w'.ownsRow base e size v' (n+1) (xs++cs.toList)→Below base w w'→wpList P ops Q rest (a.put o.dst v') w'):wpList P ops Q (o::rest) a (w.alloc (.cells cs e)):=by
 have hle:n+1≤(n+1)*bytes:=Nat.le_mul_of_pos_right _ hbpos
 have hadd:∀j,(⟨w.heap.size,0,none⟩:Addr).add j=⟨w.heap.size,j,none⟩:=fun j=>by
  unfold Addr.add;split
  ·simp_all
  ·simp
 refine wpList_append_own _ hgd s x t ho base e i z size bytes ht hi hz hsize hby hzs hsz v n xs hs (hown.alloc _) ⟨w.heap.size,0,none⟩ 1 1 cs.toList hx (by simp[hl]) ?_ h1
  (by unfold maxLen;omega) hbytes (by simp;omega) ?_
 ·intro j u hu
  rw[hadd,cell_of_row _ w.heap.size j cs e (0,0) (heap_alloc_new w _)]
  simpa using hu
 ·intro v' w' hown' hg _
  refine h v' w' hown' ?_;have h0:Below base w (w.alloc (.cells cs e)):=(Below.refl _ _).alloc hbase _;exact h0.grown hg (by simp;omega) (fun k hk=>(hown.lt k hk).1)
end
section
variable {P:Program}{w:World}
end
theorem Rd.of_own{α:Type}[Inhabited α]{k:Nat}{enc:α→List Value}(hk:∀x,(enc x).length=k){w:World}{base n:Nat}{e:TypeId}{A:Option Addr}{c:Nat}{xs:List α}
  (h:w.ownsRow base e k (.slice A n c) n (xs.flatMap enc))(hn:n=xs.length):Rd k enc w A xs:=by
 subst hn
 have key:∀(ys:List α) j,j<ys.length→∀i u,(enc ys[j]!)[i]?=some u→(ys.flatMap enc)[j*k+i]?=some u:=by
  intro ys
  induction ys with
  | nil=>intro j hj;simp at hj
  | cons y ys ih=>
   intro j hj i u hu;rw[List.flatMap_cons]
   rcases j with _|j
   ·simp only[List.getElem!_cons_zero]at hu
    have hi:i<(enc y).length:=(List.getElem?_eq_some_iff.1 hu).1;simp only[Nat.zero_mul,Nat.zero_add];rw[List.getElem?_append_left hi];exact hu
   ·simp only[List.getElem!_cons_succ]at hu
    have e1:(j+1)*k+i=(enc y).length+(j*k+i):=by rw[hk,Nat.succ_mul];omega
    rw[e1,List.getElem?_append_right (by omega)]
    simpa using ih j (by simpa using hj) i u hu
 rcases xs with _|⟨x,xs⟩
 ·exact .inl rfl
 ·obtain⟨hl,h2⟩:=h
  rcases h2 with⟨_,h0⟩|⟨g,cap,cur,hv,hb,hh,hnc,hm,hcs,htake⟩
  ·simp at h0
  ·injection hv with hA
   subst hA;refine .inr ⟨g,0,rfl,(Array.getElem?_eq_some_iff.1 hh).1,fun j hj i u hu=>?_⟩;have h3:=key _ j hj i u hu
   have hlt:j*k+i<((x::xs).length)*k:=by
    have hi:i<k:=by have:=(List.getElem?_eq_some_iff.1 hu).1;rw[hk]at this;exact this
    have:=Nat.mul_le_mul_right k (show j+1≤(x::xs).length from hj);rw[Nat.succ_mul]at this;omega
   rw[cell_of_row w g _ cur e (0,0) hh];rw[←htake,List.getElem?_take,if_pos hlt]at h3
   simpa using h3
theorem encR_len(x:Int×Int):(encR x).length=2:=rfl
theorem encI_len(x:Int):(encI x).length=1:=rfl
theorem own_slice{w:World}{base n:Nat}{e:TypeId}{k:Nat}{v:Value}{xs:List Value}(h:w.ownsRow base e k v n xs):∃A c,v=.slice A n c:=by
 rcases h.2 with⟨rfl,rfl⟩|⟨g,cap,cur,rfl,_⟩
 ·exact⟨_,_,rfl⟩
 ·exact⟨_,_,rfl⟩
theorem foldl_take_succ{α β:Type}[Inhabited α](f:β→α→β)(b:β)(l:List α)(k:Nat)(h:k<l.length):(l.take (k+1)).foldl f b=f ((l.take k).foldl f b) l[k]!:=by
 rw[List.take_succ_eq_append_getElem h,List.foldl_append];simp[h]
def Own{α:Type}(e:TypeId)(k:Nat)(enc:α→List Value)(w:World)(base:Nat)(v:Value)(xs:List α):Prop:=
 w.ownsRow base e k v xs.length (xs.flatMap enc)
section
variable {α:Type}{e:TypeId}{k:Nat}{enc:α→List Value}{w w':World}{base:Nat}{v:Value}{xs:List α}
theorem Own.nil(w:World)(base:Nat):Own e k enc w base (.slice none 0 0) []:=World.ownsRow_nil _ _ _ _
theorem Own.alloc(h:Own e k enc w base v xs)(o:Obj):Own e k enc (w.alloc o) base v xs:=World.ownsRow.alloc h o
theorem Own.below(h:Own e k enc w base v xs)(hb:Below w.heap.size w w'):Own e k enc w' base v xs:=by
 obtain⟨h1,h2⟩:=h;refine⟨h1,?_⟩
 rcases h2 with h2|⟨g,cap,cur,hv,hg,hh,r⟩
 ·exact .inl h2
 ·exact .inr ⟨g,cap,cur,hv,hg,by rw[hb.block g (Array.getElem?_eq_some_iff.1 hh).1];exact hh,r⟩
theorem Own.mono(h:Own e k enc w base v xs){base':Nat}(hb:base'≤base):Own e k enc w base' v xs:=by
 obtain⟨h1,h2⟩:=h;refine⟨h1,?_⟩
 rcases h2 with h2|⟨g,cap,cur,hv,hg,hh,r⟩
 ·exact .inl h2
 ·exact .inr ⟨g,cap,cur,hv,by omega,hh,r⟩
theorem Own.slice(h:Own e k enc w base v xs):∃A c,v=.slice A xs.length c:=own_slice h
theorem Own.rd[Inhabited α](hk:∀x,(enc x).length=k){A:Option Addr}{n c:Nat}(h:Own e k enc w base (.slice A n c) xs):Rd k enc w A xs:=by
 have hn:n=xs.length:=by
  obtain⟨_,_,he⟩:=Own.slice h;injection he
 subst hn;exact Rd.of_own hk h rfl
theorem Own.append1{P:Program}{ops:Array Oper}{rest:List Oper}{o:Oper}{a:Act}{Q:Exit→Act→World→Prop}(t:TypeId)(i:TypeInfo)(z:Value)(bytes:Nat)
  (ht:P.underlying t=some (.slice e))(hi:P.info? e=some i)(hz:i.zero=some z)
  (hsize:i.size=k)(hby:i.bytes=bytes)(hzs:z.cells.size=k)(hsz:0<k)(hbpos:0<bytes)
  (hk:∀x,(enc x).length=k)(h1:∀x,∀u∈enc x,u.oneCell'=true)(hgd:o.guard=none)(s x:Operand)
  (ho:o.op=.call { callee:=.builtin .append,args:=#[s,x],argTypes:=#[t,t] })
  (hown:Own e k enc w base v xs)(hs:a.eval s=v)(y:α)(hx:a.eval x=.slice (some ⟨w.heap.size,0,none⟩) 1 1)
  (hbytes:(xs.length+1)*bytes≤140737488355328)(hbase:base≤w.heap.size)
  (h:∀v' w',Own e k enc w' base v' (xs++[y])→Below base w w'→wpList P ops Q rest (a.put o.dst v') w') :
  wpList P ops Q (o::rest) a (w.alloc (.cells (enc y).toArray e)):=by
 refine wpList_append1 hgd s x t ho base e i z k bytes ht hi hz hsize hby hzs hsz hbpos v xs.length (xs.flatMap enc) hs hown (enc y).toArray hx (by simp[hk]) (by simpa using h1 y) hbytes hbase ?_;intro v' w' ho' hb';refine h v' w' ?_ hb';unfold Own
 simpa using ho'
end
def RetV(w:World)(v:Value)(e:Ending)(w':World):Prop:=e=.returned v∧Below w.heap.size w w'
theorem RetV.bool{w w':World}{b b':Bool}(h:b=b')(hb:Below w.heap.size w w'):RetV w (.bool b') (.returned (.bool b)) w':=⟨by rw[h],hb⟩
theorem RetV.int{w w':World}{k:IntKind}{b b':Int}(h:b=b')(hb:Below w.heap.size w w'):RetV w (.int k b') (.returned (.int k b)) w':=⟨by rw[h],hb⟩
abbrev OwnR(e:TypeId)(w:World)(base:Nat)(v:Value)(xs:List (Int×Int)):Prop:=Own e 2 encR w base v xs
abbrev OwnI(e:TypeId)(w:World)(base:Nat)(v:Value)(xs:List Int):Prop:=Own e 1 encI w base v xs
def Row(w:World)(g:Nat)(t:TypeId)(cs:List Value):Prop:=w.heap[g]?=some (.cells cs.toArray t (0,0))
theorem Row.lt{w:World}{g:Nat}{t:TypeId}{cs:List Value}(h:Row w g t cs):g<w.heap.size:=(Array.getElem?_eq_some_iff.1 h).1
theorem Row.below{w w':World}{g B:Nat}{t:TypeId}{cs:List Value}(h:Row w g t cs)(hb:Below B w w')(hg:g<B):Row w' g t cs:=(hb.block g hg).trans h
theorem Row.cell{w:World}{g:Nat}{t:TypeId}{cs:List Value}(h:Row w g t cs)(j:Nat):w.cell? ⟨g,j,none⟩=cs[j]?:=by
 rw[cell_of_row w g j _ t (0,0) h];simp
theorem Row.frozen{w:World}{g:Nat}{t:TypeId}{cs:List Value}(h:Row w g t cs)(j:Nat):w.frozen? ⟨g,j,none⟩=false:=frozen_of_row w g j _ t h
theorem flat_len{α:Type}{k:Nat}{enc:α→List Value}(hk:∀x,(enc x).length=k)(ys:List α):(ys.flatMap enc).length=ys.length*k:=by
 induction ys with
 | nil=>simp
 | cons y ys ih=>simp only[List.flatMap_cons,List.length_append,ih,hk,List.length_cons,Nat.succ_mul];omega
theorem flat_get{α:Type}[Inhabited α]{k:Nat}{enc:α→List Value}(hk:∀x,(enc x).length=k):∀(ys:List α) (j:Nat),j<ys.length→∀i u,(enc ys[j]!)[i]?=some u→(ys.flatMap enc)[j*k+i]?=some u:=by
 intro ys
 induction ys with
 | nil=>intro j hj;simp at hj
 | cons y ys ih=>
  intro j hj i u hu;rw[List.flatMap_cons]
  rcases j with _|j
  ·simp only[List.getElem!_cons_zero]at hu
   have hi:i<(enc y).length:=(List.getElem?_eq_some_iff.1 hu).1;simp only[Nat.zero_mul,Nat.zero_add];rw[List.getElem?_append_left hi];exact hu
  ·simp only[List.getElem!_cons_succ]at hu
   have e1:(j+1)*k+i=(enc y).length+(j*k+i):=by rw[hk,Nat.succ_mul];omega
   rw[e1,List.getElem?_append_right (by omega)]
   simpa using ih j (by simpa using hj) i u hu
theorem flat_inv{α:Type}[Inhabited α]{k:Nat}{enc:α→List Value}(hk:∀x,(enc x).length=k)(hpos:0<k)(ys:List α)(t:Nat)(u:Value)(h:(ys.flatMap enc)[t]?=some u) :
  t/k<ys.length∧(enc ys[t/k]!)[t%k]?=some u:=by
 have ht:=(List.getElem?_eq_some_iff.1 h).1;rw[flat_len hk]at ht;have hj:t/k<ys.length:=Nat.div_lt_of_lt_mul (by rwa [Nat.mul_comm]at ht);refine⟨hj,?_⟩;have hm:t%k<(enc ys[t/k]!).length:=by rw[hk];exact Nat.mod_lt _ hpos
 have h2:=flat_get hk ys (t/k) hj (t%k) _ (List.getElem?_eq_getElem hm);have e:t/k*k+t%k=t:=Nat.div_add_mod' t k;rw[e]at h2;rw[List.getElem?_eq_getElem hm,←h2];exact h
theorem Rd.flat{α:Type}[Inhabited α]{k:Nat}{enc:α→List Value}(hk:∀x,(enc x).length=k)(hpos:0<k){w:World}{A:Option Addr}{xs:List α}(h:Rd k enc w A xs)(hn:xs≠[]) :
  ∃ad,A=some ad∧∀j v,(xs.flatMap enc)[j]?=some v→w.cell? (ad.add j)=some v:=by
 rcases h with rfl|⟨b,off,rfl,hb,hc⟩
 ·exact absurd rfl hn
 ·refine⟨_,rfl,fun j v hv=>?_⟩
  obtain⟨h1,h2⟩:=flat_inv hk hpos xs j v hv;have h3:=hc _ h1 _ _ h2;have e:off+j/k*k+j%k=off+j:=by rw[Nat.add_assoc,Nat.div_add_mod']
  rw[e]at h3
  have ea:(⟨b,off,none⟩:Addr).add j=⟨b,off+j,none⟩:=by
   unfold Addr.add;split
   ·simp_all
   ·rfl
  rw[ea];exact h3
theorem Row.rd{α:Type}[Inhabited α]{k:Nat}{enc:α→List Value}(hk:∀x,(enc x).length=k){w:World}{g:Nat}{t:TypeId}{xs:List α}(h:Row w g t (xs.flatMap enc)):Rd k enc w (some ⟨g,0,none⟩) xs:=by
 rcases xs with _|⟨x,xs⟩
 ·exact .inl rfl
 ·refine .inr ⟨g,0,rfl,h.lt,fun j hj i u hu=>?_⟩
  have h3:=flat_get hk _ j hj i u hu;rw[h.cell]
  simpa using h3
section
variable {P:Program}{w:World}
end
theorem encR_one(x:Int×Int):∀u∈encR x,u.oneCell'=true:=by
 intro u hu;simp only[encR,List.mem_cons,List.not_mem_nil,or_false]at hu
 rcases hu with rfl|rfl<;>rfl
theorem encI_one(x:Int):∀u∈encI x,u.oneCell'=true:=by
 intro u hu;simp only[encI,List.mem_cons,List.not_mem_nil,or_false]at hu;rw[hu];rfl
end Go.Proofs.Mp
namespace Go.Proofs
open Go.RowKit Go.Proofs.Mp
end Go.Proofs
namespace Go.Proofs.Mp
open Go.RowKit
section
variable {P:Program}{w:World}
theorem run_append_zero(t ty e:TypeId)(i:TypeInfo)(ht:P.underlying t=some (.slice e))(hi:P.info? e=some i)(B A:Option Addr)(n m c:Nat)(hle:n≤m) :
  (Builtin.append_ #[t,t] ty #[.slice B n m,.slice A 0 c]).run P w=.ok (.slice B n m) w:=by
 have h0:(Builtin.firstCells i.size 0 (.slice A 0 c)).run P w=.ok #[] w:=by
  cases A with
  | none=>exact run_firstCells_none (P:=P) w i.size 0 0 c
  | some a=>exact run_firstCells_some (P:=P) w i.size 0 a 0 c [] (by simp) (fun j v h=>by simp at h)
 cases B<;>simp[Builtin.append_,run_underlying ht,sizeOf,typeInfo,hi,Builtin.lenOf,h0,hle,storeCells]
theorem Own.wpAll{α:Type}[Inhabited α]{e:TypeId}{k:Nat}{enc:α→List Value}{base:Nat}{v:Value}{xs ys:List α}{o:Oper}{a:Act}{K:Act→World→Prop}{Q:Exit→Act→World→Prop}(t:TypeId)(i:TypeInfo)(z:Value)(bytes:Nat)
  (ht:P.underlying t=some (.slice e))(hi:P.info? e=some i)(hz:i.zero=some z)
  (hsize:i.size=k)(hby:i.bytes=bytes)(hzs:z.cells.size=k)(hsz:0<k)(hbpos:0<bytes)
  (hk:∀x,(enc x).length=k)(h1:∀x,∀u∈enc x,u.oneCell'=true)(s x:Operand)
  (ho:o.op=.call { callee:=.builtin .append,args:=#[s,x],argTypes:=#[t,t] })
  (hown:Own e k enc w base v xs)(hs:a.eval s=v){A:Option Addr}{c:Nat}(hR:Rd k enc w A ys)(hx:a.eval x=.slice A ys.length c)
  (hbytes:(xs.length+ys.length)*bytes≤140737488355328)(hbase:base≤w.heap.size)
  (h:∀v' w',Own e k enc w' base v' (xs++ys)→Below base w w'→K (a.put o.dst v') w'):o.wp P a w K Q:=by
 have hle:xs.length+ys.length≤(xs.length+ys.length)*bytes:=Nat.le_mul_of_pos_right _ hbpos
 have fin:∀v' w',w'.ownsRow base e k v' (xs.length+ys.length) (xs.flatMap enc++ys.flatMap enc)→w.grownBy w' v.ownBlock→K (a.put o.dst v') w':=by
  intro v' w' ho' hg;refine h v' w' ?_ ?_
  ·unfold Own
   simpa using ho'
  ·exact(Below.refl _ _).grown hg hbase (fun j hj=>(World.ownsRow.lt hown j hj).1)
 by_cases hn:ys=[]
 ·subst hn
  simp only[List.length_nil]at hx
  obtain⟨B,m,rfl,hm⟩:∃B m,v=.slice B xs.length m∧xs.length≤m:=by
   rcases hown.2 with⟨rfl,h0⟩|⟨g,cap,cur,rfl,_,_,hnc,_⟩
   ·exact⟨none,0,by rw[h0],by omega⟩
   ·exact⟨_,cap,rfl,hnc⟩
  have hr:=run_append_zero (P:=P) (w:=w) t o.type e i ht hi B A xs.length m c hm;unfold Oper.wp execOp;simp only[ho,resolve,invoke,builtin,Sem.run_bind,Sem.run_pure,Result.andThen_ok,List.map_toArray,List.map_cons,List.map_nil,hs,hx,hr];exact h _ w (by simpa using hown) (Below.refl _ _)
 ·obtain⟨ad,rfl,hc⟩:=Rd.flat hk hsz hR hn
  refine wp_append_own w s x t ho base e i z k bytes ht hi hz hsize hby hzs hsz v xs.length (xs.flatMap enc) hs hown ad ys.length c (ys.flatMap enc) hx (flat_len hk ys) hc ?_ (by unfold maxLen;omega) hbytes hbase ?_
  ·intro u hu
   obtain⟨y,_,hy⟩:=List.mem_flatMap.1 hu;exact h1 y u hy
  ·intro v' w' h2 h3 _
   exact fin v' w' h2 h3
end
end Go.Proofs.Mp
namespace Go.Proofs
open Go.RowKit Go.Proofs.Mp
theorem Mp.info_parts{P:Program}{t:TypeId}{z:Value}{s b:Nat}(h:(P.info? t).map (fun i=>(i.zero,i.size,i.bytes))=some (some z,s,b)):∃i,P.info? t=some i∧i.zero=some z∧i.size=s∧i.bytes=b:=by
 cases hi:P.info? t with
 | none=>rw[hi]at h;simp at h
 | some i=>
  rw[hi]at h;simp at h;exact⟨i,rfl,h.1,h.2.1,h.2.2⟩
theorem Tryz.infoI:(Tryz.prog.info? 3).map (fun i=>(i.zero,i.size,i.bytes))=some (some (.int .i64 0),1,8):=by kernel_rfl
theorem Tryz.appAll{w:World}{base:Nat}{v:Value}{xs ys:List Int}{ops:Array Oper}{rest:List Oper}{o:Oper}{a:Act}{Q:Exit→Act→World→Prop}
  (hown:OwnI 3 w base v xs){A:Option Addr}{c:Nat}(hR:RdI w A ys)(hgd:o.guard=none)(s x:Operand)
  (ho:o.op=.call { callee:=.builtin .append,args:=#[s,x],argTypes:=#[24,24] })(hs:a.eval s=v)(hx:a.eval x=.slice A ys.length c)
  (hN:xs.length+ys.length≤1000000000000)(hbase:base≤w.heap.size)
  (h:∀v' w',OwnI 3 w' base v' (xs++ys)→Below base w w'→wpList Tryz.prog ops Q rest (a.put o.dst v') w') :
  wpList Tryz.prog ops Q (o::rest) a w:=by
 obtain⟨i0,hi,hz0,hz1,hz2⟩:=Mp.info_parts Tryz.infoI;exact wpList_plain hgd fun _ hK=>Own.wpAll 24 i0 (.int .i64 0) 8 Tryz.underlying24 hi hz0 hz1 hz2 rfl (by decide) (by decide) encI_len encI_one s x ho hown hs hR hx (by omega) hbase fun v' w' h2 h3=>hK _ _ (h v' w' h2 h3)
theorem Tryz.appI{w:World}{base:Nat}{v:Value}{xs:List Int}{ops:Array Oper}{rest:List Oper}{o:Oper}{a:Act}{Q:Exit→Act→World→Prop}
  (hown:OwnI 3 w base v xs)(y:Int)(hgd:o.guard=none)(s x:Operand)
  (ho:o.op=.call { callee:=.builtin .append,args:=#[s,x],argTypes:=#[24,24] })(hs:a.eval s=v)(hx:a.eval x=.slice (some ⟨w.heap.size,0,none⟩) 1 1)
  (hN:xs.length+1≤1000000000000)(hbase:base≤w.heap.size)
  (h:∀v' w',OwnI 3 w' base v' (xs++[y])→Below base w w'→wpList Tryz.prog ops Q rest (a.put o.dst v') w') :
  wpList Tryz.prog ops Q (o::rest) a (w.alloc (.cells #[y] 3)):=by
 obtain⟨i0,hi,hz0,hz1,hz2⟩:=Mp.info_parts Tryz.infoI;exact Own.append1 24 i0 (.int .i64 0) 8 Tryz.underlying24 hi hz0 hz1 hz2 rfl (by decide) (by decide) encI_len encI_one hgd s x ho hown hs y hx (by omega) hbase h
end Go.Proofs
namespace Go.Proofs
open Go.RowKit Go.Proofs.Mp
abbrev Pt:=Int×Int
def ae(p:Pt):Value:=.agg #[p.1,p.2]
def Nr(p:Pt):Prop:=-2097152≤p.1∧p.1≤2097152∧-2097152≤p.2∧p.2≤2097152
def Vp(p:Pt):Prop:=-1048576≤p.1∧p.1≤1048576∧-1048576≤p.2∧p.2≤1048576
instance (p:Pt):Decidable (Nr p):=by unfold Nr;infer_instance
instance (p:Pt):Decidable (Vp p):=by unfold Vp;infer_instance
def tw(a b c:Pt):Int:=(b.1-a.1)*(c.2-a.2)-(b.2-a.2)*(c.1-a.1)
def sg(n:Int):Int:=if 0<n then 1 else if n<0 then -1 else 0
def sd(a b c:Pt):Int:=sg (tw a b c)
theorem bw3(w:World)(o1 o2 o3:Obj):Below w.heap.size w (((w.alloc o1).alloc o2).alloc o3):=(((Below.refl _ _).alloc (Nat.le_refl _) _).alloc (by simp) _).alloc (by simp;omega) _
theorem bw1(w:World)(o1:Obj):Below w.heap.size w (w.alloc o1):=(Below.refl _ _).alloc (Nat.le_refl _) _
theorem aF{a b n m:Int}(h1 : -n≤a)(h2:a≤n)(h3 : -m≤b)(h4:b≤m)(hn:0≤n) : -(n*m)≤a*b∧a*b≤n*m:=by
 have hm:0≤m:=by omega
 have e1:(n-a)*(m-b)=n*m-n*b-a*m+a*b:=by grind
 have e2:(n+a)*(m+b)=n*m+n*b+a*m+a*b:=by grind
 have e3:(n-a)*(m+b)=n*m+n*b-a*m-a*b:=by grind
 have e4:(n+a)*(m-b)=n*m-n*b+a*m-a*b:=by grind
 have p1:=Int.mul_nonneg (show 0≤n-a by omega) (show 0≤m-b by omega);have p2:=Int.mul_nonneg (show 0≤n+a by omega) (show 0≤m+b by omega);have p3:=Int.mul_nonneg (show 0≤n-a by omega) (show 0≤m+b by omega);have p4:=Int.mul_nonneg (show 0≤n+a by omega) (show 0≤m-b by omega);rw[e1]at p1;rw[e2]at p2;rw[e3]at p3;rw[e4]at p4;constructor<;>omega
theorem mz(a b c:Pt)(w:World)(ha:Nr a)(hb:Nr b)(hc:Nr c):Calls Tryz.prog 141 #[ae a,ae b,ae c] w (RetV w (.int .i64 (tw a b c))):=by
 obtain⟨a1,a2⟩:=a;obtain⟨b1,b2⟩:=b;obtain⟨c1,c2⟩:=c;unfold ae tw;unfold Nr at ha hb hc;dsimp only at *;obtain⟨p1,p2⟩:=aF (a:=b1-a1) (b:=c2-a2) (n:=4194304) (m:=4194304) (by omega) (by omega) (by omega) (by omega) (by omega);obtain⟨q1,q2⟩:=aF (a:=b2-a2) (b:=c1-a1) (n:=4194304) (m:=4194304) (by omega) (by omega) (by omega) (by omega) (by omega);go_enter Tryz.func141,Tryz.ntmps141;go_wp2;go_ret;exact RetV.int (by simp) (bw3 _ _ _ _)
theorem dZ(n:Int):(0<n∧sg n=1)∨(n<0∧sg n=-1)∨(n=0∧sg n=0):=by
 unfold sg;split
 ·left;exact⟨by assumption,rfl⟩
 ·split
  ·right;left;exact⟨by assumption,rfl⟩
  ·right;right;exact⟨by omega,rfl⟩
def kR(zs:List Pt):Prop:=∀j,j<zs.length→Nr zs[j]!
theorem iR(A:Option Addr)(c:Nat)(zs:List Pt)(w:World)(hmax:zs.length≤1000000000000)(hall:kR zs)(hR:RdR w A zs) :
  Calls Tryz.prog 140 #[.slice A zs.length c] w (RetV w (.bool true)):=by
 have HN:=hid hall;clear hall;go_enter Tryz.func140,Tryz.ntmps140;go_wp2;go_loopw [7] (fun i wr=>∃k:Nat,k≤zs.length∧i=.int .i64 k∧Below w.heap.size w wr) (fun i _=>zs.length-(intOf i).toNat)
 case atStart=>exact⟨0,by omega,rfl,Below.refl _ _⟩
 case round=>
  obtain⟨k,hk,rfl,hbw⟩:=hrel;have hbs:=hbw.size
  by_cases hlt:k<zs.length
  ·obtain⟨b,off,rfl,hb,h1,h2⟩:=RdR.get hR hbw hlt
   have hz:=HN.out k hlt
   rcases hzz:zs[k]! with⟨x,y⟩
   rw[hzz]at h1 h2 hz;unfold Nr at hz;dsimp only at hz h1 h2;obtain⟨z1,z2,z3,z4⟩:=hz;clear hzz;have hbr:b<wr.heap.size:=Nat.lt_of_lt_of_le hb hbs;have hbl:Below w.heap.size w (wr.alloc (.cells #[x,y] 30)):=hbw.alloc hbs _;go_wp2;go_roundw
   case rel=>exact⟨k+1,by omega,by go_num,hbl⟩
   case measure=>simp[intOf];omega
  ·obtain rfl:k=zs.length:=by omega
   go_wp2;go_ret;exact RetV.bool rfl hbw
end Go.Proofs
namespace Go.Proofs
open Go.RowKit Go.Proofs.Mp
theorem dA(W:World)(cs:Array Value)(t:TypeId)(zs:List Pt)(h:cs=(zs.flatMap encR).toArray)(n:Nat)(hn:n=W.heap.size):RdR (W.alloc (.cells cs t)) (some ⟨n,0,none⟩) zs:=by
 subst h;subst hn;exact Row.rd encR_len (t:=t) (heap_alloc_new W _)
theorem qw{a b c:Pt}(ha:Nr a)(hb:Nr b)(hc:Nr c):kR [a,b,c]:=by
 intro j hj
 match j with
 | 0=>exact ha
 | 1=>exact hb
 | 2=>exact hc
 | j+3=>simp at hj;omega
theorem tD{a b c d:Pt}(ha:Nr a)(hb:Nr b)(hc:Nr c)(hd:Nr d):kR [a,b,c,d]:=by
 intro j hj
 match j with
 | 0=>exact ha
 | 1=>exact hb
 | 2=>exact hc
 | 3=>exact hd
 | j+4=>simp at hj;omega
theorem sk(a b c:Pt)(ha:Nr a)(hb:Nr b)(hc:Nr c)(W:World)(n:Nat)(hn:n=W.heap.size)(cap:Nat):Calls Tryz.prog 140 #[.slice (some ⟨n,0,none⟩) 3 cap] (W.alloc (.cells #[a.1,a.2,b.1,b.2,c.1,c.2] 30)) (RetV (W.alloc (.cells #[a.1,a.2,b.1,b.2,c.1,c.2] 30)) (.bool true)):=
 iR _ cap [a,b,c] _ (by simp) (qw ha hb hc) (dA W _ 30 [a,b,c] rfl n hn)
theorem tQ(a b c d:Pt)(ha:Nr a)(hb:Nr b)(hc:Nr c)(hd:Nr d)(W:World)(n:Nat)(hn:n=W.heap.size)(cap:Nat):Calls Tryz.prog 140 #[.slice (some ⟨n,0,none⟩) 4 cap] (W.alloc (.cells #[a.1,a.2,b.1,b.2,c.1,c.2,d.1,d.2] 30)) (RetV (W.alloc (.cells #[a.1,a.2,b.1,b.2,c.1,c.2,d.1,d.2] 30)) (.bool true)):=
 iR _ cap [a,b,c,d] _ (by simp) (tD ha hb hc hd) (dA W _ 30 [a,b,c,d] rfl n hn)
theorem Mp.below_lit{X w1:World}{o:Obj}(hb:Below (X.alloc o).heap.size (X.alloc o) w1):Below X.heap.size X w1:=(bw1 _ _).trans (hb.mono (bw1 _ _).size)
theorem Mp.below_step{X w1 w2:World}(h:Below X.heap.size X w1)(h2:Below w1.heap.size w1 w2):Below X.heap.size X w2:=h.trans (h2.mono h.size)
theorem jE(w:World)(x y:Value)(t:TypeId):(w.alloc (.cells #[x,y] t)).cell? ⟨w.heap.size,0,none⟩=some x∧(w.alloc (.cells #[x,y] t)).cell? ⟨w.heap.size,1,none⟩=some y:=by
 have h:=heap_alloc_new w (.cells #[x,y] t);constructor
 ·rw[cell_of_row _ _ _ _ _ _ h];rfl
 ·rw[cell_of_row _ _ _ _ _ _ h];rfl
theorem gg(w W:World)(x y:Value)(t:TypeId)(hb:Below (w.heap.size+1) (w.alloc (.cells #[x,y] t)) W):W.cell? ⟨w.heap.size,0,none⟩=some x∧W.cell? ⟨w.heap.size,1,none⟩=some y:=by
 obtain⟨h1,h2⟩:=jE w x y t;exact⟨(hb.cell (p:=⟨w.heap.size,0,none⟩) (by simp)).trans h1,(hb.cell (p:=⟨w.heap.size,1,none⟩) (by simp)).trans h2⟩
theorem fh{w W:World}{a1 a2 b1 b2 c1 c2:Value}(hb:Below (((w.alloc (.cells #[a1,a2] 30)).alloc (.cells #[b1,b2] 30)).alloc (.cells #[c1,c2] 30)).heap.size (((w.alloc (.cells #[a1,a2] 30)).alloc (.cells #[b1,b2] 30)).alloc (.cells #[c1,c2] 30)) W) :
  W.cell? ⟨w.heap.size,0,none⟩=some a1∧W.cell? ⟨w.heap.size,1,none⟩=some a2∧W.cell? ⟨w.heap.size+1,0,none⟩=some b1∧W.cell? ⟨w.heap.size+1,1,none⟩=some b2 ∧
  W.cell? ⟨w.heap.size+1+1,0,none⟩=some c1∧W.cell? ⟨w.heap.size+1+1,1,none⟩=some c2∧Below w.heap.size w W:=by
 have e3:=bw1 ((w.alloc (.cells #[a1,a2] 30)).alloc (.cells #[b1,b2] 30)) (.cells #[c1,c2] 30);have e2:=bw1 (w.alloc (.cells #[a1,a2] 30)) (.cells #[b1,b2] 30);have e1:=bw1 w (.cells #[a1,a2] 30);have s1:(w.alloc (.cells #[a1,a2] 30)).heap.size=w.heap.size+1:=by simp
 have s2:((w.alloc (.cells #[a1,a2] 30)).alloc (.cells #[b1,b2] 30)).heap.size=w.heap.size+1+1:=by simp
 have s3:(((w.alloc (.cells #[a1,a2] 30)).alloc (.cells #[b1,b2] 30)).alloc (.cells #[c1,c2] 30)).heap.size=w.heap.size+1+1+1:=by simp
 rw[s3]at hb;rw[s2]at e3;rw[s1]at e2;have h3:=hb;have h2:=e3.trans (hb.mono (by omega));have h1:=e2.trans (h2.mono (by omega));have h0:=e1.trans (h1.mono (by omega));obtain⟨k1,k2⟩:=gg w W _ _ _ h1;obtain⟨k3,k4⟩:=gg (w.alloc (.cells #[a1,a2] 30)) W b1 b2 30 (by rw[s1];exact h2);obtain⟨k5,k6⟩:=gg ((w.alloc (.cells #[a1,a2] 30)).alloc (.cells #[b1,b2] 30)) W c1 c2 30 (by rw[s2];exact h3);rw[s1]at k3 k4;rw[s2]at k5 k6;exact⟨k1,k2,k3,k4,k5,k6,h0⟩
theorem oM{w W:World}{a1 a2 b1 b2 c1 c2 d1 d2:Value}(hb:Below ((((w.alloc (.cells #[a1,a2] 30)).alloc (.cells #[b1,b2] 30)).alloc (.cells #[c1,c2] 30)).alloc (.cells #[d1,d2] 30)).heap.size ((((w.alloc (.cells #[a1,a2] 30)).alloc (.cells #[b1,b2] 30)).alloc (.cells #[c1,c2] 30)).alloc (.cells #[d1,d2] 30)) W) :
  W.cell? ⟨w.heap.size,0,none⟩=some a1∧W.cell? ⟨w.heap.size,1,none⟩=some a2∧W.cell? ⟨w.heap.size+1,0,none⟩=some b1∧W.cell? ⟨w.heap.size+1,1,none⟩=some b2 ∧
  W.cell? ⟨w.heap.size+1+1,0,none⟩=some c1∧W.cell? ⟨w.heap.size+1+1,1,none⟩=some c2∧W.cell? ⟨w.heap.size+1+1+1,0,none⟩=some d1∧W.cell? ⟨w.heap.size+1+1+1,1,none⟩=some d2∧Below w.heap.size w W:=by
 have e4:=below_lit hb;obtain⟨k1,k2,k3,k4,k5,k6,h0⟩:=fh e4;have s3:(((w.alloc (.cells #[a1,a2] 30)).alloc (.cells #[b1,b2] 30)).alloc (.cells #[c1,c2] 30)).heap.size=w.heap.size+1+1+1:=by simp
 have s4:((((w.alloc (.cells #[a1,a2] 30)).alloc (.cells #[b1,b2] 30)).alloc (.cells #[c1,c2] 30)).alloc (.cells #[d1,d2] 30)).heap.size=w.heap.size+1+1+1+1:=by simp
 obtain⟨k7,k8⟩:=gg (((w.alloc (.cells #[a1,a2] 30)).alloc (.cells #[b1,b2] 30)).alloc (.cells #[c1,c2] 30)) W d1 d2 30 (by rw[s3,←s4];exact hb);rw[s3]at k7 k8;exact⟨k1,k2,k3,k4,k5,k6,k7,k8,h0⟩
theorem gY(a b c:Pt)(w:World)(ha:Nr a)(hb:Nr b)(hc:Nr c):Calls Tryz.prog 88 #[ae a,ae b,ae c] w (RetV w (.int .i64 (tw a b c))):=by
 have c0:=hid fun W=>mz a b c W ha hb hc
 have c1:=hid fun W n hn cap=>sk a b c ha hb hc W n hn cap
 generalize tw a b c=t at *;clear ha hb hc;obtain⟨a1,a2⟩:=a;obtain⟨b1,b2⟩:=b;obtain⟨c1',c2⟩:=c;unfold ae at *;dsimp only at *;go_enter Tryz.func88,Tryz.ntmps88;go_wp2_with fail;refine(c1.out _ _ (by simp) _).mono ?_;rintro e w1 ⟨rfl,hb1⟩;have hb2:=below_lit hb1;clear hb1;obtain⟨k1,k2,k3,k4,k5,k6,h0⟩:=fh hb2;clear hb2;go_wp2_with fail;refine(c0.out _).mono ?_;rintro e w2 ⟨rfl,hb1⟩;go_wp2;go_ret;exact RetV.int rfl (below_step h0 hb1)
theorem aY(a b c:Pt)(w:World)(ha:Nr a)(hb:Nr b)(hc:Nr c):Calls Tryz.prog 192 #[ae a,ae b,ae c] w (RetV w (.int .i64 (sd a b c))):=by
 have c0:=hid fun W=>gY a b c W ha hb hc
 have hs:=dZ (tw a b c);have he:sd a b c=sg (tw a b c):=rfl;rw[he];clear he;generalize tw a b c=t at *;clear ha hb hc;obtain⟨a1,a2⟩:=a;obtain⟨b1,b2⟩:=b;obtain⟨c1',c2⟩:=c;unfold ae at *;dsimp only at *
 rcases hs with⟨h1,h2⟩|⟨h1,h2⟩|⟨h1,h2⟩
 all_goals
  rw[h2];clear h2;go_enter Tryz.func192,Tryz.ntmps192;go_wp2_with fail;refine(c0.out _).mono ?_;rintro e w1 ⟨rfl,hb1⟩;obtain⟨-,-,-,-,-,-,h0⟩:=fh hb1;go_wp2;go_ret;exact RetV.int rfl h0
end Go.Proofs
namespace Go.Proofs
open Go.RowKit Go.Proofs.Mp
def inBx(a b p:Pt):Prop:=min a.1 b.1≤p.1∧p.1≤max a.1 b.1∧min a.2 b.2≤p.2∧p.2≤max a.2 b.2
instance (a b p:Pt):Decidable (inBx a b p):=by unfold inBx;infer_instance
def onB(a b p:Pt):Bool:=decide (tw a b p=0∧inBx a b p)
theorem bG(a b c:Pt)(w:World)(ha:Nr a)(hb:Nr b)(hc:Nr c):Calls Tryz.prog 102 #[ae a,ae b,ae c] w (RetV w (.bool (onB a b c))):=by
 have c0:=hid fun W=>mz a b c W ha hb hc
 have cn:=hid fun W n hn cap=>sk a b c ha hb hc W n hn cap
 have hr:onB a b c=decide (tw a b c=0∧inBx a b c):=rfl;generalize onB a b c=r at *;generalize tw a b c=t at *;clear ha hb hc;obtain⟨a1,a2⟩:=a;obtain⟨b1,b2⟩:=b;obtain⟨c1,c2⟩:=c;unfold ae at *;dsimp only at *
 by_cases ht:t=0
 rotate_left
 ·have HR:=hid (hr.trans (decide_eq_false fun h=>ht h.1))
  clear hr;go_enter Tryz.func102,Tryz.ntmps102;go_wp2_with fail;refine(cn.out _ _ (by simp) _).mono ?_;rintro e w1 ⟨rfl,hb1⟩;have hb2:=below_lit hb1;clear hb1;obtain⟨k1,k2,k3,k4,k5,k6,h0⟩:=fh hb2;clear hb2;go_wp2_with fail;refine(c0.out _).mono ?_;rintro e w2 ⟨rfl,hb1⟩;have h1:=below_step h0 hb1;go_wp2;go_ret;exact RetV.bool HR.out.symm h1
 have HB:Hid (r=decide (inBx (a1,a2) (b1,b2) (c1,c2))):=hid (by rw[hr];simp[ht]);clear hr;subst ht
 by_cases h0:min a1 b1≤c1
 rotate_left
 ·have HR:=hid (HB.out.trans (decide_eq_false (by unfold inBx;dsimp only;omega)))
  clear HB;go_enter Tryz.func102,Tryz.ntmps102;go_wp2_with fail;refine(cn.out _ _ (by simp) _).mono ?_;rintro e w1 ⟨rfl,hb1⟩;have hb2:=below_lit hb1;clear hb1;obtain⟨k1,k2,k3,k4,k5,k6,h00⟩:=fh hb2;go_wp2_with fail;refine(c0.out _).mono ?_;rintro e w2 ⟨rfl,hb1⟩;clear k1 k2 k3 k4 k5 k6 h00;obtain⟨k1,k2,k3,k4,k5,k6,h0⟩:=fh (below_step hb2 hb1);clear hb2 hb1;go_wp2;go_ret;exact RetV.bool (by first|exact HR.out.symm|exact(decide_eq_false (by omega)).trans HR.out.symm) h0
 by_cases h1:c1≤max a1 b1
 rotate_left
 ·have HR:=hid (HB.out.trans (decide_eq_false (by unfold inBx;dsimp only;omega)))
  clear HB;go_enter Tryz.func102,Tryz.ntmps102;go_wp2_with fail;refine(cn.out _ _ (by simp) _).mono ?_;rintro e w1 ⟨rfl,hb1⟩;have hb2:=below_lit hb1;clear hb1;obtain⟨k1,k2,k3,k4,k5,k6,h00⟩:=fh hb2;go_wp2_with fail;refine(c0.out _).mono ?_;rintro e w2 ⟨rfl,hb1⟩;clear k1 k2 k3 k4 k5 k6 h00;obtain⟨k1,k2,k3,k4,k5,k6,h0⟩:=fh (below_step hb2 hb1);clear hb2 hb1;go_wp2;go_ret;exact RetV.bool (by first|exact HR.out.symm|exact(decide_eq_false (by omega)).trans HR.out.symm) h0
 by_cases h2:min a2 b2≤c2
 rotate_left
 ·have HR:=hid (HB.out.trans (decide_eq_false (by unfold inBx;dsimp only;omega)))
  clear HB;go_enter Tryz.func102,Tryz.ntmps102;go_wp2_with fail;refine(cn.out _ _ (by simp) _).mono ?_;rintro e w1 ⟨rfl,hb1⟩;have hb2:=below_lit hb1;clear hb1;obtain⟨k1,k2,k3,k4,k5,k6,h00⟩:=fh hb2;go_wp2_with fail;refine(c0.out _).mono ?_;rintro e w2 ⟨rfl,hb1⟩;clear k1 k2 k3 k4 k5 k6 h00;obtain⟨k1,k2,k3,k4,k5,k6,h0⟩:=fh (below_step hb2 hb1);clear hb2 hb1;go_wp2;go_ret;exact RetV.bool (by first|exact HR.out.symm|exact(decide_eq_false (by omega)).trans HR.out.symm) h0
 by_cases h3:c2≤max a2 b2
 rotate_left
 ·have HR:=hid (HB.out.trans (decide_eq_false (by unfold inBx;dsimp only;omega)))
  clear HB;go_enter Tryz.func102,Tryz.ntmps102;go_wp2_with fail;refine(cn.out _ _ (by simp) _).mono ?_;rintro e w1 ⟨rfl,hb1⟩;have hb2:=below_lit hb1;clear hb1;obtain⟨k1,k2,k3,k4,k5,k6,h00⟩:=fh hb2;go_wp2_with fail;refine(c0.out _).mono ?_;rintro e w2 ⟨rfl,hb1⟩;clear k1 k2 k3 k4 k5 k6 h00;obtain⟨k1,k2,k3,k4,k5,k6,h0⟩:=fh (below_step hb2 hb1);clear hb2 hb1;go_wp2;go_ret;exact RetV.bool (by first|exact HR.out.symm|exact(decide_eq_false (by omega)).trans HR.out.symm) h0
 have HR:=hid (HB.out.trans (decide_eq_true (by unfold inBx;dsimp only;omega)));clear HB;go_enter Tryz.func102,Tryz.ntmps102;go_wp2_with fail;refine(cn.out _ _ (by simp) _).mono ?_;rintro e w1 ⟨rfl,hb1⟩;have hb2:=below_lit hb1;clear hb1;obtain⟨k1,k2,k3,k4,k5,k6,h00⟩:=fh hb2;go_wp2_with fail;refine(c0.out _).mono ?_;rintro e w2 ⟨rfl,hb1⟩;clear k1 k2 k3 k4 k5 k6 h00;obtain⟨k1,k2,k3,k4,k5,k6,h0⟩:=fh (below_step hb2 hb1);clear hb2 hb1;go_wp2;go_ret;exact RetV.bool (by first|exact HR.out.symm|exact(decide_eq_false (by omega)).trans HR.out.symm) h0
def befB(a b:Pt):Bool:=decide (a.1<b.1∨(a.1=b.1∧a.2<b.2))
end Go.Proofs
namespace Go.Proofs
open Go.RowKit Go.Proofs.Mp
def az(W:World)(n:Nat)(p:Pt):Prop:=W.heap[n]?=some (.cells #[p.1,p.2] 30 (0,0))
section
variable {W W':World}{n m:Nat}{p q:Pt}
theorem az.lt(h:az W n p):n<W.heap.size:=(Array.getElem?_eq_some_iff.1 h).1
theorem az.c0(h:az W n p):W.cell? ⟨n,0,none⟩=some (.int .i64 p.1):=by rw[cell_of_row _ _ _ _ _ _ h];rfl
theorem az.c1(h:az W n p):W.cell? ⟨n,1,none⟩=some (.int .i64 p.2):=by rw[cell_of_row _ _ _ _ _ _ h];rfl
theorem az.f0(h:az W n p):W.frozen? ⟨n,0,none⟩=false:=frozen_of_row W n 0 _ 30 h
theorem az.f1(h:az W n p):W.frozen? ⟨n,1,none⟩=false:=frozen_of_row W n 1 _ 30 h
theorem az.below(h:az W n p)(hb:Below W.heap.size W W'):az W' n p:=(hb.block n h.lt).trans h
theorem az.alloc(h:az W n p)(o:Obj):az (W.alloc o) n p:=h.below (bw1 _ _)
theorem az.new(W:World)(p:Pt):az (W.alloc (.cells #[p.1,p.2] 30)) W.heap.size p:=heap_alloc_new W _
def setP(W:World)(n:Nat)(q:Pt):World:=(W.setCell ⟨n,0,none⟩ (.int .i64 q.1)).setCell ⟨n,1,none⟩ (.int .i64 q.2)
theorem az.set(h:az W n p)(q:Pt):az (setP W n q) n q:=by
 have h1:=heap_setCell_same W n 0 _ 30 (.int .i64 q.1) h;have h2:=heap_setCell_same (W.setCell ⟨n,0,none⟩ (.int .i64 q.1)) n 1 _ 30 (.int .i64 q.2) h1;unfold az setP;rw[h2];rfl
theorem az.other(h:az W n p)(hne:n≠m)(q:Pt):az (setP W m q) n p:=by
 unfold az setP;rw[heap_setCell_other _ _ _ _ (by simpa using hne),heap_setCell_other _ _ _ _ (by simpa using hne)];exact h
theorem aU{w:World}{B:Nat}(h:Below B w W)(hm:B≤m):Below B w (setP W m q):=(h.setCell (p:=⟨m,0,none⟩) hm _).setCell (p:=⟨m,1,none⟩) hm _
end
def Q4(w W:World)(p q r s:Pt):Prop:=az W w.heap.size p∧az W (w.heap.size+1) q∧az W (w.heap.size+1+1) r∧az W (w.heap.size+1+1+1) s∧Below w.heap.size w W
theorem Q4.begin(w:World)(a b c d:Pt):Q4 w ((((w.alloc (.cells #[a.1,a.2] 30)).alloc (.cells #[b.1,b.2] 30)).alloc (.cells #[c.1,c.2] 30)).alloc (.cells #[d.1,d.2] 30)) a b c d:=by
 have s1:(w.alloc (.cells #[a.1,a.2] 30)).heap.size=w.heap.size+1:=by simp
 have s2:((w.alloc (.cells #[a.1,a.2] 30)).alloc (.cells #[b.1,b.2] 30)).heap.size=w.heap.size+1+1:=by simp
 have s3:(((w.alloc (.cells #[a.1,a.2] 30)).alloc (.cells #[b.1,b.2] 30)).alloc (.cells #[c.1,c.2] 30)).heap.size=w.heap.size+1+1+1:=by simp
 refine⟨(((az.new w a).alloc _).alloc _).alloc _,?_,?_,?_,?_⟩
 ·rw[←s1];exact((az.new _ b).alloc _).alloc _
 ·rw[←s2];exact(az.new _ c).alloc _
 ·rw[←s3];exact az.new _ d
 ·exact(bw3 w _ _ _).trans ((bw1 _ _).mono (bw3 w _ _ _).size)
theorem Q4.below{w W W':World}{p q r s:Pt}(h:Q4 w W p q r s)(hb:Below W.heap.size W W'):Q4 w W' p q r s:=by
 obtain⟨h1,h2,h3,h4,h5⟩:=h;exact⟨h1.below hb,h2.below hb,h3.below hb,h4.below hb,below_step' h5 hb⟩
where
 below_step' {w W W':World} (h:Below w.heap.size w W) (hb:Below W.heap.size W W'):Below w.heap.size w W':=h.trans (hb.mono h.size)
theorem Q4.swap1{w W:World}{p q r s:Pt}(h:Q4 w W p q r s):Q4 w (setP (setP W w.heap.size q) (w.heap.size+1) p) q p r s:=by
 obtain⟨h1,h2,h3,h4,h5⟩:=h;exact⟨(h1.set q).other (by omega) p,(h2.other (by omega) q).set p,(h3.other (by omega) _).other (by omega) _,(h4.other (by omega) _).other (by omega) _,aU (aU h5 (by omega)) (by omega)⟩
theorem Q4.swap2{w W:World}{p q r s:Pt}(h:Q4 w W p q r s):Q4 w (setP (setP W (w.heap.size+1+1) s) (w.heap.size+1+1+1) r) p q s r:=by
 obtain⟨h1,h2,h3,h4,h5⟩:=h;exact⟨(h1.other (by omega) _).other (by omega) _,(h2.other (by omega) _).other (by omega) _,(h3.set s).other (by omega) _,(h4.other (by omega) _).set _,aU (aU h5 (by omega)) (by omega)⟩
def Cel(W:World)(n:Nat)(p:Pt):Prop:=W.cell? ⟨n,0,none⟩=some (.int .i64 p.1)∧W.cell? ⟨n,1,none⟩=some (.int .i64 p.2)∧W.frozen? ⟨n,0,none⟩=false∧W.frozen? ⟨n,1,none⟩=false∧n<W.heap.size
theorem az.cel{W:World}{n:Nat}{p:Pt}(h:az W n p):Cel W n p:=⟨h.c0,h.c1,h.f0,h.f1,h.lt⟩
def dV(a b:Pt):Pt×Pt:=if befB b a=true then (b,a) else (a,b)
def sharedN(a b c d:Pt):Int:=
 let x:=dV a b
 let y:=dV c d
 let f:=if befB x.1 y.1=true then y.1 else x.1
 let l:=if befB y.2 x.2=true then y.2 else x.2
 if f=l then 1 else if befB f l=true then 2 else 0
def Q6(w W:World)(n m:Nat)(p q r s f l:Pt):Prop:=az W w.heap.size p∧az W (w.heap.size+1) q∧az W (w.heap.size+1+1) r∧az W (w.heap.size+1+1+1) s∧az W n f∧az W m l∧Below w.heap.size w W∧n≠m∧w.heap.size+4≤n∧w.heap.size+4≤m
theorem Q6.below{w W W':World}{n m:Nat}{p q r s f l:Pt}(h:Q6 w W n m p q r s f l)(hb:Below W.heap.size W W'):Q6 w W' n m p q r s f l:=by
 obtain⟨h1,h2,h3,h4,h5,h6,h7,h8⟩:=h;exact⟨h1.below hb,h2.below hb,h3.below hb,h4.below hb,h5.below hb,h6.below hb,h7.trans (hb.mono h7.size),h8⟩
theorem Q6.setf{w W:World}{n m:Nat}{p q r s f l:Pt}(h:Q6 w W n m p q r s f l)(x:Pt):Q6 w (setP W n x) n m p q r s x l:=by
 obtain⟨h1,h2,h3,h4,h5,h6,h7,h8,h9,h10⟩:=h;exact⟨h1.other (by omega) _,h2.other (by omega) _,h3.other (by omega) _,h4.other (by omega) _,h5.set _,h6.other (by omega) _,aU h7 (by omega),h8,h9,h10⟩
theorem Q6.setl{w W:World}{n m:Nat}{p q r s f l:Pt}(h:Q6 w W n m p q r s f l)(x:Pt):Q6 w (setP W m x) n m p q r s f x:=by
 obtain⟨h1,h2,h3,h4,h5,h6,h7,h8,h9,h10⟩:=h;exact⟨h1.other (by omega) _,h2.other (by omega) _,h3.other (by omega) _,h4.other (by omega) _,h5.other (by omega) _,h6.set _,aU h7 (by omega),h8,h9,h10⟩
theorem Q6.mk{w W W':World}{p q r s f l:Pt}(h:Q4 w W p q r s)(hb:Below W.heap.size W W')(n m:Nat)(hf:az W' n f)(hl:az W' m l)(hne:n≠m)(h1:W.heap.size≤n)(h2:W.heap.size≤m):Q6 w W' n m p q r s f l:=by
 have:=h.2.2.2.1.lt;obtain⟨g1,g2,g3,g4,g5⟩:=h.below hb;exact⟨g1,g2,g3,g4,hf,hl,g5,hne,by omega,by omega⟩
theorem Q6.ab{w W:World}{p q r s:Pt}(f l:Pt)(h:Q4 w W p q r s):Q6 w ((W.alloc (.cells #[f.1,f.2] 30)).alloc (.cells #[l.1,l.2] 30)).drew W.heap.size (W.heap.size+1) p q r s f l:=by
 refine Q6.mk h ?_ _ _ ?_ ?_ (by omega) (by omega) (by omega)
 ·exact below_drewN (((Below.refl W.heap.size W).alloc (Nat.le_refl _) _).alloc (by simp) _) 1
 ·exact(az.new W f).alloc _
 ·have:=az.new (W.alloc (.cells #[f.1,f.2] 30)) l
  rw[show(W.alloc (.cells #[f.1,f.2] 30)).heap.size=W.heap.size+1 by simp]at this;exact this
theorem Q6.ba{w W:World}{p q r s:Pt}(f l:Pt)(h:Q4 w W p q r s):Q6 w ((W.alloc (.cells #[l.1,l.2] 30)).alloc (.cells #[f.1,f.2] 30)).drew (W.heap.size+1) W.heap.size p q r s f l:=by
 refine Q6.mk h ?_ _ _ ?_ ?_ (by omega) (by omega) (by omega)
 ·exact below_drewN (((Below.refl W.heap.size W).alloc (Nat.le_refl _) _).alloc (by simp) _) 1
 ·have:=az.new (W.alloc (.cells #[l.1,l.2] 30)) f
  rw[show(W.alloc (.cells #[l.1,l.2] 30)).heap.size=W.heap.size+1 by simp]at this;exact this
 ·exact(az.new W l).alloc _
theorem Tryz.eql30(x1 x2 y1 y2:Int)(W:World):(binOp .eql 30 (.agg #[x1,x2]) (.agg #[y1,y2])).run Tryz.prog W=.ok (.bool (decide ((x1,x2)=(y1,y2)))) W:=by
 have u3:=Tryz.underlying3;have a3:=Tryz.isAgg3;have z3:=Tryz.sizeOf3;have hS:Tryz.prog.underlying 30=some (.struct (Tryz.prog.fieldsOf 30)):=by kernel_rfl
 have hp:Tryz.prog.stoodInHeld 30=false:=by kernel_rfl
 rw[run_eql_struct,show(10000:Nat)=9999+1 from rfl,run_equalIn_agg W 9999 30 _ _ hS hp];simp only[Program.fieldsOf,Tryz.underlying30];go_simp
 by_cases h1:x1=y1<;>by_cases h2:x2=y2<;>simp[h1,h2]
theorem Tryz.guard30:Tryz.prog.eqGuardType Tryz.prog.depth 30=false:=by kernel_rfl
end Go.Proofs
namespace Go.Proofs
open Go.RowKit Go.Proofs.Mp
theorem kA(a b:Pt)(w:World):Calls Tryz.prog 229 #[ae a,ae b] w (RetV w (.bool (befB a b))):=by
 have hr:befB a b=decide (a.1<b.1∨(a.1=b.1∧a.2<b.2)):=rfl;generalize befB a b=r at *;obtain⟨a1,a2⟩:=a;obtain⟨b1,b2⟩:=b;unfold ae;dsimp only at *;have HR:=hid hr;clear hr
 by_cases h0:a1<b1
 ·go_enter Tryz.func229,Tryz.ntmps229
  go_wp2;go_ret;exact RetV.bool (by rw[HR.out];symm;apply decide_eq_true;omega) ((bw1 _ _).trans ((bw1 _ _).mono (bw1 _ _).size))
 by_cases h1:a1=b1
 rotate_left
 ·go_enter Tryz.func229,Tryz.ntmps229
  go_wp2;go_ret;exact RetV.bool (by rw[HR.out];symm;apply decide_eq_false;omega) ((bw1 _ _).trans ((bw1 _ _).mono (bw1 _ _).size))
 subst h1
 by_cases h2:a2<b2
 ·go_enter Tryz.func229,Tryz.ntmps229
  go_wp2;go_ret;exact RetV.bool (by rw[HR.out];symm;first|(apply decide_eq_true;omega)|(simp;omega)) ((bw1 _ _).trans ((bw1 _ _).mono (bw1 _ _).size))
 ·go_enter Tryz.func229,Tryz.ntmps229
  go_wp2;go_ret;exact RetV.bool (by rw[HR.out];symm;first|(apply decide_eq_false;omega)|(simp;omega)) ((bw1 _ _).trans ((bw1 _ _).mono (bw1 _ _).size))
end Go.Proofs
namespace Go.Proofs
open Go.RowKit Go.Proofs.Mp
section
variable {W W':World}{n m:Nat}{p q:Pt}
end
theorem kz(a b c d:Pt)(w:World):Calls Tryz.prog 202 #[ae a,ae b,ae c,ae d] w (RetV w (.int .i64 (sharedN a b c d))):=by
 have cB:=hid fun (p1 p2 q1 q2:Int) W=>kA (p1,p2) (q1,q2) W
 obtain⟨a1,a2⟩:=a;obtain⟨b1,b2⟩:=b;obtain⟨c1,c2⟩:=c;obtain⟨d1,d2⟩:=d;unfold ae at *;dsimp only at *;have hq:=Q4.begin w (a1,a2) (b1,b2) (c1,c2) (d1,d2);generalize hn:sharedN (a1,a2) (b1,b2) (c1,c2) (d1,d2)=N;have HN:=hid hn;clear hn;go_enter Tryz.func202,Tryz.ntmps202;go_upto_region 1 with fail;dsimp only at hq;generalize ((((w.alloc (.cells #[a1,a2] 30)).alloc (.cells #[b1,b2] 30)).alloc (.cells #[c1,c2] 30)).alloc (.cells #[d1,d2] 30))=w1 at *;obtain⟨k1,k2,f1,f2,l1⟩:=hq.1.cel;obtain⟨k3,k4,f3,f4,l2⟩:=hq.2.1.cel;dsimp only at k1 k2 k3 k4;go_wp2_with fail;refine(cB.out _ _ _ _ _).mono ?_;rintro e w2 ⟨rfl,hb⟩;have hq2:=hq.below hb;clear k1 k2 f1 f2 l1 k3 k4 f3 f4 l2 hq hb;go_upto_if 13 with fail;generalize hz:befB (b1,b2) (a1,a2)=z;have HZ:=hid hz;clear hz;go_cut [] (fun wx=>∃p1 p2 q1 q2,Hid (dV (a1,a2) (b1,b2)=((p1,p2),(q1,q2)))∧Q4 w wx (p1,p2) (q1,q2) (c1,c2) (d1,d2))
 case first=>
  obtain⟨k1,k2,f1,f2,l1⟩:=hq2.1.cel;obtain⟨k3,k4,f3,f4,l2⟩:=hq2.2.1.cel;dsimp only at k1 k2 k3 k4;cases z
  ·go_wp2_with fail
   go_meet;exact⟨a1,a2,b1,b2,hid (by unfold dV;rw[HZ.out];rfl),hq2⟩
  ·go_wp2_with fail
   go_meet;exact⟨b1,b2,a1,a2,hid (by unfold dV;rw[HZ.out];rfl),hq2.swap1⟩
 case rest=>
  obtain⟨p1,p2,q1,q2,HS,hq3⟩:=hcut;clear hq2 HZ;obtain⟨k1,k2,f1,f2,l1⟩:=hq3.2.2.1.cel;obtain⟨k3,k4,f3,f4,l2⟩:=hq3.2.2.2.1.cel;dsimp only at k1 k2 k3 k4;go_wp2_with fail;refine(cB.out _ _ _ _ _).mono ?_;rintro e w4 ⟨rfl,hb⟩;have hq4:=hq3.below hb;clear k1 k2 f1 f2 l1 k3 k4 f3 f4 l2 hq3 hb;go_upto_if 18 with fail;generalize hz:befB (d1,d2) (c1,c2)=z;have HZ:=hid hz;clear hz;go_cut [] (fun wx=>∃r1 r2 s1 s2,Hid (dV (c1,c2) (d1,d2)=((r1,r2),(s1,s2)))∧Q4 w wx (p1,p2) (q1,q2) (r1,r2) (s1,s2))
  case first=>
   obtain⟨k1,k2,f1,f2,l1⟩:=hq4.2.2.1.cel;obtain⟨k3,k4,f3,f4,l2⟩:=hq4.2.2.2.1.cel;dsimp only at k1 k2 k3 k4;cases z
   ·go_wp2_with fail
    go_meet;exact⟨c1,c2,d1,d2,hid (by unfold dV;rw[HZ.out];rfl),hq4⟩
   ·go_wp2_with fail
    go_meet;exact⟨d1,d2,c1,c2,hid (by unfold dV;rw[HZ.out];rfl),hq4.swap2⟩
  case rest=>
   obtain⟨r1,r2,s1,s2,HS2,hq5⟩:=hcut;clear hq4 HZ;go_upto_region 5 with fail;go_cut [9,10] (fun v9 v10 wx=>∃n m,v9=.pointer (some ⟨n,0,none⟩)∧v10=.pointer (some ⟨m,0,none⟩)∧Q6 w wx n m (p1,p2) (q1,q2) (r1,r2) (s1,s2) (p1,p2) (q1,q2))
   case first=>
    obtain⟨k1,k2,f1,f2,l1⟩:=hq5.1.cel;obtain⟨k3,k4,f3,f4,l2⟩:=hq5.2.1.cel;dsimp only at k1 k2 k3 k4;go_region
    all_goals
     go_wp2_with fail;go_meet
     first|exact⟨_,_,rfl,rfl,Q6.ab (p1,p2) (q1,q2) hq5⟩|exact⟨_,_,rfl,rfl,Q6.ba (p1,p2) (q1,q2) hq5⟩
   case rest=>
    obtain⟨n,m,rfl,rfl,hq6⟩:=hcut;clear hq5;obtain⟨k1,k2,f1,f2,l1⟩:=hq6.2.2.2.2.1.cel;obtain⟨k3,k4,f3,f4,l2⟩:=hq6.2.2.1.cel;dsimp only at k1 k2 k3 k4;go_wp2_with fail;refine(cB.out _ _ _ _ _).mono ?_;rintro e w7 ⟨rfl,hb⟩;have hq7:=hq6.below hb;clear k1 k2 f1 f2 l1 k3 k4 f3 f4 l2 hq6 hb;go_upto_if 25 with fail;generalize hz:befB (p1,p2) (r1,r2)=z;have HZ:=hid hz;clear hz;go_cut [] (fun wx=>∃x1 x2,Hid ((if befB (p1,p2) (r1,r2)=true then (r1,r2) else (p1,p2))=(x1,x2))∧Q6 w wx n m (p1,p2) (q1,q2) (r1,r2) (s1,s2) (x1,x2) (q1,q2))
    case first=>
     obtain⟨k1,k2,f1,f2,l1⟩:=hq7.2.2.1.cel;obtain⟨k3,k4,f3,f4,l2⟩:=hq7.2.2.2.2.1.cel;dsimp only at k1 k2 k3 k4;cases z
     ·go_wp2_with fail
      go_meet;exact⟨p1,p2,hid (by rw[HZ.out];rfl),hq7⟩
     ·go_wp2_with fail
      go_meet;exact⟨r1,r2,hid (by rw[HZ.out];rfl),hq7.setf (r1,r2)⟩
    case rest=>
     obtain⟨x1,x2,HF,hq8⟩:=hcut;clear hq7 HZ;obtain⟨k1,k2,f1,f2,l1⟩:=hq8.2.2.2.1.cel;obtain⟨k3,k4,f3,f4,l2⟩:=hq8.2.2.2.2.2.1.cel;dsimp only at k1 k2 k3 k4;go_wp2_with fail;refine(cB.out _ _ _ _ _).mono ?_;rintro e w9 ⟨rfl,hb⟩;have hq9:=hq8.below hb;clear k1 k2 f1 f2 l1 k3 k4 f3 f4 l2 hq8 hb;go_upto_if 29 with fail;generalize hz:befB (s1,s2) (q1,q2)=z;have HZ:=hid hz;clear hz;go_cut [] (fun wx=>∃y1 y2,Hid ((if befB (s1,s2) (q1,q2)=true then (s1,s2) else (q1,q2))=(y1,y2))∧Q6 w wx n m (p1,p2) (q1,q2) (r1,r2) (s1,s2) (x1,x2) (y1,y2))
     case first=>
      obtain⟨k1,k2,f1,f2,l1⟩:=hq9.2.2.2.1.cel;obtain⟨k3,k4,f3,f4,l2⟩:=hq9.2.2.2.2.2.1.cel;dsimp only at k1 k2 k3 k4;cases z
      ·go_wp2_with fail
       go_meet;exact⟨q1,q2,hid (by rw[HZ.out];rfl),hq9⟩
      ·go_wp2_with fail
       go_meet;exact⟨s1,s2,hid (by rw[HZ.out];rfl),hq9.setl (s1,s2)⟩
     case rest=>
      obtain⟨y1,y2,HL,hq10⟩:=hcut;clear hq9 HZ;obtain⟨k1,k2,f1,f2,l1⟩:=hq10.2.2.2.2.1.cel;obtain⟨k3,k4,f3,f4,l2⟩:=hq10.2.2.2.2.2.1.cel;dsimp only at k1 k2 k3 k4
      have hres:N=if ((x1,x2):Pt)=(y1,y2) then 1 else if befB (x1,x2) (y1,y2)=true then 2 else 0:=by
       rw[←HN.out];unfold sharedN;simp only[HS.out,HS2.out,HF.out,HL.out]
      have h0:=hq10.2.2.2.2.2.2.1;clear HS HS2 HF HL hq10 HN;have HR:=hid hres;clear hres;have hG:=Tryz.guard30;have hN:=fun W=>Tryz.eql30 x1 x2 y1 y2 W
      by_cases e1:((x1,x2):Pt)=(y1,y2)
      ·have HR2:=hid (HR.out.trans (if_pos e1))
       rw[decide_eq_true e1]at hN;clear HR e1;go_wp2;go_ret;exact RetV.int HR2.out.symm h0
      ·have HR2:=hid (HR.out.trans (if_neg e1))
       rw[decide_eq_false e1]at hN;clear HR e1;go_wp2_with fail;refine(cB.out _ _ _ _ _).mono ?_;rintro e w11 ⟨rfl,hb⟩;clear k1 k2 f1 f2 l1 k3 k4 f3 f4 l2;have h1:=below_step h0 hb;clear h0 hb;generalize hz:befB (x1,x2) (y1,y2)=z at HR2;have HZ:=hid hz;clear hz;cases z
       ·go_wp2
        go_ret;exact RetV.int (by rw[HR2.out];rfl) h1
       ·go_wp2
        go_ret;exact RetV.int (by rw[HR2.out];rfl) h1
end Go.Proofs
namespace Go.Proofs
open Go.RowKit Go.Proofs.Mp
def absI(n:Int):Int:=if n<0 then -n else n
def flo(a b:Int):Int:=if 0<b then a/b else (-a)/(-b)
def cei(a b:Int):Int:=-flo (-a) b
theorem fL{a b:Int}(hb:0<b):b*flo a b≤a∧a<b*(flo a b+1):=by
 unfold flo;rw[if_pos hb];have h1:=Int.mul_ediv_add_emod a b;have h2:=Int.emod_nonneg a (by omega:b≠0);have h3:=Int.emod_lt_of_pos a hb;rw[Int.mul_add];omega
theorem jo(a b:Int)(hb:b≠0):flo (-a) (-b)=flo a b:=by
 unfold flo
 rcases Int.lt_or_gt_of_ne hb with h|h
 ·rw[if_pos (by omega),if_neg (by omega)]
 ·rw[if_neg (by omega),if_pos (by omega)]
  simp
theorem lM{a b q:Int}(hb:0<b)(h1:b*q≤a)(h2:a<b*(q+1)):flo a b=q:=by
 obtain⟨g1,g2⟩:=fL (a:=a) hb;generalize flo a b=f at *;have e1:b*f<b*(q+1):=Int.lt_of_le_of_lt g1 h2;have e2:b*q<b*(f+1):=Int.lt_of_le_of_lt h1 g2;have:=Int.lt_of_mul_lt_mul_left e1 (Int.le_of_lt hb);have:=Int.lt_of_mul_lt_mul_left e2 (Int.le_of_lt hb);omega
theorem rY(a b:Int)(hb:b≠0):cei (-a) (-b)=cei a b:=by unfold cei;rw[jo _ _ hb]
theorem iq{a b q:Int}(hb:0<b)(h1:b*(q-1)<a)(h2:a≤b*q):cei a b=q:=by
 unfold cei;have:=lM (a:=-a) (q:=-q) hb (by have:b*(-q)=-(b*q):=(by grind);omega) (by have:b*(-q+1)=-(b*(q-1)):=(by grind);omega);omega
theorem dr{a b:Int}(ha:0≤a)(hb:0<b):flo a b=a/b∧cei a b=(if 0<a%b then a/b+1 else a/b):=by
 refine⟨by unfold flo;rw[if_pos hb],?_⟩;have h1:=Int.mul_ediv_add_emod a b;have h2:=Int.emod_nonneg a (by omega:b≠0);have h3:=Int.emod_lt_of_pos a hb;generalize a/b=q at *;generalize a%b=r at *;split
 ·refine iq hb ?_ ?_
  ·rw[show q+1-1=q by omega];omega
  ·rw[Int.mul_add];omega
 ·refine iq hb ?_ ?_
  ·rw[Int.mul_sub];omega
  ·omega
theorem eH{a b:Int}(ha:a≤0)(hb:0<b):cei a b=-((-a)/b)∧flo a b=(if 0<(-a)%b then -((-a)/b)-1 else -((-a)/b)):=by
 obtain⟨h1,h2⟩:=dr (a:=-a) (by omega) hb;constructor
 ·unfold cei;rw[h1]
 ·have:flo a b=-cei (-a) b:=by unfold cei;simp
  rw[this,h2];split<;>omega
end Go.Proofs
namespace Go.Proofs
open Go.RowKit Go.Proofs.Mp
def dN(a b:Int):Bool:=decide ((a<0∧0<b)∨(0<a∧b<0))
theorem uD(a b:Int)(hb:b≠0):flo a b=if dN a b=true then -(absI a/absI b+(if 0<absI a%absI b then 1 else 0)) else absI a/absI b:=by
 unfold dN;simp only[decide_eq_true_eq]
 rcases Int.lt_or_gt_of_ne hb with h|h
 ·rw[←jo a b hb]
  have hB:absI b=-b:=by unfold absI;rw[if_pos h]
  rw[hB]
  rcases Int.lt_or_le 0 a with g|g
  ·rw[if_pos (by omega),show absI a=a by unfold absI;rw[if_neg (by omega)]]
   have:=(eH (a:=-a) (b:=-b) (by omega) (by omega)).2;rw[Int.neg_neg]at this;rw[this];split<;>omega
  ·rw[if_neg (by omega),show absI a=-a by unfold absI;split<;>omega]
   exact(dr (by omega) (by omega)).1
 ·have hB:absI b=b:=by unfold absI;rw[if_neg (by omega)]
  rw[hB]
  rcases Int.lt_or_le a 0 with g|g
  ·rw[if_pos (by omega),show absI a=-a by unfold absI;rw[if_pos g]]
   rw[(eH (by omega) h).2];split<;>omega
  ·rw[if_neg (by omega),show absI a=a by unfold absI;rw[if_neg (by omega)]]
   exact(dr g h).1
theorem uE(a b:Int)(hb:b≠0):cei a b=if dN a b=true then -(absI a/absI b) else absI a/absI b+(if 0<absI a%absI b then 1 else 0):=by
 unfold dN;simp only[decide_eq_true_eq]
 rcases Int.lt_or_gt_of_ne hb with h|h
 ·rw[←rY a b hb]
  have hB:absI b=-b:=by unfold absI;rw[if_pos h]
  rw[hB]
  rcases Int.lt_or_le 0 a with g|g
  ·rw[if_pos (by omega),show absI a=a by unfold absI;rw[if_neg (by omega)]]
   have:=(eH (a:=-a) (b:=-b) (by omega) (by omega)).1;rw[Int.neg_neg]at this;rw[this]
  ·rw[if_neg (by omega),show absI a=-a by unfold absI;split<;>omega]
   rw[(dr (by omega) (by omega)).2];split<;>omega
 ·have hB:absI b=b:=by unfold absI;rw[if_neg (by omega)]
  rw[hB]
  rcases Int.lt_or_le a 0 with g|g
  ·rw[if_pos (by omega),show absI a=-a by unfold absI;rw[if_pos g]]
   exact(eH (by omega) h).1
  ·rw[if_neg (by omega),show absI a=a by unfold absI;rw[if_neg (by omega)]]
   rw[(dr g h).2];split<;>omega
end Go.Proofs
namespace Go.Proofs
open Go.RowKit Go.Proofs.Mp
theorem oL(a b:Int)(w:World)(h1 : -4611686018427387904≤a)(hb:b≠0):Calls Tryz.prog 221 #[a,b] w (RetV w (.int .i64 0)):=by
 have d1:(b==0)=false:=by simp[hb]
 have d2:(a==-9223372036854775808)=false:=by rw[beq_eq_false_iff_ne];omega
 go_enter Tryz.func221,Tryz.ntmps221;go_wp2;go_ret;exact RetV.int rfl (Below.refl _ _)
theorem lK(a b:Int)(hb:b≠0):(a.tmod b=0∧flo a b=a.tdiv b∧cei a b=a.tdiv b) ∨
  (a.tmod b≠0∧(a.tmod b<0↔b<0)∧flo a b=a.tdiv b∧cei a b=a.tdiv b+1)∨(a.tmod b≠0∧¬(a.tmod b<0↔b<0)∧flo a b=a.tdiv b-1∧cei a b=a.tdiv b):=by
 have hF:=uD a b hb;have hC:=uE a b hb
 have key:a.tdiv b=(if dN a b=true then -(absI a/absI b) else absI a/absI b)∧a.tmod b=(if a<0 then -(absI a%absI b) else absI a%absI b):=by
  unfold dN;simp only[decide_eq_true_eq]
  rcases Int.lt_or_gt_of_ne hb with h|h
  ·have hB:absI b=-b:=by unfold absI;rw[if_pos h]
   rw[hB];have e1:a.tdiv b=-(a.tdiv (-b)):=by rw[Int.tdiv_neg];omega
   have e2:a.tmod b=a.tmod (-b):=by rw[Int.tmod_neg]
   rw[e1,e2]
   rcases Int.lt_or_le a 0 with g|g
   ·have e3:a.tdiv (-b)=-((-a).tdiv (-b)):=by rw[Int.neg_tdiv];omega
    have e4:a.tmod (-b)=-((-a).tmod (-b)):=by rw[Int.neg_tmod];omega
    rw[e3,e4,Int.tdiv_eq_ediv_of_nonneg (by omega),Int.tmod_eq_emod_of_nonneg (by omega),if_neg (by omega),if_pos g,show absI a=-a by unfold absI;rw[if_pos g]];exact⟨by omega,rfl⟩
   ·rw[Int.tdiv_eq_ediv_of_nonneg g,Int.tmod_eq_emod_of_nonneg g,if_neg (show ¬a<0 by omega),show absI a=a by unfold absI;rw[if_neg (by omega)]]
    refine⟨?_,rfl⟩;split
    ·rfl
    ·have:a=0:=by omega
     subst this;simp
  ·have hB:absI b=b:=by unfold absI;rw[if_neg (by omega)]
   rw[hB]
   rcases Int.lt_or_le a 0 with g|g
   ·have e3:a.tdiv b=-((-a).tdiv b):=by rw[Int.neg_tdiv];omega
    have e4:a.tmod b=-((-a).tmod b):=by rw[Int.neg_tmod];omega
    rw[e3,e4,Int.tdiv_eq_ediv_of_nonneg (by omega),Int.tmod_eq_emod_of_nonneg (by omega),if_pos (by omega),if_pos g,show absI a=-a by unfold absI;rw[if_pos g]];exact⟨rfl,rfl⟩
   ·rw[Int.tdiv_eq_ediv_of_nonneg g,Int.tmod_eq_emod_of_nonneg g,if_neg (by omega),if_neg (by omega),show absI a=a by unfold absI;rw[if_neg (by omega)]]
    exact⟨rfl,rfl⟩
 have hB1:1≤absI b:=by unfold absI;split<;>omega
 have hr:=Int.emod_nonneg (absI a) (show absI b≠0 by omega);have hA:a=0→absI a%absI b=0:=by intro h;subst h;simp[absI]
 have HM:dN a b=true↔(a<0∧0<b)∨(0<a∧b<0):=by unfold dN;rw[decide_eq_true_eq]
 obtain⟨k1,k2⟩:=key;rw[k1,k2,hF,hC];clear k1 k2 hF hC;generalize absI a/absI b=q at *;generalize absI a%absI b=r at *;clear hB1
 by_cases hm:dN a b=true
 ·have hm':=HM.1 hm
  simp only[if_pos hm]
  by_cases hr0:r=0
  ·subst hr0
   left
   simp
  ·have:0<r:=by omega
   simp only[if_pos this]
   right;right
   refine⟨?_,?_,by first|trivial|omega,by first|trivial|omega⟩
   ·split<;>omega
   ·split<;>omega
 ·have hm':¬((a<0∧0<b)∨(0<a∧b<0)):=fun h=>hm (HM.2 h)
  simp only[if_neg hm]
  by_cases hr0:r=0
  ·subst hr0
   left
   simp
  ·have h0:0<r:=by omega
   have ha:a≠0:=fun h=>hr0 (hA h)
   simp only[if_pos h0]
   right;left
   refine⟨?_,?_,by first|trivial|omega,by first|trivial|omega⟩
   ·split<;>omega
   ·split<;>omega
theorem mZ(a b:Int)(hb:b≠0)(h1 : -4611686018427387904≤a)(h2:a≤4611686018427387904) : -4611686018427387904≤a.tdiv b∧a.tdiv b≤4611686018427387904:=by
 have:=Int.natAbs_tdiv_le_natAbs a b;omega
theorem nJ(a b:Int)(w:World)(h1 : -4611686018427387904≤a)(h2:a≤4611686018427387904)(hb:b≠0) :
  Calls Tryz.prog 177 #[a,b] w (RetV w (.tuple #[.int .i64 (flo a b),.int .i64 0])):=by
 have cC:=hid fun W=>oL a b W h1 hb
 have hg:=lK a b hb;have hqb:=mZ a b hb h1 h2;have hb0:¬b=0:=hb;have hbb:(b==0)=false:=by simp[hb]
 have hw:IntKind.i64.wrap (a.tdiv b)=a.tdiv b:=IntWalk.i64_in _ (by omega);obtain⟨q,hq⟩:∃q,a.tdiv b=q:=⟨_,rfl⟩;obtain⟨r,hr⟩:∃r,a.tmod b=r:=⟨_,rfl⟩;rw[hq]at hw hg hqb;rw[hr]at hg;generalize flo a b=f at *;generalize cei a b=c at *;have HB:=hid hb;clear hb
 rcases hg with⟨e1,e2,e3⟩|⟨e1,e4,e2,e3⟩|⟨e1,e4,e2,e3⟩
 ·have d1:(r != 0)=false:=by simp[e1]
  clear e1;have HV:=hid (show f=q from e2);clear e2 e3;go_enter Tryz.func177,Tryz.ntmps177;go_wp2_with fail;refine(cC.out _).mono ?_;rintro e w1 ⟨rfl,hb1⟩;go_wp2;refine bodyPost_ret (v:=.tuple #[.int .i64 (q),.int .i64 0]) (by simp[results,Tryz.results177,go_sem]) rfl ?_;exact⟨by rw[HV.out],hb1⟩
 ·have d1:(r != 0)=true:=by simp[e1]
  by_cases g:b<0
  ·have d2:decide (b<0)=true:=decide_eq_true g
   have d3:decide (r<0)=true:=decide_eq_true (by omega);clear e1 e4 g;have HV:=hid (show f=q from e2);clear e2 e3;go_enter Tryz.func177,Tryz.ntmps177;go_wp2_with fail;refine(cC.out _).mono ?_;rintro e w1 ⟨rfl,hb1⟩;go_wp2;refine bodyPost_ret (v:=.tuple #[.int .i64 (q),.int .i64 0]) (by simp[results,Tryz.results177,go_sem]) rfl ?_;exact⟨by rw[HV.out],hb1⟩
  ·have d2:decide (b<0)=false:=decide_eq_false g
   have d3:decide (r<0)=false:=decide_eq_false (by omega);clear e1 e4 g;have HV:=hid (show f=q from e2);clear e2 e3;go_enter Tryz.func177,Tryz.ntmps177;go_wp2_with fail;refine(cC.out _).mono ?_;rintro e w1 ⟨rfl,hb1⟩;go_wp2;refine bodyPost_ret (v:=.tuple #[.int .i64 (q),.int .i64 0]) (by simp[results,Tryz.results177,go_sem]) rfl ?_;exact⟨by rw[HV.out],hb1⟩
 ·have d1:(r != 0)=true:=by simp[e1]
  by_cases g:b<0
  ·have d2:decide (b<0)=true:=decide_eq_true g
   have d3:decide (r<0)=false:=decide_eq_false (by omega);clear e1 e4 g;have HV:=hid (show f=q-1 from e2);clear e2 e3;go_enter Tryz.func177,Tryz.ntmps177;go_wp2_with fail;refine(cC.out _).mono ?_;rintro e w1 ⟨rfl,hb1⟩;go_wp2;refine bodyPost_ret (v:=.tuple #[.int .i64 (q-1),.int .i64 0]) (by simp[results,Tryz.results177,go_sem]) rfl ?_;exact⟨by rw[HV.out],hb1⟩
  ·have d2:decide (b<0)=false:=decide_eq_false g
   have d3:decide (r<0)=true:=decide_eq_true (by omega);clear e1 e4 g;have HV:=hid (show f=q-1 from e2);clear e2 e3;go_enter Tryz.func177,Tryz.ntmps177;go_wp2_with fail;refine(cC.out _).mono ?_;rintro e w1 ⟨rfl,hb1⟩;go_wp2;refine bodyPost_ret (v:=.tuple #[.int .i64 (q-1),.int .i64 0]) (by simp[results,Tryz.results177,go_sem]) rfl ?_;exact⟨by rw[HV.out],hb1⟩
end Go.Proofs
namespace Go.Proofs
open Go.RowKit Go.Proofs.Mp
def Mp.OwnA{α:Type}(e k:Nat)(enc:α→List Value)(w:World)(base:Nat)(av:Nat→Prop)(v:Value)(xs:List α):Prop:=
 Own e k enc w base v xs∧∀j,v.ownBlock=some j→¬av j
section
variable {α:Type}{e k:Nat}{enc:α→List Value}{w w':World}{base:Nat}{av:Nat→Prop}{v:Value}{xs:List α}
theorem Mp.OwnA.append1{P:Program}{ops:Array Oper}{rest:List Oper}{o:Oper}{a:Act}{Q:Exit→Act→World→Prop}(t:TypeId)(i:TypeInfo)(z:Value)(bytes:Nat)
  (ht:P.underlying t=some (.slice e))(hi:P.info? e=some i)(hz:i.zero=some z)
  (hsize:i.size=k)(hby:i.bytes=bytes)(hzs:z.cells.size=k)(hsz:0<k)(hbpos:0<bytes)
  (hk:∀x,(enc x).length=k)(y:α)(h1:∀u∈enc y,u.oneCell'=true)(hgd:o.guard=none)(s x:Operand)
  (ho:o.op=.call { callee:=.builtin .append,args:=#[s,x],argTypes:=#[t,t] })
  (hown:OwnA e k enc w base av v xs)(hav:∀j,av j→j<w.heap.size)(hs:a.eval s=v)(hx:a.eval x=.slice (some ⟨w.heap.size,0,none⟩) 1 1)
  (hbytes:(xs.length+1)*bytes≤140737488355328)(hbase:base≤w.heap.size)
  (h:∀v' w',OwnA e k enc w' base av v' (xs++[y])→w.grownBy w' v.ownBlock→(v'.ownBlock=v.ownBlock∨∃j,v'.ownBlock=some j∧w.heap.size≤j)→wpList P ops Q rest (a.put o.dst v') w') :
  wpList P ops Q (o::rest) a (w.alloc (.cells (enc y).toArray e)):=by
 have hle:xs.length+1≤(xs.length+1)*bytes:=Nat.le_mul_of_pos_right _ hbpos
 have hadd:∀j,(⟨w.heap.size,0,none⟩:Addr).add j=⟨w.heap.size,j,none⟩:=fun j=>by
  unfold Addr.add;split
  ·simp_all
  ·simp
 refine wpList_append_own_at _ hgd s x t ho base e i z k bytes ht hi hz hsize hby hzs hsz v xs.length (xs.flatMap enc) hs (hown.1.alloc _) ⟨w.heap.size,0,none⟩ 1 1 (enc y) hx (by simp[hk]) ?_ h1
  (by unfold maxLen;omega) hbytes (by simp;omega) ?_
 ·intro j u hu
  rw[hadd,cell_of_row _ w.heap.size j _ e (0,0) (heap_alloc_new w _)]
  simpa using hu
 ·intro v' w' hown' hg _ hloc
  have hg':w.grownBy w' v.ownBlock:=(World.grownBy_alloc w _ _).trans hg;refine h v' w' ⟨?_,?_⟩ hg' ?_
  ·unfold Own
   simpa using hown'
  ·intro j hj hj'
   rcases hloc with hl|hl
   ·exact hown.2 j (hl▸hj) hj'
   ·rw[hl]at hj
    injection hj with hj;have:=hav j hj';simp at hj;omega
  ·rcases hloc with hl|hl
   ·exact .inl hl
   ·exact .inr ⟨_,hl,by simp⟩
end
end Go.Proofs
namespace Go.Proofs
open Go.Shelf
def Tryz.lays134_ren:Go.Shelf.Ren:=⟨fun|134=>251|129=>169|n=>n,fun|53=>240|3=>3|4=>4|46=>198|5=>5|9=>9|n=>n,fun|n=>n⟩
theorem Tryz.lays134:Go.Proofs.Lays.n134 Tryz.prog Tryz.lays134_ren:={
 mixed:=by kernel_rfl
 f129:=Tryz.func169.trans (congrArg some (by kernel_rfl))
 f134:=Tryz.func251.trans (congrArg some (by kernel_rfl))
 t3:=Tryz.underlying3
 a3:=Tryz.isAgg3
 z3:=Tryz.sizeOf3
 v3:=Tryz.zeroValue3
 t4:=Tryz.underlying4
 a4:=Tryz.isAgg4
 z4:=Tryz.sizeOf4
 v4:=Tryz.zeroValue4
 t5:=Tryz.underlying5
 a5:=Tryz.isAgg5
 z5:=Tryz.sizeOf5
 v5:=Tryz.zeroValue5
 t9:=Tryz.underlying9
 a9:=Tryz.isAgg9
 z9:=Tryz.sizeOf9
 v9:=Tryz.zeroValue9
 t46:=Tryz.underlying198
 a46:=Tryz.isAgg198
 z46:=Tryz.sizeOf198
 v46:=Tryz.zeroValue198
 t53:=Tryz.underlying240
 a53:=Tryz.isAgg240
 z53:=Tryz.sizeOf240
 v53:=Tryz.zeroValue240 }
theorem Tryz.bits_LeadingZeros64(x:Int)(w:World)(h0:0≤x)(h1:x≤18446744073709551615) :
  Calls Tryz.prog 251 #[.int .u64 x] w fun e w'=>e=.returned (.int .i64 (64-(Lib.bitLen x.toNat:Int)))∧w'=w:=Any.bits_LeadingZeros64 Tryz.lays134 x w h0 h1
def Tryz.lays122_ren:Go.Shelf.Ren:=⟨fun|122=>75|215=>116|n=>n,fun|3=>3|4=>4|n=>n,fun|n=>n⟩
theorem Tryz.lays122:Go.Proofs.Lays.n122 Tryz.prog Tryz.lays122_ren:={
 mixed:=by kernel_rfl
 f122:=Tryz.func75.trans (congrArg some (by kernel_rfl))
 f215:=Tryz.func116.trans (congrArg some (by kernel_rfl))
 t3:=Tryz.underlying3
 a3:=Tryz.isAgg3
 z3:=Tryz.sizeOf3
 v3:=Tryz.zeroValue3
 t4:=Tryz.underlying4
 a4:=Tryz.isAgg4
 z4:=Tryz.sizeOf4
 v4:=Tryz.zeroValue4 }
open Go.RowKit in
theorem Tryz.cmp_Compare_int(x y:Int)(w:World) :
  Calls Tryz.prog 75 #[x,y] w fun e w'=>e=.returned (.int .i64 (Lib.compareInt x y))∧w'=w:=Any.cmp_Compare_int Tryz.lays122 x y w
def Tryz.lays129_ren:Go.Shelf.Ren:=⟨fun|129=>169|n=>n,fun|53=>240|3=>3|4=>4|46=>198|5=>5|9=>9|n=>n,fun|n=>n⟩
theorem Tryz.lays129:Go.Proofs.Lays.n129 Tryz.prog Tryz.lays129_ren:={
 mixed:=by kernel_rfl
 f129:=Tryz.func169.trans (congrArg some (by kernel_rfl))
 t3:=Tryz.underlying3
 a3:=Tryz.isAgg3
 z3:=Tryz.sizeOf3
 v3:=Tryz.zeroValue3
 t4:=Tryz.underlying4
 a4:=Tryz.isAgg4
 z4:=Tryz.sizeOf4
 v4:=Tryz.zeroValue4
 t5:=Tryz.underlying5
 a5:=Tryz.isAgg5
 z5:=Tryz.sizeOf5
 v5:=Tryz.zeroValue5
 t9:=Tryz.underlying9
 a9:=Tryz.isAgg9
 z9:=Tryz.sizeOf9
 v9:=Tryz.zeroValue9
 t46:=Tryz.underlying198
 a46:=Tryz.isAgg198
 z46:=Tryz.sizeOf198
 v46:=Tryz.zeroValue198
 t53:=Tryz.underlying240
 a53:=Tryz.isAgg240
 z53:=Tryz.sizeOf240
 v53:=Tryz.zeroValue240 }
theorem Tryz.bits_Len64(x:Int)(w:World)(h0:0≤x)(h1:x≤18446744073709551615) :
  Calls Tryz.prog 169 #[.int .u64 x] w fun e w'=>e=.returned (.int .i64 (Lib.bitLen x.toNat))∧w'=w:=Any.bits_Len64 Tryz.lays129 x w h0 h1
def Tryz.lays189_ren:Go.Shelf.Ren:=⟨fun|189=>119|125=>115|257=>174|128=>168|129=>169|294=>210|295=>211|296=>212|297=>213|298=>214|299=>215|216=>216|300=>217|301=>218|328=>239|329=>204|330=>205|331=>240|332=>241|215=>116|343=>250|n=>n,fun|28=>24|3=>3|46=>198|0=>0|51=>238|53=>240|4=>4|183=>232|182=>231|131=>87|5=>5|9=>9|218=>257|222=>261|228=>280|229=>281|n=>n,fun|n=>n⟩
theorem Tryz.lays189:Go.Proofs.Lays.n189 Tryz.prog Tryz.lays189_ren:={
 mixed:=by kernel_rfl
 f125:=Tryz.func115.trans (congrArg some (by kernel_rfl))
 f128:=Tryz.func168.trans (congrArg some (by kernel_rfl))
 f129:=Tryz.func169.trans (congrArg some (by kernel_rfl))
 f189:=Tryz.func119.trans (congrArg some (by kernel_rfl))
 f215:=Tryz.func116.trans (congrArg some (by kernel_rfl))
 f216:=Tryz.func216.trans (congrArg some (by kernel_rfl))
 f257:=Tryz.func174.trans (congrArg some (by kernel_rfl))
 f294:=Tryz.func210.trans (congrArg some (by kernel_rfl))
 f295:=Tryz.func211.trans (congrArg some (by kernel_rfl))
 f296:=Tryz.func212.trans (congrArg some (by kernel_rfl))
 f297:=Tryz.func213.trans (congrArg some (by kernel_rfl))
 f298:=Tryz.func214.trans (congrArg some (by kernel_rfl))
 f299:=Tryz.func215.trans (congrArg some (by kernel_rfl))
 f300:=Tryz.func217.trans (congrArg some (by kernel_rfl))
 f301:=Tryz.func218.trans (congrArg some (by kernel_rfl))
 f328:=Tryz.func239.trans (congrArg some (by kernel_rfl))
 f329:=Tryz.func204.trans (congrArg some (by kernel_rfl))
 f330:=Tryz.func205.trans (congrArg some (by kernel_rfl))
 f331:=Tryz.func240.trans (congrArg some (by kernel_rfl))
 f332:=Tryz.func241.trans (congrArg some (by kernel_rfl))
 f343:=Tryz.func250.trans (congrArg some (by kernel_rfl))
 t0:=Tryz.underlying0
 a0:=Tryz.isAgg0
 z0:=Tryz.sizeOf0
 v0:=Tryz.zeroValue0
 t3:=Tryz.underlying3
 a3:=Tryz.isAgg3
 z3:=Tryz.sizeOf3
 v3:=Tryz.zeroValue3
 t4:=Tryz.underlying4
 a4:=Tryz.isAgg4
 z4:=Tryz.sizeOf4
 v4:=Tryz.zeroValue4
 t5:=Tryz.underlying5
 a5:=Tryz.isAgg5
 z5:=Tryz.sizeOf5
 v5:=Tryz.zeroValue5
 t9:=Tryz.underlying9
 a9:=Tryz.isAgg9
 z9:=Tryz.sizeOf9
 v9:=Tryz.zeroValue9
 t28:=Tryz.underlying24
 a28:=Tryz.isAgg24
 z28:=Tryz.sizeOf24
 v28:=Tryz.zeroValue24
 t46:=Tryz.underlying198
 a46:=Tryz.isAgg198
 z46:=Tryz.sizeOf198
 v46:=Tryz.zeroValue198
 t51:=Tryz.underlying238
 a51:=Tryz.isAgg238
 z51:=Tryz.sizeOf238
 v51:=Tryz.zeroValue238
 t53:=Tryz.underlying240
 a53:=Tryz.isAgg240
 z53:=Tryz.sizeOf240
 v53:=Tryz.zeroValue240
 t131:=Tryz.underlying87
 a131:=Tryz.isAgg87
 z131:=Tryz.sizeOf87
 v131:=Tryz.zeroValue87
 t182:=Tryz.underlying231
 a182:=Tryz.isAgg231
 z182:=Tryz.sizeOf231
 v182:=Tryz.zeroValue231
 t183:=Tryz.underlying232
 a183:=Tryz.isAgg232
 z183:=Tryz.sizeOf232
 v183:=Tryz.zeroValue232
 t218:=Tryz.underlying257
 a218:=Tryz.isAgg257
 z218:=Tryz.sizeOf257
 v218:=Tryz.zeroValue257
 t222:=Tryz.underlying261
 a222:=Tryz.isAgg261
 z222:=Tryz.sizeOf261
 v222:=Tryz.zeroValue261
 t228:=Tryz.underlying280
 a228:=Tryz.isAgg280
 z228:=Tryz.sizeOf280
 v228:=Tryz.zeroValue280
 t229:=Tryz.underlying281
 a229:=Tryz.isAgg281
 z229:=Tryz.sizeOf281
 v229:=Tryz.zeroValue281 }
open Go.Sort Go.RowKit in
theorem Tryz.slices_Sort_int(blk off cap:Nat)(zs:List Int)(w:World)(hH:Holds (Value.int .i64) w blk off zs.toArray)(hblk:blk<w.heap.size)(hsz:zs.length<4611686018427387904) :
  Calls Tryz.prog 119 #[.slice (some ⟨blk,off,none⟩) zs.length cap] w fun e w'=>
   e=.returned (.tuple #[])∧∃n os,w'=grow (putRow (Value.int .i64) (Sort.ahead w n) blk off (zs.mergeSort fun x y=>decide (x≤y)).toArray) os:=Any.slices_Sort_int Tryz.lays189 blk off cap zs w hH hblk hsz
def Tryz.lays264_ren:Go.Shelf.Ren:=⟨fun|264=>242|n=>n,fun|53=>240|46=>198|n=>n,fun|n=>n⟩
theorem Tryz.lays264:Go.Proofs.Lays.n264 Tryz.prog Tryz.lays264_ren:={
 mixed:=by kernel_rfl
 f264:=Tryz.func242.trans (congrArg some (by kernel_rfl))
 t46:=Tryz.underlying198
 a46:=Tryz.isAgg198
 z46:=Tryz.sizeOf198
 v46:=Tryz.zeroValue198
 t53:=Tryz.underlying240
 a53:=Tryz.isAgg240
 z53:=Tryz.sizeOf240
 v53:=Tryz.zeroValue240 }
open Go.RowKit Go.Lib in
theorem Tryz.bits_Mul64(x y:Nat)(hx:x<18446744073709551616)(hy:y<18446744073709551616)(w:World) :
  Calls Tryz.prog 242 #[.int .u64 x,.int .u64 y] w fun e w'=>e=.returned (.tuple #[.int .u64 ((x*y/18446744073709551616:Nat):Int),.int .u64 ((x*y%18446744073709551616:Nat):Int)])∧w'=w:=Any.bits_Mul64 Tryz.lays264 x y hx hy w
def Tryz.lays108_ren:Go.Shelf.Ren:=⟨fun|108=>148|n=>n,fun|28=>24|3=>3|0=>0|4=>4|n=>n,fun|n=>n⟩
theorem Tryz.lays108:Go.Proofs.Lays.n108 Tryz.prog Tryz.lays108_ren:={
 mixed:=by kernel_rfl
 f108:=Tryz.func148.trans (congrArg some (by kernel_rfl))
 t0:=Tryz.underlying0
 a0:=Tryz.isAgg0
 z0:=Tryz.sizeOf0
 v0:=Tryz.zeroValue0
 t3:=Tryz.underlying3
 a3:=Tryz.isAgg3
 z3:=Tryz.sizeOf3
 v3:=Tryz.zeroValue3
 t4:=Tryz.underlying4
 a4:=Tryz.isAgg4
 z4:=Tryz.sizeOf4
 v4:=Tryz.zeroValue4
 t28:=Tryz.underlying24
 a28:=Tryz.isAgg24
 z28:=Tryz.sizeOf24
 v28:=Tryz.zeroValue24 }
open Go.Lib in
theorem Tryz.slices_Index_int(b off n c:Nat)(zs:List Int)(x:Int)(w:World)(hz:n≤zs.length)(hbig:n≤9223372036854775807)(hc:∀j,j<zs.length→w.cell? ⟨b,off+j,none⟩=some (.int .i64 (zs.getD j 0))) :
  Calls Tryz.prog 148 #[.slice (some ⟨b,off,none⟩) n c,x] w fun e w'=>e=.returned (.int .i64 (Lib.idxOf (zs.take n) x))∧w'=w:=Any.slices_Index_int Tryz.lays108 b off n c zs x w hz hbig hc
open Go.Lib in
theorem Tryz.slices_Index_int_empty(a:Option Addr)(c:Nat)(x:Int)(w:World) :
  Calls Tryz.prog 148 #[.slice a 0 c,x] w fun e w'=>e=.returned (.int .i64 (Lib.idxOf [] x))∧w'=w:=Any.slices_Index_int_empty Tryz.lays108 a c x w
def Tryz.lays107_ren:Go.Shelf.Ren:=⟨fun|107=>94|108=>148|n=>n,fun|28=>24|3=>3|4=>4|0=>0|n=>n,fun|n=>n⟩
theorem Tryz.lays107:Go.Proofs.Lays.n107 Tryz.prog Tryz.lays107_ren:={
 mixed:=by kernel_rfl
 f107:=Tryz.func94.trans (congrArg some (by kernel_rfl))
 f108:=Tryz.func148.trans (congrArg some (by kernel_rfl))
 t0:=Tryz.underlying0
 a0:=Tryz.isAgg0
 z0:=Tryz.sizeOf0
 v0:=Tryz.zeroValue0
 t3:=Tryz.underlying3
 a3:=Tryz.isAgg3
 z3:=Tryz.sizeOf3
 v3:=Tryz.zeroValue3
 t4:=Tryz.underlying4
 a4:=Tryz.isAgg4
 z4:=Tryz.sizeOf4
 v4:=Tryz.zeroValue4
 t28:=Tryz.underlying24
 a28:=Tryz.isAgg24
 z28:=Tryz.sizeOf24
 v28:=Tryz.zeroValue24 }
open Go.Lib in
theorem Tryz.slices_Contains_int(b off n c:Nat)(zs:List Int)(x:Int)(w:World)(hz:n≤zs.length)(hbig:n≤9223372036854775807)(hc:∀j,j<zs.length→w.cell? ⟨b,off+j,none⟩=some (.int .i64 (zs.getD j 0))) :
  Calls Tryz.prog 94 #[.slice (some ⟨b,off,none⟩) n c,x] w fun e w'=>e=.returned (.bool ((zs.take n).contains x))∧w'=w:=Any.slices_Contains_int Tryz.lays107 b off n c zs x w hz hbig hc
open Go.Lib in
theorem Tryz.slices_Contains_int_empty(a:Option Addr)(c:Nat)(x:Int)(w:World) :
  Calls Tryz.prog 94 #[.slice a 0 c,x] w fun e w'=>e=.returned (.bool false)∧w'=w:=Any.slices_Contains_int_empty Tryz.lays107 a c x w
open Go.RowKit Go.Sort in
theorem Tryz.slices_Sort_int_none(p:Option Addr)(cap:Nat)(w:World) :
  Calls Tryz.prog 119 #[.slice p 0 cap] w fun e w'=>e=.returned (.tuple #[])∧w'=w:=Any.slices_Sort_int_none Tryz.lays189 p cap w
def Tryz.growP_ren:Go.Shelf.Ren:=⟨fun|4=>151|n=>n,fun|22=>56|25=>30|3=>3|4=>4|9=>9|20=>20|0=>0|2=>3|n=>n,fun|n=>n⟩
theorem Tryz.growP:Go.Proofs.Lays8.n4 Tryz.prog Tryz.growP_ren:={
 mixed:=by kernel_rfl
 f4:=⟨Tryz.f151.name,by decide,Tryz.func151.trans (congrArg some (by kernel_rfl))⟩
 t0:=Tryz.underlying0
 a0:=Tryz.isAgg0
 z0:=Tryz.sizeOf0
 v0:=Tryz.zeroValue0
 t3:=Tryz.underlying3
 a3:=Tryz.isAgg3
 z3:=Tryz.sizeOf3
 v3:=Tryz.zeroValue3
 t4:=Tryz.underlying4
 a4:=Tryz.isAgg4
 z4:=Tryz.sizeOf4
 v4:=Tryz.zeroValue4
 t9:=Tryz.underlying9
 a9:=Tryz.isAgg9
 z9:=Tryz.sizeOf9
 v9:=Tryz.zeroValue9
 t20:=Tryz.underlying20
 a20:=Tryz.isAgg20
 z20:=Tryz.sizeOf20
 v20:=Tryz.zeroValue20
 t22:=Tryz.underlying56
 a22:=Tryz.isAgg56
 z22:=Tryz.sizeOf56
 v22:=Tryz.zeroValue56 }
end Go.Proofs
namespace Go.Proofs.Mp
open Go.RowKit
abbrev Rel(β α:Type):=World→β→α→(Nat→Prop)→Prop
structure Foot{β α:Type}(R:Rel β α):Prop where
 mono:∀{w:World} {b:β} {x:α} {ok ok':Nat→Prop},R w b x ok→(∀g,g<w.heap.size→ok g→ok' g)→R w b x ok'
 keep:∀{w w':World} {b:β} {x:α} {ok:Nat→Prop},R w b x ok→w.heap.size≤w'.heap.size→(∀g,g<w.heap.size→ok g→w'.heap[g]?=w.heap[g]?)→R w' b x ok
theorem gApp1{α:Type}[Inhabited α]{a b:List α}{i:Nat}(h:i<a.length):(a++b)[i]! = a[i]!:=by
 simp[getElem!_def,List.getElem?_append_left h]
theorem gApp2{α:Type}[Inhabited α]{a b:List α}{i:Nat}(h:a.length≤i):(a++b)[i]! = b[i-a.length]!:=by
 simp[getElem!_def,List.getElem?_append_right h]
def SlF{α:Type}[Inhabited α](k:Nat)(enc:α→List Value):Rel Value (List α):=fun w v l ok=>
 ∃A c,v=.slice A l.length c∧(l.length≤c∧c≤maxLen)∧(l=[]∨∃g off,A=some ⟨g,off,none⟩∧ok g∧g<w.heap.size)∧Rd k enc w A l
theorem Rd.keepB{α:Type}[Inhabited α]{k:Nat}{enc:α→List Value}{w w':World}{g off:Nat}{xs:List α}(h:Rd k enc w (some ⟨g,off,none⟩) xs)(hs:w.heap.size≤w'.heap.size)(hk:w'.heap[g]?=w.heap[g]?):Rd k enc w' (some ⟨g,off,none⟩) xs:=by
 rcases h with h|⟨b,o,he,hb,hc⟩
 ·exact .inl h
 ·injection he with he
  injection he with e1 e2;subst e1 e2;exact .inr ⟨g,off,rfl,by omega,fun j hj i u hu=>(World.cell?_of_block hk).trans (hc j hj i u hu)⟩
theorem SlF.foot{α:Type}[Inhabited α](k:Nat)(enc:α→List Value):Foot (SlF k enc) where
 mono:=by
  rintro w b x ok ok' ⟨A,c,h1,h2,h3,h4⟩ h;refine⟨A,c,h1,h2,h3.imp_right ?_,h4⟩;rintro⟨g,off,e,o,hl⟩;exact⟨g,off,e,h g hl o,hl⟩
 keep:=by
  rintro w w' b x ok ⟨A,c,h1,h2,h3,h4⟩ hs hk
  rcases h3 with h3|⟨g,off,e,o,hl⟩
  ·exact⟨A,c,h1,h2,.inl h3,.inl h3⟩
  ·subst e
   exact⟨_,c,h1,h2,.inr ⟨g,off,rfl,o,by omega⟩,h4.keepB hs (hk g hl o)⟩
theorem SlF.own{α:Type}[Inhabited α]{e k:Nat}{enc:α→List Value}(hk:∀x,(enc x).length=k){w:World}{base:Nat}{v:Value}{l:List α}(h:Own e k enc w base v l){ok:Nat→Prop}(hok:∀g,base≤g→g<w.heap.size→v.ownBlock=some g→ok g):SlF k enc w v l ok:=by
 have h0:=h
 rcases h.2 with⟨rfl,hn⟩|⟨g,cap,cur,rfl,hb,hh,hnc,hcm,_⟩
 ·have:l=[]:=List.length_eq_zero_iff.1 hn
  subst this;exact⟨none,0,rfl,⟨Nat.le_refl _,Nat.zero_le _⟩,.inl rfl,.inl rfl⟩
 ·have hl:g<w.heap.size:=(Array.getElem?_eq_some_iff.1 hh).1
  exact⟨_,cap,rfl,⟨hnc,hcm⟩,.inr ⟨g,0,rfl,hok g hb hl rfl,hl⟩,Own.rd hk h0⟩
def SlG{β α:Type}[Inhabited β][Inhabited α](k:Nat)(enc:β→List Value)(R:Rel β α):Rel Value (List α):=fun w v L ok=>
 ∃vs:List β,vs.length=L.length∧SlF k enc w v vs ok∧∀i,i<L.length→R w vs[i]! L[i]! ok
theorem SlG.foot{β α:Type}[Inhabited β][Inhabited α](k:Nat)(enc:β→List Value){R:Rel β α}(hR:Foot R):Foot (SlG k enc R) where
 mono:=by
  rintro w b x ok ok' ⟨vs,h1,h2,h3⟩ h;exact⟨vs,h1,(SlF.foot k enc).mono h2 h,fun i hi=>hR.mono (h3 i hi) h⟩
 keep:=by
  rintro w w' b x ok ⟨vs,h1,h2,h3⟩ hs hk;exact⟨vs,h1,(SlF.foot k enc).keep h2 hs hk,fun i hi=>hR.keep (h3 i hi) hs hk⟩
def OwG{β α:Type}[Inhabited β][Inhabited α](e k:Nat)(enc:β→List Value)(R:Rel β α)(w:World)(base:Nat)(v:Value)(L:List α)(ok:Nat→Prop):Prop:=
 ∃vs:List β,vs.length=L.length∧Own e k enc w base v vs∧∀i,i<L.length→R w vs[i]! L[i]! (fun g=>ok g∧v.ownBlock≠some g)
section
variable {β α:Type}[Inhabited β][Inhabited α]{e k:Nat}{enc:β→List Value}{R:Rel β α}{w w':World}{base:Nat}{v:Value}{L:List α}{ok:Nat→Prop}
theorem OwG.nil(w:World)(base:Nat)(ok:Nat→Prop):OwG e k enc R w base (.slice none 0 0) ([]:List α) ok:=⟨[],rfl,Own.nil w base,fun i hi=>by simp at hi⟩
theorem OwG.lt(h:OwG e k enc R w base v L ok){j:Nat}(hj:v.ownBlock=some j):base≤j∧j<w.heap.size:=by
 obtain⟨vs,_,h2,_⟩:=h;exact World.ownsRow.lt h2 j hj
theorem OwG.slice(h:OwG e k enc R w base v L ok):∃A c,v=.slice A L.length c:=by
 obtain⟨vs,h1,h2,_⟩:=h;rw[←h1];exact Own.slice h2
theorem OwG.mono(hR:Foot R)(h:OwG e k enc R w base v L ok){b:Nat}{ok':Nat→Prop}(hb:b≤base)(ho:∀g,g<w.heap.size→v.ownBlock≠some g→ok g→ok' g):OwG e k enc R w b v L ok':=by
 obtain⟨vs,h1,h2,h3⟩:=h;exact⟨vs,h1,h2.mono hb,fun i hi=>hR.mono (h3 i hi) fun g hg o=>⟨ho g hg o.2 o.1,o.2⟩⟩
theorem OwG.keep(hR:Foot R)(h:OwG e k enc R w base v L ok)(hs:w.heap.size≤w'.heap.size)(hk:∀g,g<w.heap.size→(v.ownBlock=some g∧base≤g∨ok g)→w'.heap[g]?=w.heap[g]?):OwG e k enc R w' base v L ok:=by
 obtain⟨vs,h1,h2,h3⟩:=h;refine⟨vs,h1,?_,fun i hi=>hR.keep (h3 i hi) hs fun g hg o=>hk g hg (.inr o.1)⟩;obtain⟨p1,p2⟩:=h2;refine⟨p1,?_⟩
 rcases p2 with p2|⟨g,cap,cur,hv,hg,hh,r⟩
 ·exact .inl p2
 ·have hl:g<w.heap.size:=(Array.getElem?_eq_some_iff.1 hh).1
  exact .inr ⟨g,cap,cur,hv,hg,by rw[hk g hl (.inl ⟨by rw[hv];rfl,hg⟩)];exact hh,r⟩
theorem OwG.below(hR:Foot R)(h:OwG e k enc R w base v L ok)(hb:Below w.heap.size w w'):OwG e k enc R w' base v L ok:=h.keep hR hb.size fun g hg _=>hb.block g hg
theorem OwG.grown(hR:Foot R)(h:OwG e k enc R w base v L ok){row:Option Nat}(hg:w.grownBy w' row)(hr:∀g,row=some g→¬(v.ownBlock=some g∧base≤g∨ok g)):OwG e k enc R w' base v L ok:=
 h.keep hR hg.size fun g h1 h2=>hg.block g h1 fun e=>hr g e.symm h2
theorem OwG.read(hk:∀x,(enc x).length=k)(hR:Foot R)(h:OwG e k enc R w base v L ok){ok':Nat→Prop}(ho:∀g,g<w.heap.size→(v.ownBlock=some g∧base≤g∨ok g)→ok' g):SlG k enc R w v L ok':=by
 obtain⟨vs,h1,h2,h3⟩:=h;exact⟨vs,h1,SlF.own hk h2 fun g h1 h2 h3=>ho g h2 (.inl ⟨h3,h1⟩),fun i hi=>hR.mono (h3 i hi) fun g hg o=>ho g hg (.inr o.1)⟩
theorem OwG.more(hR:Foot R){vs ks:List β}{K:List α}{v':Value}(h1:vs.length=L.length)(h3:∀i,i<L.length→R w vs[i]! L[i]! (fun g=>ok g∧v.ownBlock≠some g))
  (k1:ks.length=K.length)(k3:∀i,i<K.length→R w ks[i]! K[i]! (fun g=>ok g∧v.ownBlock≠some g))
  (ho:Own e k enc w' base v' (vs++ks))(hg:w.grownBy w' v.ownBlock)(hl:v'.ownBlock=v.ownBlock∨∃j,v'.ownBlock=some j∧w.heap.size≤j):OwG e k enc R w' base v' (L++K) ok:=by
 have hn:∀q,q<w.heap.size→v.ownBlock≠some q→v'.ownBlock≠some q:=by
  intro q hq hne e
  rcases hl with hl|⟨j,hl,hj⟩
  ·exact hne (hl▸e)
  ·rw[hl]at e
   injection e with e;omega
 have key:∀b x,R w b x (fun g=>ok g∧v.ownBlock≠some g)→R w' b x (fun g=>ok g∧v'.ownBlock≠some g):=fun b x h=>
  hR.keep (hR.mono h (ok':=fun g=>ok g∧v'.ownBlock≠some g∧v.ownBlock≠some g) fun g hg o=>⟨o.1,hn g hg o.2,o.2⟩) hg.size (fun g h1 h2=>hg.block g h1 fun e=>h2.2.2 e.symm) |> fun h=>by
   refine hR.mono h fun g _ o=>⟨o.1,o.2.1⟩
 refine⟨_,by simp[h1,k1],ho,fun i hi=>?_⟩;rw[List.length_append]at hi
 by_cases hlt:i<L.length
 ·rw[gApp1 (by omega),gApp1 (by omega)]
  exact key _ _ (h3 i hlt)
 ·rw[gApp2 (by omega),gApp2 (by omega),h1]
  exact key _ _ (k3 _ (by omega))
end
section
variable {P:Program}{β α:Type}[Inhabited β][Inhabited α]{e k:Nat}{enc:β→List Value}{R:Rel β α}{w w':World}{base:Nat}{v:Value}{L:List α}{ok:Nat→Prop}
theorem wp_append_at{o:Oper}{a:Act}{K:Act→World→Prop}{Q:Exit→Act→World→Prop}(s x:Operand)(t:TypeId)
  (ho:o.op=.call { callee:=.builtin .append,args:=#[s,x],argTypes:=#[t,t] })
  (base:Nat)(e:TypeId)(i:TypeInfo)(z:Value)(size bytes:Nat)(ht:P.underlying t=some (.slice e))(hi:P.info? e=some i)(hz:i.zero=some z)
  (hsize:i.size=size)(hby:i.bytes=bytes)(hzs:z.cells.size=size)(hsz:0<size)
  (v:Value)(n:Nat)(xs:List Value)(hs:a.eval s=v)(hown:w.ownsRow base e size v n xs)
  (ad:Addr)(m c:Nat)(news:List Value)(hx:a.eval x=.slice (some ad) m c)(hl:news.length=m*size)(hnews:∀j u,news[j]?=some u→w.cell? (ad.add j)=some u)(h1:∀u∈news,u.oneCell'=true)
  (h63:n+m≤maxLen)(hbytes:(n+m)*bytes≤140737488355328)(hbase:base≤w.heap.size)
  (h:∀v' w',w'.ownsRow base e size v' (n+m) (xs++news)→w.grownBy w' v.ownBlock→(v'.ownBlock=v.ownBlock∨v'.ownBlock=some w.heap.size)→K (a.put o.dst v') w'):o.wp P a w K Q:=by
 obtain⟨v',w',hr,h2,h3,_,h5⟩:=run_append_own_at (P:=P) w base t o.type e i z size bytes ht hi hz hsize hby hzs hsz v n xs hown ad m c news hl hnews h1 h63 hbytes hbase;unfold Oper.wp execOp;simp only[ho,resolve,invoke,builtin,Sem.run_bind,Sem.run_pure,Result.andThen_ok,List.map_toArray,List.map_cons,List.map_nil,hs,hx,hr];exact h v' w' h2 h3 h5
omit [Inhabited α] in
theorem Own.wpAt{enc:α→List Value}{o:Oper}{a:Act}{K:Act→World→Prop}{Q:Exit→Act→World→Prop}(t:TypeId)(i:TypeInfo)(z:Value)(bytes:Nat)
  (ht:P.underlying t=some (.slice e))(hi:P.info? e=some i)(hz:i.zero=some z)
  (hsize:i.size=k)(hby:i.bytes=bytes)(hzs:z.cells.size=k)(hsz:0<k)(hbpos:0<bytes)
  (hk:∀x,(enc x).length=k)(y:α)(h1:∀u∈enc y,u.oneCell'=true)(s r:Operand)
  (ho:o.op=.call { callee:=.builtin .append,args:=#[s,r],argTypes:=#[t,t] }){vs:List α}
  (hown:Own e k enc w base v vs)(hs:a.eval s=v)(hx:a.eval r=.slice (some ⟨w.heap.size,0,none⟩) 1 1)
  (hbytes:(vs.length+1)*bytes≤140737488355328)(hbase:base≤w.heap.size)
  (h:∀v' w',Own e k enc w' base v' (vs++[y])→w.grownBy w' v.ownBlock→(v'.ownBlock=v.ownBlock∨∃j,v'.ownBlock=some j∧w.heap.size≤j)→K (a.put o.dst v') w') :
  o.wp P a (w.alloc (.cells (enc y).toArray e)) K Q:=by
 have hle:vs.length+1≤(vs.length+1)*bytes:=Nat.le_mul_of_pos_right _ hbpos
 have hadd:∀j,(⟨w.heap.size,0,none⟩:Addr).add j=⟨w.heap.size,j,none⟩:=fun j=>by
  unfold Addr.add;split
  ·simp_all
  ·simp
 refine wp_append_at s r t ho base e i z k bytes ht hi hz hsize hby hzs hsz v vs.length (vs.flatMap enc) hs (hown.alloc _) ⟨w.heap.size,0,none⟩ 1 1 (enc y) hx (by simp[hk]) ?_ h1
  (by unfold maxLen;omega) hbytes (by simp;omega) ?_
 ·intro j u hu
  rw[hadd,cell_of_row _ w.heap.size j _ e (0,0) (heap_alloc_new w _)]
  simpa using hu
 ·intro v' w' ho' hg hl
  refine h v' w' (by unfold Own;simpa using ho') ((World.grownBy_alloc w _ _).trans hg) (hl.imp id fun e=>⟨_,e,by simp⟩)
theorem OwG.wp1{o:Oper}{a:Act}{K:Act→World→Prop}{Q:Exit→Act→World→Prop}(t:TypeId)(i:TypeInfo)(z:Value)(bytes:Nat)
  (ht:P.underlying t=some (.slice e))(hi:P.info? e=some i)(hz:i.zero=some z)
  (hsize:i.size=k)(hby:i.bytes=bytes)(hzs:z.cells.size=k)(hsz:0<k)(hbpos:0<bytes)
  (hk:∀x,(enc x).length=k)(hR:Foot R)(y:β)(x:α)(h1:∀u∈enc y,u.oneCell'=true)(s r:Operand)
  (ho:o.op=.call { callee:=.builtin .append,args:=#[s,r],argTypes:=#[t,t] })
  (hown:OwG e k enc R w base v L ok)(hel:R w y x (fun g=>ok g∧v.ownBlock≠some g))(hs:a.eval s=v)(hx:a.eval r=.slice (some ⟨w.heap.size,0,none⟩) 1 1)
  (hbytes:(L.length+1)*bytes≤140737488355328)(hbase:base≤w.heap.size)
  (h:∀v' w',OwG e k enc R w' base v' (L++[x]) ok→w.grownBy w' v.ownBlock→(v'.ownBlock=v.ownBlock∨∃j,v'.ownBlock=some j∧w.heap.size≤j)→K (a.put o.dst v') w') :
  o.wp P a (w.alloc (.cells (enc y).toArray e)) K Q:=by
 obtain⟨vs,q1,q2,q3⟩:=hown;refine Own.wpAt t i z bytes ht hi hz hsize hby hzs hsz hbpos hk y h1 s r ho q2 hs hx (by rw[q1];exact hbytes) hbase ?_;intro v' w' p1 p2 p3;refine h v' w' (OwG.more hR (K:=[x]) q1 q3 rfl (fun i hi=>?_) p1 p2 p3) p2 p3;have:i=0:=by simpa using hi
 subst this;exact hel
theorem OwG.wpAll{o:Oper}{a:Act}{K:Act→World→Prop}{Q:Exit→Act→World→Prop}(t:TypeId)(i:TypeInfo)(z:Value)(bytes:Nat)
  (ht:P.underlying t=some (.slice e))(hi:P.info? e=some i)(hz:i.zero=some z)
  (hsize:i.size=k)(hby:i.bytes=bytes)(hzs:z.cells.size=k)(hsz:0<k)(hbpos:0<bytes)
  (hk:∀x,(enc x).length=k)(hR:Foot R)(h1:∀y x,R w y x (fun g=>ok g∧v.ownBlock≠some g)→∀u∈enc y,u.oneCell'=true)(s r:Operand)
  (ho:o.op=.call { callee:=.builtin .append,args:=#[s,r],argTypes:=#[t,t] })
  {M:List α}{vk:Value}(hown:OwG e k enc R w base v L ok)(hK:SlG k enc R w vk M (fun g=>ok g∧v.ownBlock≠some g))(hs:a.eval s=v)(hx:a.eval r=vk)
  (hbytes:(L.length+M.length)*bytes≤140737488355328)(hbase:base≤w.heap.size)
  (h:∀v' w',OwG e k enc R w' base v' (L++M) ok→w.grownBy w' v.ownBlock→(v'.ownBlock=v.ownBlock∨∃j,v'.ownBlock=some j∧w.heap.size≤j)→K (a.put o.dst v') w') :
  o.wp P a w K Q:=by
 obtain⟨vs,q1,q2,q3⟩:=hown;obtain⟨ks,k1,⟨A,c,rfl,_,_,hRd⟩,k3⟩:=hK;have hle:L.length+M.length≤(L.length+M.length)*bytes:=Nat.le_mul_of_pos_right _ hbpos
 by_cases hn:ks=[]
 ·subst hn
  obtain rfl:M=[]:=List.length_eq_zero_iff.1 (by simpa using k1.symm);simp only[List.length_nil]at hx
  obtain⟨B,m,rfl,hm⟩:∃B m,v=.slice B vs.length m∧vs.length≤m:=by
   rcases q2.2 with⟨rfl,h0⟩|⟨g,cap,cur,rfl,_,_,hnc,_⟩
   ·exact⟨none,0,by rw[h0],by omega⟩
   ·exact⟨_,cap,rfl,hnc⟩
  have hr:=run_append_zero (P:=P) (w:=w) t o.type e i ht hi B A vs.length m c hm;unfold Oper.wp execOp;simp only[ho,resolve,invoke,builtin,Sem.run_bind,Sem.run_pure,Result.andThen_ok,List.map_toArray,List.map_cons,List.map_nil,hs,hx,hr];exact h _ w (by rw[List.append_nil];exact⟨vs,q1,q2,q3⟩) (World.grownBy.refl _ _) (.inl rfl)
 ·obtain⟨ad,rfl,hc⟩:=Rd.flat hk hsz hRd hn
  refine wp_append_at s r t ho base e i z k bytes ht hi hz hsize hby hzs hsz v vs.length (vs.flatMap enc) hs q2 ad ks.length c (ks.flatMap enc) hx (flat_len hk ks) hc ?_ (by unfold maxLen;omega) (by rw[q1,k1];exact hbytes) hbase ?_
  ·intro u hu
   obtain⟨y,hy0,hy⟩:=List.mem_flatMap.1 hu;obtain⟨j,hj,rfl⟩:=List.mem_iff_getElem.1 hy0;have h9:=k3 j (by omega);rw[getElem!_pos ks j hj]at h9;exact h1 _ _ h9 u hy
  ·intro v' w' ho' hg hl
   have ho2:Own e k enc w' base v' (vs++ks):=by
    unfold Own
    simpa using ho'
   have hl2:v'.ownBlock=v.ownBlock∨∃j,v'.ownBlock=some j∧w.heap.size≤j:=hl.imp id fun e=>⟨_,e,Nat.le_refl _⟩
   exact h v' w' (OwG.more hR q1 q3 k1 k3 ho2 hg hl2) hg hl2
theorem wp_step{ops:Array Oper}{o:Oper}{a:Act}{K:Act→World→Prop}{Q:Exit→Act→World→Prop}{E:Prop}(hgd:o.guard=none)(h:o.wp P a w K Q):if Region.wanted o (yielded ops a.tmps)=true then Oper.wp P o a w K Q else E:=by
 rw[if_pos (by simp[Region.wanted,hgd])];exact h
end
end Go.Proofs.Mp
namespace Go.Proofs.Mp
open Go.RowKit Go.Maps
abbrev keyI(x:Int):Lit:=.int .i64 x
def rawE(v:Value):Option (DataW Value×List MemPlace):=some (.held v,[])
theorem rawE_inv{v:Value}{d:DataW Value}{ps:List MemPlace}(h:rawE v=some (d,ps)):d=.held v:=by
 unfold rawE at h;injection h with h;injection h with h1 h2;exact h1.symm
def setV(f:Int→Option Value)(n:Int)(v:Value):Int→Option Value:=fun z=>if z=n then some v else f z
theorem setV_same(f:Int→Option Value)(n:Int)(v:Value):setV f n v n=some v:=if_pos rfl
theorem setV_ne{f:Int→Option Value}{n z:Int}{v:Value}(h:z≠n):setV f n v z=f z:=if_neg h
def MapV(P:Program)(k:TypeId)(w:World)(B N:Nat)(f:Int→Option Value):Prop:=
 ∃D:DataW Value,w.ownsMap P k rawE B (Maps.size D) D∧Maps.size D≤N∧(∀x,Maps.has D (keyI x)=(f x).isSome)∧∀x z,D.atKey (keyI x) (.held z)=.held ((f x).getD z)
section
variable {P:Program}{k e t:TypeId}{w w':World}{B N:Nat}{f:Int→Option Value}
theorem MapV.lt(h:MapV P k w B N f):B<w.heap.size:=by obtain⟨D,h1,_⟩:=h;exact h1.lt
theorem MapV.kept{row:Option Nat}(h:MapV P k w B N f)(hg:w.grownBy w' row)(hne:some B≠row):MapV P k w' B N f:=by
 obtain⟨D,h1,r⟩:=h;exact⟨D,h1.kept hg hne,r⟩
theorem MapV.belowN(h:MapV P k w B N f){n:Nat}(hb:Below n w w')(hn:B<n):MapV P k w' B N f:=by
 obtain⟨D,⟨es,clock,hh,r⟩,q⟩:=h;exact⟨D,⟨es,clock,(hb.block B hn).trans hh,r⟩,q⟩
theorem MapV.below(h:MapV P k w B N f)(hb:Below w.heap.size w w'):MapV P k w' B N f:=h.belowN hb h.lt
theorem MapV.mono(h:MapV P k w B N f){N':Nat}(hN:N≤N'):MapV P k w B N' f:=by
 obtain⟨D,h1,h2,r⟩:=h;exact⟨D,h1,Nat.le_trans h2 hN,r⟩
theorem MapV.made(w:World):MapV P k (w.alloc (.map #[] 0)) w.heap.size 0 (fun _=>none):=by
 refine⟨.map [],World.ownsMap_made w P k _,Nat.le_refl _,fun x=>by simp[Maps.has],fun x z=>rfl⟩
theorem ownsMapV_exact{D:DataW Value}{n:Nat}(h:w.ownsMap P k rawE B n D):w.ownsMap P k rawE B (Maps.size D) D:=by
 obtain⟨es,clock,hb,F,hs,rfl⟩:=h;exact⟨es,clock,hb,F,by simp[Maps.size,length_sorted],rfl⟩
end
section
variable {P:Program}{k e t:TypeId}{w:World}{B N:Nat}{f:Int→Option Value}{ops:Array Oper}{rest:List Oper}{o:Oper}{a:Act}{Q:Exit→Act→World→Prop}
theorem MapV.run(h:MapV P k w B N f)(ht:P.underlying t=some (.map k e))(hk:P.underlying k=some (.int .i64)){z:Value}(hz:(zeroValue e).run P w=.ok z w)(n:Int)(hwf:(Lit.int .i64 n).wf=true) :
  (Instr.lookup t (.map (some B)) (.int .i64 n) false).run P w=.ok ((f n).getD z) w:=by
 obtain⟨D,h1,h2,h3,h4⟩:=h;obtain⟨v,ps,hrun,hv⟩:=h1.lookup (int_keyed hk) ht hz (zd:=.held z) (zp:=[]) rfl (keyOf_int_mk hk hwf);have e1:=rawE_inv hv;rw[h4 n z]at e1;injection e1 with e1;rw[hrun,e1]
theorem MapV.look(h:MapV P k w B N f)(hg:o.guard=none)(m x:Operand)(hop:o.op=Op.lookup t m x false)(ht:P.underlying t=some (.map k e))(hk:P.underlying k=some (.int .i64)){z:Value}(hz:(zeroValue e).run P w=.ok z w)
  (hm:a.eval m=.map (some B))(n:Int)(hx:a.eval x=.int .i64 n)(hwf:(Lit.int .i64 n).wf=true){v:Value}(hv:(f n).getD z=v)(hK:wpList P ops Q rest (a.put o.dst v) w):wpList P ops Q (o::rest) a w:=by
 refine wpList_plain hg fun K' hK'=>?_
 have hrun:=h.run ht hk hz n hwf;rw[hv]at hrun;unfold Oper.wp;simp[execOp,hop,hm,hx,hrun,Result.andThen];exact hK' _ _ hK
theorem MapV.exec(h:MapV P k w B N f)(m x:Operand)(hop:o.op=Op.lookup t m x false)(ht:P.underlying t=some (.map k e))(hk:P.underlying k=some (.int .i64)){z:Value}(hz:(zeroValue e).run P w=.ok z w)
  (hm:a.eval m=.map (some B))(n:Int)(hx:a.eval x=.int .i64 n)(hwf:(Lit.int .i64 n).wf=true){v:Value}(hv:(f n).getD z=v):(execOp a.eval o).run P w=.ok (.value v) w:=by
 have hrun:=h.run ht hk hz n hwf;rw[hv]at hrun;simp[execOp,hop,hm,hx,hrun,Result.andThen]
theorem MapV.put(hk:P.underlying k=some (.int .i64)){w':World}{D:DataW Value}(h1:w.ownsMap P k rawE B (Maps.size D) D)(h2:Maps.size D≤N)(h3:∀x,Maps.has D (keyI x)=(f x).isSome)
  (h4:∀x z,D.atKey (keyI x) (.held z)=.held ((f x).getD z)){x:Int}{v:Value}{M n:Nat}(hM:((f x).isSome=true∧N≤M)∨N+1≤M)(hw:w'.ownsMap P k rawE B n (D.put (keyI x) (.held v)))(hkey:WideAt.IsKeyLit (keyI x)) :
  MapV P k w' B M (setV f x v):=by
 have hT:=h1.tidy (int_keyed hk);have hI:=h1.isMap;refine⟨_,ownsMapV_exact hw,?_,fun z=>?_,fun z y=>?_⟩
 ·rw[size_put hT]
  split
  ·rename_i hh
   rcases hM with⟨_,hM⟩|hM<;>omega
  ·rename_i hh
   rcases hM with⟨hx,hM⟩|hM
   ·exact absurd ((h3 x).trans hx) hh
   ·omega
 ·by_cases he:z=x
  ·subst he
   rw[has_put_same hI hkey,setV_same];rfl
  ·rw[has_put_other (by simp[keyI,he]),h3,setV_ne he]
 ·by_cases he:z=x
  ·subst he
   rw[atKey_put_same hI hkey,setV_same];rfl
  ·rw[atKey_put_other (by simp[keyI,he]),setV_ne he]
   exact h4 z y
theorem MapV.store(h:MapV P k w B N f)(hg:o.guard=none)(m x v:Operand)(hop:o.op=Op.mapUpdate t m x v)(ht:P.underlying t=some (.map k e))(hk:P.underlying k=some (.int .i64))
  (hm:a.eval m=.map (some B))(n:Int)(y:Value)(hx:a.eval x=.int .i64 n)(hv:a.eval v=y)(hwf:(Lit.int .i64 n).wf=true){M:Nat}(hM:((f n).isSome=true∧N≤M)∨N+1≤M)(hN:N<maxLen)
  (hK:∀w',MapV P k w' B M (setV f n y)→w.grownBy w' (some B)→wpList P ops Q rest (a.put o.dst undef) w'):wpList P ops Q (o::rest) a w:=by
 obtain⟨D,h1,h2,h3,h4⟩:=h;refine wpList_mapUpdate_own w hg m x v t hop k e (int_keyed hk) ht rawE B _ D hm h1 (Nat.lt_of_le_of_lt h2 hN) (.int .i64 n) y (keyI n) hx hv (keyOf_int_mk hk hwf) (.held y) [] rfl ?_;intro w' hw' hg';exact hK w' (MapV.put hk h1 h2 h3 h4 hM hw' ((int_keyed hk).key (keyOf_int_mk hk hwf))) hg'
theorem MapV.wpStore{K:Act→World→Prop}(h:MapV P k w B N f)(m x v:Operand)(hop:o.op=Op.mapUpdate t m x v)(ht:P.underlying t=some (.map k e))(hk:P.underlying k=some (.int .i64))
  (hm:a.eval m=.map (some B))(n:Int)(y:Value)(hx:a.eval x=.int .i64 n)(hv:a.eval v=y)(hwf:(Lit.int .i64 n).wf=true){M:Nat}(hM:((f n).isSome=true∧N≤M)∨N+1≤M)(hN:N<maxLen)
  (hK:∀w',MapV P k w' B M (setV f n y)→w.grownBy w' (some B)→K (a.put o.dst undef) w'):Oper.wp P o a w K Q:=by
 obtain⟨D,h1,h2,h3,h4⟩:=h;obtain⟨w',hrun,r1,r2⟩:=h1.update (int_keyed hk) ht (Nat.lt_of_le_of_lt h2 hN) (keyOf_int_mk hk hwf) (val:=y) (d:=.held y) (ps:=[]) rfl;unfold Oper.wp;simp[execOp,hop,hm,hx,hv,hrun,Result.andThen];exact hK _ (MapV.put hk h1 h2 h3 h4 hM r1 ((int_keyed hk).key (keyOf_int_mk hk hwf))) r2
theorem MapV.congr{g:Int→Option Value}(h:MapV P k w B N f)(e:∀x,f x=g x):MapV P k w B N g:=by
 have:f=g:=funext e
 rwa [←this]
end
end Go.Proofs.Mp
namespace Go.Proofs
open Go.Shelf
def Tryz.sortCr_ren:Go.Shelf.Ren:=⟨fun|6=>72|15=>115|14=>114|28=>168|29=>169|20=>160|21=>161|22=>162|23=>163|24=>164|25=>165|26=>166|27=>167|46=>203|47=>204|48=>205|49=>206|50=>207|57=>230|n=>n,fun|22=>61|24=>65|25=>146|3=>3|39=>198|0=>0|53=>238|55=>240|4=>4|46=>232|45=>231|50=>87|5=>5|9=>9|66=>257|70=>261|76=>280|77=>281|n=>n,fun|n=>n⟩
theorem Tryz.sortCr:Go.Proofs.SlLaysF0.n6 Tryz.prog Tryz.sortCr_ren:={
 mixed:=by kernel_rfl
 f6:=⟨Tryz.f72.name,by decide,Tryz.func72.trans (congrArg some (by kernel_rfl))⟩
 f14:=⟨Tryz.f114.name,by decide,Tryz.func114.trans (congrArg some (by kernel_rfl))⟩
 f15:=Tryz.func115.trans (congrArg some (by kernel_rfl))
 f20:=⟨Tryz.f160.name,by decide,Tryz.func160.trans (congrArg some (by kernel_rfl))⟩
 f21:=⟨Tryz.f161.name,by decide,Tryz.func161.trans (congrArg some (by kernel_rfl))⟩
 f22:=⟨Tryz.f162.name,by decide,Tryz.func162.trans (congrArg some (by kernel_rfl))⟩
 f23:=⟨Tryz.f163.name,by decide,Tryz.func163.trans (congrArg some (by kernel_rfl))⟩
 f24:=⟨Tryz.f164.name,by decide,Tryz.func164.trans (congrArg some (by kernel_rfl))⟩
 f25:=⟨Tryz.f165.name,by decide,Tryz.func165.trans (congrArg some (by kernel_rfl))⟩
 f26:=⟨Tryz.f166.name,by decide,Tryz.func166.trans (congrArg some (by kernel_rfl))⟩
 f27:=⟨Tryz.f167.name,by decide,Tryz.func167.trans (congrArg some (by kernel_rfl))⟩
 f28:=Tryz.func168.trans (congrArg some (by kernel_rfl))
 f29:=Tryz.func169.trans (congrArg some (by kernel_rfl))
 f46:=⟨Tryz.f203.name,by decide,Tryz.func203.trans (congrArg some (by kernel_rfl))⟩
 f47:=Tryz.func204.trans (congrArg some (by kernel_rfl))
 f48:=Tryz.func205.trans (congrArg some (by kernel_rfl))
 f49:=⟨Tryz.f206.name,by decide,Tryz.func206.trans (congrArg some (by kernel_rfl))⟩
 f50:=⟨Tryz.f207.name,by decide,Tryz.func207.trans (congrArg some (by kernel_rfl))⟩
 f57:=⟨Tryz.f230.name,by decide,Tryz.func230.trans (congrArg some (by kernel_rfl))⟩
 t0:=Tryz.underlying0
 a0:=Tryz.isAgg0
 z0:=Tryz.sizeOf0
 v0:=Tryz.zeroValue0
 t3:=Tryz.underlying3
 a3:=Tryz.isAgg3
 z3:=Tryz.sizeOf3
 v3:=Tryz.zeroValue3
 t4:=Tryz.underlying4
 a4:=Tryz.isAgg4
 z4:=Tryz.sizeOf4
 v4:=Tryz.zeroValue4
 t5:=Tryz.underlying5
 a5:=Tryz.isAgg5
 z5:=Tryz.sizeOf5
 v5:=Tryz.zeroValue5
 t9:=Tryz.underlying9
 a9:=Tryz.isAgg9
 z9:=Tryz.sizeOf9
 v9:=Tryz.zeroValue9
 t22:=Tryz.underlying61
 a22:=Tryz.isAgg61
 z22:=Tryz.sizeOf61
 v22:=Tryz.zeroValue61
 t25:=Tryz.underlying146
 a25:=Tryz.isAgg146
 z25:=Tryz.sizeOf146
 v25:=Tryz.zeroValue146
 t39:=Tryz.underlying198
 a39:=Tryz.isAgg198
 z39:=Tryz.sizeOf198
 v39:=Tryz.zeroValue198
 t45:=Tryz.underlying231
 a45:=Tryz.isAgg231
 z45:=Tryz.sizeOf231
 v45:=Tryz.zeroValue231
 t46:=Tryz.underlying232
 a46:=Tryz.isAgg232
 z46:=Tryz.sizeOf232
 v46:=Tryz.zeroValue232
 t50:=Tryz.underlying87
 a50:=Tryz.isAgg87
 z50:=Tryz.sizeOf87
 v50:=Tryz.zeroValue87
 t53:=Tryz.underlying238
 a53:=Tryz.isAgg238
 z53:=Tryz.sizeOf238
 v53:=Tryz.zeroValue238
 t55:=Tryz.underlying240
 a55:=Tryz.isAgg240
 z55:=Tryz.sizeOf240
 v55:=Tryz.zeroValue240
 t66:=Tryz.underlying257
 a66:=Tryz.isAgg257
 z66:=Tryz.sizeOf257
 v66:=Tryz.zeroValue257
 t70:=Tryz.underlying261
 a70:=Tryz.isAgg261
 z70:=Tryz.sizeOf261
 v70:=Tryz.zeroValue261
 t76:=Tryz.underlying280
 a76:=Tryz.isAgg280
 z76:=Tryz.sizeOf280
 v76:=Tryz.zeroValue280
 t77:=Tryz.underlying281
 a77:=Tryz.isAgg281
 z77:=Tryz.sizeOf281
 v77:=Tryz.zeroValue281 }
def Tryz.sortRe_ren:Go.Shelf.Ren:=⟨fun|6=>82|15=>115|14=>139|28=>168|29=>169|20=>182|21=>183|22=>184|23=>185|24=>186|25=>187|26=>188|27=>189|46=>223|47=>204|48=>205|49=>224|50=>225|57=>245|n=>n,fun|22=>110|24=>123|25=>160|3=>3|39=>198|0=>0|53=>238|55=>240|4=>4|46=>232|45=>231|50=>87|5=>5|9=>9|66=>257|70=>261|76=>280|77=>281|n=>n,fun|n=>n⟩
theorem Tryz.sortRe:Go.Proofs.SlLaysF0.n6 Tryz.prog Tryz.sortRe_ren:={
 mixed:=by kernel_rfl
 f6:=⟨Tryz.f82.name,by decide,Tryz.func82.trans (congrArg some (by kernel_rfl))⟩
 f14:=⟨Tryz.f139.name,by decide,Tryz.func139.trans (congrArg some (by kernel_rfl))⟩
 f15:=Tryz.func115.trans (congrArg some (by kernel_rfl))
 f20:=⟨Tryz.f182.name,by decide,Tryz.func182.trans (congrArg some (by kernel_rfl))⟩
 f21:=⟨Tryz.f183.name,by decide,Tryz.func183.trans (congrArg some (by kernel_rfl))⟩
 f22:=⟨Tryz.f184.name,by decide,Tryz.func184.trans (congrArg some (by kernel_rfl))⟩
 f23:=⟨Tryz.f185.name,by decide,Tryz.func185.trans (congrArg some (by kernel_rfl))⟩
 f24:=⟨Tryz.f186.name,by decide,Tryz.func186.trans (congrArg some (by kernel_rfl))⟩
 f25:=⟨Tryz.f187.name,by decide,Tryz.func187.trans (congrArg some (by kernel_rfl))⟩
 f26:=⟨Tryz.f188.name,by decide,Tryz.func188.trans (congrArg some (by kernel_rfl))⟩
 f27:=⟨Tryz.f189.name,by decide,Tryz.func189.trans (congrArg some (by kernel_rfl))⟩
 f28:=Tryz.func168.trans (congrArg some (by kernel_rfl))
 f29:=Tryz.func169.trans (congrArg some (by kernel_rfl))
 f46:=⟨Tryz.f223.name,by decide,Tryz.func223.trans (congrArg some (by kernel_rfl))⟩
 f47:=Tryz.func204.trans (congrArg some (by kernel_rfl))
 f48:=Tryz.func205.trans (congrArg some (by kernel_rfl))
 f49:=⟨Tryz.f224.name,by decide,Tryz.func224.trans (congrArg some (by kernel_rfl))⟩
 f50:=⟨Tryz.f225.name,by decide,Tryz.func225.trans (congrArg some (by kernel_rfl))⟩
 f57:=⟨Tryz.f245.name,by decide,Tryz.func245.trans (congrArg some (by kernel_rfl))⟩
 t0:=Tryz.underlying0
 a0:=Tryz.isAgg0
 z0:=Tryz.sizeOf0
 v0:=Tryz.zeroValue0
 t3:=Tryz.underlying3
 a3:=Tryz.isAgg3
 z3:=Tryz.sizeOf3
 v3:=Tryz.zeroValue3
 t4:=Tryz.underlying4
 a4:=Tryz.isAgg4
 z4:=Tryz.sizeOf4
 v4:=Tryz.zeroValue4
 t5:=Tryz.underlying5
 a5:=Tryz.isAgg5
 z5:=Tryz.sizeOf5
 v5:=Tryz.zeroValue5
 t9:=Tryz.underlying9
 a9:=Tryz.isAgg9
 z9:=Tryz.sizeOf9
 v9:=Tryz.zeroValue9
 t22:=Tryz.underlying110
 a22:=Tryz.isAgg110
 z22:=Tryz.sizeOf110
 v22:=Tryz.zeroValue110
 t25:=Tryz.underlying160
 a25:=Tryz.isAgg160
 z25:=Tryz.sizeOf160
 v25:=Tryz.zeroValue160
 t39:=Tryz.underlying198
 a39:=Tryz.isAgg198
 z39:=Tryz.sizeOf198
 v39:=Tryz.zeroValue198
 t45:=Tryz.underlying231
 a45:=Tryz.isAgg231
 z45:=Tryz.sizeOf231
 v45:=Tryz.zeroValue231
 t46:=Tryz.underlying232
 a46:=Tryz.isAgg232
 z46:=Tryz.sizeOf232
 v46:=Tryz.zeroValue232
 t50:=Tryz.underlying87
 a50:=Tryz.isAgg87
 z50:=Tryz.sizeOf87
 v50:=Tryz.zeroValue87
 t53:=Tryz.underlying238
 a53:=Tryz.isAgg238
 z53:=Tryz.sizeOf238
 v53:=Tryz.zeroValue238
 t55:=Tryz.underlying240
 a55:=Tryz.isAgg240
 z55:=Tryz.sizeOf240
 v55:=Tryz.zeroValue240
 t66:=Tryz.underlying257
 a66:=Tryz.isAgg257
 z66:=Tryz.sizeOf257
 v66:=Tryz.zeroValue257
 t70:=Tryz.underlying261
 a70:=Tryz.isAgg261
 z70:=Tryz.sizeOf261
 v70:=Tryz.zeroValue261
 t76:=Tryz.underlying280
 a76:=Tryz.isAgg280
 z76:=Tryz.sizeOf280
 v76:=Tryz.zeroValue280
 t77:=Tryz.underlying281
 a77:=Tryz.isAgg281
 z77:=Tryz.sizeOf281
 v77:=Tryz.zeroValue281 }
def Tryz.sortSg_ren:Go.Shelf.Ren:=⟨fun|6=>96|15=>115|14=>149|28=>168|29=>169|20=>194|21=>195|22=>196|23=>197|24=>198|25=>199|26=>200|27=>201|46=>226|47=>204|48=>205|49=>227|50=>228|57=>246|n=>n,fun|22=>171|24=>177|25=>179|3=>3|39=>198|0=>0|53=>238|55=>240|4=>4|46=>232|45=>231|50=>87|5=>5|9=>9|66=>257|70=>261|76=>280|77=>281|n=>n,fun|n=>n⟩
theorem Tryz.sortSg:Go.Proofs.SlLaysF0.n6 Tryz.prog Tryz.sortSg_ren:={
 mixed:=by kernel_rfl
 f6:=⟨Tryz.f96.name,by decide,Tryz.func96.trans (congrArg some (by kernel_rfl))⟩
 f14:=⟨Tryz.f149.name,by decide,Tryz.func149.trans (congrArg some (by kernel_rfl))⟩
 f15:=Tryz.func115.trans (congrArg some (by kernel_rfl))
 f20:=⟨Tryz.f194.name,by decide,Tryz.func194.trans (congrArg some (by kernel_rfl))⟩
 f21:=⟨Tryz.f195.name,by decide,Tryz.func195.trans (congrArg some (by kernel_rfl))⟩
 f22:=⟨Tryz.f196.name,by decide,Tryz.func196.trans (congrArg some (by kernel_rfl))⟩
 f23:=⟨Tryz.f197.name,by decide,Tryz.func197.trans (congrArg some (by kernel_rfl))⟩
 f24:=⟨Tryz.f198.name,by decide,Tryz.func198.trans (congrArg some (by kernel_rfl))⟩
 f25:=⟨Tryz.f199.name,by decide,Tryz.func199.trans (congrArg some (by kernel_rfl))⟩
 f26:=⟨Tryz.f200.name,by decide,Tryz.func200.trans (congrArg some (by kernel_rfl))⟩
 f27:=⟨Tryz.f201.name,by decide,Tryz.func201.trans (congrArg some (by kernel_rfl))⟩
 f28:=Tryz.func168.trans (congrArg some (by kernel_rfl))
 f29:=Tryz.func169.trans (congrArg some (by kernel_rfl))
 f46:=⟨Tryz.f226.name,by decide,Tryz.func226.trans (congrArg some (by kernel_rfl))⟩
 f47:=Tryz.func204.trans (congrArg some (by kernel_rfl))
 f48:=Tryz.func205.trans (congrArg some (by kernel_rfl))
 f49:=⟨Tryz.f227.name,by decide,Tryz.func227.trans (congrArg some (by kernel_rfl))⟩
 f50:=⟨Tryz.f228.name,by decide,Tryz.func228.trans (congrArg some (by kernel_rfl))⟩
 f57:=⟨Tryz.f246.name,by decide,Tryz.func246.trans (congrArg some (by kernel_rfl))⟩
 t0:=Tryz.underlying0
 a0:=Tryz.isAgg0
 z0:=Tryz.sizeOf0
 v0:=Tryz.zeroValue0
 t3:=Tryz.underlying3
 a3:=Tryz.isAgg3
 z3:=Tryz.sizeOf3
 v3:=Tryz.zeroValue3
 t4:=Tryz.underlying4
 a4:=Tryz.isAgg4
 z4:=Tryz.sizeOf4
 v4:=Tryz.zeroValue4
 t5:=Tryz.underlying5
 a5:=Tryz.isAgg5
 z5:=Tryz.sizeOf5
 v5:=Tryz.zeroValue5
 t9:=Tryz.underlying9
 a9:=Tryz.isAgg9
 z9:=Tryz.sizeOf9
 v9:=Tryz.zeroValue9
 t22:=Tryz.underlying171
 a22:=Tryz.isAgg171
 z22:=Tryz.sizeOf171
 v22:=Tryz.zeroValue171
 t25:=Tryz.underlying179
 a25:=Tryz.isAgg179
 z25:=Tryz.sizeOf179
 v25:=Tryz.zeroValue179
 t39:=Tryz.underlying198
 a39:=Tryz.isAgg198
 z39:=Tryz.sizeOf198
 v39:=Tryz.zeroValue198
 t45:=Tryz.underlying231
 a45:=Tryz.isAgg231
 z45:=Tryz.sizeOf231
 v45:=Tryz.zeroValue231
 t46:=Tryz.underlying232
 a46:=Tryz.isAgg232
 z46:=Tryz.sizeOf232
 v46:=Tryz.zeroValue232
 t50:=Tryz.underlying87
 a50:=Tryz.isAgg87
 z50:=Tryz.sizeOf87
 v50:=Tryz.zeroValue87
 t53:=Tryz.underlying238
 a53:=Tryz.isAgg238
 z53:=Tryz.sizeOf238
 v53:=Tryz.zeroValue238
 t55:=Tryz.underlying240
 a55:=Tryz.isAgg240
 z55:=Tryz.sizeOf240
 v55:=Tryz.zeroValue240
 t66:=Tryz.underlying257
 a66:=Tryz.isAgg257
 z66:=Tryz.sizeOf257
 v66:=Tryz.zeroValue257
 t70:=Tryz.underlying261
 a70:=Tryz.isAgg261
 z70:=Tryz.sizeOf261
 v70:=Tryz.zeroValue261
 t76:=Tryz.underlying280
 a76:=Tryz.isAgg280
 z76:=Tryz.sizeOf280
 v76:=Tryz.zeroValue280
 t77:=Tryz.underlying281
 a77:=Tryz.isAgg281
 z77:=Tryz.sizeOf281
 v77:=Tryz.zeroValue281 }
def Tryz.sortI_ren:Go.Shelf.Ren:=⟨fun|6=>171|15=>115|14=>208|28=>168|29=>169|20=>231|21=>232|22=>233|23=>234|24=>235|25=>236|26=>237|27=>238|46=>247|47=>204|48=>205|49=>248|50=>249|57=>252|n=>n,fun|22=>24|24=>3|25=>145|3=>3|39=>198|0=>0|53=>238|55=>240|4=>4|46=>232|45=>231|50=>87|5=>5|9=>9|66=>257|70=>261|76=>280|77=>281|n=>n,fun|n=>n⟩
theorem Tryz.sortI:Go.Proofs.SlLaysF0.n6 Tryz.prog Tryz.sortI_ren:={
 mixed:=by kernel_rfl
 f6:=⟨Tryz.f171.name,by decide,Tryz.func171.trans (congrArg some (by kernel_rfl))⟩
 f14:=⟨Tryz.f208.name,by decide,Tryz.func208.trans (congrArg some (by kernel_rfl))⟩
 f15:=Tryz.func115.trans (congrArg some (by kernel_rfl))
 f20:=⟨Tryz.f231.name,by decide,Tryz.func231.trans (congrArg some (by kernel_rfl))⟩
 f21:=⟨Tryz.f232.name,by decide,Tryz.func232.trans (congrArg some (by kernel_rfl))⟩
 f22:=⟨Tryz.f233.name,by decide,Tryz.func233.trans (congrArg some (by kernel_rfl))⟩
 f23:=⟨Tryz.f234.name,by decide,Tryz.func234.trans (congrArg some (by kernel_rfl))⟩
 f24:=⟨Tryz.f235.name,by decide,Tryz.func235.trans (congrArg some (by kernel_rfl))⟩
 f25:=⟨Tryz.f236.name,by decide,Tryz.func236.trans (congrArg some (by kernel_rfl))⟩
 f26:=⟨Tryz.f237.name,by decide,Tryz.func237.trans (congrArg some (by kernel_rfl))⟩
 f27:=⟨Tryz.f238.name,by decide,Tryz.func238.trans (congrArg some (by kernel_rfl))⟩
 f28:=Tryz.func168.trans (congrArg some (by kernel_rfl))
 f29:=Tryz.func169.trans (congrArg some (by kernel_rfl))
 f46:=⟨Tryz.f247.name,by decide,Tryz.func247.trans (congrArg some (by kernel_rfl))⟩
 f47:=Tryz.func204.trans (congrArg some (by kernel_rfl))
 f48:=Tryz.func205.trans (congrArg some (by kernel_rfl))
 f49:=⟨Tryz.f248.name,by decide,Tryz.func248.trans (congrArg some (by kernel_rfl))⟩
 f50:=⟨Tryz.f249.name,by decide,Tryz.func249.trans (congrArg some (by kernel_rfl))⟩
 f57:=⟨Tryz.f252.name,by decide,Tryz.func252.trans (congrArg some (by kernel_rfl))⟩
 t0:=Tryz.underlying0
 a0:=Tryz.isAgg0
 z0:=Tryz.sizeOf0
 v0:=Tryz.zeroValue0
 t3:=Tryz.underlying3
 a3:=Tryz.isAgg3
 z3:=Tryz.sizeOf3
 v3:=Tryz.zeroValue3
 t4:=Tryz.underlying4
 a4:=Tryz.isAgg4
 z4:=Tryz.sizeOf4
 v4:=Tryz.zeroValue4
 t5:=Tryz.underlying5
 a5:=Tryz.isAgg5
 z5:=Tryz.sizeOf5
 v5:=Tryz.zeroValue5
 t9:=Tryz.underlying9
 a9:=Tryz.isAgg9
 z9:=Tryz.sizeOf9
 v9:=Tryz.zeroValue9
 t22:=Tryz.underlying24
 a22:=Tryz.isAgg24
 z22:=Tryz.sizeOf24
 v22:=Tryz.zeroValue24
 t25:=Tryz.underlying145
 a25:=Tryz.isAgg145
 z25:=Tryz.sizeOf145
 v25:=Tryz.zeroValue145
 t39:=Tryz.underlying198
 a39:=Tryz.isAgg198
 z39:=Tryz.sizeOf198
 v39:=Tryz.zeroValue198
 t45:=Tryz.underlying231
 a45:=Tryz.isAgg231
 z45:=Tryz.sizeOf231
 v45:=Tryz.zeroValue231
 t46:=Tryz.underlying232
 a46:=Tryz.isAgg232
 z46:=Tryz.sizeOf232
 v46:=Tryz.zeroValue232
 t50:=Tryz.underlying87
 a50:=Tryz.isAgg87
 z50:=Tryz.sizeOf87
 v50:=Tryz.zeroValue87
 t53:=Tryz.underlying238
 a53:=Tryz.isAgg238
 z53:=Tryz.sizeOf238
 v53:=Tryz.zeroValue238
 t55:=Tryz.underlying240
 a55:=Tryz.isAgg240
 z55:=Tryz.sizeOf240
 v55:=Tryz.zeroValue240
 t66:=Tryz.underlying257
 a66:=Tryz.isAgg257
 z66:=Tryz.sizeOf257
 v66:=Tryz.zeroValue257
 t70:=Tryz.underlying261
 a70:=Tryz.isAgg261
 z70:=Tryz.sizeOf261
 v70:=Tryz.zeroValue261
 t76:=Tryz.underlying280
 a76:=Tryz.isAgg280
 z76:=Tryz.sizeOf280
 v76:=Tryz.zeroValue280
 t77:=Tryz.underlying281
 a77:=Tryz.isAgg281
 z77:=Tryz.sizeOf281
 v77:=Tryz.zeroValue281 }
end Go.Proofs
