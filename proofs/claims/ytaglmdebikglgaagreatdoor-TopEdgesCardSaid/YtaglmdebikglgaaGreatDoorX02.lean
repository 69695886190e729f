/- Lemmas and walks; no statement of a law is proved here. -/
import Derived.Test.YtaglmdebikglgaaGreatDoorX01
import Derived.Deep.WholeRow
import Derived.Lib.SliceRun
set_option linter.unusedVariables false
set_option linter.unusedSimpArgs false
set_option maxRecDepth 100000
set_option maxHeartbeats 8000000
open Go.Lib
namespace Go.Proofs
open Go.RowKit Go.Proofs.Mp
theorem fK(b:Bo)(p:Pt)(w:World):Calls Tryz.prog 65 #[bj b,ae p] w (RetV w (.bool (decide (b.x0≤p.1∧p.1≤b.x1∧b.y0≤p.2∧p.2≤b.y1)))):=by
 obtain⟨v0,v1,v2,v3⟩:=b;obtain⟨x,y⟩:=p;unfold bj ae;dsimp only;have bw2:∀o1 o2,Below w.heap.size w ((w.alloc o1).alloc o2):=fun o1 o2=>((Below.refl _ _).alloc (Nat.le_refl _) _).alloc (by simp) _
 by_cases h1:v0≤x
 rotate_left
 ·go_enter Tryz.func65,Tryz.ntmps65
  go_wp2;go_ret;exact RetV.bool (by symm;first|(apply decide_eq_false;omega)|(simp;intros;omega)) (bw2 _ _)
 by_cases h2:x≤v2
 rotate_left
 ·go_enter Tryz.func65,Tryz.ntmps65
  go_wp2;go_ret;exact RetV.bool (by symm;first|(apply decide_eq_false;omega)|(simp;intros;omega)) (bw2 _ _)
 by_cases h3:v1≤y
 rotate_left
 ·go_enter Tryz.func65,Tryz.ntmps65
  go_wp2;go_ret;exact RetV.bool (by symm;first|(apply decide_eq_false;omega)|(simp;intros;omega)) (bw2 _ _)
 go_enter Tryz.func65,Tryz.ntmps65;go_wp2;go_ret;exact RetV.bool (by simp[h1,h2,h3]) (bw2 _ _)
end Go.Proofs
namespace Go.Proofs
open Go.RowKit Go.Proofs.Mp Go.Lib Go.Proofs.Ed
def Bx(w:World)(b:Nat)(t:TypeId)(cs:List Value):Prop:=Row w b t cs
section
variable {w w':World}{b:Nat}{t:TypeId}{cs:List Value}
theorem Bx.lt(h:Bx w b t cs):b<w.heap.size:=Row.lt h
theorem Bx.below(h:Bx w b t cs)(hb:Below w.heap.size w w'):Bx w' b t cs:=Row.below h hb h.lt
theorem Bx.alloc(h:Bx w b t cs)(o:Obj):Bx (w.alloc o) b t cs:=h.below (bw1 _ _)
theorem Bx.cell(h:Bx w b t cs)(j:Nat):w.cell? ⟨b,j,none⟩=cs[j]?:=Row.cell h j
theorem Bx.frozen(h:Bx w b t cs)(j:Nat):w.frozen? ⟨b,j,none⟩=false:=Row.frozen h j
theorem Bx.new{c:Array Value}(w:World)(hc:c=cs.toArray):Bx (w.alloc (.cells c t)) w.heap.size t cs:=by subst hc;exact heap_alloc_new w _
theorem Bx.eq(h:Bx w b t cs)(j:Nat)(v:Value):w.setCell ⟨b,j,none⟩ v=w.setRow b (cs.set j v).toArray:=by
 rw[setCell_eq_setRow w b j cs.toArray t (0,0) v h];simp
theorem Bx.set(h:Bx w b t cs)(j:Nat)(v:Value):Bx (w.setCell ⟨b,j,none⟩ v) b t (cs.set j v):=by rw[h.eq];exact setRow_heap _ _ _ _ _ _ h
theorem Bx.setB(h:Bx w b t cs){B:Nat}{a:World}(hb:Below B a w)(hB:B≤b)(j:Nat)(v:Value):Below B a (w.setCell ⟨b,j,none⟩ v):=by rw[h.eq];exact below_setRow hb hB _
end
theorem Bx.other{w:World}{b n:Nat}{t:TypeId}{cs:List Value}(h:Bx w b t cs)(hne:b≠n)(j:Nat)(v:Value):Bx (w.setCell ⟨n,j,none⟩ v) b t cs:=by
 unfold Bx Row at *;rw[heap_setCell_other _ _ _ _ hne];exact h
theorem dR(m c n d:Int)(nd nn:Nat)(hne:nd≠nn)(B:Nat)(hB1:B≤nd)(hB2:B≤nn)(w:World)(hm:Sm m)(hc:Sm c)(hn:Sm n)(hd:Sm d)(b1:Bx w nd 3 [d])(b2:Bx w nn 3 [n]) :
  Calls Tryz.prog 158 #[m,c,.pointer (some ⟨nd,0,none⟩),.pointer (some ⟨nn,0,none⟩)] w (fun e w'=>e=.returned (.tuple #[])∧Below B w w'∧Bx w' nd 3 [.int .i64 (later (n,d) m c).2]∧Bx w' nn 3 [.int .i64 (later (n,d) m c).1]):=by
 have k1:=b1.cell 0;have k2:=b2.cell 0;have f1:=b1.frozen 0;have f2:=b2.frozen 0;have l1:=b1.lt;have l2:=b2.lt;simp only[gz]at k1 k2;have HR:=hid (show later (n,d) m c=if 0<(if c<0 then -c else c)∧n*(if c<0 then -c else c)<(if c<0 then -m else m)*d then (if c<0 then -m else m,if c<0 then -c else c) else (n,d)from rfl);generalize later (n,d) m c=r at *
 have fin1:∀m' c':Int,Below B w ((w.setCell ⟨nn,0,none⟩ (.int .i64 m')).setCell ⟨nd,0,none⟩ (.int .i64 c'))∧Bx ((w.setCell ⟨nn,0,none⟩ (.int .i64 m')).setCell ⟨nd,0,none⟩ (.int .i64 c')) nd 3 [c']∧Bx ((w.setCell ⟨nn,0,none⟩ (.int .i64 m')).setCell ⟨nd,0,none⟩ (.int .i64 c')) nn 3 [m']:=by
  intro m' c';have s1:=b2.set 0 (.int .i64 m');have s2:=b1.other hne 0 (.int .i64 m');have s3:=b2.setB (Below.refl B w) hB2 0 (.int .i64 m');exact⟨s2.setB s3 hB1 0 _,s2.set 0 _,s1.other hne.symm 0 _⟩
 have m1:=hm.mul hd;have m2:=hn.mul hc;obtain⟨hm1,hm2⟩:=hm;obtain⟨hc1,hc2⟩:=hc;have e1 : -m*d=-(m*d):=by grind
 have e2:n*-c=-(n*c):=by grind
 have w1:=IntWalk.i64_in (-m) (by omega);have w2:=IntWalk.i64_in (-c) (by omega);have w3:=IntWalk.i64_in (-m*d) (by omega);have w4:=IntWalk.i64_in (n*-c) (by omega);have w5:=IntWalk.i64_in (m*d) (by omega);have w6:=IntWalk.i64_in (n*c) (by omega);clear e1 e2 m1 m2 hm1 hm2 hc1 hc2 hn hd
 by_cases h1:c<0
 ·have h3:0 < -c:=by omega
  by_cases h2:n*-c < -m*d
  ·obtain rfl:r=(-m,-c):=by rw[HR.out];simp only[h1,if_true,if_false];rw[if_pos ⟨by omega,h2⟩]
   clear HR;go_enter Tryz.func158,Tryz.ntmps158;go_wp2_with fail;refine bodyPost_end (v:=.tuple #[]) (by simp[results,Tryz.results158,go_sem]) rfl ?_;exact⟨rfl,fin1 _ _⟩
  ·obtain rfl:r=(n,d):=by rw[HR.out];simp only[h1,if_true,if_false];rw[if_neg (fun k=>h2 k.2)]
   clear HR;go_enter Tryz.func158,Tryz.ntmps158;go_wp2_with fail;refine bodyPost_end (v:=.tuple #[]) (by simp[results,Tryz.results158,go_sem]) rfl ?_;exact⟨rfl,Below.refl _ _,b1,b2⟩
 ·by_cases h3:0<c
  ·by_cases h2:n*c<m*d
   ·obtain rfl:r=(m,c):=by rw[HR.out];simp only[h1,if_true,if_false];rw[if_pos ⟨by omega,h2⟩]
    clear HR;go_enter Tryz.func158,Tryz.ntmps158;go_wp2_with fail;refine bodyPost_end (v:=.tuple #[]) (by simp[results,Tryz.results158,go_sem]) rfl ?_;exact⟨rfl,fin1 _ _⟩
   ·obtain rfl:r=(n,d):=by rw[HR.out];simp only[h1,if_true,if_false];rw[if_neg (fun k=>h2 k.2)]
    clear HR;go_enter Tryz.func158,Tryz.ntmps158;go_wp2_with fail;refine bodyPost_end (v:=.tuple #[]) (by simp[results,Tryz.results158,go_sem]) rfl ?_;exact⟨rfl,Below.refl _ _,b1,b2⟩
  ·obtain rfl:r=(n,d):=by rw[HR.out];simp only[h1,if_true,if_false];rw[if_neg (fun k=>h3 k.1)]
   clear HR;go_enter Tryz.func158,Tryz.ntmps158;go_wp2_with fail;refine bodyPost_end (v:=.tuple #[]) (by simp[results,Tryz.results158,go_sem]) rfl ?_;exact⟨rfl,Below.refl _ _,b1,b2⟩
theorem gH(a s v n d:Int)(nd nn:Nat)(w:World)(ha:Sm a)(hs:Sm s)(hv:Sm v)(hn:Sm n)(hd:Sm d)(b1:Bx w nd 3 [d])(b2:Bx w nn 3 [n]) :
  Calls Tryz.prog 159 #[a,s,v,.pointer (some ⟨nd,0,none⟩),.pointer (some ⟨nn,0,none⟩)] w (fun e w'=>e=.returned (.bool (hit (n,d) a s v))∧w'=w):=by
 have k1:=b1.cell 0;have k2:=b2.cell 0;have l1:=b1.lt;have l2:=b2.lt;simp only[gz]at k1 k2;have m1:=ha.mul hd;have m2:=hs.mul hn;have m3:=hv.mul hd;have w1:=IntWalk.i64_in (a*d) (by omega);have w2:=IntWalk.i64_in (s*n) (by omega);have w3:=IntWalk.i64_in (v*d) (by omega);have w4:=IntWalk.i64_in (a*d+s*n) (by omega);have HR:=hid (show hit (n,d) a s v=decide (a*d+s*n=v*d)from rfl);generalize hit (n,d) a s v=r at *;clear m1 m2 m3 ha hs hv hn hd b1 b2
 by_cases h:a*d+s*n=v*d
 ·obtain rfl:r=true:=by rw[HR.out];exact decide_eq_true h
  have hb:(a*d+s*n==v*d)=true:=by simp[h]
  clear HR h;go_enter Tryz.func159,Tryz.ntmps159;go_wp2;go_ret;exact⟨rfl,rfl⟩
 ·obtain rfl:r=false:=by rw[HR.out];exact decide_eq_false h
  have hb:(a*d+s*n==v*d)=false:=by simp[h]
  clear HR;go_enter Tryz.func159,Tryz.ntmps159;go_wp2;go_ret;exact⟨rfl,rfl⟩
end Go.Proofs
namespace Go.Proofs
open Go.RowKit Go.Proofs.Mp Go.Lib
theorem Bx.newAt{b:Nat}{t:TypeId}{cs:List Value}{c:Array Value}(w:World)(hb:b=w.heap.size)(hc:c=cs.toArray):Bx (w.alloc (.cells c t)) b t cs:=by subst hb;exact Bx.new w hc
structure Ar where
 id:Int
 frm:Int
 dst:Int
 via:List Pt
 lf:Int
 rt:Int
instance:Inhabited Ar:=⟨⟨0,0,0,[],0,0⟩⟩
abbrev Nd:=Int×Pt
def aQ(n:Nd):List Value:=[.int .i64 n.1,.int .i64 n.2.1,.int .i64 n.2.2]
theorem dE(n:Nd):(aQ n).length=3:=rfl
def encA(p:Ar×Value):List Value:=[.int .i64 p.1.id,.int .i64 p.1.frm,.int .i64 p.1.dst,p.2,.int .i64 p.1.lf,.int .i64 p.1.rt]
theorem fM(p:Ar×Value):(encA p).length=6:=rfl
structure Pn where
 nodes:List Nd
 arcs:List Ar
 faces:List Int
def SlP(w:World)(v:Value)(l:List Pt):Prop:=∃A c,v=.slice A l.length c∧RdR w A l∧l.length≤c
theorem SlP.below{w w':World}{v:Value}{l:List Pt}(h:SlP w v l)(hb:Below w.heap.size w w'):SlP w' v l:=by
 obtain⟨A,c,e,h1,h2⟩:=h;exact⟨A,c,e,h1.below hb,h2⟩
structure Mem where
 an:Option Addr
 aa:Option Addr
 af:Option Addr
 cn:Nat
 ca:Nat
 cf:Nat
 vs:List Value
def plV(p:Pn)(m:Mem):Value:=.agg #[.slice m.an p.nodes.length m.cn,.slice m.aa p.arcs.length m.ca,.slice m.af p.faces.length m.cf]
structure Few(p:Pn):Prop where
 n:p.nodes.length≤100000
 a:p.arcs.length≤100000
 f:p.faces.length≤100000
 v:∀i,i<p.arcs.length→p.arcs[i]!.via.length≤100000
structure PlR(w:World)(p:Pn)(m:Mem):Prop where
 nd:Rd 3 aQ w m.an p.nodes
 ar:Rd 6 encA w m.aa (p.arcs.zip m.vs)
 len:m.vs.length=p.arcs.length
 via:∀i,i<p.arcs.length→SlP w m.vs[i]! p.arcs[i]!.via
 fc:RdI w m.af p.faces
 cn:p.nodes.length≤m.cn
 ca:p.arcs.length≤m.ca
 cf:p.faces.length≤m.cf
 few:Few p
theorem PlR.below{w w':World}{p:Pn}{m:Mem}(h:PlR w p m)(hb:Below w.heap.size w w'):PlR w' p m:=
 ⟨h.nd.below hb,h.ar.below hb,h.len,fun i hi=>(h.via i hi).below hb,h.fc.below hb,h.cn,h.ca,h.cf,h.few⟩
theorem lX{α β:Type}[Inhabited α][Inhabited β]{xs:List α}{ys:List β}(h:ys.length=xs.length){i:Nat}(hi:i<xs.length):(xs.zip ys)[i]! = (xs[i]!,ys[i]!):=by
 rw[getElem!_pos _ i (by rw[List.length_zip];omega),getElem!_pos xs i hi,getElem!_pos ys i (by omega)];simp
theorem PlR.node{w W:World}{p:Pn}{m:Mem}(h:PlR w p m)(hb:Below w.heap.size w W){i:Nat}(hi:i<p.nodes.length) :
  ∃b off,m.an=some ⟨b,off,none⟩∧b<w.heap.size∧W.cell? ⟨b,off+i*3,none⟩=some (.int .i64 p.nodes[i]!.1)∧W.cell? ⟨b,off+i*3+1,none⟩=some (.int .i64 p.nodes[i]!.2.1)∧W.cell? ⟨b,off+i*3+2,none⟩=some (.int .i64 p.nodes[i]!.2.2):=by
 obtain⟨b,off,e,hl,hc⟩:=h.nd.get hb hi;exact⟨b,off,e,hl,hc i hi 0 _ rfl,hc i hi 1 _ rfl,hc i hi 2 _ rfl⟩
theorem PlR.arc{w W:World}{p:Pn}{m:Mem}(h:PlR w p m)(hb:Below w.heap.size w W){i:Nat}(hi:i<p.arcs.length) :
  ∃b off A c,m.aa=some ⟨b,off,none⟩∧b<w.heap.size∧W.cell? ⟨b,off+i*6,none⟩=some (.int .i64 p.arcs[i]!.id)∧W.cell? ⟨b,off+i*6+1,none⟩=some (.int .i64 p.arcs[i]!.frm)∧W.cell? ⟨b,off+i*6+2,none⟩=some (.int .i64 p.arcs[i]!.dst) ∧
   W.cell? ⟨b,off+i*6+3,none⟩=some (.slice A p.arcs[i]!.via.length c)∧W.cell? ⟨b,off+i*6+4,none⟩=some (.int .i64 p.arcs[i]!.lf)∧W.cell? ⟨b,off+i*6+5,none⟩=some (.int .i64 p.arcs[i]!.rt) ∧
   RdR W A p.arcs[i]!.via∧p.arcs[i]!.via.length≤c∧m.vs[i]! = .slice A p.arcs[i]!.via.length c:=by
 obtain⟨b,off,e,hl,hc⟩:=h.ar.get hb (j:=i) (by rw[List.length_zip,h.len];omega);have hz:=hc i (by rw[List.length_zip,h.len];omega);rw[lX h.len hi]at hz;obtain⟨A,c,ev,h1,h2⟩:=h.via i hi;rw[ev]at hz;exact⟨b,off,A,c,e,hl,hz 0 _ rfl,hz 1 _ rfl,hz 2 _ rfl,hz 3 _ rfl,hz 4 _ rfl,hz 5 _ rfl,h1.below hb,h2,ev⟩
def findN(l:List Nd)(id:Int):Option Nd:=l.find? fun n=>decide (n.1=id)
def gr:Option Nd→Value
 | some n=>.tuple #[.agg #[.int .i64 n.1,.int .i64 n.2.1,.int .i64 n.2.2],.bool true]
 | none=>.tuple #[.agg #[.int .i64 0,.int .i64 0,.int .i64 0],.bool false]
theorem kC{α:Type}[Inhabited α]{f:α→Bool}{l:List α}{k:Nat}(hk:k<l.length)(h:(l.take k).find? f=none)(hf:f l[k]! = true):l.find? f=some l[k]!:=by
 have e:l=l.take k++l[k]!::l.drop (k+1):=by
  rw[getElem!_pos l k hk,←List.drop_eq_getElem_cons hk,List.take_append_drop]
 have h2:(l.take k++l[k]!::l.drop (k+1)).find? f=some l[k]!:=by
  rw[List.find?_append,h,List.find?_cons];simp only[hf];rfl
 rwa [←e]at h2
theorem iT{α:Type}[Inhabited α]{f:α→Bool}{l:List α}{k:Nat}(hk:k<l.length)(h:(l.take k).find? f=none)(hf:f l[k]! = false):(l.take (k+1)).find? f=none:=by
 rw[getElem!_pos l k hk]at *;rw[List.take_succ_eq_append_getElem hk,List.find?_append,h];simp[hf]
section
variable {w w':World}{b n:Nat}{t:TypeId}{cs:List Value}{c0 c1 c2:Value}
def st3(w:World)(b:Nat)(v0 v1 v2:Value):World:=((w.setCell ⟨b,0,none⟩ v0).setCell ⟨b,1,none⟩ v1).setCell ⟨b,2,none⟩ v2
theorem Bx.set3(h:Bx w b t [c0,c1,c2])(v0 v1 v2:Value):Bx (st3 w b v0 v1 v2) b t [v0,v1,v2]:=
 ((h.set 0 v0).set 1 v1).set 2 v2
theorem Bx.set3B(h:Bx w b t [c0,c1,c2]){B:Nat}{a:World}(hb:Below B a w)(hB:B≤b)(v0 v1 v2:Value):Below B a (st3 w b v0 v1 v2):=by
 have h1:=h.set 0 v0;have h2:=h1.set 1 v1;exact h2.setB (h1.setB (h.setB hb hB 0 v0) hB 1 v1) hB 2 v2
end
theorem iI(p:Pn)(m:Mem)(id:Int)(w:World)(hR:PlR w p m):Calls Tryz.prog 106 #[plV p m,id] w (RetV w (gr (findN p.nodes id))):=by
 have HR:=hid (show ∀k,k<p.nodes.length→(p.nodes.take k).find? (fun n=>decide (n.1=id))=none→p.nodes[k]!.1=id→findN p.nodes id=some p.nodes[k]! from fun k hk h h1=>kC hk h (by simpa using h1));have HN:=hid (show ∀k,k<p.nodes.length→(p.nodes.take k).find? (fun n=>decide (n.1=id))=none→¬p.nodes[k]!.1=id→(p.nodes.take (k+1)).find? (fun n=>decide (n.1=id))=none from fun k hk h h1=>iT hk h (by simpa using h1));have HE:=hid (show(p.nodes.take p.nodes.length).find? (fun n=>decide (n.1=id))=none→findN p.nodes id=none from fun h=>by rw[List.take_length]at h;exact h);have HC:=hid fun (k:Nat) (hk:k<p.nodes.length) W hb=>hR.node (W:=W) hb hk
 have hfew:=hR.few.n;have H0:(p.nodes.take 0).find? (fun n=>decide (n.1=id))=none:=rfl;generalize findN p.nodes id=R at *;clear hR;obtain⟨nodes,arcs,faces⟩:=p;obtain⟨an,aa,af,cn,ca,cf,vs⟩:=m;unfold plV;dsimp only at *;have hn:=(Bx.new (t:=26) (cs:=[.slice an nodes.length cn,.slice aa arcs.length ca,.slice af faces.length cf]) w rfl).alloc (.cells #[.int .i64 0,.int .i64 0,.int .i64 0] 71);have hr:=Bx.new (t:=71) (cs:=[.int .i64 0,.int .i64 0,.int .i64 0]) (w.alloc (.cells #[.slice an nodes.length cn,.slice aa arcs.length ca,.slice af faces.length cf] 26)) rfl;go_enter Tryz.func106,Tryz.ntmps106;go_upto_region 1 with fail;generalize hw1:(w.alloc (.cells #[.slice an nodes.length cn,.slice aa arcs.length ca,.slice af faces.length cf] 26)).alloc (.cells #[.int .i64 0,.int .i64 0,.int .i64 0] 71)=w1 at *;have hs1:w1.heap.size=w.heap.size+2:=by rw[←hw1];simp
 have HB1:Hid (Below w.heap.size w w1):=hid (by rw[←hw1];exact(bw1 _ _).trans ((bw1 _ _).mono (bw1 _ _).size));rw[show(w.alloc (.cells #[.slice an nodes.length cn,.slice aa arcs.length ca,.slice af faces.length cf] 26)).heap.size=w.heap.size+1 by simp]at hr;clear hw1;have k0:=hn.cell 0;simp only[gz]at k0;clear hn;go_wp2_with fail;go_loopw [11] (fun i wr=>∃k:Nat,k≤nodes.length∧i=.int .i64 k∧Hid ((nodes.take k).find? (fun n=>decide (n.1=id))=none)∧Below w1.heap.size w1 wr) (fun i _=>nodes.length-(intOf i).toNat)
 case atStart=>exact⟨0,by omega,rfl,hid H0,Below.refl _ _⟩
 case round=>
  obtain⟨k,hk,rfl,hF,hbr⟩:=hrel;have hsr:=hbr.size;have hr2:=hr.below hbr;have HB2:=hid (HB1.out.trans (hbr.mono (by omega)))
  by_cases hlt:k<nodes.length
  ·have hli:(k:Int)<(nodes.length:Int):=by omega
   obtain⟨b,off,rfl,hbl,c0,c1,c2⟩:=HC.out k hlt wr HB2.out;have HRk:=hid (HR.out k hlt hF.out);have HNk:=hid (HN.out k hlt hF.out);clear HR HN HE HC H0 hF;generalize nodes[k]! = n at *;obtain⟨ni,nx,ny⟩:=n;dsimp only at c0 c1 c2
   by_cases he:ni=id
   ·subst he
    have g0:=hr2.cell 0;have g1:=hr2.cell 1;have g2:=hr2.cell 2;have q0:=hr2.frozen 0;have q1:=hr2.frozen 1;have q2:=hr2.frozen 2;have ql:=hr2.lt;simp only[gz,gs]at g0 g1 g2;go_wp2_with fail;change bodyPost _ _ _ _ _ ((st3 wr (w.heap.size+1) (.int .i64 ni) (.int .i64 nx) (.int .i64 ny)).alloc (.cells #[ni,nx,ny] 71));have h3:=hr2.set3 (.int .i64 ni) (.int .i64 nx) (.int .i64 ny);have hB3:=hr2.set3B HB2.out (Nat.le_succ _) (.int .i64 ni) (.int .i64 nx) (.int .i64 ny);generalize st3 wr (w.heap.size+1) (.int .i64 ni) (.int .i64 nx) (.int .i64 ny)=w5 at *;have h4:=h3.alloc (.cells #[ni,nx,ny] 71);have hB4:=hB3.alloc hB3.size (.cells #[ni,nx,ny] 71);generalize w5.alloc (.cells #[ni,nx,ny] 71)=w6 at *;have r0:=h4.cell 0;have r1:=h4.cell 1;have r2:=h4.cell 2;simp only[gz,gs]at r0 r1 r2;refine bodyPost_ret (v:=gr (some (ni,nx,ny))) (by simp[results,Tryz.results106,go_sem,r0,r1,r2,gr]) rfl ?_;exact⟨by rw[HRk.out trivial],hB4⟩
   ·go_wp2_with fail
    go_roundw
    case rel=>exact⟨k+1,by omega,by go_num,hid (HNk.out he),hbr.trans ((bw1 _ _).mono hbr.size)⟩
    case measure=>simp[intOf];omega
  ·obtain rfl:nodes.length=k:=by omega
   have hge:¬((nodes.length:Int)<(nodes.length:Int)):=by omega
   have HR2:=hid (HE.out hF.out);clear HR HN HE HC H0 hF;have g0:=hr2.cell 0;have g1:=hr2.cell 1;have g2:=hr2.cell 2;have q0:=hr2.frozen 0;have q1:=hr2.frozen 1;have q2:=hr2.frozen 2;simp only[gz,gs]at g0 g1 g2;go_wp2_with fail;change bodyPost _ _ _ _ _ (st3 wr (w.heap.size+1) (.int .i64 0) (.int .i64 0) (.int .i64 0));have h3:=hr2.set3 (.int .i64 0) (.int .i64 0) (.int .i64 0);have hB3:=hr2.set3B HB2.out (Nat.le_succ _) (.int .i64 0) (.int .i64 0) (.int .i64 0);generalize st3 wr (w.heap.size+1) (.int .i64 0) (.int .i64 0) (.int .i64 0)=w5 at *;have r0:=h3.cell 0;have r1:=h3.cell 1;have r2:=h3.cell 2;simp only[gz,gs]at r0 r1 r2;refine bodyPost_ret (v:=gr none) (by simp[results,Tryz.results106,go_sem,r0,r1,r2,gr]) rfl ?_;exact⟨by rw[HR2.out],hB3⟩
end Go.Proofs
namespace Go.Proofs
open Go.RowKit Go.Proofs.Mp Go.Lib
theorem Tryz.infoP:(Tryz.prog.info? 30).map (fun i=>(i.zero,i.size,i.bytes))=some (some (.agg #[.int .i64 0,.int .i64 0]),2,16):=by kernel_rfl
theorem Tryz.infoN:(Tryz.prog.info? 71).map (fun i=>(i.zero,i.size,i.bytes))=some (some (.agg #[.int .i64 0,.int .i64 0,.int .i64 0]),3,24):=by kernel_rfl
theorem Tryz.infoA:(Tryz.prog.info? 58).map (fun i=>(i.zero,i.size,i.bytes))=some (some (.agg #[.int .i64 0,.int .i64 0,.int .i64 0,.slice none 0 0,.int .i64 0,.int .i64 0]),6,64):=by kernel_rfl
theorem kE(x:Nd):∀u∈aQ x,u.oneCell'=true:=by
 intro u hu;simp only[aQ,List.mem_cons,List.not_mem_nil,or_false]at hu
 rcases hu with rfl|rfl|rfl<;>rfl
theorem Own.lit0{α:Type}{e:TypeId}{k:Nat}{enc:α→List Value}(w:World){base:Nat}(hb:base≤w.heap.size):Own e k enc (w.alloc (.cells #[] e)) base (.slice (some ⟨w.heap.size,0,none⟩) 0 0) ([]:List α):=by
 refine⟨by simp,Or.inr ⟨w.heap.size,0,#[],rfl,hb,heap_alloc_new w _,Nat.le_refl _,?_,?_,?_⟩⟩<;>simp[maxLen]
theorem Tryz.allP{w:World}{base:Nat}{v:Value}{xs ys:List Pt}{ops:Array Oper}{rest:List Oper}{o:Oper}{a:Act}{Q:Exit→Act→World→Prop}
  (hown:OwnR 30 w base v xs){A:Option Addr}{c:Nat}(hR:RdR w A ys)(hgd:o.guard=none)(s x:Operand)
  (ho:o.op=.call { callee:=.builtin .append,args:=#[s,x],argTypes:=#[56,56] })(hs:a.eval s=v)(hx:a.eval x=.slice A ys.length c)
  (hN:xs.length+ys.length≤1000000000000)(hbase:base≤w.heap.size)
  (h:∀v' w',OwnR 30 w' base v' (xs++ys)→Below base w w'→wpList Tryz.prog ops Q rest (a.put o.dst v') w') :
  wpList Tryz.prog ops Q (o::rest) a w:=by
 obtain⟨i0,hi,hz0,hz1,hz2⟩:=Mp.info_parts Tryz.infoP;exact wpList_plain hgd fun _ hK=>Own.wpAll 56 i0 (.agg #[.int .i64 0,.int .i64 0]) 16 Tryz.underlying56 hi hz0 hz1 hz2 rfl (by decide) (by decide) encR_len encR_one s x ho hown hs hR hx (by omega) hbase fun v' w' h2 h3=>hK _ _ (h v' w' h2 h3)
theorem Tryz.allN{w:World}{base:Nat}{v:Value}{xs ys:List Nd}{ops:Array Oper}{rest:List Oper}{o:Oper}{a:Act}{Q:Exit→Act→World→Prop}
  (hown:Own 71 3 aQ w base v xs){A:Option Addr}{c:Nat}(hR:Rd 3 aQ w A ys)(hgd:o.guard=none)(s x:Operand)
  (ho:o.op=.call { callee:=.builtin .append,args:=#[s,x],argTypes:=#[22,22] })(hs:a.eval s=v)(hx:a.eval x=.slice A ys.length c)
  (hN:xs.length+ys.length≤1000000000000)(hbase:base≤w.heap.size)
  (h:∀v' w',Own 71 3 aQ w' base v' (xs++ys)→Below base w w'→wpList Tryz.prog ops Q rest (a.put o.dst v') w') :
  wpList Tryz.prog ops Q (o::rest) a w:=by
 obtain⟨i0,hi,hz0,hz1,hz2⟩:=Mp.info_parts Tryz.infoN;exact wpList_plain hgd fun _ hK=>Own.wpAll 22 i0 (.agg #[.int .i64 0,.int .i64 0,.int .i64 0]) 24 Tryz.underlying22 hi hz0 hz1 hz2 rfl (by decide) (by decide) dE kE s x ho hown hs hR hx (by omega) hbase fun v' w' h2 h3=>hK _ _ (h v' w' h2 h3)
def qA{α:Type}(e k:Nat)(enc:α→List Value)(w:World)(xs:List α)(en:Ending)(w':World):Prop:=∃v,en=.returned v∧Own e k enc w' w.heap.size v xs∧Below w.heap.size w w'
theorem mE(A:Option Addr)(c:Nat)(zs:List Pt)(w:World)(hmax:zs.length≤1000000000000)(hR:Rd 2 encR w A zs):Calls Tryz.prog 52 #[.slice A zs.length c] w (qA 30 2 encR w zs):=by
 have hq:∀(w:World) (a:Option Addr) (n c n' c':Nat),(binOp .eql 56 (.slice a n c) (.slice none n' c')).run Tryz.prog w=.ok (.bool a.isNone) w:=fun w a n c n' c'=>Lib.run_eql_slice_nil w _ _ a n c n' c' Tryz.underlying56
 rcases A with _|ad
 ·obtain rfl:zs=[]:=by
   rcases hR with h|⟨b,off,h,_⟩
   ·exact h
   ·cases h
  go_enter Tryz.func52,Tryz.ntmps52;go_wp2_with fail;go_ret;exact⟨_,rfl,Own.nil _ _,Below.refl _ _⟩
 ·have hR1:=hR.alloc (.cells #[] 30)
  have hO:=Own.lit0 (e:=30) (k:=2) (enc:=encR) w (Nat.le_refl _);have hN:([]:List Pt).length+zs.length≤1000000000000:=by simpa using hmax
  have hb:w.heap.size≤(w.alloc (.cells #[] 30)).heap.size:=by simp
  have hB:=bw1 w (.cells #[] 30);clear hR;go_enter Tryz.func52,Tryz.ntmps52;go_wp2_with (at_builtin;refine Tryz.allP hO hR1 rfl _ _ rfl rfl rfl hN hb ?_;intro v9 w9 hO9 hb9);go_ret;exact⟨_,rfl,hO9,hB.trans hb9⟩
theorem rW(A:Option Addr)(c:Nat)(zs:List Nd)(w:World)(hmax:zs.length≤1000000000000)(hR:Rd 3 aQ w A zs):Calls Tryz.prog 51 #[.slice A zs.length c] w (qA 71 3 aQ w zs):=by
 have hq:∀(w:World) (a:Option Addr) (n c n' c':Nat),(binOp .eql 22 (.slice a n c) (.slice none n' c')).run Tryz.prog w=.ok (.bool a.isNone) w:=fun w a n c n' c'=>Lib.run_eql_slice_nil w _ _ a n c n' c' Tryz.underlying22
 rcases A with _|ad
 ·obtain rfl:zs=[]:=by
   rcases hR with h|⟨b,off,h,_⟩
   ·exact h
   ·cases h
  go_enter Tryz.func51,Tryz.ntmps51;go_wp2_with fail;go_ret;exact⟨_,rfl,Own.nil _ _,Below.refl _ _⟩
 ·have hR1:=hR.alloc (.cells #[] 71)
  have hO:=Own.lit0 (e:=71) (k:=3) (enc:=aQ) w (Nat.le_refl _);have hN:([]:List Nd).length+zs.length≤1000000000000:=by simpa using hmax
  have hb:w.heap.size≤(w.alloc (.cells #[] 71)).heap.size:=by simp
  have hB:=bw1 w (.cells #[] 71);clear hR;go_enter Tryz.func51,Tryz.ntmps51;go_wp2_with (at_builtin;refine Tryz.allN hO hR1 rfl _ _ rfl rfl rfl hN hb ?_;intro v9 w9 hO9 hb9);go_ret;exact⟨_,rfl,hO9,hB.trans hb9⟩
theorem mF(A:Option Addr)(c:Nat)(zs:List Int)(w:World)(hmax:zs.length≤1000000000000)(hR:Rd 1 Mp.encI w A zs):Calls Tryz.prog 17 #[.slice A zs.length c] w (qA 3 1 Mp.encI w zs):=by
 have hq:∀(w:World) (a:Option Addr) (n c n' c':Nat),(binOp .eql 24 (.slice a n c) (.slice none n' c')).run Tryz.prog w=.ok (.bool a.isNone) w:=fun w a n c n' c'=>Lib.run_eql_slice_nil w _ _ a n c n' c' Tryz.underlying24
 rcases A with _|ad
 ·obtain rfl:zs=[]:=by
   rcases hR with h|⟨b,off,h,_⟩
   ·exact h
   ·cases h
  go_enter Tryz.func17,Tryz.ntmps17;go_wp2_with fail;go_ret;exact⟨_,rfl,Own.nil _ _,Below.refl _ _⟩
 ·have hR1:=hR.alloc (.cells #[] 3)
  have hO:=Own.lit0 (e:=3) (k:=1) (enc:=Mp.encI) w (Nat.le_refl _);have hN:([]:List Int).length+zs.length≤1000000000000:=by simpa using hmax
  have hb:w.heap.size≤(w.alloc (.cells #[] 3)).heap.size:=by simp
  have hB:=bw1 w (.cells #[] 3);clear hR;go_enter Tryz.func17,Tryz.ntmps17;go_wp2_with (at_builtin;refine Tryz.appAll hO hR1 rfl _ _ rfl rfl rfl hN hb ?_;intro v9 w9 hO9 hb9);go_ret;exact⟨_,rfl,hO9,hB.trans hb9⟩
end Go.Proofs
namespace Go.Proofs
open Go.RowKit Go.Proofs.Mp Go.Lib
def arI(a:Ar)(v:Value):List Value:=[.int .i64 a.id,.int .i64 a.frm,.int .i64 a.dst,v,.int .i64 a.lf,.int .i64 a.rt]
section
variable {w w':World}{b n:Nat}{t:TypeId}{cs:List Value}{c0 c1 c2 c3 c4 c5:Value}
def st6(w:World)(b:Nat)(v0 v1 v2 v3 v4 v5:Value):World:=(((((w.setCell ⟨b,0,none⟩ v0).setCell ⟨b,1,none⟩ v1).setCell ⟨b,2,none⟩ v2).setCell ⟨b,3,none⟩ v3).setCell ⟨b,4,none⟩ v4).setCell ⟨b,5,none⟩ v5
theorem Bx.set6(h:Bx w b t [c0,c1,c2,c3,c4,c5])(v0 v1 v2 v3 v4 v5:Value):Bx (st6 w b v0 v1 v2 v3 v4 v5) b t [v0,v1,v2,v3,v4,v5]:=
 (((((h.set 0 v0).set 1 v1).set 2 v2).set 3 v3).set 4 v4).set 5 v5
theorem Bx.set6B(h:Bx w b t [c0,c1,c2,c3,c4,c5]){B:Nat}{a:World}(hb:Below B a w)(hB:B≤b)(v0 v1 v2 v3 v4 v5:Value):Below B a (st6 w b v0 v1 v2 v3 v4 v5):=by
 have h1:=h.set 0 v0;have h2:=h1.set 1 v1;have h3:=h2.set 2 v2;have h4:=h3.set 3 v3;have h5:=h4.set 4 v4;exact h5.setB (h4.setB (h3.setB (h2.setB (h1.setB (h.setB hb hB 0 v0) hB 1 v1) hB 2 v2) hB 3 v3) hB 4 v4) hB 5 v5
end
def findA(l:List Ar)(id:Int):Option Ar:=l.find? fun a=>decide (a.id=id)
def r9(w:World)(o:Option Ar)(en:Ending)(w':World):Prop:=
 match o with
 | some a=>∃v,en=.returned (.tuple #[.agg (arI a v).toArray,.bool true])∧SlP w' v a.via∧Below w.heap.size w w'
 | none=>en=.returned (.tuple #[.agg #[.int .i64 0,.int .i64 0,.int .i64 0,.slice none 0 0,.int .i64 0,.int .i64 0],.bool false])∧Below w.heap.size w w'
theorem Mp.Own.slp{w:World}{base:Nat}{v:Value}{l:List Pt}(h:Own 30 2 encR w base v l):SlP w v l:=by
 obtain⟨A,c,rfl⟩:=Own.slice h;refine⟨A,c,rfl,Own.rd encR_len h,?_⟩
 rcases h.2 with⟨e,hn⟩|⟨g,cap,cur,e,_,_,hnc,_⟩
 ·omega
 ·injection e with _ _ e3
  omega
theorem Mp.Own.other{α:Type}{e:TypeId}{k:Nat}{enc:α→List Value}{w:World}{base n:Nat}{v:Value}{xs:List α}(h:Own e k enc w base v xs)(hn:n<base)(j:Nat)(u:Value):Own e k enc (w.setCell ⟨n,j,none⟩ u) base v xs:=by
 obtain⟨h1,h2⟩:=h;refine⟨h1,?_⟩
 rcases h2 with h2|⟨g,cap,cur,e1,e2,e3,e4⟩
 ·exact Or.inl h2
 ·exact Or.inr ⟨g,cap,cur,e1,e2,by rw[heap_setCell_other _ _ _ _ (by simp;omega)];exact e3,e4⟩
theorem Mp.Own.st6{α:Type}{e:TypeId}{k:Nat}{enc:α→List Value}{w:World}{base n:Nat}{v:Value}{xs:List α}(h:Own e k enc w base v xs)(hn:n<base)(v0 v1 v2 v3 v4 v5:Value):Own e k enc (st6 w n v0 v1 v2 v3 v4 v5) base v xs:=
 (((((h.other hn 0 v0).other hn 1 v1).other hn 2 v2).other hn 3 v3).other hn 4 v4).other hn 5 v5
theorem jU(p:Pn)(m:Mem)(id:Int)(w:World)(hR:PlR w p m):Calls Tryz.prog 105 #[plV p m,id] w (r9 w (findA p.arcs id)):=by
 have HR:=hid (show ∀k,k<p.arcs.length→(p.arcs.take k).find? (fun n=>decide (n.id=id))=none→p.arcs[k]!.id=id→findA p.arcs id=some p.arcs[k]! from fun k hk h h1=>kC hk h (by simpa using h1));have HN:=hid (show ∀k,k<p.arcs.length→(p.arcs.take k).find? (fun n=>decide (n.id=id))=none→¬p.arcs[k]!.id=id→(p.arcs.take (k+1)).find? (fun n=>decide (n.id=id))=none from fun k hk h h1=>iT hk h (by simpa using h1));have HE:=hid (show(p.arcs.take p.arcs.length).find? (fun n=>decide (n.id=id))=none→findA p.arcs id=none from fun h=>by rw[List.take_length]at h;exact h);have HC:=hid fun (k:Nat) (hk:k<p.arcs.length) W hb=>hR.arc (W:=W) hb hk
 have HV:=hid hR.few.v;have hfew:=hR.few.a;have H0:(p.arcs.take 0).find? (fun n=>decide (n.id=id))=none:=rfl;generalize findA p.arcs id=R at *;clear hR;obtain⟨nodes,arcs,faces⟩:=p;obtain⟨an,aa,af,cn,ca,cf,vs⟩:=m;unfold plV;dsimp only at *;have hn:=(Bx.new (t:=26) (cs:=[.slice an nodes.length cn,.slice aa arcs.length ca,.slice af faces.length cf]) w rfl).alloc (.cells #[.int .i64 0,.int .i64 0,.int .i64 0,.slice none 0 0,.int .i64 0,.int .i64 0] 58);have hr:=Bx.newAt (b:=w.heap.size+1) (t:=58) (cs:=[.int .i64 0,.int .i64 0,.int .i64 0,.slice none 0 0,.int .i64 0,.int .i64 0]) (w.alloc (.cells #[.slice an nodes.length cn,.slice aa arcs.length ca,.slice af faces.length cf] 26)) (by simp) rfl;go_enter Tryz.func105,Tryz.ntmps105;go_upto_region 1 with fail;generalize hw1:(w.alloc (.cells #[.slice an nodes.length cn,.slice aa arcs.length ca,.slice af faces.length cf] 26)).alloc (.cells #[.int .i64 0,.int .i64 0,.int .i64 0,.slice none 0 0,.int .i64 0,.int .i64 0] 58)=w1 at *;have hs1:w1.heap.size=w.heap.size+2:=by rw[←hw1];simp
 have HB1:Hid (Below w.heap.size w w1):=hid (by rw[←hw1];exact(bw1 _ _).trans ((bw1 _ _).mono (bw1 _ _).size));clear hw1;have k0:=hn.cell 1;simp only[gz,gs]at k0;clear hn;go_wp2_with fail;go_loopw [11] (fun i wr=>∃k:Nat,k≤arcs.length∧i=.int .i64 k∧Hid ((arcs.take k).find? (fun n=>decide (n.id=id))=none)∧Below w1.heap.size w1 wr) (fun i _=>arcs.length-(intOf i).toNat)
 case atStart=>exact⟨0,by omega,rfl,hid H0,Below.refl _ _⟩
 case round=>
  obtain⟨k,hk,rfl,hF,hbr⟩:=hrel;have hsr:=hbr.size;have hr2:=hr.below hbr;have HB2:=hid (HB1.out.trans (hbr.mono (by omega)))
  by_cases hlt:k<arcs.length
  ·have hli:(k:Int)<(arcs.length:Int):=by omega
   obtain⟨b,off,A,c,rfl,hbl,c0,c1,c2,c3,c4,c5,hv1,hv2,_⟩:=HC.out k hlt wr HB2.out;have HRk:=hid (HR.out k hlt hF.out);have HNk:=hid (HN.out k hlt hF.out);have hvl:=HV.out k hlt;clear HR HN HE HC H0 hF HV;generalize arcs[k]! = ar at *;obtain⟨ai,afr,ad,av,al,art⟩:=ar;dsimp only at c0 c1 c2 c3 c4 c5 hv1 hv2 hvl
   by_cases he:ai=id
   ·subst he
    have hx:=Bx.new (t:=58) (cs:=[.int .i64 ai,.int .i64 afr,.int .i64 ad,.slice A av.length c,.int .i64 al,.int .i64 art]) wr rfl;have cC:=hid (mE A c av (wr.alloc (.cells #[ai,afr,ad,.slice A av.length c,al,art] 58)) (by omega) (hv1.alloc _));have hr3:=hr2.alloc (.cells #[ai,afr,ad,.slice A av.length c,al,art] 58);have HB3:=hid (HB2.out.trans ((bw1 wr (.cells #[ai,afr,ad,.slice A av.length c,al,art] 58)).mono HB2.out.size));have hsa:(wr.alloc (.cells #[ai,afr,ad,.slice A av.length c,al,art] 58)).heap.size=wr.heap.size+1:=by simp
    clear hv1;go_wp2_with fail;refine cC.out.mono ?_;rintro e w2 ⟨v2,rfl,hO2,hb2⟩;have hx2:=hx.below hb2;have hr4:=hr3.below hb2;have HB4:=hid (HB3.out.trans (hb2.mono HB3.out.size));have HO2:=hid hO2;clear hx hr3 hr2 hb2 hO2 cC c0 c1 c2 c3 c4 c5;have g0:=hr4.cell 0;have g1:=hr4.cell 1;have g2:=hr4.cell 2;have g3:=hr4.cell 3;have g4:=hr4.cell 4;have g5:=hr4.cell 5;have q0:=hr4.frozen 0;have q1:=hr4.frozen 1;have q2:=hr4.frozen 2;have q3:=hr4.frozen 3;have q4:=hr4.frozen 4;have q5:=hr4.frozen 5;have x0:=hx2.cell 0;have x1:=hx2.cell 1;have x2:=hx2.cell 2;have x3:=hx2.cell 3;have x4:=hx2.cell 4;have x5:=hx2.cell 5;have y3:=hx2.frozen 3;have hne:w.heap.size+1≠wr.heap.size:=by omega
    simp only[gz,gs]at g0 g1 g2 g3 g4 g5 x0 x1 x2 x3 x4 x5;obtain⟨A2,c2,rfl⟩:=Own.slice HO2.out;go_wp2_with fail;have z1:=hx2.setB HB4.out (by omega) 3 (.slice A2 av.length c2);have z2:=hr4.other hne 3 (.slice A2 av.length c2);have hO3:=HO2.out.other (n:=w.heap.size+1) (by omega);have hO4:Own 30 2 encR (w2.setCell ⟨wr.heap.size,3,none⟩ (.slice A2 av.length c2)) (wr.heap.size+1) (.slice A2 av.length c2) av:=(hsa▸HO2.out).other (Nat.lt_succ_self _) 3 _;change bodyPost _ _ _ _ _ (st6 (w2.setCell ⟨wr.heap.size,3,none⟩ (.slice A2 av.length c2)) (w.heap.size+1) (.int .i64 ai) (.int .i64 afr) (.int .i64 ad) (.slice A2 av.length c2) (.int .i64 al) (.int .i64 art));generalize w2.setCell ⟨wr.heap.size,3,none⟩ (.slice A2 av.length c2)=w4 at *;have h3:=z2.set6 (.int .i64 ai) (.int .i64 afr) (.int .i64 ad) (.slice A2 av.length c2) (.int .i64 al) (.int .i64 art);have hB3:=z2.set6B z1 (Nat.le_succ _) (.int .i64 ai) (.int .i64 afr) (.int .i64 ad) (.slice A2 av.length c2) (.int .i64 al) (.int .i64 art);have hO5:=hO4.st6 (n:=w.heap.size+1) (by omega) (.int .i64 ai) (.int .i64 afr) (.int .i64 ad) (.slice A2 av.length c2) (.int .i64 al) (.int .i64 art);generalize st6 w4 (w.heap.size+1) (.int .i64 ai) (.int .i64 afr) (.int .i64 ad) (.slice A2 av.length c2) (.int .i64 al) (.int .i64 art)=w5 at *;have r0:=h3.cell 0;have r1:=h3.cell 1;have r2:=h3.cell 2;have r3:=h3.cell 3;have r4:=h3.cell 4;have r5:=h3.cell 5;simp only[gz,gs]at r0 r1 r2 r3 r4 r5;refine bodyPost_ret (v:=.tuple #[.agg (arI ⟨ai,afr,ad,av,al,art⟩ (.slice A2 av.length c2)).toArray,.bool true]) (by simp[results,Tryz.results105,go_sem,r0,r1,r2,r3,r4,r5,arI]) rfl ?_;rw[HRk.out trivial];exact⟨_,rfl,hO5.slp,hB3⟩
   ·go_wp2_with fail
    go_roundw
    case rel=>exact⟨k+1,by omega,by go_num,hid (HNk.out he),hbr.trans ((bw1 _ _).mono hbr.size)⟩
    case measure=>simp[intOf];omega
  ·obtain rfl:arcs.length=k:=by omega
   have hge:¬((arcs.length:Int)<(arcs.length:Int)):=by omega
   have HR2:=hid (HE.out hF.out);clear HR HN HE HC H0 hF HV;have g0:=hr2.cell 0;have g1:=hr2.cell 1;have g2:=hr2.cell 2;have g3:=hr2.cell 3;have g4:=hr2.cell 4;have g5:=hr2.cell 5;have q0:=hr2.frozen 0;have q1:=hr2.frozen 1;have q2:=hr2.frozen 2;have q3:=hr2.frozen 3;have q4:=hr2.frozen 4;have q5:=hr2.frozen 5;simp only[gz,gs]at g0 g1 g2 g3 g4 g5;go_wp2_with fail;change bodyPost _ _ _ _ _ (st6 wr (w.heap.size+1) (.int .i64 0) (.int .i64 0) (.int .i64 0) (.slice none 0 0) (.int .i64 0) (.int .i64 0));have h3:=hr2.set6 (.int .i64 0) (.int .i64 0) (.int .i64 0) (.slice none 0 0) (.int .i64 0) (.int .i64 0);have hB3:=hr2.set6B HB2.out (Nat.le_succ _) (.int .i64 0) (.int .i64 0) (.int .i64 0) (.slice none 0 0) (.int .i64 0) (.int .i64 0);generalize st6 wr (w.heap.size+1) (.int .i64 0) (.int .i64 0) (.int .i64 0) (.slice none 0 0) (.int .i64 0) (.int .i64 0)=w5 at *;have r0:=h3.cell 0;have r1:=h3.cell 1;have r2:=h3.cell 2;have r3:=h3.cell 3;have r4:=h3.cell 4;have r5:=h3.cell 5;simp only[gz,gs]at r0 r1 r2 r3 r4 r5;refine bodyPost_ret (v:=.tuple #[.agg #[.int .i64 0,.int .i64 0,.int .i64 0,.slice none 0 0,.int .i64 0,.int .i64 0],.bool false]) (by simp[results,Tryz.results105,go_sem,r0,r1,r2,r3,r4,r5]) rfl ?_;rw[HR2.out];exact⟨rfl,hB3⟩
end Go.Proofs
namespace Go.Proofs
open Go.RowKit Go.Proofs.Mp Go.Lib Go.Shelf
theorem tf(n:Nat)(w:World)(hn:n≤1000000000):Calls Tryz.prog 151 #[.slice none 0 0,n] w (qA 30 2 encR w []):=by
 by_cases h0:n=0
 ·subst h0
  exact(Any8.slices_Grow_room Tryz.growP none 0 0 0 w (by omega) (by omega) (by omega) (by omega)).mono fun e w' ⟨he,hw⟩=>by
   subst hw;exact⟨_,he,Own.nil _ _,Below.refl _ _⟩
 ·obtain⟨i0,hi,hz,hs,hb⟩:=Mp.info_parts Tryz.infoP
  refine(Any8.slices_Grow_grow Tryz.growP i0 _ hi hz (by omega) none 0 0 n [] w (by omega) (by omega) (by rw[hb];omega) (by omega) (by simp) (by simp) (by simp)).mono fun e w' ⟨he,hw⟩=>?_
  subst hw;have hge:=grownCap_ge w (0+n) 0 30;have hle:=grownCap_le_maxLen w (0+n) 0 30 (by unfold maxLen;omega);refine⟨_,he,⟨by simp,.inr ⟨w.heap.size,_,_,rfl,Nat.le_refl _,heap_alloc_new _ _,Nat.zero_le _,hle,?_,by simp⟩⟩,?_⟩
  ·show(_:Array Value).size=_
   simp only[Array.size_append,size_zeroCells];have e3:(grownCap w (0+n) 0 (Tryz.growP_ren.t 25))=grownCap w (0+n) 0 30:=rfl;rw[e3];have e1:(Value.agg #[Value.int IntKind.i64 0,Value.int IntKind.i64 0]).cells.size=2:=rfl;rw[e1];have hg2:0+n≤grownCap w (0+n) 0 30:=grownCap_ge w (0+n) 0 30;generalize grownCap w (0+n) 0 30=G at *;simp;omega
  ·exact((Below.refl _ _).drew).alloc (Nat.le_refl _) _
def dj(v:Value):List Value:=[v]
theorem dD(v:Value):(dj v).length=1:=rfl
def lens(rs:List (List Pt)):Nat:=(rs.map List.length).sum
theorem iN{rs:List (List Pt)}{k:Nat}(h:k<rs.length):lens (rs.take (k+1))=lens (rs.take k)+rs[k]!.length:=by
 unfold lens;rw[List.take_succ_eq_append_getElem h,List.map_append,List.sum_append,getElem!_pos rs k h];simp
theorem oq{rs:List (List Pt)}{k:Nat}(h:k<rs.length):(rs.take (k+1)).flatten=(rs.take k).flatten++rs[k]!:=by
 rw[List.take_succ_eq_append_getElem h,List.flatten_append,getElem!_pos rs k h];simp
theorem iO(rs:List (List Pt)):rs.flatten.length=lens rs:=by simp[lens,List.length_flatten]
theorem jn(rs:List (List Pt))(k:Nat):lens (rs.take k)≤lens rs:=by
 have e:lens rs=lens (rs.take k)+lens (rs.drop k):=by
  unfold lens;rw[←List.sum_append,←List.map_append,List.take_append_drop]
 omega
theorem qm(A:Option Addr)(c:Nat)(rs:List (List Pt))(vs:List Value)(w:World)(hl:vs.length=rs.length)(hR:Rd 1 dj w A vs)(hS:∀i,i<rs.length→SlP w vs[i]! rs[i]!)(hm:lens rs≤1000000000)(hm2:rs.length≤1000000000) :
  Calls Tryz.prog 107 #[.slice A rs.length c] w (qA 30 2 encR w rs.flatten):=by
 have HS:=hid hS;have HG:=hid fun n W hn=>tf n W hn
 have HLT:=hid (jn rs);have HLF:=hid (iO (rs.take rs.length));have HRd:=hid hR;have h0:lens (rs.take 0)=0:=rfl;clear hS hR;go_enter Tryz.func107,Tryz.ntmps107;go_wp2_with fail;go_loopw [3,11] (fun s i wr=>∃k:Nat,k≤rs.length∧i=.int .i64 k∧s=.int .i64 (lens (rs.take k):Nat)∧wr=w) (fun _ i _=>rs.length-(intOf i).toNat)
 case atStart=>exact⟨0,by omega,rfl,by rw[h0];rfl,rfl⟩
 case round=>
  obtain⟨k,hk,rfl,rfl,rfl⟩:=hrel
  by_cases hlt:k<rs.length
  ·have hli:(k:Int)<(rs.length:Int):=by omega
   obtain⟨b,off,rfl,hbl,hcell⟩:=HRd.out.get (Below.refl _ _) (show k<vs.length by omega);have c1:=hcell k (by omega) 0 vs[k]! rfl;rw[show off+k*1+0=off+k by omega]at c1;obtain⟨A',c',hv1,hR1,hcc⟩:=HS.out k hlt;rw[hv1]at c1;have HX:=hid (iN hlt);have hle1:=HLT.out (k+1);rw[HX.out]at hle1;have hno:¬(((lens (rs.take k):Nat):Int)+(rs[k]!.length:Int)<0):=by omega
   have hwr:=IntWalk.i64_in (((lens (rs.take k):Nat):Int)+(rs[k]!.length:Int)) (by omega);generalize rs[k]! = r at *;generalize lens (rs.take k)=L at *;clear hcell hv1 hR1 hcc hle1;go_wp2_with fail;go_roundw
   case rel=>exact⟨k+1,by omega,by go_num,by rw[HX.out];go_num,by trivial⟩
   case measure=>simp[intOf];omega
  ·obtain rfl:rs.length=k:=by omega
   have hge:¬((rs.length:Int)<(rs.length:Int)):=by omega
   rw[List.take_length]at *;have hG:=hid (HG.out (lens rs) wr hm);clear HG h0;go_wp2_with fail;refine hG.out.mono ?_;rintro e w1 ⟨v1,rfl,hO1,hb1⟩;have HO1:=hid hO1;have HB1:=hid hb1;clear hO1 hb1 hG;go_wp2_with fail;generalize wr=w0 at *;go_loopw [6,27] (fun s i wq=>∃k:Nat,k≤rs.length∧i=.int .i64 k∧Hid (Own 30 2 encR wq w0.heap.size s (rs.take k).flatten)∧Below w0.heap.size w0 wq) (fun _ i _=>rs.length-(intOf i).toNat)
   case atStart=>exact⟨0,by omega,rfl,HO1,HB1.out⟩
   case round=>
    obtain⟨k,hk,rfl,hO,hbq⟩:=hrel;have HBq:=hid hbq;have hsz:=hbq.size
    by_cases hlt:k<rs.length
    ·have hli:(k:Int)<(rs.length:Int):=by omega
     obtain⟨b,off,rfl,hbl,hcell⟩:=HRd.out.get hbq (show k<vs.length by omega);have c1:=hcell k (by omega) 0 vs[k]! rfl;rw[show off+k*1+0=off+k by omega]at c1;obtain⟨A',c',hv1,hR1,hcc⟩:=HS.out k hlt;rw[hv1]at c1;have HX:=hid (oq hlt);have hle1:=HLT.out (k+1);rw[iN hlt]at hle1;have hle2:=iO (rs.take k);have hR2:=hR1.below hbq;have hN:(rs.take k).flatten.length+rs[k]!.length≤1000000000000:=by omega
     generalize rs[k]! = r at *;generalize (rs.take k).flatten=L at *;clear hcell hv1 hR1 hcc hle1 hle2 hbq;go_wp2_with (at_builtin;refine Tryz.allP hO.out hR2 rfl _ _ rfl rfl rfl hN hsz ?_;intro v9 w9 hO9 hb9);go_roundw
     case rel=>exact⟨k+1,by omega,by go_num,hid (by rw[HX.out];exact hO9),HBq.out.trans hb9⟩
     case measure=>simp[intOf];omega
    ·obtain rfl:rs.length=k:=by omega
     have hge:¬((rs.length:Int)<(rs.length:Int)):=by omega
     rw[List.take_length]at hO;clear hbq;go_wp2;go_ret;exact⟨_,rfl,hO.out,HBq.out⟩
end Go.Proofs
namespace Go.Proofs
open Go.RowKit Go.Proofs.Mp Go.Lib
theorem pO(o:Option Nd):gr o=.tuple #[.agg #[.int .i64 (o.getD (0,0,0)).1,.int .i64 (o.getD (0,0,0)).2.1,.int .i64 (o.getD (0,0,0)).2.2],.bool o.isSome]:=by cases o<;>rfl
theorem r9.uni{w w':World}{o:Option Ar}{e:Ending}(h:r9 w o e w'):∃A c,e=.returned (.tuple #[.agg #[.int .i64 (o.getD default).id,.int .i64 (o.getD default).frm,.int .i64 (o.getD default).dst,.slice A (o.getD default).via.length c,.int .i64 (o.getD default).lf,.int .i64 (o.getD default).rt],.bool o.isSome])∧RdR w' A (o.getD default).via∧(o.getD default).via.length≤c∧Below w.heap.size w w':=by
 cases o with
 | none=>exact⟨none,0,h.1,.inl rfl,Nat.le_refl _,h.2⟩
 | some a=>
  obtain⟨v,h1,⟨A,c,rfl,h2,h4⟩,h3⟩:=h;exact⟨A,c,h1,h2,h4,h3⟩
def pathS(p:Pn)(id:Int):Option (List Pt):=
 match findA p.arcs id with
 | none=>none
 | some a=>match findN p.nodes a.frm,findN p.nodes a.dst with
  | some f,some t=>some (f.2::a.via++[t.2])
  | _,_=>none
def sG(w:World)(o:Option (List Pt))(en:Ending)(w':World):Prop:=
 match o with
 | some l=>∃v,en=.returned (.tuple #[v,.int .i64 0])∧Own 30 2 encR w' w.heap.size v l∧Below w.heap.size w w'
 | none=>en=.returned (.tuple #[.slice none 0 0,.int .i64 7])∧Below w.heap.size w w'
theorem pG{p:Pn}{id:Int}(h:(findA p.arcs id).isSome=false∨(findN p.nodes ((findA p.arcs id).getD default).frm).isSome=false∨(findN p.nodes ((findA p.arcs id).getD default).dst).isSome=false):pathS p id=none:=by
 unfold pathS;cases ha:findA p.arcs id with
 | none=>rfl
 | some a=>
  rw[ha]at h;simp only[Option.getD_some,Option.isSome_some]at h;cases hf:findN p.nodes a.frm with
  | none=>simp[hf]
  | some f=>
   cases ht:findN p.nodes a.dst with
   | none=>simp[hf,ht]
   | some t=>simp[hf,ht]at h
theorem pF{p:Pn}{id:Int}(h1:(findA p.arcs id).isSome=true)(h2:(findN p.nodes ((findA p.arcs id).getD default).frm).isSome=true)(h3:(findN p.nodes ((findA p.arcs id).getD default).dst).isSome=true) :
  pathS p id=some [[((findN p.nodes ((findA p.arcs id).getD default).frm).getD (0,0,0)).2],((findA p.arcs id).getD default).via,[((findN p.nodes ((findA p.arcs id).getD default).dst).getD (0,0,0)).2]].flatten:=by
 unfold pathS;cases ha:findA p.arcs id with
 | none=>rw[ha]at h1;cases h1
 | some a=>
  rw[ha]at h2 h3;simp only[Option.getD_some]at *;cases hf:findN p.nodes a.frm with
  | none=>rw[hf]at h2;cases h2
  | some f=>
   cases ht:findN p.nodes a.dst with
   | none=>rw[ht]at h3;cases h3
   | some t=>simp
theorem gd{p:Pn}{id:Int}(h:Few p):((findA p.arcs id).getD default).via.length≤100000:=by
 cases ha:findA p.arcs id with
 | none=>exact Nat.zero_le _
 | some a=>
  have hm:=List.mem_of_find?_eq_some ha;obtain⟨i,hi,rfl⟩:=List.getElem_of_mem hm;have:=h.v i hi
  rwa [getElem!_pos p.arcs i hi]at this
theorem bJ(p:Pn)(m:Mem)(id:Int)(w:World)(hR:PlR w p m):Calls Tryz.prog 63 #[plV p m,.int .i64 id] w (sG w (pathS p id)):=by
 have HN:=hid (pG (p:=p) (id:=id));have HY:=hid (pF (p:=p) (id:=id));have cA:=hid fun W (hb:Below w.heap.size w W)=>jU p m id W (hR.below hb)
 have cN:=hid fun k W (hb:Below w.heap.size w W)=>(show Calls Tryz.prog 106 #[plV p m,.int .i64 k] W (RetV W _)from pO (findN p.nodes k)▸iI p m k W (hR.below hb))
 have HL:=hid (gd (id:=id) hR.few);generalize pathS p id=R at *;generalize findA p.arcs id=oa at *;clear hR;obtain⟨nodes,arcs,faces⟩:=p;obtain⟨an,aa,af,cn,ca,cf,vs⟩:=m;unfold plV at *;dsimp only at *;have hn:=Bx.new (t:=26) (cs:=[.slice an nodes.length cn,.slice aa arcs.length ca,.slice af faces.length cf]) w rfl;have hb0:=bw1 w (.cells #[.slice an nodes.length cn,.slice aa arcs.length ca,.slice af faces.length cf] 26);go_enter Tryz.func63,Tryz.ntmps63;go_upto_region 1 with fail;generalize w.alloc (.cells #[.slice an nodes.length cn,.slice aa arcs.length ca,.slice af faces.length cf] 26)=w1 at *;have k0:=hn.cell 0;have k1:=hn.cell 1;have k2:=hn.cell 2;have kl:=hn.lt;simp only[gz,gs]at k0 k1 k2;go_wp2_with fail;refine(cA.out _ hb0).mono ?_;rintro e w2 hA;obtain⟨A,c,rfl,hRv,hac,hb2⟩:=hA.uni;have HAc:=hid hac;clear hac;have hn2:=hn.below hb2;have HB2:=hid (hb0.trans (hb2.mono hb0.size));have HRv:=hid hRv;clear hA hRv hb2 hn k0 k1 k2 cA;generalize oa.getD default=a at *;generalize hoa:oa.isSome=ba at *;clear hoa;obtain⟨ai,afr,ad,av,al,art⟩:=a;dsimp only at *;have k0:=hn2.cell 0;have k1:=hn2.cell 1;have k2:=hn2.cell 2;have kl2:=hn2.lt;simp only[gz,gs]at k0 k1 k2;have hx:=Bx.new (t:=58) (cs:=[.int .i64 ai,.int .i64 afr,.int .i64 ad,.slice A av.length c,.int .i64 al,.int .i64 art]) w2 rfl;have hn3:=hn2.alloc (.cells #[.int .i64 ai,.int .i64 afr,.int .i64 ad,.slice A av.length c,.int .i64 al,.int .i64 art] 58);have HB3:=hid (HB2.out.trans ((bw1 w2 (.cells #[.int .i64 ai,.int .i64 afr,.int .i64 ad,.slice A av.length c,.int .i64 al,.int .i64 art] 58)).mono HB2.out.size));have HRv3:=hid (HRv.out.alloc (.cells #[.int .i64 ai,.int .i64 afr,.int .i64 ad,.slice A av.length c,.int .i64 al,.int .i64 art] 58));go_upto_region 2 with fail;generalize w2.alloc (.cells #[.int .i64 ai,.int .i64 afr,.int .i64 ad,.slice A av.length c,.int .i64 al,.int .i64 art] 58)=w3 at *;generalize w2.heap.size=nx at *;clear k0 k1 k2 hn2;have cF:=hid (cN.out afr);have cT:=hid (cN.out ad);generalize findN nodes afr=of at *;generalize findN nodes ad=ot at *;generalize hof:of.isSome=bf at *;generalize hot:ot.isSome=bt at *;clear hof hot cN;generalize of.getD (0,0,0)=nf at *;generalize ot.getD (0,0,0)=nt at *;obtain⟨fi,fx,fy⟩:=nf;obtain⟨ti,tx,ty⟩:=nt;dsimp only at *;have k0:=hn3.cell 0;have k1:=hn3.cell 1;have k2:=hn3.cell 2;have x1:=hx.cell 1;simp only[gz,gs]at k0 k1 k2 x1;go_wp2_with fail;refine(cF.out _ HB3.out).mono ?_;rintro e w4 ⟨rfl,hb4⟩;have hn4:=(hn3.below hb4).alloc (.cells #[.int .i64 fi,.int .i64 fx,.int .i64 fy] 71);have hx4:=(hx.below hb4).alloc (.cells #[.int .i64 fi,.int .i64 fx,.int .i64 fy] 71);have hf4:=Bx.new (t:=71) (cs:=[.int .i64 fi,.int .i64 fx,.int .i64 fy]) w4 rfl;have hbb:=hb4.trans ((bw1 w4 (.cells #[.int .i64 fi,.int .i64 fx,.int .i64 fy] 71)).mono hb4.size);have HB4:=hid (HB3.out.trans (hbb.mono HB3.out.size));have HRv4:=hid (HRv3.out.below hbb);clear hn3 hx hb4 hbb HB3 HRv3 k0 k1 k2 x1 cF HB2 HRv;go_upto_region 3 with fail;generalize w4.alloc (.cells #[.int .i64 fi,.int .i64 fx,.int .i64 fy] 71)=w5 at *;generalize w4.heap.size=nf at *;have k0:=hn4.cell 0;have k1:=hn4.cell 1;have k2:=hn4.cell 2;have x2:=hx4.cell 2;simp only[gz,gs]at k0 k1 k2 x2;go_wp2_with fail;refine(cT.out _ HB4.out).mono ?_;rintro e w6 ⟨rfl,hb6⟩;have hx6:=(hx4.below hb6).alloc (.cells #[.int .i64 ti,.int .i64 tx,.int .i64 ty] 71);have hf6:=(hf4.below hb6).alloc (.cells #[.int .i64 ti,.int .i64 tx,.int .i64 ty] 71);have ht6:=Bx.new (t:=71) (cs:=[.int .i64 ti,.int .i64 tx,.int .i64 ty]) w6 rfl;have hbb:=hb6.trans ((bw1 w6 (.cells #[.int .i64 ti,.int .i64 tx,.int .i64 ty] 71)).mono hb6.size);have HB6:=hid (HB4.out.trans (hbb.mono HB4.out.size));have HRv6:=hid (HRv4.out.below hbb);clear hn4 hx4 hf4 hb6 hbb HB4 HRv4 k0 k1 k2 x2 cT;go_upto_region 4 with fail;generalize w6.alloc (.cells #[.int .i64 ti,.int .i64 tx,.int .i64 ty] 71)=w7 at *;generalize w6.heap.size=nt at *;cases ba
 ·obtain rfl:R=none:=HN.out (Or.inl rfl)
  go_wp2_with fail;refine bodyPost_ret (v:=.tuple #[.slice none 0 0,.int .i64 7]) (by simp[results,Tryz.results63,go_sem]) rfl ?_;exact⟨rfl,HB6.out⟩
 cases bf
 ·obtain rfl:R=none:=HN.out (Or.inr (Or.inl rfl))
  go_wp2_with fail;refine bodyPost_ret (v:=.tuple #[.slice none 0 0,.int .i64 7]) (by simp[results,Tryz.results63,go_sem]) rfl ?_;exact⟨rfl,HB6.out⟩
 cases bt
 ·obtain rfl:R=none:=HN.out (Or.inr (Or.inr rfl))
  go_wp2_with fail;refine bodyPost_ret (v:=.tuple #[.slice none 0 0,.int .i64 7]) (by simp[results,Tryz.results63,go_sem]) rfl ?_;exact⟨rfl,HB6.out⟩
 have HY2:=hid (HY.out rfl rfl rfl);clear HY HN;have x3:=hx6.cell 3;have f1:=hf6.cell 1;have f2:=hf6.cell 2;have t1:=ht6.cell 1;have t2:=ht6.cell 2;have l1:=hx6.lt;have l2:=hf6.lt;have l3:=ht6.lt;simp only[gz,gs]at x3 f1 f2 t1 t2;have hav:av.length≤100000:=HL.out
 have cC:=hid (qm (some ⟨w7.heap.size+1+1,0,none⟩) 3 [[(fx,fy)],av,[(tx,ty)]] [.slice (some ⟨w7.heap.size,0,none⟩) 1 1,.slice A av.length c,.slice (some ⟨w7.heap.size+1,0,none⟩) 1 1]
  (((w7.alloc (.cells #[.int .i64 fx,.int .i64 fy] 30)).alloc (.cells #[.int .i64 tx,.int .i64 ty] 30)).alloc (.cells #[.slice (some ⟨w7.heap.size,0,none⟩) 1 1,.slice A av.length c,.slice (some ⟨w7.heap.size+1,0,none⟩) 1 1] 56)) rfl
  (.inr ⟨_,0,rfl,by simp,fun j hj i u hu=>by
   have hb:=Bx.newAt (b:=w7.heap.size+1+1) (t:=56) (cs:=[.slice (some ⟨w7.heap.size,0,none⟩) 1 1,.slice A av.length c,.slice (some ⟨w7.heap.size+1,0,none⟩) 1 1]) ((w7.alloc (.cells #[.int .i64 fx,.int .i64 fy] 30)).alloc (.cells #[.int .i64 tx,.int .i64 ty] 30)) (by simp) rfl
   have hi:i=0:=by
    cases i with
    | zero=>rfl
    | succ i=>simp[dj]at hu
   subst hi;have hc:=hb.cell j;rw[show 0+j*1+0=j by omega,hc];have hj3:j<3:=hj;rw[←hu];simp only[dj,gz];rw[getElem!_pos _ j (by simpa using hj3)]
   exact List.getElem?_eq_getElem _⟩)
  (fun i hi=>by
   have hi3:i<3:=hi
   match i,hi3 with
   | 0,_=>exact⟨_,_,rfl,((dA w7 #[.int .i64 fx,.int .i64 fy] 30 [(fx,fy)] rfl w7.heap.size rfl).alloc _).alloc _,Nat.le_refl _⟩
   | 1,_=>exact⟨_,_,rfl,((HRv6.out.alloc _).alloc _).alloc _,HAc.out⟩
   | 2,_=>exact⟨_,_,rfl,(dA (w7.alloc (.cells #[.int .i64 fx,.int .i64 fy] 30)) #[.int .i64 tx,.int .i64 ty] 30 [(tx,ty)] rfl (w7.heap.size+1) (by simp)).alloc _,Nat.le_refl _⟩)
  (by show lens [[(fx,fy)],av,[(tx,ty)]]≤1000000000;simp[lens];omega) (by simp))
 have hB7:=hid (HB6.out.trans ((bw3 w7 (.cells #[.int .i64 fx,.int .i64 fy] 30) (.cells #[.int .i64 tx,.int .i64 ty] 30) (.cells #[.slice (some ⟨w7.heap.size,0,none⟩) 1 1,.slice A av.length c,.slice (some ⟨w7.heap.size+1,0,none⟩) 1 1] 56)).mono HB6.out.size));go_wp2_with fail;refine cC.out.mono ?_;rintro e w8 ⟨v8,rfl,hO8,hb8⟩;have HO8:=hid hO8;have HB8:=hid (hB7.out.trans (hb8.mono hB7.out.size));have HZ:=hid hB7.out.size;obtain⟨A8,c8,rfl⟩:=Own.slice hO8;clear hO8 hb8 cC;generalize [[(fx,fy)],av,[(tx,ty)]].flatten=L at *;have hl8:∀n,n=L.length→True:=fun _ _=>trivial
 go_wp2_with fail;refine bodyPost_ret (v:=.tuple #[.slice A8 L.length c8,.int .i64 0]) (by simp[results,Tryz.results63,go_sem]) rfl ?_;rw[HY2.out];exact⟨_,rfl,HO8.out.mono HZ.out,HB8.out⟩
end Go.Proofs
namespace Go.Proofs
open Go.RowKit Go.Proofs.Mp Go.Lib
def cX(w:World)(P:Prop)(en:Ending)(w':World):Prop:=∃b:Bool,en=.returned (.bool b)∧(b=true↔P)∧Below w.heap.size w w'
def eV{α:Type}[Inhabited α](f:α→Bool)(zs:List α):Prop:=∃j,j<zs.length∧f zs[j]! = true
def bg{α:Type}[Inhabited α](f:α→Bool)(zs:List α):Prop:=∀j,j<zs.length→f zs[j]! = false
theorem fG{α:Type}[Inhabited α]{f:α→Bool}{zs:List α}:bg f zs↔¬eV f zs:=by
 constructor
 ·rintro h ⟨j,hj,k⟩
  rw[h j hj]at k;cases k
 ·intro h j hj
  cases e:f zs[j]!
  ·rfl
  ·exact absurd ⟨j,hj,e⟩ h
theorem cX.yes{w w':World}{P:Prop}(h:P)(hb:Below w.heap.size w w'):cX w P (.returned (.bool true)) w':=⟨true,rfl,⟨fun _=>h,fun _=>rfl⟩,hb⟩
theorem cX.no{w w':World}{P:Prop}(h:¬P)(hb:Below w.heap.size w w'):cX w P (.returned (.bool false)) w':=⟨false,rfl,⟨fun e=>(by cases e),fun e=>absurd e h⟩,hb⟩
def AscP(l:List Int):Prop:=∀i,i+1<l.length→l[i]!<l[i+1]!
theorem bZ(A:Option Addr)(c:Nat)(zs:List Int)(w:World)(hmax:zs.length≤1000000000)(hR:RdI w A zs):Calls Tryz.prog 58 #[.slice A zs.length c] w (cX w (AscP zs)):=by
 have HRd:=hid hR;have h1:zs.length≤1→AscP zs:=fun h i hi=>by omega
 have HF:=hid (show(∀i,i+1<zs.length→zs[i]!<zs[i+1]!)→AscP zs from fun h=>h);have HN:=hid (show ∀i,i+1<zs.length→zs[i+1]!≤zs[i]!→¬AscP zs from fun i hi h k=>by have:=k i hi;omega);generalize AscP zs=P at *;clear hR;go_enter Tryz.func58,Tryz.ntmps58;go_wp2_with fail;go_loopw [3] (fun i wr=>∃k:Nat,(k≤zs.length∨k=1)∧1≤k∧i=.int .i64 k∧Hid (∀i,i+1<k→zs[i]!<zs[i+1]!)∧Below w.heap.size w wr) (fun i _=>zs.length-(intOf i).toNat)
 case atStart=>exact⟨1,Or.inr rfl,by omega,rfl,hid (fun i hi=>by omega),Below.refl _ _⟩
 case round=>
  obtain⟨k,hk,hk1,rfl,hA,hbr⟩:=hrel;have HB:=hid hbr
  by_cases hlt:k<zs.length
  ·have hli:(k:Int)<(zs.length:Int):=by omega
   obtain⟨b,off,rfl,hbl,hc⟩:=RdI.getAll HRd.out hbr hlt;obtain⟨q,rfl⟩:∃q,k=q+1:=⟨k-1,by omega⟩;have c0:=hc q (by omega);have c1:=hc (q+1) hlt;have HNq:=hid (HN.out q hlt);have e1:((q+1:Nat):Int)-1=(q:Int):=by omega
   have hw:=IntWalk.i64_in ((((q+1:Nat):Int))-1) (by omega);rw[e1]at hw
   have HQ:Hid (zs[q]!<zs[q+1]!→∀i,i+1<q+1+1→zs[i]!<zs[i+1]!):=hid fun h i hi=>by
    by_cases e:i=q
    ·subst e;exact h
    ·exact hA.out i (by omega)
   have hq0:(q:Int)<(zs.length:Int):=by omega
   have hq1:(0:Int)≤(q:Int):=by omega
   have hq2:(0:Int)≤((q+1:Nat):Int):=by omega
   generalize zs[q]! = x at *;generalize zs[q+1]! = y at *;clear hc e1 HN HF h1 hA
   by_cases hxy:y≤x
   ·have hb:decide (y≤x)=true:=decide_eq_true hxy
    have HP:=hid (HNq.out hxy);clear hbr hxy;go_wp2_with fail;go_quiet (fail);go_wp2;go_ret;exact cX.no HP.out (below_drewN HB.out nq)
   ·have hb:decide (y≤x)=false:=decide_eq_false hxy
    have HP:=hid (HQ.out (by omega));clear hbr hxy;go_wp2_with fail;go_quiet (fail);go_wp2;go_roundw
    case rel=>exact⟨q+1+1,Or.inl (by omega),by omega,by go_num,HP,below_drewN HB.out nq⟩
    case measure=>simp[intOf];omega
  ·have hge:¬((k:Int)<(zs.length:Int)):=by omega
   have HP:=hid (HF.out (fun i hi=>hA.out i (by omega)));clear hbr;go_wp2;go_ret;exact cX.yes HP.out HB.out
def badN(n:Int):Bool:=decide (n<1)||decide (1073741824<n)
theorem m5(n:Int)(w:World):Calls Tryz.prog 91 #[n] w (RetV w (.bool (badN n))):=by
 have HR:=hid (show badN n=(decide (n<1)||decide (1073741824<n))from rfl);generalize badN n=r at *
 by_cases h1:n<1
 ·obtain rfl:r=true:=by rw[HR.out,decide_eq_true h1];rfl
  go_enter Tryz.func91,Tryz.ntmps91;go_wp2;go_ret;exact RetV.bool (by simp) (Below.refl _ _)
 ·rw[decide_eq_false h1,Bool.false_or]at HR
  obtain rfl:r=decide (1073741824<n):=HR.out;go_enter Tryz.func91,Tryz.ntmps91;go_wp2;go_ret;exact RetV.bool (by simp) (Below.refl _ _)
theorem tY(A:Option Addr)(c:Nat)(zs:List Int)(w:World)(hmax:zs.length≤1000000000)(hR:Rd 1 Mp.encI w A zs) :
  Calls Tryz.prog 146 #[.slice A zs.length c,.func (.func 91) #[] #[]] w (fun e w'=>∃r:Int,e=.returned (.int .i64 r)∧Below w.heap.size w w'∧(0≤r↔eV badN zs)):=by
 have HRd:=hid hR;clear hR;go_enter Tryz.func146,Tryz.ntmps146;go_wp2_with fail;go_loopw [5,8] (fun _ i wr=>∃k:Nat,k≤zs.length∧i=.int .i64 k∧Hid (∀j,j<k→badN zs[j]! = false)∧Below w.heap.size w wr) (fun _ i _=>zs.length-(intOf i).toNat)
 case atStart=>exact⟨0,by omega,rfl,hid (fun j hj=>absurd hj (Nat.not_lt_zero _)),Below.refl _ _⟩
 case round=>
  obtain⟨k,hk,rfl,hN,hbr⟩:=hrel;have HB:=hid hbr
  by_cases hlt:k<zs.length
  ·have hli:(k:Int)<(zs.length:Int):=by omega
   obtain⟨b,off,rfl,hbl,hcell⟩:=HRd.out.get hbr hlt;have hc0:=hcell k hlt
   have HE:Hid (∀j,j<k+1→badN zs[k]! = false→badN zs[j]! = false):=hid fun j hj h=>by
    by_cases e:j=k
    ·subst e;exact h
    ·exact hN.out j (by omega)
   have HK:Hid (badN zs[k]! = true→eV badN zs):=hid fun h=>⟨k,hlt,h⟩
   generalize zs[k]! = z at *;have c1:=hc0 0 (.int .i64 z) rfl;rw[show off+k*1+0=off+k by omega]at c1;have hC:=hid fun W=>m5 z W
   generalize hp:badN z=pz at *;clear hcell hc0 hbr hp;go_wp2_with fail;refine(hC.out _).mono ?_;rintro e w1 ⟨rfl,hb1⟩;have HB1:=hid (HB.out.trans (hb1.mono HB.out.size));cases pz
   ·go_wp2_with fail
    go_roundw
    case rel=>exact⟨k+1,by omega,by go_num,hid (fun j hj=>HE.out j hj (by trivial)),HB1.out⟩
    case measure=>simp[intOf];omega
   ·have HKK:=hid (HK.out (by trivial))
    clear HK HE hN;go_wp2_with fail;go_ret;exact⟨_,rfl,HB1.out,⟨fun _=>HKK.out,fun _=>by omega⟩⟩
  ·obtain rfl:zs.length=k:=by omega
   have hge:¬((zs.length:Int)<(zs.length:Int)):=by omega
   have HNO:Hid (¬eV badN zs):=hid fun ⟨j,hj,h⟩=>by rw[hN.out j hj]at h;cases h
   clear hbr;go_wp2;go_ret;exact⟨_,rfl,HB.out,⟨fun h=>absurd h (by decide),fun h=>absurd h HNO.out⟩⟩
theorem tA(A:Option Addr)(c:Nat)(zs:List Int)(w:World)(hmax:zs.length≤1000000000)(hR:Rd 1 Mp.encI w A zs) :
  Calls Tryz.prog 90 #[.slice A zs.length c,.func (.func 91) #[] #[]] w (fun e w'=>∃b:Bool,e=.returned (.bool b)∧Below w.heap.size w w'∧(b=true↔eV badN zs)):=by
 have cI:=hid (tY A c zs w hmax hR);clear hR hmax;go_enter Tryz.func90,Tryz.ntmps90;go_wp2_with fail;refine cI.out.mono ?_;rintro e w1 ⟨r,rfl,hb1,hr⟩;have HB1:=hid hb1;have HR:=hid hr;clear hb1 hr cI;go_wp2;go_ret;exact⟨_,rfl,HB1.out,by rw[←HR.out];simp⟩
theorem di(A:Option Addr)(c:Nat)(zs:List Int)(w:World)(hmax:zs.length≤1000000000)(hR:RdI w A zs):Calls Tryz.prog 59 #[.slice A zs.length c] w (cX w (bg badN zs)):=by
 have cI:=hid (tA A c zs w hmax hR);clear hR hmax;go_enter Tryz.func59,Tryz.ntmps59;go_wp2_with fail;refine cI.out.mono ?_;rintro e w1 ⟨b,rfl,hb1,hr⟩;have HB1:=hid hb1;have HR:=hid hr;clear hb1 hr cI;cases b
 ·go_wp2
  go_ret;exact cX.yes (fG.2 fun h=>by have:=HR.out.2 h;cases this) HB1.out
 ·go_wp2
  go_ret;exact cX.no (fun k=>fG.1 k (HR.out.1 (by trivial))) HB1.out
def badP(p:Pt):Bool:=decide (p.1 < -1048576)||decide (1048576<p.1)||decide (p.2 < -1048576)||decide (1048576<p.2)
theorem gT(p:Pt)(w:World):Calls Tryz.prog 92 #[ae p] w (RetV w (.bool (badP p))):=by
 have HR:=hid (show badP p=(decide (p.1 < -1048576)||decide (1048576<p.1)||decide (p.2 < -1048576)||decide (1048576<p.2))from rfl);generalize badP p=r at *;obtain⟨x,y⟩:=p;have hbx:=az.new w (x,y);have hb:=bw1 w (.cells #[x,y] 30);have k0:=hbx.c0;have k1:=hbx.c1;unfold ae;dsimp only at *
 by_cases h1:x < -1048576
 ·obtain rfl:r=true:=by rw[HR.out,decide_eq_true h1];rfl
  go_enter Tryz.func92,Tryz.ntmps92;go_wp2;go_ret;exact RetV.bool (by simp) hb
 by_cases h2:1048576<x
 ·obtain rfl:r=true:=by rw[HR.out,decide_eq_true h2];simp
  go_enter Tryz.func92,Tryz.ntmps92;go_wp2;go_ret;exact RetV.bool (by simp) hb
 by_cases h3:y < -1048576
 ·obtain rfl:r=true:=by rw[HR.out,decide_eq_true h3];simp
  go_enter Tryz.func92,Tryz.ntmps92;go_wp2;go_ret;exact RetV.bool (by simp) hb
 obtain rfl:r=decide (1048576<y):=by rw[HR.out,decide_eq_false h1,decide_eq_false h2,decide_eq_false h3];rfl
 go_enter Tryz.func92,Tryz.ntmps92;go_wp2;go_ret;exact RetV.bool (by simp) hb
theorem tX(A:Option Addr)(c:Nat)(zs:List Pt)(w:World)(hmax:zs.length≤1000000000)(hR:Rd 2 encR w A zs) :
  Calls Tryz.prog 147 #[.slice A zs.length c,.func (.func 92) #[] #[]] w (fun e w'=>∃r:Int,e=.returned (.int .i64 r)∧Below w.heap.size w w'∧(0≤r↔eV badP zs)):=by
 have HRd:=hid hR;clear hR;go_enter Tryz.func147,Tryz.ntmps147;go_wp2_with fail;go_loopw [5,8] (fun _ i wr=>∃k:Nat,k≤zs.length∧i=.int .i64 k∧Hid (∀j,j<k→badP zs[j]! = false)∧Below w.heap.size w wr) (fun _ i _=>zs.length-(intOf i).toNat)
 case atStart=>exact⟨0,by omega,rfl,hid (fun j hj=>absurd hj (Nat.not_lt_zero _)),Below.refl _ _⟩
 case round=>
  obtain⟨k,hk,rfl,hN,hbr⟩:=hrel;have HB:=hid hbr
  by_cases hlt:k<zs.length
  ·have hli:(k:Int)<(zs.length:Int):=by omega
   obtain⟨b,off,rfl,hbl,hcell⟩:=HRd.out.get hbr hlt;have hc0:=hcell k hlt
   have HE:Hid (∀j,j<k+1→badP zs[k]! = false→badP zs[j]! = false):=hid fun j hj h=>by
    by_cases e:j=k
    ·subst e;exact h
    ·exact hN.out j (by omega)
   have HK:Hid (badP zs[k]! = true→eV badP zs):=hid fun h=>⟨k,hlt,h⟩
   generalize zs[k]! = z at *;obtain⟨zx,zy⟩:=z;have c1:=hc0 0 (.int .i64 zx) rfl;have c2:=hc0 1 (.int .i64 zy) rfl;rw[Nat.add_zero]at c1;have hC:=hid fun W=>(show Calls Tryz.prog 92 #[.agg #[zx,zy]] W _ from gT (zx,zy) W)
   generalize hp:badP (zx,zy)=pz at *;clear hcell hc0 hbr hp;go_wp2_with fail;refine(hC.out _).mono ?_;rintro e w1 ⟨rfl,hb1⟩;have HB1:=hid (HB.out.trans (hb1.mono HB.out.size));cases pz
   ·go_wp2_with fail
    go_roundw
    case rel=>exact⟨k+1,by omega,by go_num,hid (fun j hj=>HE.out j hj (by trivial)),HB1.out⟩
    case measure=>simp[intOf];omega
   ·have HKK:=hid (HK.out (by trivial))
    clear HK HE hN;go_wp2_with fail;go_ret;exact⟨_,rfl,HB1.out,⟨fun _=>HKK.out,fun _=>by omega⟩⟩
  ·obtain rfl:zs.length=k:=by omega
   have hge:¬((zs.length:Int)<(zs.length:Int)):=by omega
   have HNO:Hid (¬eV badP zs):=hid fun ⟨j,hj,h⟩=>by rw[hN.out j hj]at h;cases h
   clear hbr;go_wp2;go_ret;exact⟨_,rfl,HB.out,⟨fun h=>absurd h (by decide),fun h=>absurd h HNO.out⟩⟩
theorem tt(A:Option Addr)(c:Nat)(zs:List Pt)(w:World)(hmax:zs.length≤1000000000)(hR:Rd 2 encR w A zs) :
  Calls Tryz.prog 93 #[.slice A zs.length c,.func (.func 92) #[] #[]] w (fun e w'=>∃b:Bool,e=.returned (.bool b)∧Below w.heap.size w w'∧(b=true↔eV badP zs)):=by
 have cI:=hid (tX A c zs w hmax hR);clear hR hmax;go_enter Tryz.func93,Tryz.ntmps93;go_wp2_with fail;refine cI.out.mono ?_;rintro e w1 ⟨r,rfl,hb1,hr⟩;have HB1:=hid hb1;have HR:=hid hr;clear hb1 hr cI;go_wp2;go_ret;exact⟨_,rfl,HB1.out,by rw[←HR.out];simp⟩
end Go.Proofs
namespace Go.Proofs
open Go.RowKit Go.Proofs.Mp Go.Lib
theorem eQ{α β:Type}[Inhabited α](f:α→β){l:List α}{k:Nat}(h:k<l.length):(l.take (k+1)).map f=(l.take k).map f++[f l[k]!]:=by
 rw[List.take_succ_eq_append_getElem h,List.map_append,getElem!_pos l k h];rfl
theorem fV(p:Pn)(m:Mem)(w:World)(hR:PlR w p m):Calls Tryz.prog 57 #[plV p m] w (fun e w'=>∃v1 v2,e=.returned (.tuple #[v1,v2])∧Own 3 1 Mp.encI w' w.heap.size v1 (p.nodes.map Prod.fst)∧Own 3 1 Mp.encI w' w.heap.size v2 (p.arcs.map Ar.id)∧Below w.heap.size w w'):=by
 have HN:=hid fun (k:Nat) (hk:k<p.nodes.length) W hb=>hR.node (W:=W) hb hk
 have HA:=hid fun (k:Nat) (hk:k<p.arcs.length) W hb=>hR.arc (W:=W) hb hk
 have hfn:=hR.few.n;have hfa:=hR.few.a;have HX:=hid fun (k:Nat) (hk:k<p.nodes.length)=>eQ (Prod.fst:Nd→Int) hk
 have HY:=hid fun (k:Nat) (hk:k<p.arcs.length)=>eQ Ar.id hk
 clear hR;obtain⟨nodes,arcs,faces⟩:=p;obtain⟨an,aa,af,cn,ca,cf,vs⟩:=m;unfold plV;dsimp only at *;have hn:=Bx.new (t:=26) (cs:=[.slice an nodes.length cn,.slice aa arcs.length ca,.slice af faces.length cf]) w rfl;have hb0:=bw1 w (.cells #[.slice an nodes.length cn,.slice aa arcs.length ca,.slice af faces.length cf] 26);go_enter Tryz.func57,Tryz.ntmps57;go_upto_region 1 with fail;generalize w.alloc (.cells #[.slice an nodes.length cn,.slice aa arcs.length ca,.slice af faces.length cf] 26)=w1 at *;have k0:=hn.cell 0;simp only[gz,gs]at k0;have hl1:=hn.lt;go_wp2_with fail;go_loopw [2,11] (fun v i wr=>∃k:Nat,k≤nodes.length∧i=.int .i64 k∧Hid (Own 3 1 Mp.encI wr w1.heap.size v ((nodes.take k).map Prod.fst))∧Below w1.heap.size w1 wr) (fun _ i _=>nodes.length-(intOf i).toNat)
 case atStart=>exact⟨0,by omega,rfl,hid (Own.nil _ _),Below.refl _ _⟩
 case round=>
  obtain⟨k,hk,rfl,hO,hbr⟩:=hrel;have HBR:=hid hbr;have hsz:=hbr.size
  by_cases hlt:k<nodes.length
  ·have hli:(k:Int)<(nodes.length:Int):=by omega
   obtain⟨b,off,rfl,hbl,c0,c1,c2⟩:=HN.out k hlt wr (hb0.trans (hbr.mono (by omega)));have HXk:=hid (HX.out k hlt);have hN:((nodes.take k).map Prod.fst).length+1≤1000000000000:=by simp;omega
   generalize nodes[k]! = n at *;obtain⟨ni,nx,ny⟩:=n;generalize (nodes.take k).map Prod.fst=L at *;dsimp only at c0 c1 c2;have hOa:=hO.out.alloc (.cells #[ni,nx,ny] 71);have hba:=hbr.trans ((bw1 wr (.cells #[ni,nx,ny] 71)).mono hsz);have hsa:=hba.size;have hxn:=Bx.new (t:=71) (cs:=[.int .i64 ni,.int .i64 nx,.int .i64 ny]) wr rfl;clear hbr;go_upto_region 4 with fail;generalize wr.alloc (.cells #[ni,nx,ny] 71)=wa at *;generalize wr.heap.size=nb at *;have x0:=hxn.cell 0;have xl:=hxn.lt;simp only[gz,gs]at x0;go_wp2_with (at_builtin;refine Tryz.appI hOa ni rfl _ _ rfl rfl rfl hN hsa ?_;intro v9 w9 hO9 hb9);go_roundw
   case rel=>exact⟨k+1,by omega,by go_num,hid (by rw[HXk.out];exact hO9),hba.trans hb9⟩
   case measure=>simp[intOf];omega
  ·obtain rfl:nodes.length=k:=by omega
   have hge:¬((nodes.length:Int)<(nodes.length:Int)):=by omega
   rw[List.take_length]at hO;clear HX HN;have hn2:=hn.below hbr;have k1:=hn2.cell 1;simp only[gz,gs]at k1;have HB2:=hid (hb0.trans (hbr.mono (by omega)));clear hbr k0 hn2;go_wp2_with fail;generalize wr=w2 at *;go_loopw [3,24] (fun v i wq=>∃k:Nat,k≤arcs.length∧i=.int .i64 k∧Hid (Own 3 1 Mp.encI wq w2.heap.size v ((arcs.take k).map Ar.id))∧Below w2.heap.size w2 wq) (fun _ i _=>arcs.length-(intOf i).toNat)
   case atStart=>exact⟨0,by omega,rfl,hid (Own.nil _ _),Below.refl _ _⟩
   case round=>
    obtain⟨k,hk,rfl,hO2,hbq⟩:=hrel;have HBQ:=hid hbq;have hsq:=hbq.size
    by_cases hlt:k<arcs.length
    ·have hli:(k:Int)<(arcs.length:Int):=by omega
     obtain⟨b,off,A,c,rfl,hbl,c0,c1,c2,c3,c4,c5,_⟩:=HA.out k hlt wr (HB2.out.trans (hbq.mono HB2.out.size));have HYk:=hid (HY.out k hlt);have hN:((arcs.take k).map Ar.id).length+1≤1000000000000:=by simp;omega
     generalize arcs[k]! = n at *;obtain⟨ai,afr,ad,av,al,art⟩:=n;generalize (arcs.take k).map Ar.id=L at *;dsimp only at c0 c1 c2 c3 c4 c5;have hOa:=hO2.out.alloc (.cells #[ai,afr,ad,.slice A av.length c,al,art] 58);have hba:=hbq.trans ((bw1 wr (.cells #[ai,afr,ad,.slice A av.length c,al,art] 58)).mono hsq);have hsa:=hba.size;have hxn:=Bx.new (t:=58) (cs:=[.int .i64 ai,.int .i64 afr,.int .i64 ad,.slice A av.length c,.int .i64 al,.int .i64 art]) wr rfl;clear hbq;go_upto_region 9 with fail;generalize wr.alloc (.cells #[ai,afr,ad,.slice A av.length c,al,art] 58)=wa at *;generalize wr.heap.size=nb at *;have x0:=hxn.cell 0;have xl:=hxn.lt;simp only[gz,gs]at x0;go_wp2_with (at_builtin;refine Tryz.appI hOa ai rfl _ _ rfl rfl rfl hN hsa ?_;intro v9 w9 hO9 hb9);go_roundw
     case rel=>exact⟨k+1,by omega,by go_num,hid (by rw[HYk.out];exact hO9),hba.trans hb9⟩
     case measure=>simp[intOf];omega
    ·obtain rfl:arcs.length=k:=by omega
     have hge:¬((arcs.length:Int)<(arcs.length:Int)):=by omega
     rw[List.take_length]at hO2;clear hbq;have HF1:=hid ((hO.out.below HBQ.out).mono (Nat.le_of_lt hl1));have HF2:=hid (hO2.out.mono HB2.out.size);have HF3:=hid (HB2.out.trans (HBQ.out.mono HB2.out.size));go_wp2;refine bodyPost_ret (v:=.tuple #[u2,u3]) (by simp[results,Tryz.results57,go_sem]) rfl ?_;exact⟨_,_,rfl,HF1.out,HF2.out,HF3.out⟩
def PlacedP(p:Pn):Prop:=(∀i,i<p.nodes.length→badP p.nodes[i]!.2=false)∧∀i,i<p.arcs.length→bg badP p.arcs[i]!.via
theorem jT(p:Pn)(m:Mem)(w:World)(hR:PlR w p m):Calls Tryz.prog 60 #[plV p m] w (cX w (PlacedP p)):=by
 have HN:=hid fun (k:Nat) (hk:k<p.nodes.length) W hb=>hR.node (W:=W) hb hk
 have HA:=hid fun (k:Nat) (hk:k<p.arcs.length) W hb=>hR.arc (W:=W) hb hk
 have hfn:=hR.few.n;have hfa:=hR.few.a;have HFV:=hid hR.few.v;have HY:=hid (show(∀i,i<p.nodes.length→badP p.nodes[i]!.2=false)→(∀i,i<p.arcs.length→bg badP p.arcs[i]!.via)→PlacedP p from fun a b=>⟨a,b⟩);have H1:=hid (show ∀i,i<p.nodes.length→badP p.nodes[i]!.2=true→¬PlacedP p from fun i hi h k=>by rw[k.1 i hi]at h;cases h);have H2:=hid (show ∀i,i<p.arcs.length→eV badP p.arcs[i]!.via→¬PlacedP p from fun i hi h k=>fG.1 (k.2 i hi) h);have cW:=hid fun (x y:Int) W=>(show Calls Tryz.prog 92 #[.agg #[x,y]] W (RetV W (.bool (badP (x,y))))from gT (x,y) W)
 have cC:=hid fun A c zs W h hr=>tt A c zs W h hr
 generalize PlacedP p=P at *;clear hR;obtain⟨nodes,arcs,faces⟩:=p;obtain⟨an,aa,af,cn,ca,cf,vs⟩:=m;unfold plV;dsimp only at *;have hn:=Bx.new (t:=26) (cs:=[.slice an nodes.length cn,.slice aa arcs.length ca,.slice af faces.length cf]) w rfl;have hb0:=bw1 w (.cells #[.slice an nodes.length cn,.slice aa arcs.length ca,.slice af faces.length cf] 26);go_enter Tryz.func60,Tryz.ntmps60;go_upto_region 2 with fail;generalize w.alloc (.cells #[.slice an nodes.length cn,.slice aa arcs.length ca,.slice af faces.length cf] 26)=w1 at *;have k0:=hn.cell 0;simp only[gz,gs]at k0;have hl1:=hn.lt;go_wp2_with fail;go_loopw [11] (fun i wr=>∃k:Nat,k≤nodes.length∧i=.int .i64 k∧Hid (∀i,i<k→badP nodes[i]!.2=false)∧Below w1.heap.size w1 wr) (fun i _=>nodes.length-(intOf i).toNat)
 case atStart=>exact⟨0,by omega,rfl,hid (fun i hi=>absurd hi (Nat.not_lt_zero _)),Below.refl _ _⟩
 case round=>
  obtain⟨k,hk,rfl,hO,hbr⟩:=hrel;have HBR:=hid hbr;have hsz:=hbr.size
  by_cases hlt:k<nodes.length
  ·have hli:(k:Int)<(nodes.length:Int):=by omega
   have HBW:=hid (hb0.trans (hbr.mono (by omega)));obtain⟨b,off,rfl,hbl,c0,c1,c2⟩:=HN.out k hlt wr HBW.out;have H1k:=hid (H1.out k hlt)
   have HE:Hid (badP nodes[k]!.2=false→∀i,i<k+1→badP nodes[i]!.2=false):=hid fun h i hi=>by
    by_cases e:i=k
    ·subst e;exact h
    ·exact hO.out i (by omega)
   generalize nodes[k]! = n at *;obtain⟨ni,nx,ny⟩:=n;dsimp only at c0 c1 c2 H1k HE;have cWk:=hid (cW.out nx ny);generalize badP (nx,ny)=bp at *;have hba:=hbr.trans ((bw1 wr (.cells #[ni,nx,ny] 71)).mono hsz);clear hbr;go_wp2_with fail;refine(cWk.out _).mono ?_;rintro e w9 ⟨rfl,hb9⟩;have HB9:=hid (hba.trans (hb9.mono hba.size));cases bp
   ·go_wp2_with fail
    go_roundw
    case rel=>exact⟨k+1,by omega,by go_num,hid (HE.out (by trivial)),HB9.out⟩
    case measure=>simp[intOf];omega
   ·have HP:=hid (H1k.out rfl)
    go_wp2_with fail;go_ret;exact cX.no HP.out (hb0.trans (HB9.out.mono (by omega)))
  ·obtain rfl:nodes.length=k:=by omega
   have hge:¬((nodes.length:Int)<(nodes.length:Int)):=by omega
   have HY2:=hid (HY.out hO.out);clear HN H1 HY hO;have hn2:=hn.below hbr;have k1:=hn2.cell 1;simp only[gz,gs]at k1;have HB2:=hid (hb0.trans (hbr.mono (by omega)));clear hbr k0 hn2;go_wp2_with fail;generalize wr=w2 at *;go_loopw [23] (fun i wq=>∃k:Nat,k≤arcs.length∧i=.int .i64 k∧Hid (∀i,i<k→bg badP arcs[i]!.via)∧Below w2.heap.size w2 wq) (fun i _=>arcs.length-(intOf i).toNat)
   case atStart=>exact⟨0,by omega,rfl,hid (fun i hi=>absurd hi (Nat.not_lt_zero _)),Below.refl _ _⟩
   case round=>
    obtain⟨k,hk,rfl,hO2,hbq⟩:=hrel;have HBQ:=hid hbq;have hsq:=hbq.size;have HBW:=hid (HB2.out.trans (hbq.mono HB2.out.size))
    by_cases hlt:k<arcs.length
    ·have hli:(k:Int)<(arcs.length:Int):=by omega
     obtain⟨b,off,A,c,rfl,hbl,c0,c1,c2,c3,c4,c5,hv1,_⟩:=HA.out k hlt wr HBW.out;have H2k:=hid (H2.out k hlt)
     have HE:Hid (bg badP arcs[k]!.via→∀i,i<k+1→bg badP arcs[i]!.via):=hid fun h i hi=>by
      by_cases e:i=k
      ·subst e;exact h
      ·exact hO2.out i (by omega)
     have hvl:=HFV.out k hlt;generalize arcs[k]! = n at *;obtain⟨ai,afr,ad,av,al,art⟩:=n;dsimp only at c0 c1 c2 c3 c4 c5 hv1 hvl HE H2k;have cCk:=hid (cC.out A c av (wr.alloc (.cells #[ai,afr,ad,.slice A av.length c,al,art] 58)) (by omega) (hv1.alloc _));have hba:=hbq.trans ((bw1 wr (.cells #[ai,afr,ad,.slice A av.length c,al,art] 58)).mono hsq);clear hbq hv1;go_wp2_with fail;refine cCk.out.mono ?_;rintro e w9 ⟨b9,rfl,hb9,hr⟩;have HR:=hid hr;have HB9:=hid (hba.trans (hb9.mono hba.size));clear hr cCk;cases b9
     ·have HNo:=hid (fG.2 fun h=>by have:=HR.out.2 h;cases this)
      go_wp2_with fail;go_roundw
      case rel=>exact⟨k+1,by omega,by go_num,hid (HE.out HNo.out),HB9.out⟩
      case measure=>simp[intOf];omega
     ·have HP:=hid (H2k.out (HR.out.1 rfl))
      go_wp2_with fail;go_ret;exact cX.no HP.out (HB2.out.trans (HB9.out.mono HB2.out.size))
    ·obtain rfl:arcs.length=k:=by omega
     have hge:¬((arcs.length:Int)<(arcs.length:Int)):=by omega
     have HP:=hid (HY2.out hO2.out);clear hbq;go_wp2;go_ret;exact cX.yes HP.out HBW.out
end Go.Proofs
namespace Go.Proofs
open Go.RowKit Go.Proofs.Mp Go.Lib
theorem sp(A:Option Addr)(c:Nat)(zs:List Int)(x:Int)(w:World)(hmax:zs.length≤1000000000)(hR:RdI w A zs):Calls Tryz.prog 94 #[.slice A zs.length c,x] w (RetV w (.bool (zs.contains x))):=by
 by_cases h0:zs=[]
 ·subst h0
  exact(Tryz.slices_Contains_int_empty A c x w).mono fun e w' ⟨h1,h2⟩=>by subst h2;exact⟨h1,Below.refl _ _⟩
 ·obtain⟨b,off,rfl,hbl,hc⟩:=RdI.getAll hR (Below.refl _ _) (j:=0) (List.length_pos_iff.2 h0)
  refine(Tryz.slices_Contains_int b off zs.length c zs x w (Nat.le_refl _) (by omega) (fun j hj=>by rw[hc j hj];simp[List.getD_eq_getElem?_getD,hj])).mono fun e w' ⟨h1,h2⟩=>?_
  subst h2;rw[List.take_length]at h1;exact⟨h1,Below.refl _ _⟩
theorem Tryz.index170(a b:Int)(W:World):(Instr.index 170 (.agg #[a,b]) (.int .i64 0)).run Tryz.prog W=.ok (.int .i64 a) W∧(Instr.index 170 (.agg #[a,b]) (.int .i64 1)).run Tryz.prog W=.ok (.int .i64 b) W:=by
 have u:=Tryz.underlying170;have u3:=Tryz.underlying3;have z:=Tryz.sizeOf3;have ag:=Tryz.isAgg3;refine⟨?_,?_⟩
 all_goals
  simp[Instr.index,run_underlying u,asIntOf,go_sem]
def sL(ns:List Nd):Prop:=∀i j,i<ns.length→j<i→ns[i]!.2≠ns[j]!.2
def okF(fs:List Int)(f:Int):Bool:=f==0||fs.contains f
def okE(ids:List Int)(a:Ar):Bool:=ids.contains a.frm&&ids.contains a.dst
def okS(fs:List Int)(a:Ar):Bool:=okF fs a.lf&&okF fs a.rt
def ConnP(p:Pn)(ids:List Int):Prop:=sL p.nodes∧(∀i,i<p.arcs.length→okE ids p.arcs[i]! = true)∧∀i,i<p.arcs.length→okS p.faces p.arcs[i]! = true
def aV(w:World)(P:Prop)(en:Ending)(w':World):Prop:=∃n:Int,en=.returned (.int .i64 n)∧(n=0↔P)∧Below w.heap.size w w'
theorem aV.yes{w w':World}{P:Prop}(h:P)(hb:Below w.heap.size w w'):aV w P (.returned (.int .i64 0)) w':=⟨0,rfl,⟨fun _=>h,fun _=>rfl⟩,hb⟩
theorem aV.no{w w':World}{P:Prop}{n:Int}(hn:n≠0)(h:¬P)(hb:Below w.heap.size w w'):aV w P (.returned (.int .i64 n)) w':=⟨n,rfl,⟨fun e=>absurd e hn,fun e=>absurd e h⟩,hb⟩
theorem gU(p:Pn)(m:Mem)(ids:List Int)(AI:Option Addr)(cI:Nat)(w:World)(hR:PlR w p m)(hI:RdI w AI ids)(hIm:ids.length≤1000000):Calls Tryz.prog 61 #[plV p m,.slice AI ids.length cI] w (aV w (ConnP p ids)):=by
 have HN:=hid fun (k:Nat) (hk:k<p.nodes.length) W hb=>hR.node (W:=W) hb hk
 have HA:=hid fun (k:Nat) (hk:k<p.arcs.length) W hb=>hR.arc (W:=W) hb hk
 have hfn:=hR.few.n;have hfa:=hR.few.a;have hff:=hR.few.f;have hcn:=hR.cn;have cF:=hid fun x W (hb:Below w.heap.size w W)=>sp m.af m.cf p.faces x W (by omega) (hR.fc.below hb)
 have cE:=hid fun x W (hb:Below w.heap.size w W)=>sp AI cI ids x W (by omega) (hI.below hb)
 have HY:=hid (show sL p.nodes→(∀i,i<p.arcs.length→okE ids p.arcs[i]! = true)→(∀i,i<p.arcs.length→okS p.faces p.arcs[i]! = true)→ConnP p ids from fun a b c=>⟨a,b,c⟩);have H1:=hid (show ∀i j,i<p.nodes.length→j<i→p.nodes[i]!.2=p.nodes[j]!.2→¬ConnP p ids from fun i j hi hj h k=>k.1 i j hi hj h);have H2:=hid (show ∀i,i<p.arcs.length→okE ids p.arcs[i]! = false→¬ConnP p ids from fun i hi h k=>by rw[k.2.1 i hi]at h;cases h);have H3:=hid (show ∀i,i<p.arcs.length→okS p.faces p.arcs[i]! = false→¬ConnP p ids from fun i hi h k=>by rw[k.2.2 i hi]at h;cases h);generalize ConnP p ids=P at *;clear hR hI;obtain⟨nodes,arcs,faces⟩:=p;obtain⟨an,aa,af,cn,ca,cf,vs⟩:=m;unfold plV;dsimp only at *;have hn:=Bx.new (t:=26) (cs:=[.slice an nodes.length cn,.slice aa arcs.length ca,.slice af faces.length cf]) w rfl;have hb0:=bw1 w (.cells #[.slice an nodes.length cn,.slice aa arcs.length ca,.slice af faces.length cf] 26);go_enter Tryz.func61,Tryz.ntmps61;go_upto_region 1 with fail;generalize w.alloc (.cells #[.slice an nodes.length cn,.slice aa arcs.length ca,.slice af faces.length cf] 26)=w1 at *;have k0:=hn.cell 0;simp only[gz,gs]at k0;have hl1:=hn.lt;go_wp2_with fail;go_loopw [18] (fun i wr=>∃k:Nat,k≤nodes.length∧i=.int .i64 k∧Hid (∀i j,i<k→j<i→nodes[i]!.2≠nodes[j]!.2)∧Below w1.heap.size w1 wr) (fun i _=>nodes.length-(intOf i).toNat)
 case atStart=>exact⟨0,by omega,rfl,hid (fun i j hi=>absurd hi (Nat.not_lt_zero _)),Below.refl _ _⟩
 case round=>
  obtain⟨k,hk,rfl,hO,hbr⟩:=hrel;have HBR:=hid hbr;have hsz:=hbr.size;have HBW:=hid (hb0.trans (hbr.mono (by omega)))
  by_cases hlt:k<nodes.length
  ·have hli:(k:Int)<(nodes.length:Int):=by omega
   obtain⟨b,off,rfl,hbl,c0,c1,c2⟩:=HN.out k hlt wr HBW.out;have H1k:=hid (fun j hj h=>H1.out k j hlt hj h)
   have HE:Hid ((∀j,j<k→nodes[k]!.2≠nodes[j]!.2)→∀i j,i<k+1→j<i→nodes[i]!.2≠nodes[j]!.2):=hid fun h i j hi hj=>by
    by_cases e:i=k
    ·subst e;exact h j hj
    ·exact hO.out i j (by omega) hj
   generalize hnk:nodes[k]! = n at *;clear hnk;obtain⟨ni,nx,ny⟩:=n;dsimp only at c0 c1 c2 H1k HE;have hba:=hbr.trans ((bw1 wr (.cells #[ni,nx,ny] 71)).mono hsz);have hxn:=Bx.new (t:=71) (cs:=[.int .i64 ni,.int .i64 nx,.int .i64 ny]) wr rfl;have hnb:=(hn.below hbr).alloc (.cells #[ni,nx,ny] 71);clear hbr;go_upto_region 4 with fail;generalize wr.alloc (.cells #[ni,nx,ny] 71)=wa at *;generalize wr.heap.size=nb at *;have k1:=hnb.cell 0;simp only[gz,gs]at k1;have hsa:=hba.size;have HNA:=hid hba;have hkc:k≤cn:=by omega
   have hkc2:(k:Int)≤(cn:Int):=by omega
   clear hba;go_wp2_with fail;go_loopw [28] (fun i wq=>∃j:Nat,j≤k∧i=.int .i64 j∧Hid (∀q,q<j→(nx,ny)≠nodes[q]!.2)∧Below wa.heap.size wa wq) (fun i _=>k-(intOf i).toNat)
   case atStart=>exact⟨0,by omega,rfl,hid (fun i hi=>absurd hi (Nat.not_lt_zero _)),Below.refl _ _⟩
   case round=>
    obtain⟨j,hj,rfl,hO2,hbq⟩:=hrel;have HBQ:=hid (HNA.out.trans (hbq.mono hsa));have HBQW:=hid (hb0.trans (HBQ.out.mono (by omega)));have hsq:=hbq.size
    by_cases hlj:j<k
    ·have hlji:(j:Int)<(k:Int):=by omega
     obtain⟨b',off',hbe,hbl',d0,d1,d2⟩:=HN.out j (by omega) wr HBQW.out;injection hbe with hbe;injection hbe with e1 e2;subst e1 e2;have H1j:=hid (H1k.out j hlj)
     have HE2:Hid ((nx,ny)≠nodes[j]!.2→∀q,q<j+1→(nx,ny)≠nodes[q]!.2):=hid fun h q hq=>by
      by_cases e:q=j
      ·subst e;exact h
      ·exact hO2.out q (by omega)
     generalize nodes[j]! = n2 at *;obtain⟨mi,mx,my⟩:=n2;dsimp only at d0 d1 d2 H1j HE2;have hxq:=(hxn.below hbq).alloc (.cells #[mi,mx,my] 71);have hxm:=Bx.new (t:=71) (cs:=[.int .i64 mi,.int .i64 mx,.int .i64 my]) wr rfl;have hbq2:=hbq.trans ((bw1 wr (.cells #[mi,mx,my] 71)).mono hsq);clear hbq;go_upto_region 7 with fail;generalize wr.alloc (.cells #[mi,mx,my] 71)=wb at *;generalize wr.heap.size=mb at *;have x1:=hxq.cell 1;have x2:=hxq.cell 2;have y1:=hxm.cell 1;have y2:=hxm.cell 2;simp only[gz,gs]at x1 x2 y1 y2;have hG:=Tryz.guard30;have hEq:=fun W=>Tryz.eql30 nx ny mx my W
     have HB9:=hid (HNA.out.trans (hbq2.mono hsa));have HB8:=hid hbq2;clear hbq2
     by_cases he:((nx,ny):Int×Int)=(mx,my)
     ·have HP:=hid (H1j.out he)
      rw[decide_eq_true he]at hEq;clear he;go_wp2_with fail;go_ret;exact aV.no (by decide) HP.out (hb0.trans (HB9.out.mono (by omega)))
     ·have HQ:=hid (HE2.out he)
      rw[decide_eq_false he]at hEq;clear he;go_wp2_with fail;go_roundw
      case rel=>exact⟨j+1,by omega,by go_num,HQ,HB8.out⟩
      case measure=>simp[intOf];omega
    ·obtain rfl:k=j:=by omega
     have hge:¬((k:Int)<(k:Int)):=by omega
     have HQ:=hid (HE.out hO2.out);clear hbq;go_wp2_with fail;go_roundw
     case rel=>exact⟨k+1,by omega,by go_num,HQ,HBQ.out⟩
     case measure=>simp[intOf];omega
  ·obtain rfl:nodes.length=k:=by omega
   have hge:¬((nodes.length:Int)<(nodes.length:Int)):=by omega
   have HY2:=hid (HY.out (fun i j hi hj=>hO.out i j hi hj));have hn2:=hn.below hbr;have k1:=hn2.cell 1;have l2:=hn2.lt;simp only[gz,gs]at k1;clear HN H1 HY hO hbr k0 hn;go_wp2_with fail;generalize wr=w2 at *;go_loopw [42] (fun i wq=>∃k:Nat,k≤arcs.length∧i=.int .i64 k∧Hid (∀i,i<k→okE ids arcs[i]! = true)∧Below w2.heap.size w2 wq) (fun i _=>arcs.length-(intOf i).toNat)
   case atStart=>exact⟨0,by omega,rfl,hid (fun i hi=>absurd hi (Nat.not_lt_zero _)),Below.refl _ _⟩
   case round=>
    obtain⟨k,hk,rfl,hO2,hbq⟩:=hrel;have HBQ:=hid hbq;have hsq:=hbq.size;have HBW2:=hid (HBW.out.trans (hbq.mono HBW.out.size))
    by_cases hlt:k<arcs.length
    ·have hli:(k:Int)<(arcs.length:Int):=by omega
     obtain⟨b,off,A,c,rfl,hbl,c0,c1,c2,c3,c4,c5,hv1,_⟩:=HA.out k hlt wr HBW2.out;have H2k:=hid (H2.out k hlt)
     have HE:Hid (okE ids arcs[k]! = true→∀i,i<k+1→okE ids arcs[i]! = true):=hid fun h i hi=>by
      by_cases e:i=k
      ·subst e;exact h
      ·exact hO2.out i (by omega)
     generalize hnk:arcs[k]! = n at *;clear hnk;obtain⟨ai,afr,ad,av,al,art⟩:=n;dsimp only at c0 c1 c2 c3 c4 c5;have hxa:=Bx.new (t:=58) (cs:=[.int .i64 ai,.int .i64 afr,.int .i64 ad,.slice A av.length c,.int .i64 al,.int .i64 art]) wr rfl;have hba:=hbq.trans ((bw1 wr (.cells #[ai,afr,ad,.slice A av.length c,al,art] 58)).mono hsq);clear hbq hv1;go_upto_region 14 with fail;generalize wr.alloc (.cells #[ai,afr,ad,.slice A av.length c,al,art] 58)=wa at *;generalize wr.heap.size=nb at *;have x1:=hxa.cell 1;have x2:=hxa.cell 2;simp only[gz,gs]at x1 x2;have HOK:=hid (show okE ids ⟨ai,afr,ad,av,al,art⟩=(ids.contains afr&&ids.contains ad)from rfl);have HBA:=hid hba;have HBAW:=hid (HBW.out.trans (hba.mono HBW.out.size));have cE1:=hid (cE.out afr);have cE2:=hid (cE.out ad);generalize okE ids ⟨ai,afr,ad,av,al,art⟩=r at *;generalize ids.contains afr=r1 at *;generalize ids.contains ad=r2 at *;clear hba;go_wp2_with fail;refine(cE1.out _ HBAW.out).mono ?_;rintro e w9 ⟨rfl,hb9⟩;cases r1
     ·have HP:=hid (H2k.out HOK.out)
      go_wp2_with fail;go_ret;exact aV.no (by decide) HP.out (HBAW.out.trans (hb9.mono HBAW.out.size))
     ·have hx9:=hxa.below hb9
      clear x1 x2;have x2:=hx9.cell 2;simp only[gz,gs]at x2;have HB9:=hid (HBA.out.trans (hb9.mono HBA.out.size));have HB9W:=hid (HBAW.out.trans (hb9.mono HBAW.out.size));clear hb9 hx9;go_wp2_with fail;refine(cE2.out _ HB9W.out).mono ?_;rintro e w10 ⟨rfl,hb10⟩;have HB10:=hid (HB9.out.trans (hb10.mono HB9.out.size));have HB10W:=hid (HB9W.out.trans (hb10.mono HB9W.out.size));clear hb10;cases r2
      ·have HP:=hid (H2k.out HOK.out)
       go_wp2_with fail;go_ret;exact aV.no (by decide) HP.out HB10W.out
      ·have HQ:=hid (HE.out HOK.out)
       go_wp2_with fail;go_roundw
       case rel=>exact⟨k+1,by omega,by go_num,HQ,HB10.out⟩
       case measure=>simp[intOf];omega
    ·obtain rfl:arcs.length=k:=by omega
     have hge:¬((arcs.length:Int)<(arcs.length:Int)):=by omega
     have HY3:=hid (HY2.out hO2.out);have hn3:=hn2.below hbq;have k1':=hn3.cell 1;have l3:=hn3.lt;simp only[gz,gs]at k1';clear H2 HY2 hO2 hbq k1 hn2 cE;go_wp2_with fail;generalize wr=w3 at *;go_loopw [62] (fun i wq=>∃k:Nat,k≤arcs.length∧i=.int .i64 k∧Hid (∀i,i<k→okS faces arcs[i]! = true)∧Below w3.heap.size w3 wq) (fun i _=>arcs.length-(intOf i).toNat)
     case atStart=>exact⟨0,by omega,rfl,hid (fun i hi=>absurd hi (Nat.not_lt_zero _)),Below.refl _ _⟩
     case round=>
      obtain⟨k,hk,rfl,hO2,hbq⟩:=hrel;have HBQ:=hid hbq;have hsq:=hbq.size;have HBW3:=hid (HBW2.out.trans (hbq.mono HBW2.out.size))
      by_cases hlt:k<arcs.length
      ·have hli:(k:Int)<(arcs.length:Int):=by omega
       obtain⟨b,off,A,c,rfl,hbl,c0,c1,c2,c3,c4,c5,hv1,_⟩:=HA.out k hlt wr HBW3.out;have H3k:=hid (H3.out k hlt)
       have HE:Hid (okS faces arcs[k]! = true→∀i,i<k+1→okS faces arcs[i]! = true):=hid fun h i hi=>by
        by_cases e:i=k
        ·subst e;exact h
        ·exact hO2.out i (by omega)
       generalize hnk:arcs[k]! = n at *;clear hnk;obtain⟨ai,afr,ad,av,al,art⟩:=n;dsimp only at c0 c1 c2 c3 c4 c5;have hxa:=Bx.new (t:=58) (cs:=[.int .i64 ai,.int .i64 afr,.int .i64 ad,.slice A av.length c,.int .i64 al,.int .i64 art]) wr rfl;have hba:=hbq.trans ((bw1 wr (.cells #[ai,afr,ad,.slice A av.length c,al,art] 58)).mono hsq);have hnq:=(hn3.below hbq).alloc (.cells #[ai,afr,ad,.slice A av.length c,al,art] 58);clear hbq hv1;go_upto_region 20 with fail;generalize wr.alloc (.cells #[ai,afr,ad,.slice A av.length c,al,art] 58)=wa at *;generalize wr.heap.size=nb at *;have x1:=hxa.cell 4;have x2:=hxa.cell 5;simp only[gz,gs]at x1 x2;have HOK:=hid (show okS faces ⟨ai,afr,ad,av,al,art⟩=(okF faces al&&okF faces art)from rfl);have HO1:=hid (show okF faces al=(al==0||faces.contains al)from rfl);have HO2:=hid (show okF faces art=(art==0||faces.contains art)from rfl);have HBA:=hid hba;have HBAW:=hid (HBW2.out.trans (hba.mono HBW2.out.size));have cF1:=hid (cF.out al);have cF2:=hid (cF.out art);generalize okS faces ⟨ai,afr,ad,av,al,art⟩=r at *;generalize okF faces al=r1 at *;generalize okF faces art=r2 at *;generalize faces.contains al=q1 at *;generalize faces.contains art=q2 at *;have hix:=fun W=>Tryz.index170 al art W
       clear hba;go_wp2_with fail;go_loopw [71] (fun i wz=>∃j:Nat,j≤2∧i=.int .i64 j∧Hid ((1≤j→r1=true)∧(2≤j→r2=true))∧Below wa.heap.size wa wz) (fun i _=>2-(intOf i).toNat)
       case atStart=>exact⟨0,by omega,rfl,hid ⟨fun h=>by omega,fun h=>by omega⟩,Below.refl _ _⟩
       case round=>
        obtain⟨j,hj,rfl,HJ,hbz⟩:=hrel
        match j,hj with
        | 0,hj=>
         have hn5:=hnq.below hbz;have z0:=hn5.cell 2;simp only[gz,gs]at z0;have HBZ:=hid (HBAW.out.trans (hbz.mono HBAW.out.size));have HBZ0:=hid hbz;clear hbz hn5 hj
         by_cases he:al=0
         ·subst he
          obtain rfl:r1=true:=by rw[HO1.out];rfl
          go_wp2_with fail;go_roundw
          case rel=>exact⟨1,by omega,by go_num,hid ⟨fun _=>by trivial,fun h=>by omega⟩,HBZ0.out⟩
          case measure=>simp[intOf]
         ·have hne:(al != 0)=true:=by simp[he]
          have hne2:(al==0)=false:=by simp[he]
          obtain rfl:r1=q1:=by rw[HO1.out,hne2,Bool.false_or]
          clear hne2;go_wp2_with fail;refine(cF1.out _ HBZ.out).mono ?_;rintro e w9 ⟨rfl,hb9⟩;have HB9:=hid (HBZ0.out.trans (hb9.mono HBZ0.out.size));have HB9W:=hid (HBZ.out.trans (hb9.mono HBZ.out.size));clear hb9;cases r1
          ·have HP:=hid (H3k.out (by rw[HOK.out];simp))
           go_wp2_with fail;go_ret;exact aV.no (by decide) HP.out HB9W.out
          ·go_wp2_with fail
           go_roundw
           case rel=>exact⟨1,by omega,by go_num,hid ⟨fun _=>by trivial,fun h=>by omega⟩,HB9.out⟩
           case measure=>simp[intOf]
        | 1,hj=>
         obtain⟨hj1,_⟩:=HJ.out;obtain rfl:r1=true:=hj1 (Nat.le_refl _);have hn5:=hnq.below hbz;have z0:=hn5.cell 2;simp only[gz,gs]at z0;have HBZ:=hid (HBAW.out.trans (hbz.mono HBAW.out.size));have HBZ0:=hid hbz;clear hbz hn5 hj
         by_cases he:art=0
         ·subst he
          obtain rfl:r2=true:=by rw[HO2.out];rfl
          go_wp2_with fail;go_roundw
          case rel=>exact⟨2,by omega,by go_num,hid ⟨fun _=>by trivial,fun _=>by trivial⟩,HBZ0.out⟩
          case measure=>simp[intOf]
         ·have hne:(art != 0)=true:=by simp[he]
          have hne2:(art==0)=false:=by simp[he]
          obtain rfl:r2=q2:=by rw[HO2.out,hne2,Bool.false_or]
          clear hne2;go_wp2_with fail;refine(cF2.out _ HBZ.out).mono ?_;rintro e w9 ⟨rfl,hb9⟩;have HB9:=hid (HBZ0.out.trans (hb9.mono HBZ0.out.size));have HB9W:=hid (HBZ.out.trans (hb9.mono HBZ.out.size));clear hb9;cases r2
          ·have HP:=hid (H3k.out (by rw[HOK.out];simp))
           go_wp2_with fail;go_ret;exact aV.no (by decide) HP.out HB9W.out
          ·go_wp2_with fail
           go_roundw
           case rel=>exact⟨2,by omega,by go_num,hid ⟨fun _=>by trivial,fun _=>by trivial⟩,HB9.out⟩
           case measure=>simp[intOf]
        | 2,hj=>
         obtain⟨hj1,hj2⟩:=HJ.out;obtain rfl:r1=true:=hj1 (by omega);obtain rfl:r2=true:=hj2 (Nat.le_refl _);have HQ:=hid (HE.out HOK.out);have HBZ:=hid (HBA.out.trans (hbz.mono HBA.out.size));clear hbz hj;go_wp2_with fail;go_roundw
         case rel=>exact⟨k+1,by omega,by go_num,HQ,HBZ.out⟩
         case measure=>simp[intOf];omega
      ·obtain rfl:arcs.length=k:=by omega
       have hge:¬((arcs.length:Int)<(arcs.length:Int)):=by omega
       have HP:=hid (HY3.out hO2.out);clear hbq;go_wp2;go_ret;exact aV.yes HP.out HBW3.out
end Go.Proofs
namespace Go.Proofs
open Go.RowKit Go.Proofs.Mp Go.Lib
def dY(t:TypeId)(B:Nat)(w:World)(pv:Value)(cs:List Value):Prop:=∃g,pv=.pointer (some ⟨g,0,none⟩)∧B≤g∧Bx w g t cs
section
variable {t:TypeId}{B:Nat}{w w':World}{pv:Value}{cs:List Value}
theorem dY.below(h:dY t B w pv cs)(hb:Below w.heap.size w w'):dY t B w' pv cs:=by
 obtain⟨g,e,h1,h2⟩:=h;exact⟨g,e,h1,h2.below hb⟩
theorem dY.new{c:Array Value}(w:World)(hB:B≤w.heap.size)(hc:c=cs.toArray):dY t B (w.alloc (.cells c t)) (.pointer (some ⟨w.heap.size,0,none⟩)) cs:=⟨_,rfl,hB,Bx.new w hc⟩
theorem dY.store{ops:Array Oper}{o:Oper}{a:Act}{K:Act→World→Prop}{Q:Exit→Act→World→Prop}{E:Prop}{k:Nat}(h:dY t B w pv cs)(cs':List Value)(hsz:(Tryz.prog.info? t).map (·.size)=some k)(hk:cs.length=k)(hk':cs'.length=k)
  (h1:cs'.toArray.all (·.oneCell')=true)(hgd:o.guard=none)(X Y:Operand)(ho:o.op=.store t X Y)
  (hx:a.eval X=pv)(hy:a.eval Y=.agg cs'.toArray)(hK:∀w',dY t B w' pv cs'→Below B w w'→K (a.put o.dst undef) w') :
  if Region.wanted o (yielded ops a.tmps)=true then Oper.wp Tryz.prog o a w K Q else E:=by
 have hw:Region.wanted o (yielded ops a.tmps)=true:=by simp[Region.wanted,hgd]
 rw[if_pos hw];obtain⟨g,rfl,h2,h3⟩:=h;have hst:=run_storeVar_row (P:=Tryz.prog) w g t t cs.toArray cs'.toArray h3 (by simpa [hk'] using hsz) (by simp[hk,hk']) h1;unfold Oper.wp execOp;simp only[ho,hx,hy,Instr.storeAt,Instr.sureAddr,Sem.run_bind,Sem.run_pure,Result.andThen_ok,hst];exact hK _ ⟨g,rfl,h2,setRow_heap _ _ _ _ _ _ h3⟩ (below_setRow (Below.refl _ _) h2 _)
end
end Go.Proofs
namespace Go.Proofs
def keyP(p:Pt):Int:=p.1*8388608+p.2
theorem rB{a b:Pt}(ha:Nr a)(hb:Nr b):befB a b=true↔keyP a<keyP b:=by
 obtain⟨a1,a2⟩:=a;obtain⟨b1,b2⟩:=b;unfold Nr at ha hb;unfold befB keyP;rw[decide_eq_true_eq];dsimp only at *;omega
theorem de{a b:Pt}(ha:Nr a)(hb:Nr b):a=b↔keyP a=keyP b:=by
 obtain⟨a1,a2⟩:=a;obtain⟨b1,b2⟩:=b;unfold Nr at ha hb;unfold keyP;rw[Prod.mk.injEq];dsimp only at *;omega
theorem bM{u t:Int}(hu:0<u)(h:0≤u*t):0≤t:=by
 rcases Int.lt_or_le t 0 with g|g
 ·have:=Int.mul_neg_of_pos_of_neg hu g;omega
 ·exact g
theorem km{u v s t:Int}(hu:0<u)(h:u*t=v*s)(h0:0≤s)(h1:s≤u):(0≤v→0≤t∧t≤v)∧(v≤0→v≤t∧t≤0):=by
 have e:u*(v-t)=v*(u-s):=by grind
 constructor
 ·intro hv
  refine⟨bM hu (by rw[h];exact Int.mul_nonneg hv h0),?_⟩;have:=bM (t:=v-t) hu (by rw[e];exact Int.mul_nonneg hv (by omega));omega
 ·intro hv
  have e2:u*(-t)=(-v)*s:=by grind
  have e3:u*(t-v)=(-v)*(u-s):=by grind
  have h2:=bM (t:=-t) hu (by rw[e2];exact Int.mul_nonneg (by omega) h0);have h3:=bM (t:=t-v) hu (by rw[e3];exact Int.mul_nonneg (by omega) (by omega));omega
theorem kn{u v s t:Int}(hu:u≠0)(h:u*t=v*s):(s=0→t=0)∧(s=u→t=v):=by
 constructor
 ·intro hs
  subst hs;rw[Int.mul_zero]at h
  rcases Int.mul_eq_zero.1 h with h|h
  ·exact absurd h hu
  ·exact h
 ·intro hs
  subst hs;rw[Int.mul_comm v s]at h;exact Int.eq_of_mul_eq_mul_left hu h
theorem ek{x y p:Pt}(hx:Nr x)(hy:Nr y)(hp:Nr p)(hne:x≠y)(h:tw x y p=0) :
  inBx x y p↔(keyP x≤keyP p∧keyP p≤keyP y)∨(keyP y≤keyP p∧keyP p≤keyP x):=by
 obtain⟨x1,x2⟩:=x;obtain⟨y1,y2⟩:=y;obtain⟨p1,p2⟩:=p;unfold Nr at hx hy hp;unfold tw at h;unfold inBx keyP;rw[Ne,Prod.mk.injEq]at hne;dsimp only at *;have h':(y1-x1)*(p2-x2)=(y2-x2)*(p1-x1):=by omega
 obtain⟨u,hu⟩:∃u,y1-x1=u:=⟨_,rfl⟩;obtain⟨v,hv⟩:∃v,y2-x2=v:=⟨_,rfl⟩;obtain⟨s,hs⟩:∃s,p1-x1=s:=⟨_,rfl⟩;obtain⟨t,ht⟩:∃t,p2-x2=t:=⟨_,rfl⟩;rw[hu,hv,hs,ht]at h'
 rcases Int.lt_trichotomy u 0 with hu0|hu0|hu0
 ·have e:=kn (by omega:u≠0) h'
  have m:0≤-s→-s≤-u→_:=fun a b=>km (u:=-u) (v:=-v) (s:=-s) (t:=-t) (by omega) (by grind) a b
  by_cases c1:s≤0
  ·by_cases c2:u≤s
   ·have:=m (by omega) (by omega)
    omega
   ·omega
  ·omega
 ·have hv0:v≠0:=by omega
  subst hu0;rw[Int.zero_mul]at h'
  have hs0:s=0:=by
   rcases Int.mul_eq_zero.1 h'.symm with g|g
   ·exact absurd g hv0
   ·exact g
  omega
 ·have e:=kn (by omega:u≠0) h'
  by_cases c1:0≤s
  ·by_cases c2:s≤u
   ·have:=km hu0 h' c1 c2
    omega
   ·omega
  ·omega
theorem fH{a b c d:Pt}(hab:a≠b)(h1:tw a b c=0)(h2:tw a b d=0):tw c d a=0∧tw c d b=0:=by
 obtain⟨a1,a2⟩:=a;obtain⟨b1,b2⟩:=b;obtain⟨c1,c2⟩:=c;obtain⟨d1,d2⟩:=d;unfold tw at *;rw[Ne,Prod.mk.injEq]at hab;dsimp only at *
 have k:(c1-a1)*(d2-a2)-(c2-a2)*(d1-a1)=0:=by
  have e1:(b1-a1)*((c1-a1)*(d2-a2)-(c2-a2)*(d1-a1))=0:=by grind
  have e2:(b2-a2)*((c1-a1)*(d2-a2)-(c2-a2)*(d1-a1))=0:=by grind
  rcases Int.mul_eq_zero.1 e1 with g|g
  ·rcases Int.mul_eq_zero.1 e2 with g2|g2
   ·omega
   ·exact g2
  ·exact g
 constructor
 ·grind
 ·grind
theorem b7{x y:Int}:x*y≤0↔(x≤0∧0≤y)∨(0≤x∧y≤0):=by
 constructor
 ·intro h
  rcases Int.lt_trichotomy x 0 with hx|hx|hx
  ·rcases Int.lt_or_le y 0 with hy|hy
   ·have:=Int.mul_pos_of_neg_of_neg hx hy;omega
   ·omega
  ·omega
  ·rcases Int.lt_or_le 0 y with hy|hy
   ·have:=Int.mul_pos hx hy;omega
   ·omega
 ·rintro (⟨h1,h2⟩|⟨h1,h2⟩)
  ·have:=Int.mul_nonneg (show 0≤-x by omega) h2
   rw[Int.neg_mul]at this;omega
  ·have:=Int.mul_nonneg h1 (show 0≤-y by omega)
   rw[Int.mul_neg]at this;omega
theorem eD(x:Int):0≤x*x:=by
 rcases Int.lt_or_le x 0 with h|h
 ·exact Int.le_of_lt (Int.mul_pos_of_neg_of_neg h h)
 ·exact Int.mul_nonneg h h
theorem iF{p q u v:Int}(h:p*v=q*u)(hpq:0<p*q)(huv:u*v≤0):u=0∧v=0:=by
 have hq:q≠0:=by rintro rfl;simp at hpq
 have hp:p≠0:=by rintro rfl;simp at hpq
 have e:(p*q)*(u*v)=(q*u)*(q*u):=by grind
 have h1:=eD (q*u);have h2:(p*q)*(u*v)≤0:=b7.2 (.inr ⟨by omega,huv⟩);have h3:(q*u)*(q*u)=0:=by omega
 have h4:q*u=0:=by rcases Int.mul_eq_zero.1 h3 with g|g<;>exact g
 have h5:u=0:=by
  rcases Int.mul_eq_zero.1 h4 with g|g
  ·exact absurd g hq
  ·exact g
 refine⟨h5,?_⟩;rw[h4]at h
 rcases Int.mul_eq_zero.1 h with g|g
 ·exact absurd g hp
 ·exact g
theorem iG{p q u v:Int}(h:p*v=q*u)(hpq:p*q≤0)(hne:¬(p=0∧q=0)):u*v≤0:=by
 rcases Int.lt_trichotomy (p*q) 0 with g|g|g
 ·have e:(p*q)*(u*v)=(q*u)*(q*u):=by grind
  have h1:=eD (q*u)
  rcases Int.lt_or_le 0 (u*v)with k|k
  ·have:=Int.mul_neg_of_neg_of_pos g k
   omega
  ·exact k
 ·rcases Int.mul_eq_zero.1 g with g|g
  ·subst g
   have hq:q≠0:=fun e=>hne ⟨rfl,e⟩
   rw[Int.zero_mul]at h
   rcases Int.mul_eq_zero.1 h.symm with k|k
   ·exact absurd k hq
   ·subst k;simp
  ·subst g
   have hp:p≠0:=fun e=>hne ⟨e,rfl⟩
   rw[Int.zero_mul]at h
   rcases Int.mul_eq_zero.1 h with k|k
   ·exact absurd k hp
   ·subst k;simp
 ·omega
theorem dg{a b c d:Pt}(hab:a≠b)(h1:tw a b c=0)(h2:tw a b d≠0):inBx a b c↔tw c d a*tw c d b≤0:=by
 obtain⟨a1,a2⟩:=a;obtain⟨b1,b2⟩:=b;obtain⟨c1,c2⟩:=c;obtain⟨d1,d2⟩:=d;rw[Ne,Prod.mk.injEq]at hab;unfold tw at *;unfold inBx;dsimp only at *;obtain⟨p,hp⟩:∃p,(d1-c1)*(a2-c2)-(d2-c2)*(a1-c1)=p:=⟨_,rfl⟩;obtain⟨q,hq⟩:∃q,(d1-c1)*(b2-c2)-(d2-c2)*(b1-c1)=q:=⟨_,rfl⟩;have e1:p*(b1-c1)=q*(a1-c1):=by rw[←hp,←hq];grind
 have e2:p*(b2-c2)=q*(a2-c2):=by rw[←hp,←hq];grind
 have e3:¬(p=0∧q=0):=by
  rintro⟨g1,g2⟩;apply h2;rw[←hp]at g1;rw[←hq]at g2;grind
 rw[hp,hq];clear hp hq h1 h2;have m1:=@b7 (a1-c1) (b1-c1);have m2:=@b7 (a2-c2) (b2-c2);constructor
 ·intro h
  rcases Int.lt_or_le 0 (p*q)with g|g
  ·have k1:=iF e1 g (m1.2 (by omega))
   have k2:=iF e2 g (m2.2 (by omega));omega
  ·exact g
 ·intro h
  have k1:=m1.1 (iG e1 h e3);have k2:=m2.1 (iG e2 h e3);omega
theorem eW(x y:Int):(sg x*sg y≤0↔x*y≤0)∧(sg x*sg y<0↔x*y<0):=by
 rcases dZ x with⟨hx,h1⟩|⟨hx,h1⟩|⟨hx,h1⟩<;>rcases dZ y with⟨hy,h2⟩|⟨hy,h2⟩|⟨hy,h2⟩<;>rw[h1,h2]
 ·have:=Int.mul_pos hx hy;omega
 ·have:=Int.mul_neg_of_pos_of_neg hx hy;omega
 ·subst hy;simp
 ·have:=Int.mul_neg_of_neg_of_pos hx hy;omega
 ·have:=Int.mul_pos_of_neg_of_neg hx hy;omega
 ·subst hy;simp
 ·subst hx;simp
 ·subst hx;simp
 ·subst hx;simp
theorem bL(a b c:Pt):sd a b c=0↔tw a b c=0:=by
 unfold sd;have:=dZ (tw a b c);omega
theorem aM{a b p:Pt}:onB a b p=true↔tw a b p=0∧inBx a b p:=by unfold onB;rw[decide_eq_true_eq]
theorem bu{a b c d:Pt}(ha:Nr a)(hb:Nr b)(hc:Nr c)(hd:Nr d) :
  sharedN a b c d=if max (min (keyP a) (keyP b)) (min (keyP c) (keyP d))=min (max (keyP a) (keyP b)) (max (keyP c) (keyP d)) then 1
   else if max (min (keyP a) (keyP b)) (min (keyP c) (keyP d))<min (max (keyP a) (keyP b)) (max (keyP c) (keyP d)) then 2 else 0:=by
 have L:=@rB
 have hx:∃x1 x2,dV a b=(x1,x2)∧keyP x1=min (keyP a) (keyP b)∧keyP x2=max (keyP a) (keyP b)∧Nr x1∧Nr x2:=by
  unfold dV;split
  ·rename_i h;have:=(L hb ha).1 h;exact⟨b,a,rfl,by omega,by omega,hb,ha⟩
  ·rename_i h;have:¬keyP b<keyP a:=fun g=>h ((L hb ha).2 g)
   exact⟨a,b,rfl,by omega,by omega,ha,hb⟩
 have hy:∃y1 y2,dV c d=(y1,y2)∧keyP y1=min (keyP c) (keyP d)∧keyP y2=max (keyP c) (keyP d)∧Nr y1∧Nr y2:=by
  unfold dV;split
  ·rename_i h;have:=(L hd hc).1 h;exact⟨d,c,rfl,by omega,by omega,hd,hc⟩
  ·rename_i h;have:¬keyP d<keyP c:=fun g=>h ((L hd hc).2 g)
   exact⟨c,d,rfl,by omega,by omega,hc,hd⟩
 obtain⟨x1,x2,ex,kx1,kx2,nx1,nx2⟩:=hx;obtain⟨y1,y2,ey,ky1,ky2,ny1,ny2⟩:=hy;unfold sharedN;rw[ex,ey];dsimp only
 have hf:∃f,(if befB x1 y1=true then y1 else x1)=f∧keyP f=max (keyP x1) (keyP y1)∧Nr f:=by
  split
  ·rename_i h;have:=(L nx1 ny1).1 h;exact⟨y1,rfl,by omega,ny1⟩
  ·rename_i h;have:¬keyP x1<keyP y1:=fun g=>h ((L nx1 ny1).2 g)
   exact⟨x1,rfl,by omega,nx1⟩
 have hl:∃f,(if befB y2 x2=true then y2 else x2)=f∧keyP f=min (keyP x2) (keyP y2)∧Nr f:=by
  split
  ·rename_i h;have:=(L ny2 nx2).1 h;exact⟨y2,rfl,by omega,ny2⟩
  ·rename_i h;have:¬keyP y2<keyP x2:=fun g=>h ((L ny2 nx2).2 g)
   exact⟨x2,rfl,by omega,nx2⟩
 obtain⟨f,ef,kf,nf⟩:=hf;obtain⟨g,eg,kg,ng⟩:=hl;rw[ef,eg];rw[kx1,ky1]at kf;rw[kx2,ky2]at kg;rw[←kf,←kg]
 by_cases h1:f=g
 ·rw[if_pos h1,if_pos ((de nf ng).1 h1)]
 ·rw[if_neg h1,if_neg (fun h=>h1 ((de nf ng).2 h))]
  by_cases h2:befB f g=true
  ·rw[if_pos h2,if_pos ((L nf ng).1 h2)]
  ·rw[if_neg h2,if_neg (fun h=>h2 ((L nf ng).2 h))]
theorem ch{a b c d:Pt}(hab:a≠b)(hcd:c≠d)(hcol:¬(tw a b c=0∧tw a b d=0)) :
  meetN a b c d=b2i (decide (tw a b c*tw a b d≤0)&&decide (tw c d a*tw c d b≤0)):=by
 unfold meetN;rw[if_neg hab,if_neg hcd,if_neg (by rw[bL,bL];exact hcol)];unfold sd;rw[decide_eq_decide.2 (eW _ _).1,decide_eq_decide.2 (eW _ _).1]
theorem cj{a b c d:Pt}(hab:a≠b)(hcd:c≠d)(h1:tw a b c=0)(h2:tw a b d=0):meetN a b c d=sharedN a b c d:=by
 unfold meetN;rw[if_neg hab,if_neg hcd,if_pos (by rw[bL,bL];exact⟨h1,h2⟩)]
theorem bw{a b c d:Pt}(ha:Nr a)(hb:Nr b)(hc:Nr c)(hd:Nr d)(hab:a≠b)(hcd:c≠d):meetN a b c d=0↔aE a b c d=false:=by
 by_cases hcol:tw a b c=0∧tw a b d=0
 ·obtain⟨h1,h2⟩:=hcol
  obtain⟨h3,h4⟩:=fH hab h1 h2;rw[cj hab hcd h1 h2,bu ha hb hc hd];have k1:=ek ha hb hc hab h1;have k2:=ek ha hb hd hab h2;have k3:=ek hc hd ha hcd h3;have k4:=ek hc hd hb hcd h4;have kab:keyP a≠keyP b:=fun h=>hab ((de ha hb).2 h)
  have kcd:keyP c≠keyP d:=fun h=>hcd ((de hc hd).2 h)
  have ht:aE a b c d=false↔¬inBx a b c∧¬inBx a b d∧¬inBx c d a∧¬inBx c d b:=by
   unfold aE;have z:sd a b c=0:=(bL _ _ _).2 h1;rw[z];simp only[onB,h1,h2,h3,h4,true_and,Int.zero_mul,Int.lt_irrefl,decide_false,Bool.false_and,Bool.or_false,Bool.or_eq_false_iff,decide_eq_false_iff_not];constructor
   ·rintro⟨⟨⟨g1,g2⟩,g3⟩,g4⟩;exact⟨g1,g2,g3,g4⟩
   ·rintro⟨g1,g2,g3,g4⟩;exact⟨⟨⟨g1,g2⟩,g3⟩,g4⟩
  rw[ht,k1,k2,k3,k4];generalize keyP a=ka at *;generalize keyP b=kb at *;generalize keyP c=kc at *;generalize keyP d=kd at *;clear k1 k2 k3 k4 ht h1 h2 h3 h4;split
  ·constructor
   ·intro h;omega
   ·intro h;omega
  ·split
   ·constructor
    ·intro h;omega
    ·intro h;omega
   ·constructor
    ·intro _;omega
    ·intro _;rfl
 ·have hcol2:¬(tw c d a=0∧tw c d b=0):=fun h=>hcol (fH hcd h.1 h.2)
  rw[ch hab hcd hcol];have n1:tw a b c=0→(inBx a b c↔tw c d a*tw c d b≤0):=fun h=>dg hab h (fun h'=>hcol ⟨h,h'⟩)
  have n2:tw a b d=0→(inBx a b d↔tw c d a*tw c d b≤0):=fun h=>by
   have e1:tw d c a=-tw c d a:=by unfold tw;grind
   have e2:tw d c b=-tw c d b:=by unfold tw;grind
   have:=dg (c:=d) (d:=c) hab h (fun h'=>hcol ⟨h',h⟩);rw[e1,e2,Int.neg_mul_neg]at this;exact this
  have n3:tw c d a=0→(inBx c d a↔tw a b c*tw a b d≤0):=fun h=>dg hcd h (fun h'=>hcol2 ⟨h,h'⟩)
  have n4:tw c d b=0→(inBx c d b↔tw a b c*tw a b d≤0):=fun h=>by
   have e1:tw b a c=-tw a b c:=by unfold tw;grind
   have e2:tw b a d=-tw a b d:=by unfold tw;grind
   have:=dg (c:=b) (d:=a) hcd h (fun h'=>hcol2 ⟨h',h⟩);rw[e1,e2,Int.neg_mul_neg]at this;exact this
  have m1:=(eW (tw a b c) (tw a b d)).2;have m2:=(eW (tw c d a) (tw c d b)).2;have z1:tw a b c*tw a b d=0↔tw a b c=0∨tw a b d=0:=Int.mul_eq_zero;have z2:tw c d a*tw c d b=0↔tw c d a=0∨tw c d b=0:=Int.mul_eq_zero;have hb:∀x:Bool,b2i x=0↔x=false:=by intro x;cases x<;>decide
  have ht:aE a b c d=false↔¬(tw a b c=0∧inBx a b c)∧¬(tw a b d=0∧inBx a b d)∧¬(tw c d a=0∧inBx c d a)∧¬(tw c d b=0∧inBx c d b)∧¬(tw a b c*tw a b d<0∧tw c d a*tw c d b<0):=by
   have d1:decide (sg (tw a b c)*sg (tw a b d)<0)=decide (tw a b c*tw a b d<0):=decide_eq_decide.2 m1;have d2:decide (sg (tw c d a)*sg (tw c d b)<0)=decide (tw c d a*tw c d b<0):=decide_eq_decide.2 m2;unfold aE onB sd;rw[d1,d2];simp only[Bool.or_eq_false_iff,decide_eq_false_iff_not,Bool.and_eq_false_iff,and_assoc];constructor
   ·rintro⟨g1,g2,g3,g4,g5⟩;exact⟨g1,g2,g3,g4,by omega⟩
   ·rintro⟨g1,g2,g3,g4,g5⟩;exact⟨g1,g2,g3,g4,by omega⟩
  rw[hb,ht,Bool.and_eq_false_iff,decide_eq_false_iff_not,decide_eq_false_iff_not];clear ht hb m1 m2 hab hcd;generalize tw a b c=p1 at *;generalize tw a b d=p2 at *;generalize tw c d a=p3 at *;generalize tw c d b=p4 at *;generalize p1*p2=M at *;generalize p3*p4=N at *;generalize inBx a b c=I1 at *;generalize inBx a b d=I2 at *;generalize inBx c d a=I3 at *;generalize inBx c d b=I4 at *;constructor
  ·intro h
   refine⟨fun g=>?_,fun g=>?_,fun g=>?_,fun g=>?_,fun g=>by omega⟩
   ·have:=(n1 g.1).1 g.2;omega
   ·have:=(n2 g.1).1 g.2;omega
   ·have:=(n3 g.1).1 g.2;omega
   ·have:=(n4 g.1).1 g.2;omega
  ·rintro⟨g1,g2,g3,g4,g5⟩
   rcases Int.lt_trichotomy M 0 with hM|hM|hM
   ·right
    intro hN
    rcases Int.lt_or_le N 0 with k|k
    ·omega
    ·rcases z2.1 (by omega)with q|q
     ·exact g3 ⟨q,(n3 q).2 (by omega)⟩
     ·exact g4 ⟨q,(n4 q).2 (by omega)⟩
   ·right
    intro hN
    rcases z1.1 hM with q|q
    ·exact g1 ⟨q,(n1 q).2 hN⟩
    ·exact g2 ⟨q,(n2 q).2 hN⟩
   ·left;omega
theorem cY(a b:Pt):tw a b b=0∧tw a b a=0:=by
 unfold tw;constructor
 ·rw[Int.mul_comm];omega
 ·simp
theorem dw{a b d:Pt}(ha:Nr a)(hb:Nr b)(hd:Nr d)(hab:a≠b)(hbd:b≠d):meetN a b b d=1↔onB a b d=false∧onB b d a=false:=by
 have e:tw b d a=tw a b d:=by unfold tw;grind
 by_cases h:tw a b d=0
 ·rw[cj hab hbd (cY a b).1 h,bu ha hb hb hd]
  have k1:=ek ha hb hd hab h;have k2:=ek hb hd ha hbd (by rw[e];exact h);have kab:keyP a≠keyP b:=fun g=>hab ((de ha hb).2 g)
  have kbd:keyP b≠keyP d:=fun g=>hbd ((de hb hd).2 g)
  have o1:onB a b d=false↔¬inBx a b d:=by unfold onB;rw[decide_eq_false_iff_not];simp[h]
  have o2:onB b d a=false↔¬inBx b d a:=by unfold onB;rw[decide_eq_false_iff_not];simp[e,h]
  rw[o1,o2,k1,k2];generalize keyP a=ka at *;generalize keyP b=kb at *;generalize keyP d=kd at *;clear k1 k2 o1 o2;split
  ·constructor
   ·intro _;omega
   ·intro _;rfl
  ·split
   ·constructor
    ·intro h;omega
    ·intro h;omega
   ·constructor
    ·intro h;omega
    ·intro h;omega
 ·rw[ch hab hbd (fun g=>h g.2),(cY a b).1,(cY b d).2]
  have o1:onB a b d=false:=by unfold onB;rw[decide_eq_false_iff_not];exact fun g=>h g.1
  have o2:onB b d a=false:=by unfold onB;rw[decide_eq_false_iff_not];exact fun g=>h (e▸g.1)
  simp[o1,o2,b2i]
theorem f8{a b c:Pt}(ha:Nr a)(hb:Nr b)(hc:Nr c)(hab:a≠b)(hca:c≠a):meetN a b c a=1↔onB c a b=false∧onB a b c=false:=by
 have e:tw c a b=tw a b c:=by unfold tw;grind
 by_cases h:tw a b c=0
 ·rw[cj hab hca h (cY a b).2,bu ha hb hc ha]
  have k1:=ek hc ha hb hca (by rw[e];exact h);have k2:=ek ha hb hc hab h;have kab:keyP a≠keyP b:=fun g=>hab ((de ha hb).2 g)
  have kca:keyP c≠keyP a:=fun g=>hca ((de hc ha).2 g)
  have o1:onB c a b=false↔¬inBx c a b:=by unfold onB;rw[decide_eq_false_iff_not];simp[e,h]
  have o2:onB a b c=false↔¬inBx a b c:=by unfold onB;rw[decide_eq_false_iff_not];simp[h]
  rw[o1,o2,k1,k2];generalize keyP a=ka at *;generalize keyP b=kb at *;generalize keyP c=kc at *;clear k1 k2 o1 o2;split
  ·constructor
   ·intro _;omega
   ·intro _;rfl
  ·split
   ·constructor
    ·intro h;omega
    ·intro h;omega
   ·constructor
    ·intro h;omega
    ·intro h;omega
 ·rw[ch hab hca (fun g=>h g.1),(cY a b).2,(cY c a).1]
  have o1:onB c a b=false:=by unfold onB;rw[decide_eq_false_iff_not];exact fun g=>h (e▸g.1)
  have o2:onB a b c=false:=by unfold onB;rw[decide_eq_false_iff_not];exact fun g=>h g.1
  simp[o1,o2,b2i]
theorem dI{a b c d:Pt}:aE a b c d=aE c d a b:=by
 unfold aE;generalize onB a b c=A;generalize onB a b d=B;generalize onB c d a=C;generalize onB c d b=D;generalize decide (sd a b c*sd a b d<0)=E;generalize decide (sd c d a*sd c d b<0)=F;cases A<;>cases B<;>cases C<;>cases D<;>cases E<;>cases F<;>rfl
end Go.Proofs
namespace Go.Proofs
open Go.RowKit Go.Proofs.Mp Go.Lib
section
variable {w:World}{b:Nat}{t:TypeId}{v0 v1 v2 v3 v4 v5:Value}
theorem Bx.c1(h:Bx w b t [v0]):w.cell? ⟨b,0,none⟩=some v0:=h.cell 0
theorem Bx.c2(h:Bx w b t [v0,v1]):w.cell? ⟨b,0,none⟩=some v0∧w.cell? ⟨b,1,none⟩=some v1:=⟨h.cell 0,h.cell 1⟩
theorem Bx.c3(h:Bx w b t [v0,v1,v2]):w.cell? ⟨b,0,none⟩=some v0∧w.cell? ⟨b,1,none⟩=some v1∧w.cell? ⟨b,2,none⟩=some v2:=⟨h.cell 0,h.cell 1,h.cell 2⟩
theorem Bx.c4(h:Bx w b t [v0,v1,v2,v3]):w.cell? ⟨b,0,none⟩=some v0∧w.cell? ⟨b,1,none⟩=some v1∧w.cell? ⟨b,2,none⟩=some v2∧w.cell? ⟨b,3,none⟩=some v3:=⟨h.cell 0,h.cell 1,h.cell 2,h.cell 3⟩
theorem Bx.c6(h:Bx w b t [v0,v1,v2,v3,v4,v5]):w.cell? ⟨b,0,none⟩=some v0∧w.cell? ⟨b,1,none⟩=some v1∧w.cell? ⟨b,2,none⟩=some v2∧w.cell? ⟨b,3,none⟩=some v3∧w.cell? ⟨b,4,none⟩=some v4∧w.cell? ⟨b,5,none⟩=some v5:=⟨h.cell 0,h.cell 1,h.cell 2,h.cell 3,h.cell 4,h.cell 5⟩
end
end Go.Proofs
