/- Lemmas and walks; no statement of a law is proved here. -/
import Derived.Test.YtaglmdebikglgaaGreatDoorX07
set_option linter.unusedVariables false
set_option linter.unusedSimpArgs false
set_option maxRecDepth 100000
set_option maxHeartbeats 8000000
open Go.Lib
namespace Go.Proofs
open Go.RowKit Go.Proofs.Mp Go.Lib Go.Proofs.Ed
def dp(b:Bx4)(arc:Int)(path:List Pt)(k:Nat)(x:Option Pc):List Pe:=match path.drop (k-1) with
 | []=>er arc x
 | p::r=>(pcF b p r x).map fun y=>(arc,y)
def pcS(b:Bx4)(arc:Int)(path:List Pt):List Pe:=dp b arc path 1 none
def sF(w:World)(L:List Pe)(en:Ending)(w':World):Prop:=∃v,en=.returned v∧iz w' v L (fun g=>w.heap.size≤g)∧Below w.heap.size w w'
def ua(x:Option Pc)(c d:Pt)(E L:Int):Pc:=match x with
 | none=>([c,d],E,L)
 | some (P,E0,_)=>(P++[d],E0,L)
theorem gG(arc:Int):∀x,(er arc x).length≤1
 | none=>Nat.zero_le _
 | some (P,E,L)=>by
  unfold er fin;rw[List.length_map];dsimp only
  by_cases h:1<(cmpL P).length
  ·rw[if_pos h];exact Nat.le_refl _
  ·rw[if_neg h];exact Nat.zero_le _
theorem ew{l:List Pt}{m:Nat}(h:m<l.length):l.drop m=l[m]!::l.drop (m+1):=by rw[getElem!_pos l m h];exact List.drop_eq_getElem_cons h
theorem d8{b:Bx4}{arc:Int}{path:List Pt}{m:Nat}(x:Option Pc)(h:m<path.length):dp b arc path (m+1) x=(pcF b path[m]! (path.drop (m+1)) x).map fun y=>(arc,y):=by
 unfold dp;rw[Nat.add_sub_cancel,ew h]
theorem lw{b:Bx4}{arc:Int}{path:List Pt}{m:Nat}{x:Option Pc}(h:m+1<path.length)(hc:clipS path[m]! path[m+1]! b=none):dp b arc path (m+1) x=er arc x++dp b arc path (m+2) none:=by
 rw[d8 x (by omega),d8 none h,ew h,pc_none hc,List.map_append];rfl
theorem lu{b:Bx4}{arc:Int}{path:List Pt}{m:Nat}{x:Option Pc}{c d:Pt}{y:Pc}(h:m+1<path.length)(hc:clipS path[m]! path[m+1]! b=some (c,d))(hy:ua x c d (thr path[m]! path[m+1]! b) (thr path[m+1]! path[m]! b)=y) :
  dp b arc path (m+1) x=if inB b path[m+1]! = true then dp b arc path (m+2) (some y) else er arc (some y)++dp b arc path (m+2) none:=by
 rw[d8 x (by omega),d8 (some y) h,d8 none h,ew h];cases x with
 | none=>
  rw[pc_new hc];subst hy;split
  ·rfl
  ·rw[List.map_append];rfl
 | some z=>
  obtain⟨P,E,L⟩:=z;rw[pc_more hc];subst hy;split
  ·rfl
  ·rw[List.map_append];rfl
theorem jm(w:World)(c:Pt){base:Nat}(hb:base≤w.heap.size):OwnR 30 (w.alloc (.cells #[c.1,c.2] 30)) base (.slice (some ⟨w.heap.size,0,none⟩) 1 1) [c]:=
 ⟨rfl,.inr ⟨w.heap.size,1,_,rfl,hb,heap_alloc_new w _,Nat.le_refl _,by decide,rfl,rfl⟩⟩
theorem bR{w w1 w2:World}{r:Option Nat}(h:w.grownBy w1 r)(k:w1.grownBy w2 none):w.grownBy w2 r:=World.grownBy.trans h ⟨k.os,k.tape,k.output,k.size,fun n h1 h2=>k.block n h1 (by simp)⟩
theorem p8{w w1 w2:World}{r:Option Nat}(h:w.grownBy w1 r)(k:w1.grownBy w2 r):w.grownBy w2 r:=World.grownBy.trans h k
theorem Bx.storeS{w:World}{b:Nat}{t:TypeId}{cs:List Value}{ops:Array Oper}{o:Oper}{a:Act}{K:Act→World→Prop}{Q:Exit→Act→World→Prop}{E:Prop}{k:Nat}(h:Bx w b t cs)(cs':List Value)(hsz:(Tryz.prog.info? t).map (·.size)=some k)(hk:cs.length=k)(hk':cs'.length=k)
  (h1:cs'.toArray.all (·.oneCell')=true)(hgd:o.guard=none)(X Y:Operand)(ho:o.op=.store t X Y)
  (hx:a.eval X=.pointer (some ⟨b,0,none⟩))(hy:a.eval Y=.agg cs'.toArray)(hK:∀w',Bx w' b t cs'→w.grownBy w' (some b)→K (a.put o.dst undef) w') :
  if Region.wanted o (yielded ops a.tmps)=true then Oper.wp Tryz.prog o a w K Q else E:=by
 refine wp_step hgd ?_;have hst:=run_storeVar_row (P:=Tryz.prog) w b t t cs.toArray cs'.toArray h (by simpa [hk'] using hsz) (by simp[hk,hk']) h1;unfold Oper.wp execOp;simp only[ho,hx,hy,Instr.storeAt,Instr.sureAddr,Sem.run_bind,Sem.run_pure,Result.andThen_ok,hst];exact hK _ (setRow_heap _ _ _ _ _ _ h) ⟨rfl,rfl,rfl,by simp,fun k hk hne=>setRow_other _ _ _ _ (fun e=>hne (by rw[e]))⟩
theorem Tryz.appP{w:World}{base:Nat}{v:Value}{xs:List Pt}{o:Oper}{a:Act}{K:Act→World→Prop}{Q:Exit→Act→World→Prop}
  (hown:OwnR 30 w base v xs)(p:Pt)(s x:Operand)
  (ho:o.op=.call { callee:=.builtin .append,args:=#[s,x],argTypes:=#[56,56] })(hs:a.eval s=v)(hx:a.eval x=.slice (some ⟨w.heap.size,0,none⟩) 1 1)
  (hN:xs.length+1≤1000000000000)(hbase:base≤w.heap.size)
  (h:∀v' w',OwnR 30 w' base v' (xs++[p])→w.grownBy w' v.ownBlock→(v'.ownBlock=v.ownBlock∨∃j,v'.ownBlock=some j∧w.heap.size≤j)→K (a.put o.dst v') w') :
  o.wp Tryz.prog a (w.alloc (.cells #[p.1,p.2] 30)) K Q:=by
 obtain⟨i0,hi,hz0,hz1,hz2⟩:=Mp.info_parts Tryz.infoP;exact Own.wpAt 56 i0 (.agg #[.int .i64 0,.int .i64 0]) 16 Tryz.underlying56 hi hz0 hz1 hz2 rfl (by decide) (by decide) encR_len p (encR_one p) s x ho hown hs hx (by omega) hbase h
structure PB(x:Bo):Prop where
 sm:SmB x
 lo : -4194304≤x.x0∧x.x1≤4194304∧-4194304≤x.y0∧x.y1≤4194304
 hi:x.x0≤4194304∧-4194304≤x.x1∧x.y0≤4194304∧-4194304≤x.y1
theorem kP(arc:Int)(A:Option Addr)(c:Nat)(path:List Pt)(b:Bo)(w:World)(hR:RdR w A path)(hm:path.length≤100000)(hb:PB b)(hn:∀j,j<path.length→Nr path[j]!) :
  Calls Tryz.prog 64 #[arc,.slice A path.length c,bj b] w (sF w (pcS b.to arc path)):=by
 have hmf:∀(fn:Fn) (first cap:Array Value) (w:World),(Instr.makeFunc fn first cap).run Tryz.prog w=.ok (.func fn first cap) w:=fun _ _ _ _=>rfl
 have HR:=hid hR;have cC:=hid fun (i j:Nat) (hi:i<path.length) (hj:j<path.length) W=>qh path[i]! path[j]! b W (hn i hi) (hn j hj) hb.sm
 have cT:=hid fun (i j:Nat) (hi:i<path.length) (hj:j<path.length) W=>jA path[i]! path[j]! b W (hn i hi) (hn j hj) hb.sm hb.lo hb.hi
 have cI:=hid fun (i:Nat) W=>fK b path[i]! W
 have cE:=hid fun W n vl vp acc x h1 h2 h3=>qo arc W n vl vp acc x h1 h2 h3
 clear hR hb hn;obtain⟨x0,y0,x1,y1⟩:=b;unfold bj at *;dsimp only at cI cC cT ⊢;have hb0:=Bx.new (t:=48) (cs:=[.int .i64 x0,.int .i64 y0,.int .i64 x1,.int .i64 y1]) w rfl;have hw0:=bw1 w (.cells #[x0,y0,x1,y1] 48);go_enter Tryz.func64,Tryz.ntmps64;go_upto_region 4 with fail;obtain⟨n,hn⟩:∃n,w.heap.size+1=n:=⟨_,rfl⟩
 have hI:PcS ((((w.alloc (.cells #[x0,y0,x1,y1] 48)).alloc (.cells #[.slice none 0 0] 52)).alloc (.cells #[.int .i64 0,.slice none 0 0,.int .i64 0,.int .i64 0] 97)).alloc (.cells #[.bool false] 4)) n arc (.slice none 0 0) [] (.int .i64 0) none:=by
  refine⟨((Bx.newAt _ (by simp[hn]) rfl).alloc _).alloc _,⟨_,_,_,_,(Bx.newAt _ (by simp[hn]) rfl).alloc _⟩,Bx.newAt _ (by simp[←hn]) rfl,OwG.nil _ _ _⟩
 have hb3:=((hb0.alloc (.cells #[.slice none 0 0] 52)).alloc (.cells #[.int .i64 0,.slice none 0 0,.int .i64 0,.int .i64 0] 97)).alloc (.cells #[.bool false] 4);have hw3:=((hw0.alloc hw0.size (.cells #[.slice none 0 0] 52)).alloc (by simp;omega) (.cells #[.int .i64 0,.slice none 0 0,.int .i64 0,.int .i64 0] 97)).alloc (by simp;omega) (.cells #[.bool false] 4);change Bx ((((w.alloc (.cells #[x0,y0,x1,y1] 48)).alloc (.cells #[.slice none 0 0] 52)).alloc (.cells #[.int .i64 0,.slice none 0 0,.int .i64 0,.int .i64 0] 97)).alloc (.cells #[.bool false] 4)) _ _ _ at hb3;generalize ((((w.alloc (.cells #[x0,y0,x1,y1] 48)).alloc (.cells #[.slice none 0 0] 52)).alloc (.cells #[.int .i64 0,.slice none 0 0,.int .i64 0,.int .i64 0] 97)).alloc (.cells #[.bool false] 4))=w4 at *;obtain⟨nb,hnb⟩:∃nb,w.heap.size=nb:=⟨_,rfl⟩;have HN:=hid hn;rw[hnb]at hn hb3 hw3;have HNB:=hid hnb;rw[hnb,hn];have HTOT:=hid (show ∀v W',iz W' v (pcS (Bo.to ⟨x0,y0,x1,y1⟩) arc path) (fun g=>w.heap.size≤g)→Below w.heap.size w W'→sF w (pcS (Bo.to ⟨x0,y0,x1,y1⟩) arc path) (.returned v) W' from fun v W' h1 h2=>⟨v,rfl,h1,h2⟩);have HP0:=hid (show pcS (Bo.to ⟨x0,y0,x1,y1⟩) arc path=dp (Bo.to ⟨x0,y0,x1,y1⟩) arc path 1 none from rfl);generalize pcS (Bo.to ⟨x0,y0,x1,y1⟩) arc path=T at *;clear hb0 hw0;go_wp2_with fail
 go_loopw [10] (fun i wr=>∃(k:Nat) (vl vp:Value) (acc:List Pe) (x:Option Pc),1≤k∧(k≤path.length∨k=1)∧i=.int .i64 k∧PcS wr n arc vl acc vp x∧Hid (T=acc++dp (Bo.to ⟨x0,y0,x1,y1⟩) arc path k x∧acc.length≤k∧∀P E L,x=some (P,E,L)→P.length≤k+1) ∧
  Bx wr nb 48 [x0,y0,x1,y1]∧Below nb w wr) (fun i _=>path.length+1-(intOf i).toNat)
 case atStart=>
  exact⟨1,_,_,_,_,Nat.le_refl _,.inr rfl,by trivial,hI,hid ⟨HP0.out,by simp,fun P E L e=>by cases e⟩,hb3,hw3⟩
 case round=>
  obtain⟨k,vl,vp,acc,x,hk1,hk2,rfl,hS,HT,hbx,hbr⟩:=hrel
  by_cases hlt:k<path.length
  ·obtain⟨m,rfl⟩:∃m,k=m+1:=⟨k-1,by omega⟩
   have hli:((m+1:Nat):Int)<(path.length:Int):=by omega
   have hl0:(0:Int)<((m+1:Nat):Int):=by omega
   have e1:((m+1:Nat):Int)-1=(m:Int):=by omega
   have e2:(m:Int)<(path.length:Int):=by omega
   have hwr:=IntWalk.i64_in (((m+1:Nat):Int)-1) (by omega);rw[e1]at hwr;have hbw:Below w.heap.size w wr:=by rw[HNB.out];exact hbr
   obtain⟨bp,off,rfl,hbl,hcc⟩:=Rd.get HR.out hbw hlt;have hbl2:bp<wr.heap.size:=Nat.lt_of_lt_of_le hbl hbw.size;have hl1:(0:Int)≤(m:Int)+1:=by omega
   have hl2:(m:Int)+1<(path.length:Int):=by omega
   have c0:=hcc m (by omega) 0 _ rfl;have c1:=hcc m (by omega) 1 _ rfl;have c2:=hcc (m+1) hlt 0 _ rfl;have c3:=hcc (m+1) hlt 1 _ rfl;simp only[Nat.add_zero]at c0 c2;have cC1:=hid (cC.out m (m+1) (by omega) hlt);have cT1:=hid (cT.out m (m+1) (by omega) hlt);have cT2:=hid (cT.out (m+1) m hlt (by omega));have cI1:=hid (cI.out (m+1));have HRN:=hid (fun h=>lw (b:=Bo.to ⟨x0,y0,x1,y1⟩) (arc:=arc) (x:=x) hlt h);have HRS:=hid (fun (c d:Pt) (y:Pc) h1 h2=>lu (b:=Bo.to ⟨x0,y0,x1,y1⟩) (arc:=arc) (x:=x) (c:=c) (d:=d) (y:=y) hlt h1 h2);have HIN:=hid (show decide (x0≤path[m+1]!.1∧path[m+1]!.1≤x1∧y0≤path[m+1]!.2∧path[m+1]!.2≤y1)=inB (Bo.to ⟨x0,y0,x1,y1⟩) path[m+1]! by unfold inB Bo.to;simp[Bool.decide_and,Bool.and_assoc]);obtain⟨p,hp⟩:∃z,path[m]! = z:=⟨_,rfl⟩;obtain⟨q,hq⟩:∃z,path[m+1]! = z:=⟨_,rfl⟩;rw[hp,hq]at cC1 cT1 cT2 HRN HRS;rw[hp]at c0 c1;rw[hq]at c2 c3 cI1 HIN;obtain⟨px,py⟩:=p;obtain⟨qx,qy⟩:=q;unfold ae at cC1 cT1 cT2 cI1;dsimp only at c0 c1 c2 c3 cC1 cT1 cT2 cI1 HIN;rw[HIN.out]at cI1;clear hp hq hcc hbw HIN;have HBR:=hid hbr;have HBX:=hid hbx;have HSX:=hid hS
   have HSX2:=hid (show n+2<wr.heap.size from by
    match x,hS with
    | none,⟨_,_,h,_⟩=>exact h.lt
    | some (P,E,L),⟨_,_,h,_⟩=>exact h.lt)
   clear hbr hbx hS;go_upto_region 7 with fail;go_cut [11,12] from 23 to 31 (fun v11 v12 wx=>∃na nq:Nat,v11=.pointer (some ⟨na,0,none⟩)∧v12=.pointer (some ⟨nq,0,none⟩)∧na≠nq∧wr.heap.size≤na∧wr.heap.size≤nq∧Bx wx na 30 [px,py]∧Bx wx nq 30 [qx,qy]∧Below wr.heap.size wr wx)
   case first=>
    go_region
    all_goals
     go_wp2_with fail;go_meet
     first
      | exact⟨wr.heap.size,wr.heap.size+1,rfl,rfl,by omega,by omega,by omega,(Bx.newAt wr rfl rfl).alloc _,Bx.newAt (wr.alloc _) (by simp) rfl,((bw1 _ _).trans ((bw1 _ _).mono (bw1 _ _).size)).drew⟩
      | exact⟨wr.heap.size+1,wr.heap.size,rfl,rfl,by omega,by omega,by omega,Bx.newAt (wr.alloc _) (by simp) rfl,(Bx.newAt wr rfl rfl).alloc _,((bw1 _ _).trans ((bw1 _ _).mono (bw1 _ _).size)).drew⟩
   case rest=>
    obtain⟨na,nq,rfl,rfl,hne,hna,hnq,hxp,hxq,hbc⟩:=hcut;generalize wc=w5 at *;have hbx5:=HBX.out.below hbc;have HS5:=hid (HSX.out.below hbc);have hnn:=hbx5.lt;have hnp:=hxp.lt;have hnq2:=hxq.lt;clear c0 c1 c2 c3;have k0:=hxp.cell 0;have k1:=hxp.cell 1;have k2:=hxq.cell 0;have k3:=hxq.cell 1;have k4:=hbx5.cell 0;have k5:=hbx5.cell 1;have k6:=hbx5.cell 2;have k7:=hbx5.cell 3;simp only[gz,gs]at k0 k1 k2 k3 k4 k5 k6 k7;have HB5:=hid (HBR.out.trans (hbc.mono (by have:=HBR.out.size;have:=HNB.out;omega)));have HNA:=hid (And.intro hna hnq);clear hbc hna hnq
    rcases hcl:clipS (px,py) (qx,qy) (Bo.to ⟨x0,y0,x1,y1⟩)with _|⟨⟨cx,cy⟩,dx,dy⟩
    ·have HRN2:=hid (HRN.out hcl)
     rw[hcl]at cC1;unfold qr ae at cC1;dsimp only at cC1;clear HRS HRN cT1 cT2 cI1 hcl;go_wp2_with fail;refine(cC1.out _).mono ?_;rintro e w6 ⟨rfl,hb6⟩;have HS6:=hid (HS5.out.below hb6);have HX6:=hid (hbx5.below hb6);have HB6:=hid (HB5.out.trans (hb6.mono (by have:=HB5.out.size;have:=HNB.out;omega)));clear k0 k1 k2 k3 k4 k5 k6 k7 hb6 hbx5 HS5 hxp hxq;go_upto_region 9 with fail;obtain⟨hw7,hsz7⟩:Below w6.heap.size w6 ((w6.alloc (.cells #[.int .i64 0,.int .i64 0] 30)).alloc (.cells #[.int .i64 0,.int .i64 0] 30))∧w6.heap.size≤((w6.alloc (.cells #[.int .i64 0,.int .i64 0] 30)).alloc (.cells #[.int .i64 0,.int .i64 0] 30)).heap.size:=⟨(bw1 _ _).trans ((bw1 _ _).mono (bw1 _ _).size),by simp;omega⟩;generalize (w6.alloc (.cells #[.int .i64 0,.int .i64 0] 30)).alloc (.cells #[.int .i64 0,.int .i64 0] 30)=w7 at *;have HX7:=hid (HX6.out.below hw7);have HB7:=hid (HB6.out.trans (hw7.mono (by have:=HB6.out.size;have:=HNB.out;omega)));have cE7:=hid (cE.out w7 n vl vp acc x (HS6.out.below hw7) (fun P E L e=>by have:=HT.out.2.2 P E L e;omega) (by have:=HT.out.2.1;omega));clear hw7;go_wp2_with fail;refine cE7.out.mono ?_;rintro e w8 ⟨rfl,hb8,vl8,hS8⟩;have HX8:=hid (show Bx w8 nb 48 _ from Row.below HX7.out hb8 (by have:=HN.out;have:=HNB.out;omega));have HB8:=hid (HB7.out.trans (hb8.mono (by have:=HN.out;have:=HNB.out;omega)));have HS8:=hid hS8;clear hb8 hS8;go_wp2_with fail;go_roundw
     case rel=>exact⟨m+2,vl8,vp,acc++er arc x,none,by omega,by omega,by go_num,HS8.out,hid ⟨by rw[HT.out.1,HRN2.out,List.append_assoc],by
      have:=HT.out.2.1;have h9:=gG arc x
      rw[List.length_append];omega,fun P E L e=>by cases e⟩,HX8.out,HB8.out⟩
     case measure=>simp[intOf];omega
    ·obtain⟨e1,he1⟩:∃z,thr (px,py) (qx,qy) (Bo.to ⟨x0,y0,x1,y1⟩)=z:=⟨_,rfl⟩
     obtain⟨e2,he2⟩:∃z,thr (qx,qy) (px,py) (Bo.to ⟨x0,y0,x1,y1⟩)=z:=⟨_,rfl⟩;rw[he1,he2]at HRS;rw[he1]at cT1;rw[he2]at cT2;clear he1 he2;obtain⟨y,hy⟩:∃y,ua x (cx,cy) (dx,dy) e1 e2=y:=⟨_,rfl⟩;have HRS2:=hid (HRS.out (cx,cy) (dx,dy) y hcl hy);have HY:=hid hy;rw[hcl]at cC1;unfold qr ae at cC1;dsimp only at cC1;clear HRS HRN hcl hy;go_wp2_with fail;refine(cC1.out _).mono ?_;rintro e w6 ⟨rfl,hb6⟩;have hX6:=hbx5.below hb6;have hP6:=hxp.below hb6;have hQ6:=hxq.below hb6;have HS6:=hid (HS5.out.below hb6);have HB6:=hid (HB5.out.trans (hb6.mono (by have:=HB5.out.size;have:=HNB.out;omega)));have hs56:=hb6.size;clear k0 k1 k2 k3 k4 k5 k6 k7 hb6 hbx5 HS5 hxp hxq;go_upto_region 9 with fail;obtain⟨hw7,hsz7⟩:Below w6.heap.size w6 ((w6.alloc (.cells #[cx,cy] 30)).alloc (.cells #[dx,dy] 30))∧((w6.alloc (.cells #[cx,cy] 30)).alloc (.cells #[dx,dy] 30)).heap.size=w6.heap.size+2:=⟨(bw1 _ _).trans ((bw1 _ _).mono (bw1 _ _).size),by simp⟩;have hC7:=(Bx.newAt (t:=30) (cs:=[.int .i64 cx,.int .i64 cy]) (c:=#[.int .i64 cx,.int .i64 cy]) w6 rfl rfl).alloc (.cells #[dx,dy] 30);have hD7:=Bx.newAt (b:=w6.heap.size+1) (t:=30) (cs:=[.int .i64 dx,.int .i64 dy]) (c:=#[.int .i64 dx,.int .i64 dy]) (w6.alloc (.cells #[cx,cy] 30)) (by simp) rfl;generalize (w6.alloc (.cells #[cx,cy] 30)).alloc (.cells #[dx,dy] 30)=w7 at *;have hX7:=hX6.below hw7;have hP7:=hP6.below hw7;have hQ7:=hQ6.below hw7;have HS7:=hid (HS6.out.below hw7);have HB7:=hid (HB6.out.trans (hw7.mono (by have:=HB6.out.size;have:=HNB.out;omega)));have hn0:n≤w6.heap.size:=by have:=HSX2.out;have:=HNA.out;omega
     generalize w6.heap.size=nc at *
     have HNC:=hid (show(wr.heap.size≤na∧wr.heap.size≤nq∧wr.heap.size≤nc)∧na<nc∧nq<nc∧nc+2=w7.heap.size from by
      have:=HNA.out
      exact⟨⟨HNA.out.1,HNA.out.2,by omega⟩,by omega,by omega,by omega⟩)
     have HVP:=hid (show ∀P E L,x=some (P,E,L)→∀g,vp.ownBlock=some g→g<wr.heap.size from fun P E L e g hg=>by
      subst e
      exact(World.ownsRow.lt HSX.out.2.2.2.1 g hg).2)
     have hnbn:nb<n:=by have:=HN.out;have:=HNB.out;omega
     clear hX6 hP6 hQ6 HS6 HB6 hw7 hs56 hnp hnq2 hnn HSX HBX
     have z0:w7.cell? ⟨n+2,0,none⟩=some (.bool x.isSome):=by
      match x,HS7.out with
      | none,⟨_,_,h,_⟩=>exact h.cell 0
      | some (P,E,L),⟨_,_,h,_⟩=>exact h.cell 0
     go_upto_if 45 with fail
     go_cut [] from 44 to 53 (fun wx=>∃(vq:Value) (P:List Pt) (E L0:Int),PcS wx n arc vl acc vq (some (P,E,L0))∧Hid (y=(P++[(dx,dy)],E,e2)∧P.length≤m+2)∧Bx wx na 30 [px,py]∧Bx wx nq 30 [qx,qy]∧Bx wx (nc+1) 30 [dx,dy] ∧
      Bx wx nb 48 [x0,y0,x1,y1]∧(∀g,vq.ownBlock=some g→g<wr.heap.size∨nc+2≤g)∧Below nb w wx)
     case first=>
      clear z0
      match x,HS7,HY,HVP,HT with
      | some (P,E,L0),HS7,HY,HVP,HT=>
       go_wp2_with fail;go_meet;exact⟨vp,P,E,L0,HS7.out,hid ⟨HY.out.symm,by have:=HT.out.2.2 P E L0 rfl;omega⟩,hP7,hQ7,hD7,hX7,fun g hg=>.inl (HVP.out P E L0 rfl g hg),HB7.out⟩
      | none,HS7,HY,HVP,HT=>
       obtain⟨h1,⟨z1,z2,z3,z4,h2⟩,h3,h4⟩:=HS7.out;have z0:=h3.cell 0;have q0:=h3.frozen 0;have l0:=h3.lt;simp only[gz]at z0;obtain⟨w8,hw8⟩:∃z,w7.setCell ⟨n+2,0,none⟩ (.bool true)=z:=⟨_,rfl⟩;have hg8:w7.grownBy w8 (some (n+2)):=by rw[←hw8];exact aj _ _ _
       have HW8:=hid hw8;have HZ8:=hid (show w8.heap.size=w7.heap.size from by rw[←hw8];simp[World.setCell]);have h28:=h2.grown hg8 (by simp)
       have HL8:=hid (show ∀W,w8.grownBy W (some (n+1))→Bx W na 30 [px,py]∧Bx W nq 30 [qx,qy]∧Bx W nc 30 [cx,cy]∧Bx W (nc+1) 30 [dx,dy]∧Bx W nb 48 [x0,y0,x1,y1]∧Below nb w W from fun W h=>by
        have hnc:=HNC.out
        have hlw:n+2<wr.heap.size:=by
         have:=HSX2.out;exact this
        have b8:Below nb w w8:=HB7.out.grown hg8 (by omega) (fun j hj=>by have hj:n+2=j:=(by injection hj);omega);have go:∀{b:Nat} {t:TypeId} {cs:List Value},Bx w7 b t cs→b≠n+1→b≠n+2→Bx W b t cs:=fun hx e1 e2=>(hx.grown hg8 (by simp;omega)).grown h (by simp;omega)
        exact⟨go hP7 (by omega) (by omega),go hQ7 (by omega) (by omega),go hC7 (by omega) (by omega),go hD7 (by omega) (by omega),go hX7 (by omega) (by omega),b8.grown h (by have:=b8.size;omega) (fun j hj=>by have hj:n+1=j:=(by injection hj);omega)⟩)
       clear h1 h2 h3 h4 hP7 hQ7 hC7 hD7 hX7 hg8;go_upto_region 13 with fail;have hS1:(fun W:World=>w8.grownBy W (some (n+1))) w8.drew:=bR (World.grownBy.refl w8 _) (aD (Below.refl _ _).drew);refine wp_region_held_drew (S:=(fun W:World=>w8.grownBy W (some (n+1)))) (by kernel_rfl) hS1 (fun hHeld=>?_);clear hHeld;replace h28:=h28.below (Below.refl w8.heap.size w8).drew;generalize hwd:w8.drew=wd at *;clear hwd;refine kk 0 rfl ?_;refine kk 1 (hy:=by intro W hSw;obtain⟨_,_,q,_,_,_⟩:=HL8.out W hSw;have d0:=q.cell 0;have d1:=q.cell 1;simp only[gz,gs]at d0 d1;clear hSw q;go_simp;try with_reducible rfl) rfl ?_
       refine kk 3 (hy:=by intro W hSw;obtain⟨q,_⟩:=HL8.out W hSw;have d0:=q.cell 0;have d1:=q.cell 1;simp only[gz,gs]at d0 d1;clear hSw q;go_simp;try with_reducible rfl) rfl ?_
       refine kk 4 (hy:=by intro W hSw;obtain⟨_,q,_⟩:=HL8.out W hSw;have d0:=q.cell 0;have d1:=q.cell 1;simp only[gz,gs]at d0 d1;clear hSw q;go_simp;try with_reducible rfl) rfl ?_
       refine kk 5 (hy:=by intro W hSw;obtain⟨_,_,_,_,q,_⟩:=HL8.out W hSw;have d0:=q.cell 0;have d1:=q.cell 1;have d2:=q.cell 2;have d3:=q.cell 3;simp only[gz,gs]at d0 d1 d2 d3;clear hSw q;go_simp;try with_reducible rfl) rfl ?_
       refine' aW (fun H f l (act:Nat→Act)=>∀(vlit:Nat) (WX:World),Bx WX (n+1) 97 [z1,z2,z3,z4]→OwnR 30 WX w8.heap.size (.slice (some ⟨vlit,0,none⟩) 1 1) [(cx,cy)]→(fun W:World=>w8.grownBy W (some (n+1))) WX→H f l (act vlit) WX) (fun tailra6=>?mtailra6) ?ttailra6
       case mtailra6=>
        refine wpAnyH_ready (rs:=[2,6]) (by kernel_rfl) (by simp) ?_;refine AllReadyH.cons (o:=⟨some 48,_,_,_,_,_⟩) rfl (fun K hK=>?_) ?_
        ·skip
         go_simp;replace h28:=h28.alloc (.cells #[cx,cy] 30);have hlit:=jm wd (cx,cy) (base:=w8.heap.size) hS1.size;have hSWra1:=bR hS1 (World.grownBy_alloc wd (.cells #[cx,cy] 30) none);refine hK.out _ _ hSWra1 (fun hHeld=>?_);clear hK hHeld K
         try clear hS1
         try simp only[Act.put,sa,sz,ss]
         generalize (wd.alloc (.cells #[cx,cy] 30))=Wra1 at h28 hlit hSWra1 ⊢;generalize wd.heap.size=vlit at hlit ⊢;refine kr 6 rfl fun K hK=>?_
         go_simp;go_at_call 111;refine(cT1.out _).mono ?_;rintro e Wra2 ⟨rfl,hbWra2⟩;replace h28:=h28.below hbWra2;replace hlit:=hlit.below hbWra2;have hSWra2:=bR hSWra1 (aD hbWra2)
         try clear hSWra1
         clear hbWra2;go_wp2_with fail;refine hK.out _ _ hSWra2 (fun hHeld=>?_);clear hK hHeld K
         try simp only[Act.put,sa,sz,ss]
         refine kk 7 rfl ?_;exact aC rfl rfl (tailra6 vlit Wra2 h28 hlit hSWra2)
        refine AllReadyH.cons (o:=⟨some 52,_,_,_,_,_⟩) rfl (fun K hK=>?_) AllReadyH.nil;go_simp;go_at_call 111;refine(cT1.out _).mono ?_;rintro e Wra3 ⟨rfl,hbWra3⟩;replace h28:=h28.below hbWra3;have hSWra3:=bR hS1 (aD hbWra3)
        try clear hS1
        clear hbWra3;go_wp2_with fail;refine hK.out _ _ hSWra3 (fun hHeld=>?_);clear hK hHeld K
        try simp only[Act.put,sa,sz,ss]
        refine kr 2 rfl fun K hK=>?_
        go_simp;replace h28:=h28.alloc (.cells #[cx,cy] 30);have hlit:=jm Wra3 (cx,cy) (base:=w8.heap.size) hSWra3.size;have hSWra4:=bR hSWra3 (World.grownBy_alloc Wra3 (.cells #[cx,cy] 30) none);refine hK.out _ _ hSWra4 (fun hHeld=>?_);clear hK hHeld K
        try clear hSWra3
        try simp only[Act.put,sa,sz,ss]
        generalize (Wra3.alloc (.cells #[cx,cy] 30))=Wra4 at h28 hlit hSWra4 ⊢;generalize Wra3.heap.size=vlit at hlit ⊢;refine kk 7 rfl ?_;exact aC (by kernel_rfl) (by kernel_rfl) (tailra6 vlit Wra4 h28 hlit hSWra4)
       case ttailra6=>
        try clear h28
        try clear hS1
        intro vlit Wra5 h28 hlit hSWra5;refine kr 8 rfl fun K hK=>?_
        refine Bx.storeS h28 [arc,.slice (some ⟨vlit,0,none⟩) 1 1,e1,.int .i64 0] (k:=4) (by kernel_rfl) rfl rfl (by simp[Value.oneCell']) rfl _ _ rfl rfl rfl (fun Wra6 hbx hgW=>?_);have hSWra6:=p8 hSWra5 hgW;have hlit2:=World.ownsRow.kept hlit hgW (.inr (fun e=>by have e:vlit=n+1:=(by injection e);have:=(World.ownsRow.lt hlit vlit rfl).1;have:=l0;have:=HZ8.out;omega));refine hK.out _ _ hSWra6 (fun hHeld=>?_);clear hK hHeld K
        try simp only[Act.put,sa,sz,ss]
        refine wpAnyH_done (by kernel_rfl) ?_ _;have HOP:=hid (PcS.opened (E:=e1) (L:=0) HS7.out (by rw[HW8.out];exact hSWra6) hbx (by rw[HW8.out];exact hlit2));have HLV:=hid (show nc+2≤vlit from by have:=(World.ownsRow.lt hlit2 vlit rfl).1;have:=HZ8.out;have:=HNC.out;omega);have HLS:=hid (HL8.out _ hSWra6);clear hbx hlit hlit2 h28 hgW hSWra6;go_wp2_with fail;go_meet;exact⟨_,[(cx,cy)],e1,0,HOP.out,hid ⟨HY.out.symm,by simp⟩,HLS.out.1,HLS.out.2.1,HLS.out.2.2.2.1,HLS.out.2.2.2.2.1,fun g hg=>.inr (by have hg:vlit=g:=(by injection hg);have:=HLV.out;omega),HLS.out.2.2.2.2.2⟩
     case rest=>
      obtain⟨vq,P,E,L0,hS9,HY9,hP9,hQ9,hD9,hX9,hvq,hb9⟩:=hcut;generalize wc=w9 at *;clear z0 hP7 hQ7 hC7 hD7 hX7 HS7 HB7 HVP HY;obtain⟨h1,h2,_,h4,h5,_⟩:=id hS9;obtain⟨g,cap,e9,hg1,hg2⟩:=aG h4 h5;have HS9:=hid hS9;have z1:=h2.cell 1;have z2:=hD9.cell 0;have z3:=hD9.cell 1;have zl:=hD9.lt;have hn9:n+3≤w9.heap.size:=by omega
      have hN9:P.length+1≤1000000000000:=by have:=HY9.out.2;omega
      have HB9:=hid hb9;have HVQ:=hid (show ∀j,wr.heap.size≤j→j<nc+2→vq.ownBlock≠some j from fun j h1 h2 e=>by have:=hvq j e;omega);have HVQ2:=hid (show ∀j,j<n+3→vq.ownBlock≠some j from fun j h e=>by have:=(World.ownsRow.lt h4 j e).1;omega);simp only[gz,gs]at z1 z2 z3;have HBX9:=hid (And.intro hP9 (And.intro hQ9 (And.intro hX9 h2)));subst e9;clear h1 h2 hS9 hP9 hQ9 hX9 hvq hb9 hD9;go_upto_region 15 with (at_builtin;refine wpList_plain rfl fun K hK=>Tryz.appP h4 (dx,dy) _ _ rfl rfl rfl hN9 (by omega) ?_;intro v10 w10 hO10 hg10 hl10;obtain⟨A10,c10,e10⟩:=Own.slice hO10;obtain⟨m10,hm10⟩:∃z,(P++[(dx,dy)]).length=z:=⟨_,rfl⟩;rw[hm10]at e10;clear hm10;subst e10;have HO10:=hid (And.intro hO10 (And.intro hg10 hl10));have f2:=HBX9.out.2.2.2.grown hg10 (HVQ2.out _ (by omega));have k9:=f2.cell 1;have q9:=f2.frozen 1;have l9:=f2.lt;simp only[gz,gs]at k9;refine hK _ _ ?_;clear hK z1 z2 z3 zl f2 hO10 hg10 hl10);obtain⟨hO10,hg10,hl10⟩:=HO10.out;have HS11:=hid (PcS.more HS9.out hO10 hg10 hl10);have hP11:=(HBX9.out.1.grown hg10 (HVQ.out _ HNC.out.1.1 (by have:=HNC.out;omega))).other (n:=n+1) (by have:=HSX2.out;have:=HNC.out;omega) 1 (.slice A10 m10 c10);have hQ11:=(HBX9.out.2.1.grown hg10 (HVQ.out _ HNC.out.1.2.1 (by have:=HNC.out;omega))).other (n:=n+1) (by have:=HSX2.out;have:=HNC.out;omega) 1 (.slice A10 m10 c10);have hX11:=(HBX9.out.2.2.1.grown hg10 (HVQ2.out _ (by omega))).other (n:=n+1) (by omega) 1 (.slice A10 m10 c10);have b10:=HB9.out.grown hg10 (by omega) (fun j hj=>by have:=HVQ2.out j;have:¬j<n+3:=fun h=>this h hj;omega);have HB11:=hid ((HBX9.out.2.2.2.grown hg10 (HVQ2.out _ (by omega))).setB b10 (by omega) 1 (.slice A10 m10 c10))
      have hn11:n+3≤(w10.setCell ⟨n+1,1,none⟩ (.slice A10 m10 c10)).heap.size:=by
       have:=hg10.size;simp only[World.setCell,Array.size_modify];omega
      clear HBX9 HO10 hO10 hg10 hl10 HS9 HB9 h4 k9 q9 l9 b10;generalize w10.setCell ⟨n+1,1,none⟩ (.slice A10 m10 c10)=w11 at *;have y0:=hP11.cell 0;have y1:=hP11.cell 1;have y2:=hQ11.cell 0;have y3:=hQ11.cell 1;have y4:=hX11.cell 0;have y5:=hX11.cell 1;have y6:=hX11.cell 2;have y7:=hX11.cell 3;simp only[gz,gs]at y0 y1 y2 y3 y4 y5 y6 y7;go_wp2_with fail;refine(cT2.out _).mono ?_;rintro e w12 ⟨rfl,hb12⟩;have HS12:=hid (HS11.out.below hb12);have hX12:=hX11.below hb12;have hQ12:=hQ11.below hb12;have h12:=HS12.out.2.1;have x3:=h12.cell 3;have p3:=h12.frozen 3;have r3:=h12.lt;simp only[gz,gs]at x3;have HS13:=hid (HS12.out.leave (L':=e2));have HX13:=hid (hX12.other (n:=n+1) (by omega) 3 (.int .i64 e2));have HQ13:=hid (hQ12.other (n:=n+1) (by have:=HSX2.out;have:=HNC.out;omega) 3 (.int .i64 e2));have HB13:=hid (h12.setB (HB11.out.trans (hb12.mono (by omega))) (by omega) 3 (.int .i64 e2));clear y0 y1 y2 y3 y4 y5 y6 y7 h12 hX12 hQ12 hb12 hP11 hQ11 hX11 HS11 HB11 HS12;go_upto_region 16 with fail;generalize w12.setCell ⟨n+1,3,none⟩ (.int .i64 e2)=w13 at *;have y2:=HQ13.out.cell 0;have y3:=HQ13.out.cell 1;have y4:=HX13.out.cell 0;have y5:=HX13.out.cell 1;have y6:=HX13.out.cell 2;have y7:=HX13.out.cell 3;simp only[gz,gs]at y2 y3 y4 y5 y6 y7;clear x3 p3 r3;go_wp2_with fail;refine(cI1.out _).mono ?_;rintro e w14 ⟨rfl,hb14⟩;have HS14:=hid (HS13.out.below hb14);have HX14:=hid (HX13.out.below hb14);have HB14:=hid (HB13.out.trans (hb14.mono (by have:=HB13.out.size;have:=HNB.out;omega)));clear y2 y3 y4 y5 y6 y7 hb14 HS13 HX13 HQ13 HB13;cases hin:inB (Bo.to ⟨x0,y0,x1,y1⟩) (qx,qy)
      ·have HF:=hid (show T=acc++er arc (some (P++[(dx,dy)],E,e2))++dp (Bo.to ⟨x0,y0,x1,y1⟩) arc path (m+2) none from by
        rw[HT.out.1,HRS2.out,HY9.out.1,hin,if_neg (by simp),List.append_assoc])
       have cE9:=hid (cE.out w14 n vl (.slice A10 m10 c10) acc _ HS14.out (fun P' E' L' e=>by
        injection e with e;injection e with e _;subst e;have:=HY9.out.2;rw[List.length_append,List.length_singleton]
        omega) (by have:=HT.out.2.1;omega))
       clear hin;go_wp2_with fail;refine cE9.out.mono ?_;rintro e w15 ⟨rfl,hb15,vl15,hS15⟩;have HX15:=hid (show Bx w15 nb 48 _ from Row.below HX14.out hb15 (by omega));have HB15:=hid (HB14.out.trans (hb15.mono (by omega)));have HS15:=hid hS15;clear hb15 hS15;go_wp2_with fail;go_roundw
       case rel=>exact⟨m+2,vl15,_,_,none,by omega,by omega,by go_num,HS15.out,hid ⟨HF.out,by
        have:=HT.out.2.1;have h9:=gG arc (some (P++[(dx,dy)],E,e2))
        rw[List.length_append];omega,fun P E L e=>by cases e⟩,HX15.out,HB15.out⟩
       case measure=>simp[intOf];omega
      ·have HF:=hid (show T=acc++dp (Bo.to ⟨x0,y0,x1,y1⟩) arc path (m+2) (some (P++[(dx,dy)],E,e2))from by
        rw[HT.out.1,HRS2.out,HY9.out.1,hin,if_pos rfl])
       clear hin;go_wp2_with fail;go_roundw
       case rel=>exact⟨m+2,vl,_,acc,_,by omega,by omega,by go_num,HS14.out,hid ⟨HF.out,by have:=HT.out.2.1;omega,fun P' E' L' e=>by
        injection e with e;injection e with e _;subst e;have:=HY9.out.2;rw[List.length_append,List.length_singleton]
        omega⟩,HX14.out,HB14.out⟩
       case measure=>simp[intOf];omega
  ·have hge:¬(k:Int)<(path.length:Int):=by omega
   have hx9:=HT.out.2.2;have cE9:=hid (cE.out wr n vl vp acc x hS (fun P E L e=>by have:=hx9 P E L e;omega) (by have:=HT.out.2.1;omega));have HBR:=hid hbr;clear hx9 hS hbx hbr;go_wp2_with fail;refine cE9.out.mono ?_;rintro e w9 ⟨rfl,hb9,vl9,hS9⟩;have HS9:=hid hS9;obtain⟨h1,_,_,h4⟩:=hS9;have HO:=hid h4;have k1:=h1.cell 0;have q1:=h1.frozen 0;have l1:=h1.lt;simp only[gz]at k1
   have HF:=hid (show T=acc++er arc x from by
    rw[HT.out.1]
    congr 1
    unfold dp
    by_cases h0:path=[]
    ·subst h0
     simp
    ·have hp:0<path.length:=List.length_pos_iff.2 h0
     obtain rfl:k=path.length:=by omega
     rw[List.drop_eq_getElem_cons (by omega),show path.length-1+1=path.length by omega,List.drop_length];cases x with
     | none=>rfl
     | some y=>obtain⟨P,E,L⟩:=y;rfl)
   obtain⟨A9,c9,e9⟩:=OwG.slice h4;obtain⟨m9,hm9⟩:∃m,(acc++er arc x).length=m:=⟨_,rfl⟩;rw[hm9]at e9;subst e9;clear hm9;have s1:=h1.set 0 (.slice A9 m9 c9);have b1:=h1.setB hb9 (Nat.le_refl _) 0 (.slice A9 m9 c9)
   have hO9:=h4.grown RPc.foot (aj w9 ⟨n,0,none⟩ (.slice A9 m9 c9)) (fun q e=>by
    have e:n=q:=by injection e
    rintro (⟨_,h⟩|h)<;>omega)
   clear h1 h4;go_wp2_with fail;have r1:=s1.cell 0;simp only[sz,gz]at r1;refine bodyPost_ret (v:=.slice A9 m9 c9) (by simp[results,Tryz.results64,go_sem,r1]) rfl ?_;rw[HF.out]at HTOT ⊢;refine HTOT.out _ _ (hO9.read eM RPc.foot fun g _ h=>?_) (by rw[HNB.out];exact HBR.out.trans (b1.mono (by have:=HN.out;have:=HNB.out;omega)));have:=HN.out
   rcases h with⟨_,h⟩|h<;>omega
end Go.Proofs
