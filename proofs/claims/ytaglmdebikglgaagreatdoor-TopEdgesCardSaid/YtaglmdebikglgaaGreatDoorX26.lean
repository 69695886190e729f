/- TopEdges returns true for all inputs, with no condition; what came in reads as before. -/
import Derived.Test.YtaglmdebikglgaaGreatDoorX25
import Derived.Test.YtaglmdebikglgaaGreatDoorTie
import Derived.Test.YtaglmdebikglgaaGreatDoorCards
import Derived.LaidMore
import Derived.Stop.Joined
import Derived.SevenTiedAt
set_option linter.unusedVariables false
set_option linter.unusedSimpArgs false
set_option maxRecDepth 100000
set_option maxHeartbeats 8000000
open Go.Lib
namespace Go.Proofs.YtaglmdebikglgaaGreatDoor.topEdges
open Go.ChangeShapes Go.WideShapes Go.ChangeAt Go.RowKit Go.Proofs.Mp
theorem own:ownKnob Tryz.prog.godebug=none:=by kernel_rfl
theorem laidOut:laidOutB Tryz.prog=true:=by kernel_rfl
theorem gMoves:Tryz.prog.globalNamed "mapsheets/sheetgrid.moves"=some 0:=by kernel_rfl
theorem tMoves:(Tryz.prog.globals[0]?).map (·.type)=some 142:=by kernel_rfl
abbrev laid1:List (String×DataW Unit):=[("mapsheets/sheetgrid.moves",Rows.laid_mapsheets_sheetgrid_moves)]
theorem door_met(os:Os)(args:Array Value):laidMetH Tryz.prog laid1 ((World.doorLaid Tryz.prog 400 os).forCall (fun _ _=>0) ⟨#[],args,[]⟩).memory:=
 laidMetH_of_parts3 (fuel:=8) (laidMet_of_run' 8 (by kernel_rfl) (by kernel_rfl)) (by kernel_rfl) (by kernel_rfl)
theorem pt_datum{H:Type}{enc:TypeId×Value→H}{w:World}{base:Nat}{spare:Nat→Bool}{held:Bool}{fuel:Nat}{cs:List Value}{a b:Int}{p:List MemPlace}
  (h:DataW.trod enc Tryz.prog w base spare held fuel 30 cs=some (.agg [.lit (.int .i64 a),.lit (.int .i64 b)],p)):cs=[.int .i64 a,.int .i64 b]:=by
 obtain⟨ys,n,_,hx,hlen,hys,hf⟩:=DataW.trod_struct Tryz.underlying30 h;have hs:ys.length=2:=hys;have hl:cs.length=2:=by rw[hlen];kernel_rfl
 have c3:Tryz.prog.cellsOf 3=1:=by kernel_rfl
 have g0:DataW.trod enc Tryz.prog w base spare held n 3 ((cs.drop 0).take (Tryz.prog.cellsOf 3))=ys[0]?:=hf 0 _ rfl;have g1:DataW.trod enc Tryz.prog w base spare held n 3 ((cs.drop 1).take (Tryz.prog.cellsOf 3))=ys[1]?:=hf 1 _ rfl;rw[c3]at g0 g1
 match ys,hs,cs,hl with
 | [y0,y1],_,[c0,c1],_=>
  obtain⟨n0,e0,k0,_⟩:=DataW.trod_int Tryz.underlying3 g0;obtain⟨n1,e1,k1,_⟩:=DataW.trod_int Tryz.underlying3 g1;simp at e0 e1;subst k0 k1;simp at hx;rw[e0,e1,hx.1.1,hx.1.2]
theorem of_laid{W:World}(h:laidMetH Tryz.prog laid1 W):bT W:=by
 rw[MakeChecks.laidMetH_plain _ _ _ (by kernel_rfl)]at h;obtain⟨ps,⟨g0,t0,cs0,f0,p0,q0,hg0,ht0,hv0,hd0,_,_⟩,_,_⟩:=h;obtain rfl:=Option.some.inj (gMoves.symm.trans hg0);obtain rfl:=Option.some.inj (tMoves.symm.trans ht0);obtain⟨xs,m1,rfl,hx1,hlen,hn3,hel⟩:=DataW.trod_array Tryz.underlying142 hd0;have c30:Tryz.prog.cellsOf 30=2:=by kernel_rfl
 have c142:Tryz.prog.cellsOf 142=8:=by kernel_rfl
 rw[c30]at hel;rw[c142]at hlen;have h0:=hel 0 (by decide);have h1:=hel 1 (by decide);have h2:=hel 2 (by decide);have h3:=hel 3 (by decide);obtain⟨l⟩:=cs0;change l.length=8 at hlen;simp only[Prod.mk.injEq]at hx1;replace hx1:=hx1.1;unfold Rows.laid_mapsheets_sheetgrid_moves at hx1
 match xs,hn3,l,hlen with
 | [x0,x1,x2,x3],_,[c0,c1,c2,c3,c4,c5,c6,c7],_=>
  simp only[DataW.agg.injEq,List.map_cons,List.map_nil,List.cons.injEq,and_true]at hx1;obtain⟨d0,d1,d2,d3⟩:=hx1;have k0:=pt_datum (h0.trans (show _=some (_,x0.2) by rw[d0];rfl));have k1:=pt_datum (h1.trans (show _=some (_,x1.2) by rw[d1];rfl));have k2:=pt_datum (h2.trans (show _=some (_,x2.2) by rw[d2];rfl));have k3:=pt_datum (h3.trans (show _=some (_,x3.2) by rw[d3];rfl));simp at k0 k1 k2 k3;obtain⟨rfl,rfl⟩:=k0;obtain⟨rfl,rfl⟩:=k1;obtain⟨rfl,rfl⟩:=k2;obtain⟨rfl,rfl⟩:=k3;unfold World.var? at hv0;rw[gMoves]at hv0;simp only[Option.bind_some]at hv0;split at hv0
  ·rename_i cs t r hc
   injection hv0 with hv0;subst hv0;exact⟨t,r,hc⟩
  ·cases hv0
theorem contract(H:Type)(enc:TypeId×Value→H)(W:World)(base:Nat)(args:Array Value)(ds gs:List (DataW H))(before:List MemPlace)
  (hval:∀(j:Nat) t v,Tryz.f3.params[j]?=some t→args[j]?=some v→Value.okWide Tryz.prog W .any base t v)
  (hW:DataW.Whole enc Tryz.prog Tryz.f3.params.toList Rows.topEdgesSpec.vars false W args.toList ds gs before)(hM:bT W) :
  Calls Tryz.prog 3 args W fun e W'=>∃v,e=.returned v∧Rows.topEdgesSpec.post enc Tryz.prog Tryz.f3 false true false false W args v W':=by
 have hW':=hW;obtain⟨p,q,hA0,hV,rfl,hfz,hnd⟩:=hW;have hA:DataW.TrodAll enc Tryz.prog W 0 (fun _=>true) true Tryz.f3.params.toList args.toList ds p:=hA0;rw[Tryz.params3]at hA hval;obtain⟨v0,vs0,d0,ds0,p0,q0,hargs,rfl,rfl,h0,r0⟩:=trodAll_cons hA;obtain⟨v1,vs1,d1,ds1,p1,q1,rfl,rfl,rfl,h1,r1⟩:=trodAll_cons r0;obtain⟨rfl,rfl,rfl⟩:=trodAll_nil r1;obtain rfl:args=#[v0,v1]:=by cases args;simp_all
 obtain⟨rfl,rfl⟩:=trodVars_none hV;have k0:=h0;have lt0:∀x∈p0,x.block<W.heap.size:=by obtain⟨m,hm⟩:=k0;exact DataW.trod_lt m _ _ _ hm
 have k1:=h1;have lt1:∀x∈p1,x.block<W.heap.size:=by obtain⟨m,hm⟩:=k1;exact DataW.trod_lt m _ _ _ hm
 obtain⟨pl,m,rfl,hPl,hLR⟩:=nE (hval 0 26 v0 rfl rfl) h0;obtain⟨a0,a1,a2,a3,a4,a5,a6,a7,a8,a9,a10,rfl⟩:=pK (hval 1 34 v1 rfl rfl) h1;clear hA0;have cL:=od pl m a0 a1 a2 a3 a4 a5 a6 a7 a8 a9 a10 W hPl hLR hM;refine cL.mono fun e W' ⟨he,bel⟩=>?_
 subst he;exact⟨_,rfl,_,_,_,[],_,[],hW',trodAll_mk1 (shut_bool Tryz.underlying4 _),(trodAll_cons_mk (Below.trod laidOut (by kernel_rfl) (of_decide_eq_true (by kernel_rfl)) k0 bel lt0) (trodAll_cons_mk (Below.trod laidOut (by kernel_rfl) (of_decide_eq_true (by kernel_rfl)) k1 bel lt1) trodAll_mk0)),rfl,bel.frame _,fun h=>by cases h⟩
theorem lifted(os:Os)(started:os.Started)(H:Type)(enc:TypeId×Value→H) :
  ReturnsInHanded {} Tryz.checked os 3 .any (fun w args=>(Rows.topEdgesSpec.pre enc Tryz.prog Tryz.f3 [] false w args∧laidMetH Tryz.prog laid1 w)∧sizedMet enc Tryz.prog Tryz.f3 (OpenSpec.ofChange Rows.topEdgesSpec) false w args)
   (Rows.topEdgesSpec.post enc Tryz.prog Tryz.f3 false true false false):=by
 refine returnsInHanded_of_change_and (C:=Tryz.checked) (X:=fun w _=>laidMetH Tryz.prog laid1 w) (fun _ _ _ hh h=>h.of_heap hh) own started (by kernel_rfl) Tryz.func3
  (ChangeSpec.witness_shaped (enc:=enc) (C:=Tryz.checked) (os:=os) (X:=fun w _=>laidMetH Tryz.prog laid1 w) false (World.doorLaid Tryz.prog 400 os) #[.agg #[.slice none 0 0,.slice none 0 0,.slice none 0 0],.agg #[.int .i64 0,.int .i64 0,.int .i64 0,.int .i64 0,.int .i64 0,.int .i64 0,.int .i64 0,.int .i64 0,.int .i64 0,.int .i64 0,.int .i64 0]] 8 rfl (World.shaped_of_RefB (by kernel_rfl) (by kernel_rfl)) (by kernel_rfl) (by kernel_rfl) (by kernel_rfl) (door_met os _)) ?_
 intro W base args ds gs before hval0 hW _ _ hL _;exact contract H enc W base args ds gs before hval0 hW (of_laid hL)
theorem row:Rows.TopEdgesSaid:=
 OpenClaim.holds_of_wide 3 Tryz.f3 rfl rfl rfl rfl rfl rfl rfl ⟨rfl,rfl,rfl,rfl,rfl⟩ rfl rfl rfl rfl rfl (by kernel_rfl) Tryz.func3 (by kernel_rfl)
  (of_decide_eq_true (by kernel_rfl)) (by unfold Func.isWrapper;first|(rw[if_pos (by decide +kernel)];kernel_rfl)|(rw[if_neg (by decide +kernel)];exact⟨rfl,rfl⟩))
  (fun os started H enc _=>lifted os started H enc)
theorem proved:Rows.TopEdgesCardSaid:=
 Claim7.holds_tied_plain_at .later [] [.data] true (true,"5ab7f346ab282903e675d557152a93fe38a236c5896d863cf99a8bd0b5c071c6") false
  row (fun _ h=>by cases h) (by kernel_rfl) (fun _ h=>by cases h) topEdges_row_tie rfl ⟨rfl,rfl⟩ (by kernel_rfl) rfl
  (fun f fn hf hfn=>by
   obtain rfl:f=3:=Option.some.inj ((show Tryz.prog.funcNamed "mapsheets/mapsheetstop.TopEdges"=some 3 by kernel_rfl).symm.trans hf) |>.symm;obtain rfl:fn=Tryz.f3:=(Option.some.inj (Tryz.func3.symm.trans hfn)).symm
   exact⟨by kernel_rfl,fun j t ht=>by
    rw[Tryz.params3]at ht;have hm:t∈[26,34]:=by simpa using Array.mem_of_getElem? ht
    have hall:([26,34].all fun u=>!Tryz.prog.wantsStandIn u)=true:=by kernel_rfl
    exact(show Tryz.prog.wantsStandIn t=false by simpa using List.all_eq_true.1 hall t hm)⟩)
  (by kernel_rfl)
end Go.Proofs.YtaglmdebikglgaaGreatDoor.topEdges
