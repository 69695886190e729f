/- apart: have two edges nothing in common but the end of successive ones? (the reference) -/
import Derived.Test.YtafaojmkbbhjmaaC2
set_option linter.unusedVariables false
set_option linter.unusedSimpArgs false
namespace Go.Proofs
open Go.RowKit Go.Proofs.Mp

/-- a variable of the call's own, in a block from B on, that holds the point p -/
def Bq (B : Nat) (W : World) (v : Value) (p : Pt) : Prop := ∃ g, v = .pointer (some ⟨g, 0, none⟩) ∧ B ≤ g ∧ Mp.Row W g 32 (encR p)
theorem Bq.below {B : Nat} {w w' : World} {v : Value} {x : Pt} (h : Bq B w v x) (hb : Below w.heap.size w w') : Bq B w' v x := by
  obtain ⟨g, rfl, h1, h2⟩ := h
  exact ⟨g, rfl, h1, h2.below hb h2.lt⟩
theorem Bq.alloc {B : Nat} {w : World} {v : Value} {x : Pt} (h : Bq B w v x) (o : Obj) : Bq B (w.alloc o) v x := h.below (bw1 _ _)
theorem Bq.new {B : Nat} (w : World) (hB : B ≤ w.heap.size) : Bq B (w.alloc (.cells #[.int .i64 0, .int .i64 0] 32)) (.pointer (some ⟨w.heap.size, 0, none⟩)) (0, 0) := ⟨_, rfl, hB, heap_alloc_new w _⟩
/-- two variables are two -/
def Nq (_ : World) (u v : Value) : Prop := u ≠ v
theorem Nq.below {w w' : World} {u v : Value} (h : Nq w u v) (_ : Below w.heap.size w w') : Nq w' u v := h
theorem Nq.alloc {w : World} {u v : Value} (h : Nq w u v) (o : Obj) : Nq (w.alloc o) u v := h
theorem Nq.symm {w : World} {u v : Value} (h : Nq w u v) : Nq w v u := fun e => h e.symm
theorem Nq.new {B : Nat} {w : World} {u : Value} {x : Pt} (h : Bq B w u x) (o : Obj) : Nq (w.alloc o) u (.pointer (some ⟨w.heap.size, 0, none⟩)) := by
  obtain ⟨g, rfl, _, h2⟩ := h
  intro e
  injection e with e
  injection e with e
  injection e with e
  have := h2.lt
  omega
theorem below_setRow_other (w : World) (g k : Nat) (cs : Array Value) (h : k ≠ g) : (w.setRow g cs).heap[k]? = w.heap[k]? := by
  simp only [World.setRow, Array.getElem?_modify]
  rw [if_neg (fun e => h e.symm)]
theorem Try.size32 : (Try.prog.info? 32).map (·.size) = some 2 := by kernel_rfl
theorem Bq.store {B : Nat} {ops : Array Oper} {o : Oper} {a : Act} {K : Act → World → Prop} {Q : Exit → Act → World → Prop} {E : Prop} {w : World} {pv : Value} {x : Pt} (h : Bq B w pv x) (q : Pt) (hgd : o.guard = none) (X Y : Operand) (ho : o.op = .store 32 X Y)
    (hx : a.eval X = pv) (hy : a.eval Y = aggP q) (hK : ∀ w', Bq B w' pv q → Below B w w' → (∀ u p, Bq B w u p → Nq w u pv → Bq B w' u p) → K (a.put o.dst undef) w') :
    if Region.wanted o (yielded ops a.tmps) = true then Oper.wp Try.prog o a w K Q else E := by
  have hw : Region.wanted o (yielded ops a.tmps) = true := by simp [Region.wanted, hgd]
  rw [if_pos hw]
  obtain ⟨g, rfl, h1, h2⟩ := h
  have hst := run_storeVar_row (P := Try.prog) w g 32 32 (encR x).toArray (encR q).toArray h2 Try.size32 rfl (all_oneCell_toArray (encR_one q))
  have hy' : a.eval Y = .agg (encR q).toArray := hy
  unfold Oper.wp execOp
  simp only [ho, hx, hy', Instr.storeAt, Instr.sureAddr, Sem.run_bind, Sem.run_pure, Result.andThen_ok, hst]
  refine hK _ ⟨g, rfl, h1, setRow_heap _ _ _ _ _ _ h2⟩ (below_setRow (Below.refl _ _) h1 _) ?_
  rintro u p ⟨g', rfl, h3, h4⟩ hne
  refine ⟨g', rfl, h3, ?_⟩
  have hgg : g' ≠ g := fun e => hne (by rw [e])
  unfold Mp.Row at *
  rw [← h4]
  exact (below_setRow_other w g g' _ hgg)
theorem Bq.cells {B : Nat} {W : World} {v : Value} {p : Pt} (h : Bq B W v p) : ∃ g, v = .pointer (some ⟨g, 0, none⟩) ∧ Hid (∀ W', Below W.heap.size W W' → W'.cell? ⟨g, 0, none⟩ = some (.int .i64 p.1) ∧ W'.cell? ⟨g, 1, none⟩ = some (.int .i64 p.2)) := by
  obtain ⟨g, rfl, _, h2⟩ := h
  exact ⟨g, rfl, Lib.hid fun W' hb => ⟨(h2.below hb h2.lt).cell 0, (h2.below hb h2.lt).cell 1⟩⟩
def apartB (l : List Pt) (i k : Nat) : Bool :=
  if edE l i = l[k]! then !onB l[i]! (edE l i) (edE l k) && !onB l[k]! (edE l k) l[i]!
  else if edE l k = l[i]! then !onB l[k]! (edE l k) (edE l i) && !onB l[i]! (edE l i) l[k]!
  else !touchB l[i]! (edE l i) l[k]! (edE l k)

set_option maxRecDepth 100000 in
set_option maxHeartbeats 8000000 in
theorem ref_apart (A : Option Addr) (c : Nat) (l : List Pt) (i k : Nat) (w : World) (hmax : l.length ≤ 1000000000000) (hi : i < l.length) (hk : k < l.length) (hv : allVp l) (hR : RdR w A l) :
  Calls Try.prog 30 #[.slice A l.length c, .int .i64 i, .int .i64 k] w (RetV w (.bool (apartB l i k))) := by
 have hR0 : RdR w.drew A l := hR.below (below_drewN (Below.refl _ _) 1)
 obtain ⟨b, off, rfl, hb, hc⟩ := RdR.getAll hR0 (Below.refl _ _) hi
 have HLi := Lib.hid fun (W : World) (hbW : Below w.drew.heap.size w.drew W) => (show W.cell? ⟨b, off + i * 2, none⟩ = some (.int .i64 l[i]!.1) ∧ W.cell? ⟨b, off + i * 2 + 1, none⟩ = some (.int .i64 l[i]!.2) from ⟨(hbW.cell (p := ⟨b, off + i * 2, none⟩) hb).trans (hc i hi).1, (hbW.cell (p := ⟨b, off + i * 2 + 1, none⟩) hb).trans (hc i hi).2⟩)
 have HLk := Lib.hid fun (W : World) (hbW : Below w.drew.heap.size w.drew W) => (show W.cell? ⟨b, off + k * 2, none⟩ = some (.int .i64 l[k]!.1) ∧ W.cell? ⟨b, off + k * 2 + 1, none⟩ = some (.int .i64 l[k]!.2) from ⟨(hbW.cell (p := ⟨b, off + k * 2, none⟩) hb).trans (hc k hk).1, (hbW.cell (p := ⟨b, off + k * 2 + 1, none⟩) hb).trans (hc k hk).2⟩)
 have CEi := Lib.hid fun (W : World) (hb : Below w.drew.heap.size w.drew W) => ref_end (some ⟨b, off, none⟩) c l i W hmax hi (hR0.below hb)
 have CEk := Lib.hid fun (W : World) (hb : Below w.drew.heap.size w.drew W) => ref_end (some ⟨b, off, none⟩) c l k W hmax hk (hR0.below hb)
 have va := (hv i hi).nr
 have vb := (edE_vp hv hi).nr
 have vc := (hv k hk).nr
 have vd := (edE_vp hv hk).nr
 have HR := Lib.hid (show apartB l i k = if edE l i = l[k]! then !onB l[i]! (edE l i) (edE l k) && !onB l[k]! (edE l k) l[i]! else if edE l k = l[i]! then !onB l[k]! (edE l k) (edE l i) && !onB l[i]! (edE l i) l[k]! else !touchB l[i]! (edE l i) l[k]! (edE l k) from rfl)
 generalize apartB l i k = res at *
 have hil : (i : Int) < l.length := by omega
 have hkl : (k : Int) < l.length := by omega
 have hi0 : (0 : Int) ≤ (i : Int) := by omega
 have hk0 : (0 : Int) ≤ (k : Int) := by omega
 generalize l[i]! = pa at *
 generalize edE l i = pb at *
 generalize l[k]! = pc at *
 generalize edE l k = pd at *
 clear hR hR0 hc hv
 have Oabd := Lib.hid fun W => ref_on pa pb pd W va vb vd
 have Ocda := Lib.hid fun W => ref_on pc pd pa W vc vd va
 have Ocdb := Lib.hid fun W => ref_on pc pd pb W vc vd vb
 have Oabc := Lib.hid fun W => ref_on pa pb pc W va vb vc
 have TO := Lib.hid fun W => ref_touch pa pb pc pd W va vb vc vd
 clear va vb vc vd
 generalize onB pa pb pd = o1 at *
 generalize onB pc pd pa = o2 at *
 generalize onB pc pd pb = o3 at *
 generalize onB pa pb pc = o4 at *
 generalize touchB pa pb pc pd = o5 at *
 obtain ⟨a1, a2⟩ := pa
 obtain ⟨b1, b2⟩ := pb
 obtain ⟨c1, c2⟩ := pc
 obtain ⟨d1, d2⟩ := pd
 unfold aggP at *
 dsimp only at *
 go_enter Try.func30, Try.ntmps30
 go_upto_region 1 with fail
 refine wp_region_held_drew (S := fun W : World => Below w.drew.heap.size w.drew W) (by kernel_rfl) (Below.refl _ _) (fun hHeld => ?_)
 clear hHeld
 have hd0 : Below w.heap.size w w.drew := below_drewN (Below.refl _ _) 1
 generalize w.drew = w0 at *
 have hS0 : (fun W : World => Below w0.heap.size w0 W) w0 := Below.refl _ _
 refine wpAnyH_take (i := 0) (oi := ⟨some 11, _, _, _, _, _⟩) (v := ?vra1) rfl (by kernel_rfl) (by kernel_rfl) (by kernel_rfl) (fun _ _ _ h => h) (Or.inl ⟨by kernel_rfl, ?hyra1⟩) (by assumption) ?restra1
 case hyra1 => (intro W hSw; (try dsimp only at hSw); go_simp; try with_reducible rfl)
 case' restra1 => try simp only [Act.put, List.setIfInBounds_toArray, List.set_cons_zero, List.set_cons_succ]
 refine wpAnyH_take (i := 1) (oi := ⟨some 12, _, _, _, _, _⟩) (v := ?vra2) rfl (by kernel_rfl) (by kernel_rfl) (by kernel_rfl) (fun _ _ _ h => h) (Or.inl ⟨by kernel_rfl, ?hyra2⟩) (by assumption) ?restra2
 case hyra2 => (intro W hSw; (try dsimp only at hSw); go_simp; try with_reducible rfl)
 case' restra2 => try simp only [Act.put, List.setIfInBounds_toArray, List.set_cons_zero, List.set_cons_succ]
 refine wpAnyH_take (i := 2) (oi := ⟨some 13, _, _, _, _, _⟩) (v := ?vra3) rfl (by kernel_rfl) (by kernel_rfl) (by kernel_rfl) (fun _ _ _ h => h) (Or.inl ⟨by kernel_rfl, ?hyra3⟩) (by assumption) ?restra3
 case hyra3 => (intro W hSw; (try dsimp only at hSw); go_simp; try with_reducible rfl)
 case' restra3 => try simp only [Act.put, List.setIfInBounds_toArray, List.set_cons_zero, List.set_cons_succ]
 refine wpAnyH_take (i := 3) (oi := ⟨some 14, _, _, _, _, _⟩) (v := ?vra4) rfl (by kernel_rfl) (by kernel_rfl) (by kernel_rfl) (fun _ _ _ h => h) (Or.inl ⟨by kernel_rfl, ?hyra4⟩) (by assumption) ?restra4
 case hyra4 => (intro W hSw; obtain ⟨k1, k2⟩ := HLi.out W hSw; clear hSw; (try dsimp only at hSw); go_simp; try with_reducible rfl)
 case' restra4 => try simp only [Act.put, List.setIfInBounds_toArray, List.set_cons_zero, List.set_cons_succ]
 refine wpAnyH_take (i := 4) (oi := ⟨some 15, _, _, _, _, _⟩) (v := ?vra5) rfl (by kernel_rfl) (by kernel_rfl) (by kernel_rfl) (fun _ _ _ h => h) (Or.inl ⟨by kernel_rfl, ?hyra5⟩) (by assumption) ?restra5
 case hyra5 => (intro W hSw; (try dsimp only at hSw); go_simp; try with_reducible rfl)
 case' restra5 => try simp only [Act.put, List.setIfInBounds_toArray, List.set_cons_zero, List.set_cons_succ]
 refine wpAnyH_take (i := 5) (oi := ⟨some 16, _, _, _, _, _⟩) (v := ?vra6) rfl (by kernel_rfl) (by kernel_rfl) (by kernel_rfl) (fun _ _ _ h => h) (Or.inl ⟨by kernel_rfl, ?hyra6⟩) (by assumption) ?restra6
 case hyra6 => (intro W hSw; (try dsimp only at hSw); go_simp; try with_reducible rfl)
 case' restra6 => try simp only [Act.put, List.setIfInBounds_toArray, List.set_cons_zero, List.set_cons_succ]
 refine wpAnyH_take (i := 7) (oi := ⟨some 18, _, _, _, _, _⟩) (v := ?vra7) rfl (by kernel_rfl) (by kernel_rfl) (by kernel_rfl) (fun _ _ _ h => h) (Or.inl ⟨by kernel_rfl, ?hyra7⟩) (by assumption) ?restra7
 case hyra7 => (intro W hSw; (try dsimp only at hSw); go_simp; try with_reducible rfl)
 case' restra7 => try simp only [Act.put, List.setIfInBounds_toArray, List.set_cons_zero, List.set_cons_succ]
 refine wpAnyH_take (i := 8) (oi := ⟨some 19, _, _, _, _, _⟩) (v := ?vra8) rfl (by kernel_rfl) (by kernel_rfl) (by kernel_rfl) (fun _ _ _ h => h) (Or.inl ⟨by kernel_rfl, ?hyra8⟩) (by assumption) ?restra8
 case hyra8 => (intro W hSw; (try dsimp only at hSw); go_simp; try with_reducible rfl)
 case' restra8 => try simp only [Act.put, List.setIfInBounds_toArray, List.set_cons_zero, List.set_cons_succ]
 refine wpAnyH_take (i := 9) (oi := ⟨some 20, _, _, _, _, _⟩) (v := ?vra9) rfl (by kernel_rfl) (by kernel_rfl) (by kernel_rfl) (fun _ _ _ h => h) (Or.inl ⟨by kernel_rfl, ?hyra9⟩) (by assumption) ?restra9
 case hyra9 => (intro W hSw; (try dsimp only at hSw); go_simp; try with_reducible rfl)
 case' restra9 => try simp only [Act.put, List.setIfInBounds_toArray, List.set_cons_zero, List.set_cons_succ]
 refine wpAnyH_take (i := 10) (oi := ⟨some 21, _, _, _, _, _⟩) (v := ?vra10) rfl (by kernel_rfl) (by kernel_rfl) (by kernel_rfl) (fun _ _ _ h => h) (Or.inl ⟨by kernel_rfl, ?hyra10⟩) (by assumption) ?restra10
 case hyra10 => (intro W hSw; obtain ⟨k1, k2⟩ := HLk.out W hSw; clear hSw; (try dsimp only at hSw); go_simp; try with_reducible rfl)
 case' restra10 => try simp only [Act.put, List.setIfInBounds_toArray, List.set_cons_zero, List.set_cons_succ]
 refine wpAnyH_take (i := 11) (oi := ⟨some 22, _, _, _, _, _⟩) (v := ?vra11) rfl (by kernel_rfl) (by kernel_rfl) (by kernel_rfl) (fun _ _ _ h => h) (Or.inl ⟨by kernel_rfl, ?hyra11⟩) (by assumption) ?restra11
 case hyra11 => (intro W hSw; (try dsimp only at hSw); go_simp; try with_reducible rfl)
 case' restra11 => try simp only [Act.put, List.setIfInBounds_toArray, List.set_cons_zero, List.set_cons_succ]
 refine wpAnyH_take (i := 12) (oi := ⟨some 23, _, _, _, _, _⟩) (v := ?vra12) rfl (by kernel_rfl) (by kernel_rfl) (by kernel_rfl) (fun _ _ _ h => h) (Or.inl ⟨by kernel_rfl, ?hyra12⟩) (by assumption) ?restra12
 case hyra12 => (intro W hSw; (try dsimp only at hSw); go_simp; try with_reducible rfl)
 case' restra12 => try simp only [Act.put, List.setIfInBounds_toArray, List.set_cons_zero, List.set_cons_succ]
 refine' wpAnyH_share (fun H f l (act : Value → Value → Value → Value → Act) => ∀ (v7 : Value) (v8 : Value) (v9 : Value) (v10 : Value) (WX : World), Bq w0.heap.size WX v7 (0, 0) → Bq w0.heap.size WX v8 (0, 0) → Nq WX v7 v8 → Bq w0.heap.size WX v9 (0, 0) → Nq WX v7 v9 → Nq WX v8 v9 → Bq w0.heap.size WX v10 (0, 0) → Nq WX v7 v10 → Nq WX v8 v10 → Nq WX v9 v10 → (fun W : World => Below w0.heap.size w0 W) WX → H f l (act v7 v8 v9 v10) WX) (fun tailra53 => ?mtailra53) ?ttailra53
 case mtailra53 =>
  refine' wpAnyH_share (fun H f l (act : Value → Value → Value → Value → Act) => ∀ (v7 : Value) (v8 : Value) (v9 : Value) (v10 : Value) (WX : World), Bq w0.heap.size WX v7 (0, 0) → Bq w0.heap.size WX v8 (0, 0) → Nq WX v7 v8 → Bq w0.heap.size WX v9 (0, 0) → Nq WX v7 v9 → Nq WX v8 v9 → Bq w0.heap.size WX v10 (0, 0) → Nq WX v7 v10 → Nq WX v8 v10 → Nq WX v9 v10 → (fun W : World => Below w0.heap.size w0 W) WX → H f l (act v7 v8 v9 v10) WX) (fun tailra52 => ?mtailra52) ?ttailra52
  case mtailra52 =>
   refine' wpAnyH_share (fun H f l (act : Value → Value → Value → Act) => ∀ (v8 : Value) (v9 : Value) (v10 : Value) (WX : World), Bq w0.heap.size WX v8 (0, 0) → Bq w0.heap.size WX v9 (0, 0) → Nq WX v8 v9 → Bq w0.heap.size WX v10 (0, 0) → Nq WX v8 v10 → Nq WX v9 v10 → (fun W : World => Below w0.heap.size w0 W) WX → H f l (act v8 v9 v10) WX) (fun tailra51 => ?mtailra51) ?ttailra51
   case mtailra51 =>
    refine' wpAnyH_share (fun H f l (act : Value → Value → Value → Act) => ∀ (v7 : Value) (v9 : Value) (v10 : Value) (WX : World), Bq w0.heap.size WX v7 (0, 0) → Bq w0.heap.size WX v9 (0, 0) → Nq WX v7 v9 → Bq w0.heap.size WX v10 (0, 0) → Nq WX v7 v10 → Nq WX v9 v10 → (fun W : World => Below w0.heap.size w0 W) WX → H f l (act v7 v9 v10) WX) (fun tailra50 => ?mtailra50) ?ttailra50
    case mtailra50 =>
     refine' wpAnyH_share (fun H f l (act : Value → Value → Value → Act) => ∀ (v7 : Value) (v8 : Value) (v10 : Value) (WX : World), Bq w0.heap.size WX v7 (0, 0) → Bq w0.heap.size WX v8 (0, 0) → Nq WX v7 v8 → Bq w0.heap.size WX v10 (0, 0) → Nq WX v7 v10 → Nq WX v8 v10 → (fun W : World => Below w0.heap.size w0 W) WX → H f l (act v7 v8 v10) WX) (fun tailra49 => ?mtailra49) ?ttailra49
     case mtailra49 =>
      refine' wpAnyH_share (fun H f l (act : Value → Value → Value → Act) => ∀ (v7 : Value) (v8 : Value) (v9 : Value) (WX : World), Bq w0.heap.size WX v7 (0, 0) → Bq w0.heap.size WX v8 (0, 0) → Nq WX v7 v8 → Bq w0.heap.size WX v9 (0, 0) → Nq WX v7 v9 → Nq WX v8 v9 → (fun W : World => Below w0.heap.size w0 W) WX → H f l (act v7 v8 v9) WX) (fun tailra48 => ?mtailra48) ?ttailra48
      case mtailra48 =>
       refine' wpAnyH_share (fun H f l (act : Value → Value → Value → Value → Act) => ∀ (v7 : Value) (v8 : Value) (v9 : Value) (v10 : Value) (WX : World), Bq w0.heap.size WX v7 (0, 0) → Bq w0.heap.size WX v8 (0, 0) → Nq WX v7 v8 → Bq w0.heap.size WX v9 (0, 0) → Nq WX v7 v9 → Nq WX v8 v9 → Bq w0.heap.size WX v10 (0, 0) → Nq WX v7 v10 → Nq WX v8 v10 → Nq WX v9 v10 → (fun W : World => Below w0.heap.size w0 W) WX → H f l (act v7 v8 v9 v10) WX) (fun tailra47 => ?mtailra47) ?ttailra47
       case mtailra47 =>
        refine' wpAnyH_share (fun H f l (act : Value → Value → Value → Act) => ∀ (v8 : Value) (v9 : Value) (v10 : Value) (WX : World), Bq w0.heap.size WX v8 (0, 0) → Bq w0.heap.size WX v9 (0, 0) → Nq WX v8 v9 → Bq w0.heap.size WX v10 (0, 0) → Nq WX v8 v10 → Nq WX v9 v10 → (fun W : World => Below w0.heap.size w0 W) WX → H f l (act v8 v9 v10) WX) (fun tailra46 => ?mtailra46) ?ttailra46
        case mtailra46 =>
         refine' wpAnyH_share (fun H f l (act : Value → Value → Value → Act) => ∀ (v7 : Value) (v9 : Value) (v10 : Value) (WX : World), Bq w0.heap.size WX v7 (0, 0) → Bq w0.heap.size WX v9 (0, 0) → Nq WX v7 v9 → Bq w0.heap.size WX v10 (0, 0) → Nq WX v7 v10 → Nq WX v9 v10 → (fun W : World => Below w0.heap.size w0 W) WX → H f l (act v7 v9 v10) WX) (fun tailra45 => ?mtailra45) ?ttailra45
         case mtailra45 =>
          refine' wpAnyH_share (fun H f l (act : Value → Value → Value → Act) => ∀ (v7 : Value) (v8 : Value) (v10 : Value) (WX : World), Bq w0.heap.size WX v7 (0, 0) → Bq w0.heap.size WX v8 (0, 0) → Nq WX v7 v8 → Bq w0.heap.size WX v10 (0, 0) → Nq WX v7 v10 → Nq WX v8 v10 → (fun W : World => Below w0.heap.size w0 W) WX → H f l (act v7 v8 v10) WX) (fun tailra44 => ?mtailra44) ?ttailra44
          case mtailra44 =>
           refine' wpAnyH_share (fun H f l (act : Value → Value → Value → Act) => ∀ (v7 : Value) (v8 : Value) (v9 : Value) (WX : World), Bq w0.heap.size WX v7 (0, 0) → Bq w0.heap.size WX v8 (0, 0) → Nq WX v7 v8 → Bq w0.heap.size WX v9 (0, 0) → Nq WX v7 v9 → Nq WX v8 v9 → (fun W : World => Below w0.heap.size w0 W) WX → H f l (act v7 v8 v9) WX) (fun tailra43 => ?mtailra43) ?ttailra43
           case mtailra43 =>
            refine' wpAnyH_share (fun H f l (act : Value → Value → Act) => ∀ (v9 : Value) (v10 : Value) (WX : World), Bq w0.heap.size WX v9 (0, 0) → Bq w0.heap.size WX v10 (0, 0) → Nq WX v9 v10 → (fun W : World => Below w0.heap.size w0 W) WX → H f l (act v9 v10) WX) (fun tailra42 => ?mtailra42) ?ttailra42
            case mtailra42 =>
             refine' wpAnyH_share (fun H f l (act : Value → Value → Act) => ∀ (v8 : Value) (v10 : Value) (WX : World), Bq w0.heap.size WX v8 (0, 0) → Bq w0.heap.size WX v10 (0, 0) → Nq WX v8 v10 → (fun W : World => Below w0.heap.size w0 W) WX → H f l (act v8 v10) WX) (fun tailra41 => ?mtailra41) ?ttailra41
             case mtailra41 =>
              refine' wpAnyH_share (fun H f l (act : Value → Value → Act) => ∀ (v8 : Value) (v9 : Value) (WX : World), Bq w0.heap.size WX v8 (0, 0) → Bq w0.heap.size WX v9 (0, 0) → Nq WX v8 v9 → (fun W : World => Below w0.heap.size w0 W) WX → H f l (act v8 v9) WX) (fun tailra40 => ?mtailra40) ?ttailra40
              case mtailra40 =>
               refine' wpAnyH_share (fun H f l (act : Value → Value → Act) => ∀ (v7 : Value) (v10 : Value) (WX : World), Bq w0.heap.size WX v7 (0, 0) → Bq w0.heap.size WX v10 (0, 0) → Nq WX v7 v10 → (fun W : World => Below w0.heap.size w0 W) WX → H f l (act v7 v10) WX) (fun tailra39 => ?mtailra39) ?ttailra39
               case mtailra39 =>
                refine' wpAnyH_share (fun H f l (act : Value → Value → Act) => ∀ (v7 : Value) (v9 : Value) (WX : World), Bq w0.heap.size WX v7 (0, 0) → Bq w0.heap.size WX v9 (0, 0) → Nq WX v7 v9 → (fun W : World => Below w0.heap.size w0 W) WX → H f l (act v7 v9) WX) (fun tailra38 => ?mtailra38) ?ttailra38
                case mtailra38 =>
                 refine' wpAnyH_share (fun H f l (act : Value → Value → Act) => ∀ (v7 : Value) (v8 : Value) (WX : World), Bq w0.heap.size WX v7 (0, 0) → Bq w0.heap.size WX v8 (0, 0) → Nq WX v7 v8 → (fun W : World => Below w0.heap.size w0 W) WX → H f l (act v7 v8) WX) (fun tailra37 => ?mtailra37) ?ttailra37
                 case mtailra37 =>
                  refine' wpAnyH_share (fun H f l (act : Value → Value → Value → Act) => ∀ (v8 : Value) (v9 : Value) (v10 : Value) (WX : World), Bq w0.heap.size WX v8 (0, 0) → Bq w0.heap.size WX v9 (0, 0) → Nq WX v8 v9 → Bq w0.heap.size WX v10 (0, 0) → Nq WX v8 v10 → Nq WX v9 v10 → (fun W : World => Below w0.heap.size w0 W) WX → H f l (act v8 v9 v10) WX) (fun tailra36 => ?mtailra36) ?ttailra36
                  case mtailra36 =>
                   refine' wpAnyH_share (fun H f l (act : Value → Value → Value → Act) => ∀ (v7 : Value) (v9 : Value) (v10 : Value) (WX : World), Bq w0.heap.size WX v7 (0, 0) → Bq w0.heap.size WX v9 (0, 0) → Nq WX v7 v9 → Bq w0.heap.size WX v10 (0, 0) → Nq WX v7 v10 → Nq WX v9 v10 → (fun W : World => Below w0.heap.size w0 W) WX → H f l (act v7 v9 v10) WX) (fun tailra35 => ?mtailra35) ?ttailra35
                   case mtailra35 =>
                    refine' wpAnyH_share (fun H f l (act : Value → Value → Value → Act) => ∀ (v7 : Value) (v8 : Value) (v10 : Value) (WX : World), Bq w0.heap.size WX v7 (0, 0) → Bq w0.heap.size WX v8 (0, 0) → Nq WX v7 v8 → Bq w0.heap.size WX v10 (0, 0) → Nq WX v7 v10 → Nq WX v8 v10 → (fun W : World => Below w0.heap.size w0 W) WX → H f l (act v7 v8 v10) WX) (fun tailra34 => ?mtailra34) ?ttailra34
                    case mtailra34 =>
                     refine' wpAnyH_share (fun H f l (act : Value → Value → Value → Act) => ∀ (v7 : Value) (v8 : Value) (v9 : Value) (WX : World), Bq w0.heap.size WX v7 (0, 0) → Bq w0.heap.size WX v8 (0, 0) → Nq WX v7 v8 → Bq w0.heap.size WX v9 (0, 0) → Nq WX v7 v9 → Nq WX v8 v9 → (fun W : World => Below w0.heap.size w0 W) WX → H f l (act v7 v8 v9) WX) (fun tailra33 => ?mtailra33) ?ttailra33
                     case mtailra33 =>
                      refine' wpAnyH_share (fun H f l (act : Value → Value → Act) => ∀ (v9 : Value) (v10 : Value) (WX : World), Bq w0.heap.size WX v9 (0, 0) → Bq w0.heap.size WX v10 (0, 0) → Nq WX v9 v10 → (fun W : World => Below w0.heap.size w0 W) WX → H f l (act v9 v10) WX) (fun tailra32 => ?mtailra32) ?ttailra32
                      case mtailra32 =>
                       refine' wpAnyH_share (fun H f l (act : Value → Value → Act) => ∀ (v8 : Value) (v10 : Value) (WX : World), Bq w0.heap.size WX v8 (0, 0) → Bq w0.heap.size WX v10 (0, 0) → Nq WX v8 v10 → (fun W : World => Below w0.heap.size w0 W) WX → H f l (act v8 v10) WX) (fun tailra31 => ?mtailra31) ?ttailra31
                       case mtailra31 =>
                        refine' wpAnyH_share (fun H f l (act : Value → Value → Act) => ∀ (v8 : Value) (v9 : Value) (WX : World), Bq w0.heap.size WX v8 (0, 0) → Bq w0.heap.size WX v9 (0, 0) → Nq WX v8 v9 → (fun W : World => Below w0.heap.size w0 W) WX → H f l (act v8 v9) WX) (fun tailra30 => ?mtailra30) ?ttailra30
                        case mtailra30 =>
                         refine' wpAnyH_share (fun H f l (act : Value → Value → Act) => ∀ (v7 : Value) (v10 : Value) (WX : World), Bq w0.heap.size WX v7 (0, 0) → Bq w0.heap.size WX v10 (0, 0) → Nq WX v7 v10 → (fun W : World => Below w0.heap.size w0 W) WX → H f l (act v7 v10) WX) (fun tailra29 => ?mtailra29) ?ttailra29
                         case mtailra29 =>
                          refine' wpAnyH_share (fun H f l (act : Value → Value → Act) => ∀ (v7 : Value) (v9 : Value) (WX : World), Bq w0.heap.size WX v7 (0, 0) → Bq w0.heap.size WX v9 (0, 0) → Nq WX v7 v9 → (fun W : World => Below w0.heap.size w0 W) WX → H f l (act v7 v9) WX) (fun tailra28 => ?mtailra28) ?ttailra28
                          case mtailra28 =>
                           refine' wpAnyH_share (fun H f l (act : Value → Value → Act) => ∀ (v7 : Value) (v8 : Value) (WX : World), Bq w0.heap.size WX v7 (0, 0) → Bq w0.heap.size WX v8 (0, 0) → Nq WX v7 v8 → (fun W : World => Below w0.heap.size w0 W) WX → H f l (act v7 v8) WX) (fun tailra27 => ?mtailra27) ?ttailra27
                           case mtailra27 =>
                            refine' wpAnyH_share (fun H f l (act : Value → Act) => ∀ (v10 : Value) (WX : World), Bq w0.heap.size WX v10 (0, 0) → (fun W : World => Below w0.heap.size w0 W) WX → H f l (act v10) WX) (fun tailra26 => ?mtailra26) ?ttailra26
                            case mtailra26 =>
                             refine' wpAnyH_share (fun H f l (act : Value → Act) => ∀ (v9 : Value) (WX : World), Bq w0.heap.size WX v9 (0, 0) → (fun W : World => Below w0.heap.size w0 W) WX → H f l (act v9) WX) (fun tailra25 => ?mtailra25) ?ttailra25
                             case mtailra25 =>
                              refine' wpAnyH_share (fun H f l (act : Value → Act) => ∀ (v8 : Value) (WX : World), Bq w0.heap.size WX v8 (0, 0) → (fun W : World => Below w0.heap.size w0 W) WX → H f l (act v8) WX) (fun tailra24 => ?mtailra24) ?ttailra24
                              case mtailra24 =>
                               refine' wpAnyH_share (fun H f l (act : Value → Act) => ∀ (v7 : Value) (WX : World), Bq w0.heap.size WX v7 (0, 0) → (fun W : World => Below w0.heap.size w0 W) WX → H f l (act v7) WX) (fun tailra23 => ?mtailra23) ?ttailra23
                               case mtailra23 =>
                                refine' wpAnyH_share (fun H f l (act : Value → Value → Act) => ∀ (v9 : Value) (v10 : Value) (WX : World), Bq w0.heap.size WX v9 (0, 0) → Bq w0.heap.size WX v10 (0, 0) → Nq WX v9 v10 → (fun W : World => Below w0.heap.size w0 W) WX → H f l (act v9 v10) WX) (fun tailra22 => ?mtailra22) ?ttailra22
                                case mtailra22 =>
                                 refine' wpAnyH_share (fun H f l (act : Value → Value → Act) => ∀ (v8 : Value) (v10 : Value) (WX : World), Bq w0.heap.size WX v8 (0, 0) → Bq w0.heap.size WX v10 (0, 0) → Nq WX v8 v10 → (fun W : World => Below w0.heap.size w0 W) WX → H f l (act v8 v10) WX) (fun tailra21 => ?mtailra21) ?ttailra21
                                 case mtailra21 =>
                                  refine' wpAnyH_share (fun H f l (act : Value → Value → Act) => ∀ (v8 : Value) (v9 : Value) (WX : World), Bq w0.heap.size WX v8 (0, 0) → Bq w0.heap.size WX v9 (0, 0) → Nq WX v8 v9 → (fun W : World => Below w0.heap.size w0 W) WX → H f l (act v8 v9) WX) (fun tailra20 => ?mtailra20) ?ttailra20
                                  case mtailra20 =>
                                   refine' wpAnyH_share (fun H f l (act : Value → Value → Act) => ∀ (v7 : Value) (v10 : Value) (WX : World), Bq w0.heap.size WX v7 (0, 0) → Bq w0.heap.size WX v10 (0, 0) → Nq WX v7 v10 → (fun W : World => Below w0.heap.size w0 W) WX → H f l (act v7 v10) WX) (fun tailra19 => ?mtailra19) ?ttailra19
                                   case mtailra19 =>
                                    refine' wpAnyH_share (fun H f l (act : Value → Value → Act) => ∀ (v7 : Value) (v9 : Value) (WX : World), Bq w0.heap.size WX v7 (0, 0) → Bq w0.heap.size WX v9 (0, 0) → Nq WX v7 v9 → (fun W : World => Below w0.heap.size w0 W) WX → H f l (act v7 v9) WX) (fun tailra18 => ?mtailra18) ?ttailra18
                                    case mtailra18 =>
                                     refine' wpAnyH_share (fun H f l (act : Value → Value → Act) => ∀ (v7 : Value) (v8 : Value) (WX : World), Bq w0.heap.size WX v7 (0, 0) → Bq w0.heap.size WX v8 (0, 0) → Nq WX v7 v8 → (fun W : World => Below w0.heap.size w0 W) WX → H f l (act v7 v8) WX) (fun tailra17 => ?mtailra17) ?ttailra17
                                     case mtailra17 =>
                                      refine' wpAnyH_share (fun H f l (act : Value → Act) => ∀ (v10 : Value) (WX : World), Bq w0.heap.size WX v10 (0, 0) → (fun W : World => Below w0.heap.size w0 W) WX → H f l (act v10) WX) (fun tailra16 => ?mtailra16) ?ttailra16
                                      case mtailra16 =>
                                       refine' wpAnyH_share (fun H f l (act : Value → Act) => ∀ (v9 : Value) (WX : World), Bq w0.heap.size WX v9 (0, 0) → (fun W : World => Below w0.heap.size w0 W) WX → H f l (act v9) WX) (fun tailra15 => ?mtailra15) ?ttailra15
                                       case mtailra15 =>
                                        refine' wpAnyH_share (fun H f l (act : Value → Act) => ∀ (v8 : Value) (WX : World), Bq w0.heap.size WX v8 (0, 0) → (fun W : World => Below w0.heap.size w0 W) WX → H f l (act v8) WX) (fun tailra14 => ?mtailra14) ?ttailra14
                                        case mtailra14 =>
                                         refine' wpAnyH_share (fun H f l (act : Value → Act) => ∀ (v7 : Value) (WX : World), Bq w0.heap.size WX v7 (0, 0) → (fun W : World => Below w0.heap.size w0 W) WX → H f l (act v7) WX) (fun tailra13 => ?mtailra13) ?ttailra13
                                         case mtailra13 =>
                                          refine wpAnyH_ready (rs := [6, 14, 15, 16, 17]) (by kernel_rfl) (by simp) ?_
                                          refine AllReadyH.cons (o := ⟨some 17, _, _, _, _, _⟩) rfl (fun K hK => ?_) ?_
                                          ·
                                           go_simp
                                           go_at_call 32
                                           refine (CEi.out _ hS0).mono ?_
                                           rintro e Wra1 ⟨rfl, hbWra1⟩
                                           have hSWra1 := hS0.trans (hbWra1.mono hS0.size)
                                           try clear hS0
                                           clear hbWra1
                                           go_wp2_with fail
                                           refine hK.out _ _ hSWra1 (fun hHeld => ?_)
                                           clear hK hHeld K
                                           try simp only [Act.put, List.setIfInBounds_toArray, List.set_cons_zero, List.set_cons_succ]
                                           refine wpAnyH_ready (rs := [13, 14, 15, 16, 17]) (by kernel_rfl) (by simp) ?_
                                           refine AllReadyH.cons (o := ⟨some 24, _, _, _, _, _⟩) rfl (fun K hK => ?_) ?_
                                           ·
                                            go_simp
                                            go_at_call 32
                                            refine (CEk.out _ hSWra1).mono ?_
                                            rintro e Wra2 ⟨rfl, hbWra2⟩
                                            have hSWra2 := hSWra1.trans (hbWra2.mono hSWra1.size)
                                            try clear hSWra1
                                            clear hbWra2
                                            go_wp2_with fail
                                            refine hK.out _ _ hSWra2 (fun hHeld => ?_)
                                            clear hK hHeld K
                                            try simp only [Act.put, List.setIfInBounds_toArray, List.set_cons_zero, List.set_cons_succ]
                                            refine wpAnyH_ready (rs := [14, 15, 16, 17]) (by kernel_rfl) (by simp) ?_
                                            refine AllReadyH.cons (o := ⟨some 7, _, _, _, _, _⟩) rfl (fun K hK => ?_) ?_
                                            ·
                                             go_simp
                                             have h7 := Bq.new Wra2 hSWra2.size
                                             have hSWra3 := hSWra2.alloc hSWra2.size (.cells #[.int .i64 0, .int .i64 0] 32)
                                             refine hK.out _ _ hSWra3 (fun hHeld => ?_)
                                             clear hK hHeld K
                                             try clear hSWra2
                                             try simp only [Act.put, List.setIfInBounds_toArray, List.set_cons_zero, List.set_cons_succ]
                                             generalize (Wra2.alloc (.cells #[.int .i64 0, .int .i64 0] 32)) = Wra3 at  h7 hSWra3 ⊢
                                             generalize Value.pointer (some ⟨Wra2.heap.size, 0, none⟩) = v7 at  h7 ⊢
                                             exact wpAnyH_cast rfl rfl (tailra23 v7 Wra3 h7 hSWra3)
                                            refine AllReadyH.cons (o := ⟨some 8, _, _, _, _, _⟩) rfl (fun K hK => ?_) ?_
                                            ·
                                             go_simp
                                             have h8 := Bq.new Wra2 hSWra2.size
                                             have hSWra4 := hSWra2.alloc hSWra2.size (.cells #[.int .i64 0, .int .i64 0] 32)
                                             refine hK.out _ _ hSWra4 (fun hHeld => ?_)
                                             clear hK hHeld K
                                             try clear hSWra2
                                             try simp only [Act.put, List.setIfInBounds_toArray, List.set_cons_zero, List.set_cons_succ]
                                             generalize (Wra2.alloc (.cells #[.int .i64 0, .int .i64 0] 32)) = Wra4 at  h8 hSWra4 ⊢
                                             generalize Value.pointer (some ⟨Wra2.heap.size, 0, none⟩) = v8 at  h8 ⊢
                                             exact wpAnyH_cast rfl rfl (tailra24 v8 Wra4 h8 hSWra4)
                                            refine AllReadyH.cons (o := ⟨some 9, _, _, _, _, _⟩) rfl (fun K hK => ?_) ?_
                                            ·
                                             go_simp
                                             have h9 := Bq.new Wra2 hSWra2.size
                                             have hSWra5 := hSWra2.alloc hSWra2.size (.cells #[.int .i64 0, .int .i64 0] 32)
                                             refine hK.out _ _ hSWra5 (fun hHeld => ?_)
                                             clear hK hHeld K
                                             try clear hSWra2
                                             try simp only [Act.put, List.setIfInBounds_toArray, List.set_cons_zero, List.set_cons_succ]
                                             generalize (Wra2.alloc (.cells #[.int .i64 0, .int .i64 0] 32)) = Wra5 at  h9 hSWra5 ⊢
                                             generalize Value.pointer (some ⟨Wra2.heap.size, 0, none⟩) = v9 at  h9 ⊢
                                             exact wpAnyH_cast rfl rfl (tailra25 v9 Wra5 h9 hSWra5)
                                            refine AllReadyH.cons (o := ⟨some 10, _, _, _, _, _⟩) rfl (fun K hK => ?_) AllReadyH.nil
                                            go_simp
                                            have h10 := Bq.new Wra2 hSWra2.size
                                            have hSWra6 := hSWra2.alloc hSWra2.size (.cells #[.int .i64 0, .int .i64 0] 32)
                                            refine hK.out _ _ hSWra6 (fun hHeld => ?_)
                                            clear hK hHeld K
                                            try clear hSWra2
                                            try simp only [Act.put, List.setIfInBounds_toArray, List.set_cons_zero, List.set_cons_succ]
                                            generalize (Wra2.alloc (.cells #[.int .i64 0, .int .i64 0] 32)) = Wra6 at  h10 hSWra6 ⊢
                                            generalize Value.pointer (some ⟨Wra2.heap.size, 0, none⟩) = v10 at  h10 ⊢
                                            exact wpAnyH_cast rfl rfl (tailra26 v10 Wra6 h10 hSWra6)
                                           refine AllReadyH.cons (o := ⟨some 7, _, _, _, _, _⟩) rfl (fun K hK => ?_) ?_
                                           ·
                                            go_simp
                                            have h7 := Bq.new Wra1 hSWra1.size
                                            have hSWra7 := hSWra1.alloc hSWra1.size (.cells #[.int .i64 0, .int .i64 0] 32)
                                            refine hK.out _ _ hSWra7 (fun hHeld => ?_)
                                            clear hK hHeld K
                                            try clear hSWra1
                                            try simp only [Act.put, List.setIfInBounds_toArray, List.set_cons_zero, List.set_cons_succ]
                                            generalize (Wra1.alloc (.cells #[.int .i64 0, .int .i64 0] 32)) = Wra7 at  h7 hSWra7 ⊢
                                            generalize Value.pointer (some ⟨Wra1.heap.size, 0, none⟩) = v7 at  h7 ⊢
                                            exact wpAnyH_cast rfl rfl (tailra13 v7 Wra7 h7 hSWra7)
                                           refine AllReadyH.cons (o := ⟨some 8, _, _, _, _, _⟩) rfl (fun K hK => ?_) ?_
                                           ·
                                            go_simp
                                            have h8 := Bq.new Wra1 hSWra1.size
                                            have hSWra8 := hSWra1.alloc hSWra1.size (.cells #[.int .i64 0, .int .i64 0] 32)
                                            refine hK.out _ _ hSWra8 (fun hHeld => ?_)
                                            clear hK hHeld K
                                            try clear hSWra1
                                            try simp only [Act.put, List.setIfInBounds_toArray, List.set_cons_zero, List.set_cons_succ]
                                            generalize (Wra1.alloc (.cells #[.int .i64 0, .int .i64 0] 32)) = Wra8 at  h8 hSWra8 ⊢
                                            generalize Value.pointer (some ⟨Wra1.heap.size, 0, none⟩) = v8 at  h8 ⊢
                                            exact wpAnyH_cast rfl rfl (tailra14 v8 Wra8 h8 hSWra8)
                                           refine AllReadyH.cons (o := ⟨some 9, _, _, _, _, _⟩) rfl (fun K hK => ?_) ?_
                                           ·
                                            go_simp
                                            have h9 := Bq.new Wra1 hSWra1.size
                                            have hSWra9 := hSWra1.alloc hSWra1.size (.cells #[.int .i64 0, .int .i64 0] 32)
                                            refine hK.out _ _ hSWra9 (fun hHeld => ?_)
                                            clear hK hHeld K
                                            try clear hSWra1
                                            try simp only [Act.put, List.setIfInBounds_toArray, List.set_cons_zero, List.set_cons_succ]
                                            generalize (Wra1.alloc (.cells #[.int .i64 0, .int .i64 0] 32)) = Wra9 at  h9 hSWra9 ⊢
                                            generalize Value.pointer (some ⟨Wra1.heap.size, 0, none⟩) = v9 at  h9 ⊢
                                            exact wpAnyH_cast rfl rfl (tailra15 v9 Wra9 h9 hSWra9)
                                           refine AllReadyH.cons (o := ⟨some 10, _, _, _, _, _⟩) rfl (fun K hK => ?_) AllReadyH.nil
                                           go_simp
                                           have h10 := Bq.new Wra1 hSWra1.size
                                           have hSWra10 := hSWra1.alloc hSWra1.size (.cells #[.int .i64 0, .int .i64 0] 32)
                                           refine hK.out _ _ hSWra10 (fun hHeld => ?_)
                                           clear hK hHeld K
                                           try clear hSWra1
                                           try simp only [Act.put, List.setIfInBounds_toArray, List.set_cons_zero, List.set_cons_succ]
                                           generalize (Wra1.alloc (.cells #[.int .i64 0, .int .i64 0] 32)) = Wra10 at  h10 hSWra10 ⊢
                                           generalize Value.pointer (some ⟨Wra1.heap.size, 0, none⟩) = v10 at  h10 ⊢
                                           exact wpAnyH_cast rfl rfl (tailra16 v10 Wra10 h10 hSWra10)
                                          refine AllReadyH.cons (o := ⟨some 7, _, _, _, _, _⟩) rfl (fun K hK => ?_) ?_
                                          ·
                                           go_simp
                                           have h7 := Bq.new w0 hS0.size
                                           have hSWra11 := hS0.alloc hS0.size (.cells #[.int .i64 0, .int .i64 0] 32)
                                           refine hK.out _ _ hSWra11 (fun hHeld => ?_)
                                           clear hK hHeld K
                                           try clear hS0
                                           try simp only [Act.put, List.setIfInBounds_toArray, List.set_cons_zero, List.set_cons_succ]
                                           generalize (w0.alloc (.cells #[.int .i64 0, .int .i64 0] 32)) = Wra11 at  h7 hSWra11 ⊢
                                           generalize Value.pointer (some ⟨w0.heap.size, 0, none⟩) = v7 at  h7 ⊢
                                           refine wpAnyH_ready (rs := [6, 15, 16, 17]) (by kernel_rfl) (by simp) ?_
                                           refine AllReadyH.cons (o := ⟨some 17, _, _, _, _, _⟩) rfl (fun K hK => ?_) ?_
                                           ·
                                            go_simp
                                            go_at_call 32
                                            refine (CEi.out _ hSWra11).mono ?_
                                            rintro e Wra12 ⟨rfl, hbWra12⟩
                                            replace h7 := h7.below hbWra12
                                            have hSWra12 := hSWra11.trans (hbWra12.mono hSWra11.size)
                                            try clear hSWra11
                                            clear hbWra12
                                            go_wp2_with fail
                                            refine hK.out _ _ hSWra12 (fun hHeld => ?_)
                                            clear hK hHeld K
                                            try simp only [Act.put, List.setIfInBounds_toArray, List.set_cons_zero, List.set_cons_succ]
                                            exact wpAnyH_cast (by kernel_rfl) (by kernel_rfl) (tailra13 v7 Wra12 h7 hSWra12)
                                           refine AllReadyH.cons (o := ⟨some 8, _, _, _, _, _⟩) rfl (fun K hK => ?_) ?_
                                           ·
                                            go_simp
                                            have e7_8 := Nq.new h7 (.cells #[.int .i64 0, .int .i64 0] 32)
                                            replace h7 := h7.alloc (.cells #[.int .i64 0, .int .i64 0] 32)
                                            have h8 := Bq.new Wra11 hSWra11.size
                                            have hSWra13 := hSWra11.alloc hSWra11.size (.cells #[.int .i64 0, .int .i64 0] 32)
                                            refine hK.out _ _ hSWra13 (fun hHeld => ?_)
                                            clear hK hHeld K
                                            try clear hSWra11
                                            try simp only [Act.put, List.setIfInBounds_toArray, List.set_cons_zero, List.set_cons_succ]
                                            generalize (Wra11.alloc (.cells #[.int .i64 0, .int .i64 0] 32)) = Wra13 at h7 e7_8 h8 hSWra13 ⊢
                                            generalize Value.pointer (some ⟨Wra11.heap.size, 0, none⟩) = v8 at e7_8 h8 ⊢
                                            exact wpAnyH_cast rfl rfl (tailra17 v7 v8 Wra13 h7 h8 e7_8 hSWra13)
                                           refine AllReadyH.cons (o := ⟨some 9, _, _, _, _, _⟩) rfl (fun K hK => ?_) ?_
                                           ·
                                            go_simp
                                            have e7_9 := Nq.new h7 (.cells #[.int .i64 0, .int .i64 0] 32)
                                            replace h7 := h7.alloc (.cells #[.int .i64 0, .int .i64 0] 32)
                                            have h9 := Bq.new Wra11 hSWra11.size
                                            have hSWra14 := hSWra11.alloc hSWra11.size (.cells #[.int .i64 0, .int .i64 0] 32)
                                            refine hK.out _ _ hSWra14 (fun hHeld => ?_)
                                            clear hK hHeld K
                                            try clear hSWra11
                                            try simp only [Act.put, List.setIfInBounds_toArray, List.set_cons_zero, List.set_cons_succ]
                                            generalize (Wra11.alloc (.cells #[.int .i64 0, .int .i64 0] 32)) = Wra14 at h7 e7_9 h9 hSWra14 ⊢
                                            generalize Value.pointer (some ⟨Wra11.heap.size, 0, none⟩) = v9 at e7_9 h9 ⊢
                                            exact wpAnyH_cast rfl rfl (tailra18 v7 v9 Wra14 h7 h9 e7_9 hSWra14)
                                           refine AllReadyH.cons (o := ⟨some 10, _, _, _, _, _⟩) rfl (fun K hK => ?_) AllReadyH.nil
                                           go_simp
                                           have e7_10 := Nq.new h7 (.cells #[.int .i64 0, .int .i64 0] 32)
                                           replace h7 := h7.alloc (.cells #[.int .i64 0, .int .i64 0] 32)
                                           have h10 := Bq.new Wra11 hSWra11.size
                                           have hSWra15 := hSWra11.alloc hSWra11.size (.cells #[.int .i64 0, .int .i64 0] 32)
                                           refine hK.out _ _ hSWra15 (fun hHeld => ?_)
                                           clear hK hHeld K
                                           try clear hSWra11
                                           try simp only [Act.put, List.setIfInBounds_toArray, List.set_cons_zero, List.set_cons_succ]
                                           generalize (Wra11.alloc (.cells #[.int .i64 0, .int .i64 0] 32)) = Wra15 at h7 e7_10 h10 hSWra15 ⊢
                                           generalize Value.pointer (some ⟨Wra11.heap.size, 0, none⟩) = v10 at e7_10 h10 ⊢
                                           exact wpAnyH_cast rfl rfl (tailra19 v7 v10 Wra15 h7 h10 e7_10 hSWra15)
                                          refine AllReadyH.cons (o := ⟨some 8, _, _, _, _, _⟩) rfl (fun K hK => ?_) ?_
                                          ·
                                           go_simp
                                           have h8 := Bq.new w0 hS0.size
                                           have hSWra16 := hS0.alloc hS0.size (.cells #[.int .i64 0, .int .i64 0] 32)
                                           refine hK.out _ _ hSWra16 (fun hHeld => ?_)
                                           clear hK hHeld K
                                           try clear hS0
                                           try simp only [Act.put, List.setIfInBounds_toArray, List.set_cons_zero, List.set_cons_succ]
                                           generalize (w0.alloc (.cells #[.int .i64 0, .int .i64 0] 32)) = Wra16 at  h8 hSWra16 ⊢
                                           generalize Value.pointer (some ⟨w0.heap.size, 0, none⟩) = v8 at  h8 ⊢
                                           refine wpAnyH_ready (rs := [6, 14, 16, 17]) (by kernel_rfl) (by simp) ?_
                                           refine AllReadyH.cons (o := ⟨some 17, _, _, _, _, _⟩) rfl (fun K hK => ?_) ?_
                                           ·
                                            go_simp
                                            go_at_call 32
                                            refine (CEi.out _ hSWra16).mono ?_
                                            rintro e Wra17 ⟨rfl, hbWra17⟩
                                            replace h8 := h8.below hbWra17
                                            have hSWra17 := hSWra16.trans (hbWra17.mono hSWra16.size)
                                            try clear hSWra16
                                            clear hbWra17
                                            go_wp2_with fail
                                            refine hK.out _ _ hSWra17 (fun hHeld => ?_)
                                            clear hK hHeld K
                                            try simp only [Act.put, List.setIfInBounds_toArray, List.set_cons_zero, List.set_cons_succ]
                                            exact wpAnyH_cast (by kernel_rfl) (by kernel_rfl) (tailra14 v8 Wra17 h8 hSWra17)
                                           refine AllReadyH.cons (o := ⟨some 7, _, _, _, _, _⟩) rfl (fun K hK => ?_) ?_
                                           ·
                                            go_simp
                                            have e7_8 := (Nq.new h8 (.cells #[.int .i64 0, .int .i64 0] 32)).symm
                                            replace h8 := h8.alloc (.cells #[.int .i64 0, .int .i64 0] 32)
                                            have h7 := Bq.new Wra16 hSWra16.size
                                            have hSWra18 := hSWra16.alloc hSWra16.size (.cells #[.int .i64 0, .int .i64 0] 32)
                                            refine hK.out _ _ hSWra18 (fun hHeld => ?_)
                                            clear hK hHeld K
                                            try clear hSWra16
                                            try simp only [Act.put, List.setIfInBounds_toArray, List.set_cons_zero, List.set_cons_succ]
                                            generalize (Wra16.alloc (.cells #[.int .i64 0, .int .i64 0] 32)) = Wra18 at h8 e7_8 h7 hSWra18 ⊢
                                            generalize Value.pointer (some ⟨Wra16.heap.size, 0, none⟩) = v7 at e7_8 h7 ⊢
                                            exact wpAnyH_cast (by kernel_rfl) (by kernel_rfl) (tailra17 v7 v8 Wra18 h7 h8 e7_8 hSWra18)
                                           refine AllReadyH.cons (o := ⟨some 9, _, _, _, _, _⟩) rfl (fun K hK => ?_) ?_
                                           ·
                                            go_simp
                                            have e8_9 := Nq.new h8 (.cells #[.int .i64 0, .int .i64 0] 32)
                                            replace h8 := h8.alloc (.cells #[.int .i64 0, .int .i64 0] 32)
                                            have h9 := Bq.new Wra16 hSWra16.size
                                            have hSWra19 := hSWra16.alloc hSWra16.size (.cells #[.int .i64 0, .int .i64 0] 32)
                                            refine hK.out _ _ hSWra19 (fun hHeld => ?_)
                                            clear hK hHeld K
                                            try clear hSWra16
                                            try simp only [Act.put, List.setIfInBounds_toArray, List.set_cons_zero, List.set_cons_succ]
                                            generalize (Wra16.alloc (.cells #[.int .i64 0, .int .i64 0] 32)) = Wra19 at h8 e8_9 h9 hSWra19 ⊢
                                            generalize Value.pointer (some ⟨Wra16.heap.size, 0, none⟩) = v9 at e8_9 h9 ⊢
                                            exact wpAnyH_cast rfl rfl (tailra20 v8 v9 Wra19 h8 h9 e8_9 hSWra19)
                                           refine AllReadyH.cons (o := ⟨some 10, _, _, _, _, _⟩) rfl (fun K hK => ?_) AllReadyH.nil
                                           go_simp
                                           have e8_10 := Nq.new h8 (.cells #[.int .i64 0, .int .i64 0] 32)
                                           replace h8 := h8.alloc (.cells #[.int .i64 0, .int .i64 0] 32)
                                           have h10 := Bq.new Wra16 hSWra16.size
                                           have hSWra20 := hSWra16.alloc hSWra16.size (.cells #[.int .i64 0, .int .i64 0] 32)
                                           refine hK.out _ _ hSWra20 (fun hHeld => ?_)
                                           clear hK hHeld K
                                           try clear hSWra16
                                           try simp only [Act.put, List.setIfInBounds_toArray, List.set_cons_zero, List.set_cons_succ]
                                           generalize (Wra16.alloc (.cells #[.int .i64 0, .int .i64 0] 32)) = Wra20 at h8 e8_10 h10 hSWra20 ⊢
                                           generalize Value.pointer (some ⟨Wra16.heap.size, 0, none⟩) = v10 at e8_10 h10 ⊢
                                           exact wpAnyH_cast rfl rfl (tailra21 v8 v10 Wra20 h8 h10 e8_10 hSWra20)
                                          refine AllReadyH.cons (o := ⟨some 9, _, _, _, _, _⟩) rfl (fun K hK => ?_) ?_
                                          ·
                                           go_simp
                                           have h9 := Bq.new w0 hS0.size
                                           have hSWra21 := hS0.alloc hS0.size (.cells #[.int .i64 0, .int .i64 0] 32)
                                           refine hK.out _ _ hSWra21 (fun hHeld => ?_)
                                           clear hK hHeld K
                                           try clear hS0
                                           try simp only [Act.put, List.setIfInBounds_toArray, List.set_cons_zero, List.set_cons_succ]
                                           generalize (w0.alloc (.cells #[.int .i64 0, .int .i64 0] 32)) = Wra21 at  h9 hSWra21 ⊢
                                           generalize Value.pointer (some ⟨w0.heap.size, 0, none⟩) = v9 at  h9 ⊢
                                           refine wpAnyH_ready (rs := [6, 14, 15, 17]) (by kernel_rfl) (by simp) ?_
                                           refine AllReadyH.cons (o := ⟨some 17, _, _, _, _, _⟩) rfl (fun K hK => ?_) ?_
                                           ·
                                            go_simp
                                            go_at_call 32
                                            refine (CEi.out _ hSWra21).mono ?_
                                            rintro e Wra22 ⟨rfl, hbWra22⟩
                                            replace h9 := h9.below hbWra22
                                            have hSWra22 := hSWra21.trans (hbWra22.mono hSWra21.size)
                                            try clear hSWra21
                                            clear hbWra22
                                            go_wp2_with fail
                                            refine hK.out _ _ hSWra22 (fun hHeld => ?_)
                                            clear hK hHeld K
                                            try simp only [Act.put, List.setIfInBounds_toArray, List.set_cons_zero, List.set_cons_succ]
                                            exact wpAnyH_cast (by kernel_rfl) (by kernel_rfl) (tailra15 v9 Wra22 h9 hSWra22)
                                           refine AllReadyH.cons (o := ⟨some 7, _, _, _, _, _⟩) rfl (fun K hK => ?_) ?_
                                           ·
                                            go_simp
                                            have e7_9 := (Nq.new h9 (.cells #[.int .i64 0, .int .i64 0] 32)).symm
                                            replace h9 := h9.alloc (.cells #[.int .i64 0, .int .i64 0] 32)
                                            have h7 := Bq.new Wra21 hSWra21.size
                                            have hSWra23 := hSWra21.alloc hSWra21.size (.cells #[.int .i64 0, .int .i64 0] 32)
                                            refine hK.out _ _ hSWra23 (fun hHeld => ?_)
                                            clear hK hHeld K
                                            try clear hSWra21
                                            try simp only [Act.put, List.setIfInBounds_toArray, List.set_cons_zero, List.set_cons_succ]
                                            generalize (Wra21.alloc (.cells #[.int .i64 0, .int .i64 0] 32)) = Wra23 at h9 e7_9 h7 hSWra23 ⊢
                                            generalize Value.pointer (some ⟨Wra21.heap.size, 0, none⟩) = v7 at e7_9 h7 ⊢
                                            exact wpAnyH_cast (by kernel_rfl) (by kernel_rfl) (tailra18 v7 v9 Wra23 h7 h9 e7_9 hSWra23)
                                           refine AllReadyH.cons (o := ⟨some 8, _, _, _, _, _⟩) rfl (fun K hK => ?_) ?_
                                           ·
                                            go_simp
                                            have e8_9 := (Nq.new h9 (.cells #[.int .i64 0, .int .i64 0] 32)).symm
                                            replace h9 := h9.alloc (.cells #[.int .i64 0, .int .i64 0] 32)
                                            have h8 := Bq.new Wra21 hSWra21.size
                                            have hSWra24 := hSWra21.alloc hSWra21.size (.cells #[.int .i64 0, .int .i64 0] 32)
                                            refine hK.out _ _ hSWra24 (fun hHeld => ?_)
                                            clear hK hHeld K
                                            try clear hSWra21
                                            try simp only [Act.put, List.setIfInBounds_toArray, List.set_cons_zero, List.set_cons_succ]
                                            generalize (Wra21.alloc (.cells #[.int .i64 0, .int .i64 0] 32)) = Wra24 at h9 e8_9 h8 hSWra24 ⊢
                                            generalize Value.pointer (some ⟨Wra21.heap.size, 0, none⟩) = v8 at e8_9 h8 ⊢
                                            exact wpAnyH_cast (by kernel_rfl) (by kernel_rfl) (tailra20 v8 v9 Wra24 h8 h9 e8_9 hSWra24)
                                           refine AllReadyH.cons (o := ⟨some 10, _, _, _, _, _⟩) rfl (fun K hK => ?_) AllReadyH.nil
                                           go_simp
                                           have e9_10 := Nq.new h9 (.cells #[.int .i64 0, .int .i64 0] 32)
                                           replace h9 := h9.alloc (.cells #[.int .i64 0, .int .i64 0] 32)
                                           have h10 := Bq.new Wra21 hSWra21.size
                                           have hSWra25 := hSWra21.alloc hSWra21.size (.cells #[.int .i64 0, .int .i64 0] 32)
                                           refine hK.out _ _ hSWra25 (fun hHeld => ?_)
                                           clear hK hHeld K
                                           try clear hSWra21
                                           try simp only [Act.put, List.setIfInBounds_toArray, List.set_cons_zero, List.set_cons_succ]
                                           generalize (Wra21.alloc (.cells #[.int .i64 0, .int .i64 0] 32)) = Wra25 at h9 e9_10 h10 hSWra25 ⊢
                                           generalize Value.pointer (some ⟨Wra21.heap.size, 0, none⟩) = v10 at e9_10 h10 ⊢
                                           exact wpAnyH_cast rfl rfl (tailra22 v9 v10 Wra25 h9 h10 e9_10 hSWra25)
                                          refine AllReadyH.cons (o := ⟨some 10, _, _, _, _, _⟩) rfl (fun K hK => ?_) AllReadyH.nil
                                          go_simp
                                          have h10 := Bq.new w0 hS0.size
                                          have hSWra26 := hS0.alloc hS0.size (.cells #[.int .i64 0, .int .i64 0] 32)
                                          refine hK.out _ _ hSWra26 (fun hHeld => ?_)
                                          clear hK hHeld K
                                          try clear hS0
                                          try simp only [Act.put, List.setIfInBounds_toArray, List.set_cons_zero, List.set_cons_succ]
                                          generalize (w0.alloc (.cells #[.int .i64 0, .int .i64 0] 32)) = Wra26 at  h10 hSWra26 ⊢
                                          generalize Value.pointer (some ⟨w0.heap.size, 0, none⟩) = v10 at  h10 ⊢
                                          refine wpAnyH_ready (rs := [6, 14, 15, 16]) (by kernel_rfl) (by simp) ?_
                                          refine AllReadyH.cons (o := ⟨some 17, _, _, _, _, _⟩) rfl (fun K hK => ?_) ?_
                                          ·
                                           go_simp
                                           go_at_call 32
                                           refine (CEi.out _ hSWra26).mono ?_
                                           rintro e Wra27 ⟨rfl, hbWra27⟩
                                           replace h10 := h10.below hbWra27
                                           have hSWra27 := hSWra26.trans (hbWra27.mono hSWra26.size)
                                           try clear hSWra26
                                           clear hbWra27
                                           go_wp2_with fail
                                           refine hK.out _ _ hSWra27 (fun hHeld => ?_)
                                           clear hK hHeld K
                                           try simp only [Act.put, List.setIfInBounds_toArray, List.set_cons_zero, List.set_cons_succ]
                                           exact wpAnyH_cast (by kernel_rfl) (by kernel_rfl) (tailra16 v10 Wra27 h10 hSWra27)
                                          refine AllReadyH.cons (o := ⟨some 7, _, _, _, _, _⟩) rfl (fun K hK => ?_) ?_
                                          ·
                                           go_simp
                                           have e7_10 := (Nq.new h10 (.cells #[.int .i64 0, .int .i64 0] 32)).symm
                                           replace h10 := h10.alloc (.cells #[.int .i64 0, .int .i64 0] 32)
                                           have h7 := Bq.new Wra26 hSWra26.size
                                           have hSWra28 := hSWra26.alloc hSWra26.size (.cells #[.int .i64 0, .int .i64 0] 32)
                                           refine hK.out _ _ hSWra28 (fun hHeld => ?_)
                                           clear hK hHeld K
                                           try clear hSWra26
                                           try simp only [Act.put, List.setIfInBounds_toArray, List.set_cons_zero, List.set_cons_succ]
                                           generalize (Wra26.alloc (.cells #[.int .i64 0, .int .i64 0] 32)) = Wra28 at h10 e7_10 h7 hSWra28 ⊢
                                           generalize Value.pointer (some ⟨Wra26.heap.size, 0, none⟩) = v7 at e7_10 h7 ⊢
                                           exact wpAnyH_cast (by kernel_rfl) (by kernel_rfl) (tailra19 v7 v10 Wra28 h7 h10 e7_10 hSWra28)
                                          refine AllReadyH.cons (o := ⟨some 8, _, _, _, _, _⟩) rfl (fun K hK => ?_) ?_
                                          ·
                                           go_simp
                                           have e8_10 := (Nq.new h10 (.cells #[.int .i64 0, .int .i64 0] 32)).symm
                                           replace h10 := h10.alloc (.cells #[.int .i64 0, .int .i64 0] 32)
                                           have h8 := Bq.new Wra26 hSWra26.size
                                           have hSWra29 := hSWra26.alloc hSWra26.size (.cells #[.int .i64 0, .int .i64 0] 32)
                                           refine hK.out _ _ hSWra29 (fun hHeld => ?_)
                                           clear hK hHeld K
                                           try clear hSWra26
                                           try simp only [Act.put, List.setIfInBounds_toArray, List.set_cons_zero, List.set_cons_succ]
                                           generalize (Wra26.alloc (.cells #[.int .i64 0, .int .i64 0] 32)) = Wra29 at h10 e8_10 h8 hSWra29 ⊢
                                           generalize Value.pointer (some ⟨Wra26.heap.size, 0, none⟩) = v8 at e8_10 h8 ⊢
                                           exact wpAnyH_cast (by kernel_rfl) (by kernel_rfl) (tailra21 v8 v10 Wra29 h8 h10 e8_10 hSWra29)
                                          refine AllReadyH.cons (o := ⟨some 9, _, _, _, _, _⟩) rfl (fun K hK => ?_) AllReadyH.nil
                                          go_simp
                                          have e9_10 := (Nq.new h10 (.cells #[.int .i64 0, .int .i64 0] 32)).symm
                                          replace h10 := h10.alloc (.cells #[.int .i64 0, .int .i64 0] 32)
                                          have h9 := Bq.new Wra26 hSWra26.size
                                          have hSWra30 := hSWra26.alloc hSWra26.size (.cells #[.int .i64 0, .int .i64 0] 32)
                                          refine hK.out _ _ hSWra30 (fun hHeld => ?_)
                                          clear hK hHeld K
                                          try clear hSWra26
                                          try simp only [Act.put, List.setIfInBounds_toArray, List.set_cons_zero, List.set_cons_succ]
                                          generalize (Wra26.alloc (.cells #[.int .i64 0, .int .i64 0] 32)) = Wra30 at h10 e9_10 h9 hSWra30 ⊢
                                          generalize Value.pointer (some ⟨Wra26.heap.size, 0, none⟩) = v9 at e9_10 h9 ⊢
                                          exact wpAnyH_cast (by kernel_rfl) (by kernel_rfl) (tailra22 v9 v10 Wra30 h9 h10 e9_10 hSWra30)
                                         case ttailra13 =>
                                          try clear hS0
                                          intro v7 Wra31 h7 hSWra31
                                          refine wpAnyH_ready (rs := [13, 15, 16, 17]) (by kernel_rfl) (by simp) ?_
                                          refine AllReadyH.cons (o := ⟨some 24, _, _, _, _, _⟩) rfl (fun K hK => ?_) ?_
                                          ·
                                           go_simp
                                           go_at_call 32
                                           refine (CEk.out _ hSWra31).mono ?_
                                           rintro e Wra32 ⟨rfl, hbWra32⟩
                                           replace h7 := h7.below hbWra32
                                           have hSWra32 := hSWra31.trans (hbWra32.mono hSWra31.size)
                                           try clear hSWra31
                                           clear hbWra32
                                           go_wp2_with fail
                                           refine hK.out _ _ hSWra32 (fun hHeld => ?_)
                                           clear hK hHeld K
                                           try simp only [Act.put, List.setIfInBounds_toArray, List.set_cons_zero, List.set_cons_succ]
                                           exact wpAnyH_cast (by kernel_rfl) (by kernel_rfl) (tailra23 v7 Wra32 h7 hSWra32)
                                          refine AllReadyH.cons (o := ⟨some 8, _, _, _, _, _⟩) rfl (fun K hK => ?_) ?_
                                          ·
                                           go_simp
                                           have e7_8 := Nq.new h7 (.cells #[.int .i64 0, .int .i64 0] 32)
                                           replace h7 := h7.alloc (.cells #[.int .i64 0, .int .i64 0] 32)
                                           have h8 := Bq.new Wra31 hSWra31.size
                                           have hSWra33 := hSWra31.alloc hSWra31.size (.cells #[.int .i64 0, .int .i64 0] 32)
                                           refine hK.out _ _ hSWra33 (fun hHeld => ?_)
                                           clear hK hHeld K
                                           try clear hSWra31
                                           try simp only [Act.put, List.setIfInBounds_toArray, List.set_cons_zero, List.set_cons_succ]
                                           generalize (Wra31.alloc (.cells #[.int .i64 0, .int .i64 0] 32)) = Wra33 at h7 e7_8 h8 hSWra33 ⊢
                                           generalize Value.pointer (some ⟨Wra31.heap.size, 0, none⟩) = v8 at e7_8 h8 ⊢
                                           exact wpAnyH_cast rfl rfl (tailra27 v7 v8 Wra33 h7 h8 e7_8 hSWra33)
                                          refine AllReadyH.cons (o := ⟨some 9, _, _, _, _, _⟩) rfl (fun K hK => ?_) ?_
                                          ·
                                           go_simp
                                           have e7_9 := Nq.new h7 (.cells #[.int .i64 0, .int .i64 0] 32)
                                           replace h7 := h7.alloc (.cells #[.int .i64 0, .int .i64 0] 32)
                                           have h9 := Bq.new Wra31 hSWra31.size
                                           have hSWra34 := hSWra31.alloc hSWra31.size (.cells #[.int .i64 0, .int .i64 0] 32)
                                           refine hK.out _ _ hSWra34 (fun hHeld => ?_)
                                           clear hK hHeld K
                                           try clear hSWra31
                                           try simp only [Act.put, List.setIfInBounds_toArray, List.set_cons_zero, List.set_cons_succ]
                                           generalize (Wra31.alloc (.cells #[.int .i64 0, .int .i64 0] 32)) = Wra34 at h7 e7_9 h9 hSWra34 ⊢
                                           generalize Value.pointer (some ⟨Wra31.heap.size, 0, none⟩) = v9 at e7_9 h9 ⊢
                                           exact wpAnyH_cast rfl rfl (tailra28 v7 v9 Wra34 h7 h9 e7_9 hSWra34)
                                          refine AllReadyH.cons (o := ⟨some 10, _, _, _, _, _⟩) rfl (fun K hK => ?_) AllReadyH.nil
                                          go_simp
                                          have e7_10 := Nq.new h7 (.cells #[.int .i64 0, .int .i64 0] 32)
                                          replace h7 := h7.alloc (.cells #[.int .i64 0, .int .i64 0] 32)
                                          have h10 := Bq.new Wra31 hSWra31.size
                                          have hSWra35 := hSWra31.alloc hSWra31.size (.cells #[.int .i64 0, .int .i64 0] 32)
                                          refine hK.out _ _ hSWra35 (fun hHeld => ?_)
                                          clear hK hHeld K
                                          try clear hSWra31
                                          try simp only [Act.put, List.setIfInBounds_toArray, List.set_cons_zero, List.set_cons_succ]
                                          generalize (Wra31.alloc (.cells #[.int .i64 0, .int .i64 0] 32)) = Wra35 at h7 e7_10 h10 hSWra35 ⊢
                                          generalize Value.pointer (some ⟨Wra31.heap.size, 0, none⟩) = v10 at e7_10 h10 ⊢
                                          exact wpAnyH_cast rfl rfl (tailra29 v7 v10 Wra35 h7 h10 e7_10 hSWra35)
                                        case ttailra14 =>
                                         try clear hS0
                                         intro v8 Wra36 h8 hSWra36
                                         refine wpAnyH_ready (rs := [13, 14, 16, 17]) (by kernel_rfl) (by simp) ?_
                                         refine AllReadyH.cons (o := ⟨some 24, _, _, _, _, _⟩) rfl (fun K hK => ?_) ?_
                                         ·
                                          go_simp
                                          go_at_call 32
                                          refine (CEk.out _ hSWra36).mono ?_
                                          rintro e Wra37 ⟨rfl, hbWra37⟩
                                          replace h8 := h8.below hbWra37
                                          have hSWra37 := hSWra36.trans (hbWra37.mono hSWra36.size)
                                          try clear hSWra36
                                          clear hbWra37
                                          go_wp2_with fail
                                          refine hK.out _ _ hSWra37 (fun hHeld => ?_)
                                          clear hK hHeld K
                                          try simp only [Act.put, List.setIfInBounds_toArray, List.set_cons_zero, List.set_cons_succ]
                                          exact wpAnyH_cast (by kernel_rfl) (by kernel_rfl) (tailra24 v8 Wra37 h8 hSWra37)
                                         refine AllReadyH.cons (o := ⟨some 7, _, _, _, _, _⟩) rfl (fun K hK => ?_) ?_
                                         ·
                                          go_simp
                                          have e7_8 := (Nq.new h8 (.cells #[.int .i64 0, .int .i64 0] 32)).symm
                                          replace h8 := h8.alloc (.cells #[.int .i64 0, .int .i64 0] 32)
                                          have h7 := Bq.new Wra36 hSWra36.size
                                          have hSWra38 := hSWra36.alloc hSWra36.size (.cells #[.int .i64 0, .int .i64 0] 32)
                                          refine hK.out _ _ hSWra38 (fun hHeld => ?_)
                                          clear hK hHeld K
                                          try clear hSWra36
                                          try simp only [Act.put, List.setIfInBounds_toArray, List.set_cons_zero, List.set_cons_succ]
                                          generalize (Wra36.alloc (.cells #[.int .i64 0, .int .i64 0] 32)) = Wra38 at h8 e7_8 h7 hSWra38 ⊢
                                          generalize Value.pointer (some ⟨Wra36.heap.size, 0, none⟩) = v7 at e7_8 h7 ⊢
                                          exact wpAnyH_cast (by kernel_rfl) (by kernel_rfl) (tailra27 v7 v8 Wra38 h7 h8 e7_8 hSWra38)
                                         refine AllReadyH.cons (o := ⟨some 9, _, _, _, _, _⟩) rfl (fun K hK => ?_) ?_
                                         ·
                                          go_simp
                                          have e8_9 := Nq.new h8 (.cells #[.int .i64 0, .int .i64 0] 32)
                                          replace h8 := h8.alloc (.cells #[.int .i64 0, .int .i64 0] 32)
                                          have h9 := Bq.new Wra36 hSWra36.size
                                          have hSWra39 := hSWra36.alloc hSWra36.size (.cells #[.int .i64 0, .int .i64 0] 32)
                                          refine hK.out _ _ hSWra39 (fun hHeld => ?_)
                                          clear hK hHeld K
                                          try clear hSWra36
                                          try simp only [Act.put, List.setIfInBounds_toArray, List.set_cons_zero, List.set_cons_succ]
                                          generalize (Wra36.alloc (.cells #[.int .i64 0, .int .i64 0] 32)) = Wra39 at h8 e8_9 h9 hSWra39 ⊢
                                          generalize Value.pointer (some ⟨Wra36.heap.size, 0, none⟩) = v9 at e8_9 h9 ⊢
                                          exact wpAnyH_cast rfl rfl (tailra30 v8 v9 Wra39 h8 h9 e8_9 hSWra39)
                                         refine AllReadyH.cons (o := ⟨some 10, _, _, _, _, _⟩) rfl (fun K hK => ?_) AllReadyH.nil
                                         go_simp
                                         have e8_10 := Nq.new h8 (.cells #[.int .i64 0, .int .i64 0] 32)
                                         replace h8 := h8.alloc (.cells #[.int .i64 0, .int .i64 0] 32)
                                         have h10 := Bq.new Wra36 hSWra36.size
                                         have hSWra40 := hSWra36.alloc hSWra36.size (.cells #[.int .i64 0, .int .i64 0] 32)
                                         refine hK.out _ _ hSWra40 (fun hHeld => ?_)
                                         clear hK hHeld K
                                         try clear hSWra36
                                         try simp only [Act.put, List.setIfInBounds_toArray, List.set_cons_zero, List.set_cons_succ]
                                         generalize (Wra36.alloc (.cells #[.int .i64 0, .int .i64 0] 32)) = Wra40 at h8 e8_10 h10 hSWra40 ⊢
                                         generalize Value.pointer (some ⟨Wra36.heap.size, 0, none⟩) = v10 at e8_10 h10 ⊢
                                         exact wpAnyH_cast rfl rfl (tailra31 v8 v10 Wra40 h8 h10 e8_10 hSWra40)
                                       case ttailra15 =>
                                        try clear hS0
                                        intro v9 Wra41 h9 hSWra41
                                        refine wpAnyH_ready (rs := [13, 14, 15, 17]) (by kernel_rfl) (by simp) ?_
                                        refine AllReadyH.cons (o := ⟨some 24, _, _, _, _, _⟩) rfl (fun K hK => ?_) ?_
                                        ·
                                         go_simp
                                         go_at_call 32
                                         refine (CEk.out _ hSWra41).mono ?_
                                         rintro e Wra42 ⟨rfl, hbWra42⟩
                                         replace h9 := h9.below hbWra42
                                         have hSWra42 := hSWra41.trans (hbWra42.mono hSWra41.size)
                                         try clear hSWra41
                                         clear hbWra42
                                         go_wp2_with fail
                                         refine hK.out _ _ hSWra42 (fun hHeld => ?_)
                                         clear hK hHeld K
                                         try simp only [Act.put, List.setIfInBounds_toArray, List.set_cons_zero, List.set_cons_succ]
                                         exact wpAnyH_cast (by kernel_rfl) (by kernel_rfl) (tailra25 v9 Wra42 h9 hSWra42)
                                        refine AllReadyH.cons (o := ⟨some 7, _, _, _, _, _⟩) rfl (fun K hK => ?_) ?_
                                        ·
                                         go_simp
                                         have e7_9 := (Nq.new h9 (.cells #[.int .i64 0, .int .i64 0] 32)).symm
                                         replace h9 := h9.alloc (.cells #[.int .i64 0, .int .i64 0] 32)
                                         have h7 := Bq.new Wra41 hSWra41.size
                                         have hSWra43 := hSWra41.alloc hSWra41.size (.cells #[.int .i64 0, .int .i64 0] 32)
                                         refine hK.out _ _ hSWra43 (fun hHeld => ?_)
                                         clear hK hHeld K
                                         try clear hSWra41
                                         try simp only [Act.put, List.setIfInBounds_toArray, List.set_cons_zero, List.set_cons_succ]
                                         generalize (Wra41.alloc (.cells #[.int .i64 0, .int .i64 0] 32)) = Wra43 at h9 e7_9 h7 hSWra43 ⊢
                                         generalize Value.pointer (some ⟨Wra41.heap.size, 0, none⟩) = v7 at e7_9 h7 ⊢
                                         exact wpAnyH_cast (by kernel_rfl) (by kernel_rfl) (tailra28 v7 v9 Wra43 h7 h9 e7_9 hSWra43)
                                        refine AllReadyH.cons (o := ⟨some 8, _, _, _, _, _⟩) rfl (fun K hK => ?_) ?_
                                        ·
                                         go_simp
                                         have e8_9 := (Nq.new h9 (.cells #[.int .i64 0, .int .i64 0] 32)).symm
                                         replace h9 := h9.alloc (.cells #[.int .i64 0, .int .i64 0] 32)
                                         have h8 := Bq.new Wra41 hSWra41.size
                                         have hSWra44 := hSWra41.alloc hSWra41.size (.cells #[.int .i64 0, .int .i64 0] 32)
                                         refine hK.out _ _ hSWra44 (fun hHeld => ?_)
                                         clear hK hHeld K
                                         try clear hSWra41
                                         try simp only [Act.put, List.setIfInBounds_toArray, List.set_cons_zero, List.set_cons_succ]
                                         generalize (Wra41.alloc (.cells #[.int .i64 0, .int .i64 0] 32)) = Wra44 at h9 e8_9 h8 hSWra44 ⊢
                                         generalize Value.pointer (some ⟨Wra41.heap.size, 0, none⟩) = v8 at e8_9 h8 ⊢
                                         exact wpAnyH_cast (by kernel_rfl) (by kernel_rfl) (tailra30 v8 v9 Wra44 h8 h9 e8_9 hSWra44)
                                        refine AllReadyH.cons (o := ⟨some 10, _, _, _, _, _⟩) rfl (fun K hK => ?_) AllReadyH.nil
                                        go_simp
                                        have e9_10 := Nq.new h9 (.cells #[.int .i64 0, .int .i64 0] 32)
                                        replace h9 := h9.alloc (.cells #[.int .i64 0, .int .i64 0] 32)
                                        have h10 := Bq.new Wra41 hSWra41.size
                                        have hSWra45 := hSWra41.alloc hSWra41.size (.cells #[.int .i64 0, .int .i64 0] 32)
                                        refine hK.out _ _ hSWra45 (fun hHeld => ?_)
                                        clear hK hHeld K
                                        try clear hSWra41
                                        try simp only [Act.put, List.setIfInBounds_toArray, List.set_cons_zero, List.set_cons_succ]
                                        generalize (Wra41.alloc (.cells #[.int .i64 0, .int .i64 0] 32)) = Wra45 at h9 e9_10 h10 hSWra45 ⊢
                                        generalize Value.pointer (some ⟨Wra41.heap.size, 0, none⟩) = v10 at e9_10 h10 ⊢
                                        exact wpAnyH_cast rfl rfl (tailra32 v9 v10 Wra45 h9 h10 e9_10 hSWra45)
                                      case ttailra16 =>
                                       try clear hS0
                                       intro v10 Wra46 h10 hSWra46
                                       refine wpAnyH_ready (rs := [13, 14, 15, 16]) (by kernel_rfl) (by simp) ?_
                                       refine AllReadyH.cons (o := ⟨some 24, _, _, _, _, _⟩) rfl (fun K hK => ?_) ?_
                                       ·
                                        go_simp
                                        go_at_call 32
                                        refine (CEk.out _ hSWra46).mono ?_
                                        rintro e Wra47 ⟨rfl, hbWra47⟩
                                        replace h10 := h10.below hbWra47
                                        have hSWra47 := hSWra46.trans (hbWra47.mono hSWra46.size)
                                        try clear hSWra46
                                        clear hbWra47
                                        go_wp2_with fail
                                        refine hK.out _ _ hSWra47 (fun hHeld => ?_)
                                        clear hK hHeld K
                                        try simp only [Act.put, List.setIfInBounds_toArray, List.set_cons_zero, List.set_cons_succ]
                                        exact wpAnyH_cast (by kernel_rfl) (by kernel_rfl) (tailra26 v10 Wra47 h10 hSWra47)
                                       refine AllReadyH.cons (o := ⟨some 7, _, _, _, _, _⟩) rfl (fun K hK => ?_) ?_
                                       ·
                                        go_simp
                                        have e7_10 := (Nq.new h10 (.cells #[.int .i64 0, .int .i64 0] 32)).symm
                                        replace h10 := h10.alloc (.cells #[.int .i64 0, .int .i64 0] 32)
                                        have h7 := Bq.new Wra46 hSWra46.size
                                        have hSWra48 := hSWra46.alloc hSWra46.size (.cells #[.int .i64 0, .int .i64 0] 32)
                                        refine hK.out _ _ hSWra48 (fun hHeld => ?_)
                                        clear hK hHeld K
                                        try clear hSWra46
                                        try simp only [Act.put, List.setIfInBounds_toArray, List.set_cons_zero, List.set_cons_succ]
                                        generalize (Wra46.alloc (.cells #[.int .i64 0, .int .i64 0] 32)) = Wra48 at h10 e7_10 h7 hSWra48 ⊢
                                        generalize Value.pointer (some ⟨Wra46.heap.size, 0, none⟩) = v7 at e7_10 h7 ⊢
                                        exact wpAnyH_cast (by kernel_rfl) (by kernel_rfl) (tailra29 v7 v10 Wra48 h7 h10 e7_10 hSWra48)
                                       refine AllReadyH.cons (o := ⟨some 8, _, _, _, _, _⟩) rfl (fun K hK => ?_) ?_
                                       ·
                                        go_simp
                                        have e8_10 := (Nq.new h10 (.cells #[.int .i64 0, .int .i64 0] 32)).symm
                                        replace h10 := h10.alloc (.cells #[.int .i64 0, .int .i64 0] 32)
                                        have h8 := Bq.new Wra46 hSWra46.size
                                        have hSWra49 := hSWra46.alloc hSWra46.size (.cells #[.int .i64 0, .int .i64 0] 32)
                                        refine hK.out _ _ hSWra49 (fun hHeld => ?_)
                                        clear hK hHeld K
                                        try clear hSWra46
                                        try simp only [Act.put, List.setIfInBounds_toArray, List.set_cons_zero, List.set_cons_succ]
                                        generalize (Wra46.alloc (.cells #[.int .i64 0, .int .i64 0] 32)) = Wra49 at h10 e8_10 h8 hSWra49 ⊢
                                        generalize Value.pointer (some ⟨Wra46.heap.size, 0, none⟩) = v8 at e8_10 h8 ⊢
                                        exact wpAnyH_cast (by kernel_rfl) (by kernel_rfl) (tailra31 v8 v10 Wra49 h8 h10 e8_10 hSWra49)
                                       refine AllReadyH.cons (o := ⟨some 9, _, _, _, _, _⟩) rfl (fun K hK => ?_) AllReadyH.nil
                                       go_simp
                                       have e9_10 := (Nq.new h10 (.cells #[.int .i64 0, .int .i64 0] 32)).symm
                                       replace h10 := h10.alloc (.cells #[.int .i64 0, .int .i64 0] 32)
                                       have h9 := Bq.new Wra46 hSWra46.size
                                       have hSWra50 := hSWra46.alloc hSWra46.size (.cells #[.int .i64 0, .int .i64 0] 32)
                                       refine hK.out _ _ hSWra50 (fun hHeld => ?_)
                                       clear hK hHeld K
                                       try clear hSWra46
                                       try simp only [Act.put, List.setIfInBounds_toArray, List.set_cons_zero, List.set_cons_succ]
                                       generalize (Wra46.alloc (.cells #[.int .i64 0, .int .i64 0] 32)) = Wra50 at h10 e9_10 h9 hSWra50 ⊢
                                       generalize Value.pointer (some ⟨Wra46.heap.size, 0, none⟩) = v9 at e9_10 h9 ⊢
                                       exact wpAnyH_cast (by kernel_rfl) (by kernel_rfl) (tailra32 v9 v10 Wra50 h9 h10 e9_10 hSWra50)
                                     case ttailra17 =>
                                      try clear hS0
                                      intro v7 v8 Wra51 h7 h8 e7_8 hSWra51
                                      refine wpAnyH_ready (rs := [6, 16, 17]) (by kernel_rfl) (by simp) ?_
                                      refine AllReadyH.cons (o := ⟨some 17, _, _, _, _, _⟩) rfl (fun K hK => ?_) ?_
                                      ·
                                       go_simp
                                       go_at_call 32
                                       refine (CEi.out _ hSWra51).mono ?_
                                       rintro e Wra52 ⟨rfl, hbWra52⟩
                                       replace h7 := h7.below hbWra52
                                       replace h8 := h8.below hbWra52
                                       replace e7_8 := e7_8.below hbWra52
                                       have hSWra52 := hSWra51.trans (hbWra52.mono hSWra51.size)
                                       try clear hSWra51
                                       clear hbWra52
                                       go_wp2_with fail
                                       refine hK.out _ _ hSWra52 (fun hHeld => ?_)
                                       clear hK hHeld K
                                       try simp only [Act.put, List.setIfInBounds_toArray, List.set_cons_zero, List.set_cons_succ]
                                       exact wpAnyH_cast (by kernel_rfl) (by kernel_rfl) (tailra27 v7 v8 Wra52 h7 h8 e7_8 hSWra52)
                                      refine AllReadyH.cons (o := ⟨some 9, _, _, _, _, _⟩) rfl (fun K hK => ?_) ?_
                                      ·
                                       go_simp
                                       have e7_9 := Nq.new h7 (.cells #[.int .i64 0, .int .i64 0] 32)
                                       have e8_9 := Nq.new h8 (.cells #[.int .i64 0, .int .i64 0] 32)
                                       replace h7 := h7.alloc (.cells #[.int .i64 0, .int .i64 0] 32)
                                       replace h8 := h8.alloc (.cells #[.int .i64 0, .int .i64 0] 32)
                                       replace e7_8 := e7_8.alloc (.cells #[.int .i64 0, .int .i64 0] 32)
                                       have h9 := Bq.new Wra51 hSWra51.size
                                       have hSWra53 := hSWra51.alloc hSWra51.size (.cells #[.int .i64 0, .int .i64 0] 32)
                                       refine hK.out _ _ hSWra53 (fun hHeld => ?_)
                                       clear hK hHeld K
                                       try clear hSWra51
                                       try simp only [Act.put, List.setIfInBounds_toArray, List.set_cons_zero, List.set_cons_succ]
                                       generalize (Wra51.alloc (.cells #[.int .i64 0, .int .i64 0] 32)) = Wra53 at h7 h8 e7_8 e7_9 e8_9 h9 hSWra53 ⊢
                                       generalize Value.pointer (some ⟨Wra51.heap.size, 0, none⟩) = v9 at e7_9 e8_9 h9 ⊢
                                       exact wpAnyH_cast rfl rfl (tailra33 v7 v8 v9 Wra53 h7 h8 e7_8 h9 e7_9 e8_9 hSWra53)
                                      refine AllReadyH.cons (o := ⟨some 10, _, _, _, _, _⟩) rfl (fun K hK => ?_) AllReadyH.nil
                                      go_simp
                                      have e7_10 := Nq.new h7 (.cells #[.int .i64 0, .int .i64 0] 32)
                                      have e8_10 := Nq.new h8 (.cells #[.int .i64 0, .int .i64 0] 32)
                                      replace h7 := h7.alloc (.cells #[.int .i64 0, .int .i64 0] 32)
                                      replace h8 := h8.alloc (.cells #[.int .i64 0, .int .i64 0] 32)
                                      replace e7_8 := e7_8.alloc (.cells #[.int .i64 0, .int .i64 0] 32)
                                      have h10 := Bq.new Wra51 hSWra51.size
                                      have hSWra54 := hSWra51.alloc hSWra51.size (.cells #[.int .i64 0, .int .i64 0] 32)
                                      refine hK.out _ _ hSWra54 (fun hHeld => ?_)
                                      clear hK hHeld K
                                      try clear hSWra51
                                      try simp only [Act.put, List.setIfInBounds_toArray, List.set_cons_zero, List.set_cons_succ]
                                      generalize (Wra51.alloc (.cells #[.int .i64 0, .int .i64 0] 32)) = Wra54 at h7 h8 e7_8 e7_10 e8_10 h10 hSWra54 ⊢
                                      generalize Value.pointer (some ⟨Wra51.heap.size, 0, none⟩) = v10 at e7_10 e8_10 h10 ⊢
                                      exact wpAnyH_cast rfl rfl (tailra34 v7 v8 v10 Wra54 h7 h8 e7_8 h10 e7_10 e8_10 hSWra54)
                                    case ttailra18 =>
                                     try clear hS0
                                     intro v7 v9 Wra55 h7 h9 e7_9 hSWra55
                                     refine wpAnyH_ready (rs := [6, 15, 17]) (by kernel_rfl) (by simp) ?_
                                     refine AllReadyH.cons (o := ⟨some 17, _, _, _, _, _⟩) rfl (fun K hK => ?_) ?_
                                     ·
                                      go_simp
                                      go_at_call 32
                                      refine (CEi.out _ hSWra55).mono ?_
                                      rintro e Wra56 ⟨rfl, hbWra56⟩
                                      replace h7 := h7.below hbWra56
                                      replace h9 := h9.below hbWra56
                                      replace e7_9 := e7_9.below hbWra56
                                      have hSWra56 := hSWra55.trans (hbWra56.mono hSWra55.size)
                                      try clear hSWra55
                                      clear hbWra56
                                      go_wp2_with fail
                                      refine hK.out _ _ hSWra56 (fun hHeld => ?_)
                                      clear hK hHeld K
                                      try simp only [Act.put, List.setIfInBounds_toArray, List.set_cons_zero, List.set_cons_succ]
                                      exact wpAnyH_cast (by kernel_rfl) (by kernel_rfl) (tailra28 v7 v9 Wra56 h7 h9 e7_9 hSWra56)
                                     refine AllReadyH.cons (o := ⟨some 8, _, _, _, _, _⟩) rfl (fun K hK => ?_) ?_
                                     ·
                                      go_simp
                                      have e7_8 := Nq.new h7 (.cells #[.int .i64 0, .int .i64 0] 32)
                                      have e8_9 := (Nq.new h9 (.cells #[.int .i64 0, .int .i64 0] 32)).symm
                                      replace h7 := h7.alloc (.cells #[.int .i64 0, .int .i64 0] 32)
                                      replace h9 := h9.alloc (.cells #[.int .i64 0, .int .i64 0] 32)
                                      replace e7_9 := e7_9.alloc (.cells #[.int .i64 0, .int .i64 0] 32)
                                      have h8 := Bq.new Wra55 hSWra55.size
                                      have hSWra57 := hSWra55.alloc hSWra55.size (.cells #[.int .i64 0, .int .i64 0] 32)
                                      refine hK.out _ _ hSWra57 (fun hHeld => ?_)
                                      clear hK hHeld K
                                      try clear hSWra55
                                      try simp only [Act.put, List.setIfInBounds_toArray, List.set_cons_zero, List.set_cons_succ]
                                      generalize (Wra55.alloc (.cells #[.int .i64 0, .int .i64 0] 32)) = Wra57 at h7 h9 e7_9 e7_8 e8_9 h8 hSWra57 ⊢
                                      generalize Value.pointer (some ⟨Wra55.heap.size, 0, none⟩) = v8 at e7_8 e8_9 h8 ⊢
                                      exact wpAnyH_cast (by kernel_rfl) (by kernel_rfl) (tailra33 v7 v8 v9 Wra57 h7 h8 e7_8 h9 e7_9 e8_9 hSWra57)
                                     refine AllReadyH.cons (o := ⟨some 10, _, _, _, _, _⟩) rfl (fun K hK => ?_) AllReadyH.nil
                                     go_simp
                                     have e7_10 := Nq.new h7 (.cells #[.int .i64 0, .int .i64 0] 32)
                                     have e9_10 := Nq.new h9 (.cells #[.int .i64 0, .int .i64 0] 32)
                                     replace h7 := h7.alloc (.cells #[.int .i64 0, .int .i64 0] 32)
                                     replace h9 := h9.alloc (.cells #[.int .i64 0, .int .i64 0] 32)
                                     replace e7_9 := e7_9.alloc (.cells #[.int .i64 0, .int .i64 0] 32)
                                     have h10 := Bq.new Wra55 hSWra55.size
                                     have hSWra58 := hSWra55.alloc hSWra55.size (.cells #[.int .i64 0, .int .i64 0] 32)
                                     refine hK.out _ _ hSWra58 (fun hHeld => ?_)
                                     clear hK hHeld K
                                     try clear hSWra55
                                     try simp only [Act.put, List.setIfInBounds_toArray, List.set_cons_zero, List.set_cons_succ]
                                     generalize (Wra55.alloc (.cells #[.int .i64 0, .int .i64 0] 32)) = Wra58 at h7 h9 e7_9 e7_10 e9_10 h10 hSWra58 ⊢
                                     generalize Value.pointer (some ⟨Wra55.heap.size, 0, none⟩) = v10 at e7_10 e9_10 h10 ⊢
                                     exact wpAnyH_cast rfl rfl (tailra35 v7 v9 v10 Wra58 h7 h9 e7_9 h10 e7_10 e9_10 hSWra58)
                                   case ttailra19 =>
                                    try clear hS0
                                    intro v7 v10 Wra59 h7 h10 e7_10 hSWra59
                                    refine wpAnyH_ready (rs := [6, 15, 16]) (by kernel_rfl) (by simp) ?_
                                    refine AllReadyH.cons (o := ⟨some 17, _, _, _, _, _⟩) rfl (fun K hK => ?_) ?_
                                    ·
                                     go_simp
                                     go_at_call 32
                                     refine (CEi.out _ hSWra59).mono ?_
                                     rintro e Wra60 ⟨rfl, hbWra60⟩
                                     replace h7 := h7.below hbWra60
                                     replace h10 := h10.below hbWra60
                                     replace e7_10 := e7_10.below hbWra60
                                     have hSWra60 := hSWra59.trans (hbWra60.mono hSWra59.size)
                                     try clear hSWra59
                                     clear hbWra60
                                     go_wp2_with fail
                                     refine hK.out _ _ hSWra60 (fun hHeld => ?_)
                                     clear hK hHeld K
                                     try simp only [Act.put, List.setIfInBounds_toArray, List.set_cons_zero, List.set_cons_succ]
                                     exact wpAnyH_cast (by kernel_rfl) (by kernel_rfl) (tailra29 v7 v10 Wra60 h7 h10 e7_10 hSWra60)
                                    refine AllReadyH.cons (o := ⟨some 8, _, _, _, _, _⟩) rfl (fun K hK => ?_) ?_
                                    ·
                                     go_simp
                                     have e7_8 := Nq.new h7 (.cells #[.int .i64 0, .int .i64 0] 32)
                                     have e8_10 := (Nq.new h10 (.cells #[.int .i64 0, .int .i64 0] 32)).symm
                                     replace h7 := h7.alloc (.cells #[.int .i64 0, .int .i64 0] 32)
                                     replace h10 := h10.alloc (.cells #[.int .i64 0, .int .i64 0] 32)
                                     replace e7_10 := e7_10.alloc (.cells #[.int .i64 0, .int .i64 0] 32)
                                     have h8 := Bq.new Wra59 hSWra59.size
                                     have hSWra61 := hSWra59.alloc hSWra59.size (.cells #[.int .i64 0, .int .i64 0] 32)
                                     refine hK.out _ _ hSWra61 (fun hHeld => ?_)
                                     clear hK hHeld K
                                     try clear hSWra59
                                     try simp only [Act.put, List.setIfInBounds_toArray, List.set_cons_zero, List.set_cons_succ]
                                     generalize (Wra59.alloc (.cells #[.int .i64 0, .int .i64 0] 32)) = Wra61 at h7 h10 e7_10 e7_8 e8_10 h8 hSWra61 ⊢
                                     generalize Value.pointer (some ⟨Wra59.heap.size, 0, none⟩) = v8 at e7_8 e8_10 h8 ⊢
                                     exact wpAnyH_cast (by kernel_rfl) (by kernel_rfl) (tailra34 v7 v8 v10 Wra61 h7 h8 e7_8 h10 e7_10 e8_10 hSWra61)
                                    refine AllReadyH.cons (o := ⟨some 9, _, _, _, _, _⟩) rfl (fun K hK => ?_) AllReadyH.nil
                                    go_simp
                                    have e7_9 := Nq.new h7 (.cells #[.int .i64 0, .int .i64 0] 32)
                                    have e9_10 := (Nq.new h10 (.cells #[.int .i64 0, .int .i64 0] 32)).symm
                                    replace h7 := h7.alloc (.cells #[.int .i64 0, .int .i64 0] 32)
                                    replace h10 := h10.alloc (.cells #[.int .i64 0, .int .i64 0] 32)
                                    replace e7_10 := e7_10.alloc (.cells #[.int .i64 0, .int .i64 0] 32)
                                    have h9 := Bq.new Wra59 hSWra59.size
                                    have hSWra62 := hSWra59.alloc hSWra59.size (.cells #[.int .i64 0, .int .i64 0] 32)
                                    refine hK.out _ _ hSWra62 (fun hHeld => ?_)
                                    clear hK hHeld K
                                    try clear hSWra59
                                    try simp only [Act.put, List.setIfInBounds_toArray, List.set_cons_zero, List.set_cons_succ]
                                    generalize (Wra59.alloc (.cells #[.int .i64 0, .int .i64 0] 32)) = Wra62 at h7 h10 e7_10 e7_9 e9_10 h9 hSWra62 ⊢
                                    generalize Value.pointer (some ⟨Wra59.heap.size, 0, none⟩) = v9 at e7_9 e9_10 h9 ⊢
                                    exact wpAnyH_cast (by kernel_rfl) (by kernel_rfl) (tailra35 v7 v9 v10 Wra62 h7 h9 e7_9 h10 e7_10 e9_10 hSWra62)
                                  case ttailra20 =>
                                   try clear hS0
                                   intro v8 v9 Wra63 h8 h9 e8_9 hSWra63
                                   refine wpAnyH_ready (rs := [6, 14, 17]) (by kernel_rfl) (by simp) ?_
                                   refine AllReadyH.cons (o := ⟨some 17, _, _, _, _, _⟩) rfl (fun K hK => ?_) ?_
                                   ·
                                    go_simp
                                    go_at_call 32
                                    refine (CEi.out _ hSWra63).mono ?_
                                    rintro e Wra64 ⟨rfl, hbWra64⟩
                                    replace h8 := h8.below hbWra64
                                    replace h9 := h9.below hbWra64
                                    replace e8_9 := e8_9.below hbWra64
                                    have hSWra64 := hSWra63.trans (hbWra64.mono hSWra63.size)
                                    try clear hSWra63
                                    clear hbWra64
                                    go_wp2_with fail
                                    refine hK.out _ _ hSWra64 (fun hHeld => ?_)
                                    clear hK hHeld K
                                    try simp only [Act.put, List.setIfInBounds_toArray, List.set_cons_zero, List.set_cons_succ]
                                    exact wpAnyH_cast (by kernel_rfl) (by kernel_rfl) (tailra30 v8 v9 Wra64 h8 h9 e8_9 hSWra64)
                                   refine AllReadyH.cons (o := ⟨some 7, _, _, _, _, _⟩) rfl (fun K hK => ?_) ?_
                                   ·
                                    go_simp
                                    have e7_8 := (Nq.new h8 (.cells #[.int .i64 0, .int .i64 0] 32)).symm
                                    have e7_9 := (Nq.new h9 (.cells #[.int .i64 0, .int .i64 0] 32)).symm
                                    replace h8 := h8.alloc (.cells #[.int .i64 0, .int .i64 0] 32)
                                    replace h9 := h9.alloc (.cells #[.int .i64 0, .int .i64 0] 32)
                                    replace e8_9 := e8_9.alloc (.cells #[.int .i64 0, .int .i64 0] 32)
                                    have h7 := Bq.new Wra63 hSWra63.size
                                    have hSWra65 := hSWra63.alloc hSWra63.size (.cells #[.int .i64 0, .int .i64 0] 32)
                                    refine hK.out _ _ hSWra65 (fun hHeld => ?_)
                                    clear hK hHeld K
                                    try clear hSWra63
                                    try simp only [Act.put, List.setIfInBounds_toArray, List.set_cons_zero, List.set_cons_succ]
                                    generalize (Wra63.alloc (.cells #[.int .i64 0, .int .i64 0] 32)) = Wra65 at h8 h9 e8_9 e7_8 e7_9 h7 hSWra65 ⊢
                                    generalize Value.pointer (some ⟨Wra63.heap.size, 0, none⟩) = v7 at e7_8 e7_9 h7 ⊢
                                    exact wpAnyH_cast (by kernel_rfl) (by kernel_rfl) (tailra33 v7 v8 v9 Wra65 h7 h8 e7_8 h9 e7_9 e8_9 hSWra65)
                                   refine AllReadyH.cons (o := ⟨some 10, _, _, _, _, _⟩) rfl (fun K hK => ?_) AllReadyH.nil
                                   go_simp
                                   have e8_10 := Nq.new h8 (.cells #[.int .i64 0, .int .i64 0] 32)
                                   have e9_10 := Nq.new h9 (.cells #[.int .i64 0, .int .i64 0] 32)
                                   replace h8 := h8.alloc (.cells #[.int .i64 0, .int .i64 0] 32)
                                   replace h9 := h9.alloc (.cells #[.int .i64 0, .int .i64 0] 32)
                                   replace e8_9 := e8_9.alloc (.cells #[.int .i64 0, .int .i64 0] 32)
                                   have h10 := Bq.new Wra63 hSWra63.size
                                   have hSWra66 := hSWra63.alloc hSWra63.size (.cells #[.int .i64 0, .int .i64 0] 32)
                                   refine hK.out _ _ hSWra66 (fun hHeld => ?_)
                                   clear hK hHeld K
                                   try clear hSWra63
                                   try simp only [Act.put, List.setIfInBounds_toArray, List.set_cons_zero, List.set_cons_succ]
                                   generalize (Wra63.alloc (.cells #[.int .i64 0, .int .i64 0] 32)) = Wra66 at h8 h9 e8_9 e8_10 e9_10 h10 hSWra66 ⊢
                                   generalize Value.pointer (some ⟨Wra63.heap.size, 0, none⟩) = v10 at e8_10 e9_10 h10 ⊢
                                   exact wpAnyH_cast rfl rfl (tailra36 v8 v9 v10 Wra66 h8 h9 e8_9 h10 e8_10 e9_10 hSWra66)
                                 case ttailra21 =>
                                  try clear hS0
                                  intro v8 v10 Wra67 h8 h10 e8_10 hSWra67
                                  refine wpAnyH_ready (rs := [6, 14, 16]) (by kernel_rfl) (by simp) ?_
                                  refine AllReadyH.cons (o := ⟨some 17, _, _, _, _, _⟩) rfl (fun K hK => ?_) ?_
                                  ·
                                   go_simp
                                   go_at_call 32
                                   refine (CEi.out _ hSWra67).mono ?_
                                   rintro e Wra68 ⟨rfl, hbWra68⟩
                                   replace h8 := h8.below hbWra68
                                   replace h10 := h10.below hbWra68
                                   replace e8_10 := e8_10.below hbWra68
                                   have hSWra68 := hSWra67.trans (hbWra68.mono hSWra67.size)
                                   try clear hSWra67
                                   clear hbWra68
                                   go_wp2_with fail
                                   refine hK.out _ _ hSWra68 (fun hHeld => ?_)
                                   clear hK hHeld K
                                   try simp only [Act.put, List.setIfInBounds_toArray, List.set_cons_zero, List.set_cons_succ]
                                   exact wpAnyH_cast (by kernel_rfl) (by kernel_rfl) (tailra31 v8 v10 Wra68 h8 h10 e8_10 hSWra68)
                                  refine AllReadyH.cons (o := ⟨some 7, _, _, _, _, _⟩) rfl (fun K hK => ?_) ?_
                                  ·
                                   go_simp
                                   have e7_8 := (Nq.new h8 (.cells #[.int .i64 0, .int .i64 0] 32)).symm
                                   have e7_10 := (Nq.new h10 (.cells #[.int .i64 0, .int .i64 0] 32)).symm
                                   replace h8 := h8.alloc (.cells #[.int .i64 0, .int .i64 0] 32)
                                   replace h10 := h10.alloc (.cells #[.int .i64 0, .int .i64 0] 32)
                                   replace e8_10 := e8_10.alloc (.cells #[.int .i64 0, .int .i64 0] 32)
                                   have h7 := Bq.new Wra67 hSWra67.size
                                   have hSWra69 := hSWra67.alloc hSWra67.size (.cells #[.int .i64 0, .int .i64 0] 32)
                                   refine hK.out _ _ hSWra69 (fun hHeld => ?_)
                                   clear hK hHeld K
                                   try clear hSWra67
                                   try simp only [Act.put, List.setIfInBounds_toArray, List.set_cons_zero, List.set_cons_succ]
                                   generalize (Wra67.alloc (.cells #[.int .i64 0, .int .i64 0] 32)) = Wra69 at h8 h10 e8_10 e7_8 e7_10 h7 hSWra69 ⊢
                                   generalize Value.pointer (some ⟨Wra67.heap.size, 0, none⟩) = v7 at e7_8 e7_10 h7 ⊢
                                   exact wpAnyH_cast (by kernel_rfl) (by kernel_rfl) (tailra34 v7 v8 v10 Wra69 h7 h8 e7_8 h10 e7_10 e8_10 hSWra69)
                                  refine AllReadyH.cons (o := ⟨some 9, _, _, _, _, _⟩) rfl (fun K hK => ?_) AllReadyH.nil
                                  go_simp
                                  have e8_9 := Nq.new h8 (.cells #[.int .i64 0, .int .i64 0] 32)
                                  have e9_10 := (Nq.new h10 (.cells #[.int .i64 0, .int .i64 0] 32)).symm
                                  replace h8 := h8.alloc (.cells #[.int .i64 0, .int .i64 0] 32)
                                  replace h10 := h10.alloc (.cells #[.int .i64 0, .int .i64 0] 32)
                                  replace e8_10 := e8_10.alloc (.cells #[.int .i64 0, .int .i64 0] 32)
                                  have h9 := Bq.new Wra67 hSWra67.size
                                  have hSWra70 := hSWra67.alloc hSWra67.size (.cells #[.int .i64 0, .int .i64 0] 32)
                                  refine hK.out _ _ hSWra70 (fun hHeld => ?_)
                                  clear hK hHeld K
                                  try clear hSWra67
                                  try simp only [Act.put, List.setIfInBounds_toArray, List.set_cons_zero, List.set_cons_succ]
                                  generalize (Wra67.alloc (.cells #[.int .i64 0, .int .i64 0] 32)) = Wra70 at h8 h10 e8_10 e8_9 e9_10 h9 hSWra70 ⊢
                                  generalize Value.pointer (some ⟨Wra67.heap.size, 0, none⟩) = v9 at e8_9 e9_10 h9 ⊢
                                  exact wpAnyH_cast (by kernel_rfl) (by kernel_rfl) (tailra36 v8 v9 v10 Wra70 h8 h9 e8_9 h10 e8_10 e9_10 hSWra70)
                                case ttailra22 =>
                                 try clear hS0
                                 intro v9 v10 Wra71 h9 h10 e9_10 hSWra71
                                 refine wpAnyH_ready (rs := [6, 14, 15]) (by kernel_rfl) (by simp) ?_
                                 refine AllReadyH.cons (o := ⟨some 17, _, _, _, _, _⟩) rfl (fun K hK => ?_) ?_
                                 ·
                                  go_simp
                                  go_at_call 32
                                  refine (CEi.out _ hSWra71).mono ?_
                                  rintro e Wra72 ⟨rfl, hbWra72⟩
                                  replace h9 := h9.below hbWra72
                                  replace h10 := h10.below hbWra72
                                  replace e9_10 := e9_10.below hbWra72
                                  have hSWra72 := hSWra71.trans (hbWra72.mono hSWra71.size)
                                  try clear hSWra71
                                  clear hbWra72
                                  go_wp2_with fail
                                  refine hK.out _ _ hSWra72 (fun hHeld => ?_)
                                  clear hK hHeld K
                                  try simp only [Act.put, List.setIfInBounds_toArray, List.set_cons_zero, List.set_cons_succ]
                                  exact wpAnyH_cast (by kernel_rfl) (by kernel_rfl) (tailra32 v9 v10 Wra72 h9 h10 e9_10 hSWra72)
                                 refine AllReadyH.cons (o := ⟨some 7, _, _, _, _, _⟩) rfl (fun K hK => ?_) ?_
                                 ·
                                  go_simp
                                  have e7_9 := (Nq.new h9 (.cells #[.int .i64 0, .int .i64 0] 32)).symm
                                  have e7_10 := (Nq.new h10 (.cells #[.int .i64 0, .int .i64 0] 32)).symm
                                  replace h9 := h9.alloc (.cells #[.int .i64 0, .int .i64 0] 32)
                                  replace h10 := h10.alloc (.cells #[.int .i64 0, .int .i64 0] 32)
                                  replace e9_10 := e9_10.alloc (.cells #[.int .i64 0, .int .i64 0] 32)
                                  have h7 := Bq.new Wra71 hSWra71.size
                                  have hSWra73 := hSWra71.alloc hSWra71.size (.cells #[.int .i64 0, .int .i64 0] 32)
                                  refine hK.out _ _ hSWra73 (fun hHeld => ?_)
                                  clear hK hHeld K
                                  try clear hSWra71
                                  try simp only [Act.put, List.setIfInBounds_toArray, List.set_cons_zero, List.set_cons_succ]
                                  generalize (Wra71.alloc (.cells #[.int .i64 0, .int .i64 0] 32)) = Wra73 at h9 h10 e9_10 e7_9 e7_10 h7 hSWra73 ⊢
                                  generalize Value.pointer (some ⟨Wra71.heap.size, 0, none⟩) = v7 at e7_9 e7_10 h7 ⊢
                                  exact wpAnyH_cast (by kernel_rfl) (by kernel_rfl) (tailra35 v7 v9 v10 Wra73 h7 h9 e7_9 h10 e7_10 e9_10 hSWra73)
                                 refine AllReadyH.cons (o := ⟨some 8, _, _, _, _, _⟩) rfl (fun K hK => ?_) AllReadyH.nil
                                 go_simp
                                 have e8_9 := (Nq.new h9 (.cells #[.int .i64 0, .int .i64 0] 32)).symm
                                 have e8_10 := (Nq.new h10 (.cells #[.int .i64 0, .int .i64 0] 32)).symm
                                 replace h9 := h9.alloc (.cells #[.int .i64 0, .int .i64 0] 32)
                                 replace h10 := h10.alloc (.cells #[.int .i64 0, .int .i64 0] 32)
                                 replace e9_10 := e9_10.alloc (.cells #[.int .i64 0, .int .i64 0] 32)
                                 have h8 := Bq.new Wra71 hSWra71.size
                                 have hSWra74 := hSWra71.alloc hSWra71.size (.cells #[.int .i64 0, .int .i64 0] 32)
                                 refine hK.out _ _ hSWra74 (fun hHeld => ?_)
                                 clear hK hHeld K
                                 try clear hSWra71
                                 try simp only [Act.put, List.setIfInBounds_toArray, List.set_cons_zero, List.set_cons_succ]
                                 generalize (Wra71.alloc (.cells #[.int .i64 0, .int .i64 0] 32)) = Wra74 at h9 h10 e9_10 e8_9 e8_10 h8 hSWra74 ⊢
                                 generalize Value.pointer (some ⟨Wra71.heap.size, 0, none⟩) = v8 at e8_9 e8_10 h8 ⊢
                                 exact wpAnyH_cast (by kernel_rfl) (by kernel_rfl) (tailra36 v8 v9 v10 Wra74 h8 h9 e8_9 h10 e8_10 e9_10 hSWra74)
                               case ttailra23 =>
                                try clear hS0
                                intro v7 Wra75 h7 hSWra75
                                refine wpAnyH_ready (rs := [15, 16, 17]) (by kernel_rfl) (by simp) ?_
                                refine AllReadyH.cons (o := ⟨some 8, _, _, _, _, _⟩) rfl (fun K hK => ?_) ?_
                                ·
                                 go_simp
                                 have e7_8 := Nq.new h7 (.cells #[.int .i64 0, .int .i64 0] 32)
                                 replace h7 := h7.alloc (.cells #[.int .i64 0, .int .i64 0] 32)
                                 have h8 := Bq.new Wra75 hSWra75.size
                                 have hSWra76 := hSWra75.alloc hSWra75.size (.cells #[.int .i64 0, .int .i64 0] 32)
                                 refine hK.out _ _ hSWra76 (fun hHeld => ?_)
                                 clear hK hHeld K
                                 try clear hSWra75
                                 try simp only [Act.put, List.setIfInBounds_toArray, List.set_cons_zero, List.set_cons_succ]
                                 generalize (Wra75.alloc (.cells #[.int .i64 0, .int .i64 0] 32)) = Wra76 at h7 e7_8 h8 hSWra76 ⊢
                                 generalize Value.pointer (some ⟨Wra75.heap.size, 0, none⟩) = v8 at e7_8 h8 ⊢
                                 exact wpAnyH_cast rfl rfl (tailra37 v7 v8 Wra76 h7 h8 e7_8 hSWra76)
                                refine AllReadyH.cons (o := ⟨some 9, _, _, _, _, _⟩) rfl (fun K hK => ?_) ?_
                                ·
                                 go_simp
                                 have e7_9 := Nq.new h7 (.cells #[.int .i64 0, .int .i64 0] 32)
                                 replace h7 := h7.alloc (.cells #[.int .i64 0, .int .i64 0] 32)
                                 have h9 := Bq.new Wra75 hSWra75.size
                                 have hSWra77 := hSWra75.alloc hSWra75.size (.cells #[.int .i64 0, .int .i64 0] 32)
                                 refine hK.out _ _ hSWra77 (fun hHeld => ?_)
                                 clear hK hHeld K
                                 try clear hSWra75
                                 try simp only [Act.put, List.setIfInBounds_toArray, List.set_cons_zero, List.set_cons_succ]
                                 generalize (Wra75.alloc (.cells #[.int .i64 0, .int .i64 0] 32)) = Wra77 at h7 e7_9 h9 hSWra77 ⊢
                                 generalize Value.pointer (some ⟨Wra75.heap.size, 0, none⟩) = v9 at e7_9 h9 ⊢
                                 exact wpAnyH_cast rfl rfl (tailra38 v7 v9 Wra77 h7 h9 e7_9 hSWra77)
                                refine AllReadyH.cons (o := ⟨some 10, _, _, _, _, _⟩) rfl (fun K hK => ?_) AllReadyH.nil
                                go_simp
                                have e7_10 := Nq.new h7 (.cells #[.int .i64 0, .int .i64 0] 32)
                                replace h7 := h7.alloc (.cells #[.int .i64 0, .int .i64 0] 32)
                                have h10 := Bq.new Wra75 hSWra75.size
                                have hSWra78 := hSWra75.alloc hSWra75.size (.cells #[.int .i64 0, .int .i64 0] 32)
                                refine hK.out _ _ hSWra78 (fun hHeld => ?_)
                                clear hK hHeld K
                                try clear hSWra75
                                try simp only [Act.put, List.setIfInBounds_toArray, List.set_cons_zero, List.set_cons_succ]
                                generalize (Wra75.alloc (.cells #[.int .i64 0, .int .i64 0] 32)) = Wra78 at h7 e7_10 h10 hSWra78 ⊢
                                generalize Value.pointer (some ⟨Wra75.heap.size, 0, none⟩) = v10 at e7_10 h10 ⊢
                                exact wpAnyH_cast rfl rfl (tailra39 v7 v10 Wra78 h7 h10 e7_10 hSWra78)
                              case ttailra24 =>
                               try clear hS0
                               intro v8 Wra79 h8 hSWra79
                               refine wpAnyH_ready (rs := [14, 16, 17]) (by kernel_rfl) (by simp) ?_
                               refine AllReadyH.cons (o := ⟨some 7, _, _, _, _, _⟩) rfl (fun K hK => ?_) ?_
                               ·
                                go_simp
                                have e7_8 := (Nq.new h8 (.cells #[.int .i64 0, .int .i64 0] 32)).symm
                                replace h8 := h8.alloc (.cells #[.int .i64 0, .int .i64 0] 32)
                                have h7 := Bq.new Wra79 hSWra79.size
                                have hSWra80 := hSWra79.alloc hSWra79.size (.cells #[.int .i64 0, .int .i64 0] 32)
                                refine hK.out _ _ hSWra80 (fun hHeld => ?_)
                                clear hK hHeld K
                                try clear hSWra79
                                try simp only [Act.put, List.setIfInBounds_toArray, List.set_cons_zero, List.set_cons_succ]
                                generalize (Wra79.alloc (.cells #[.int .i64 0, .int .i64 0] 32)) = Wra80 at h8 e7_8 h7 hSWra80 ⊢
                                generalize Value.pointer (some ⟨Wra79.heap.size, 0, none⟩) = v7 at e7_8 h7 ⊢
                                exact wpAnyH_cast (by kernel_rfl) (by kernel_rfl) (tailra37 v7 v8 Wra80 h7 h8 e7_8 hSWra80)
                               refine AllReadyH.cons (o := ⟨some 9, _, _, _, _, _⟩) rfl (fun K hK => ?_) ?_
                               ·
                                go_simp
                                have e8_9 := Nq.new h8 (.cells #[.int .i64 0, .int .i64 0] 32)
                                replace h8 := h8.alloc (.cells #[.int .i64 0, .int .i64 0] 32)
                                have h9 := Bq.new Wra79 hSWra79.size
                                have hSWra81 := hSWra79.alloc hSWra79.size (.cells #[.int .i64 0, .int .i64 0] 32)
                                refine hK.out _ _ hSWra81 (fun hHeld => ?_)
                                clear hK hHeld K
                                try clear hSWra79
                                try simp only [Act.put, List.setIfInBounds_toArray, List.set_cons_zero, List.set_cons_succ]
                                generalize (Wra79.alloc (.cells #[.int .i64 0, .int .i64 0] 32)) = Wra81 at h8 e8_9 h9 hSWra81 ⊢
                                generalize Value.pointer (some ⟨Wra79.heap.size, 0, none⟩) = v9 at e8_9 h9 ⊢
                                exact wpAnyH_cast rfl rfl (tailra40 v8 v9 Wra81 h8 h9 e8_9 hSWra81)
                               refine AllReadyH.cons (o := ⟨some 10, _, _, _, _, _⟩) rfl (fun K hK => ?_) AllReadyH.nil
                               go_simp
                               have e8_10 := Nq.new h8 (.cells #[.int .i64 0, .int .i64 0] 32)
                               replace h8 := h8.alloc (.cells #[.int .i64 0, .int .i64 0] 32)
                               have h10 := Bq.new Wra79 hSWra79.size
                               have hSWra82 := hSWra79.alloc hSWra79.size (.cells #[.int .i64 0, .int .i64 0] 32)
                               refine hK.out _ _ hSWra82 (fun hHeld => ?_)
                               clear hK hHeld K
                               try clear hSWra79
                               try simp only [Act.put, List.setIfInBounds_toArray, List.set_cons_zero, List.set_cons_succ]
                               generalize (Wra79.alloc (.cells #[.int .i64 0, .int .i64 0] 32)) = Wra82 at h8 e8_10 h10 hSWra82 ⊢
                               generalize Value.pointer (some ⟨Wra79.heap.size, 0, none⟩) = v10 at e8_10 h10 ⊢
                               exact wpAnyH_cast rfl rfl (tailra41 v8 v10 Wra82 h8 h10 e8_10 hSWra82)
                             case ttailra25 =>
                              try clear hS0
                              intro v9 Wra83 h9 hSWra83
                              refine wpAnyH_ready (rs := [14, 15, 17]) (by kernel_rfl) (by simp) ?_
                              refine AllReadyH.cons (o := ⟨some 7, _, _, _, _, _⟩) rfl (fun K hK => ?_) ?_
                              ·
                               go_simp
                               have e7_9 := (Nq.new h9 (.cells #[.int .i64 0, .int .i64 0] 32)).symm
                               replace h9 := h9.alloc (.cells #[.int .i64 0, .int .i64 0] 32)
                               have h7 := Bq.new Wra83 hSWra83.size
                               have hSWra84 := hSWra83.alloc hSWra83.size (.cells #[.int .i64 0, .int .i64 0] 32)
                               refine hK.out _ _ hSWra84 (fun hHeld => ?_)
                               clear hK hHeld K
                               try clear hSWra83
                               try simp only [Act.put, List.setIfInBounds_toArray, List.set_cons_zero, List.set_cons_succ]
                               generalize (Wra83.alloc (.cells #[.int .i64 0, .int .i64 0] 32)) = Wra84 at h9 e7_9 h7 hSWra84 ⊢
                               generalize Value.pointer (some ⟨Wra83.heap.size, 0, none⟩) = v7 at e7_9 h7 ⊢
                               exact wpAnyH_cast (by kernel_rfl) (by kernel_rfl) (tailra38 v7 v9 Wra84 h7 h9 e7_9 hSWra84)
                              refine AllReadyH.cons (o := ⟨some 8, _, _, _, _, _⟩) rfl (fun K hK => ?_) ?_
                              ·
                               go_simp
                               have e8_9 := (Nq.new h9 (.cells #[.int .i64 0, .int .i64 0] 32)).symm
                               replace h9 := h9.alloc (.cells #[.int .i64 0, .int .i64 0] 32)
                               have h8 := Bq.new Wra83 hSWra83.size
                               have hSWra85 := hSWra83.alloc hSWra83.size (.cells #[.int .i64 0, .int .i64 0] 32)
                               refine hK.out _ _ hSWra85 (fun hHeld => ?_)
                               clear hK hHeld K
                               try clear hSWra83
                               try simp only [Act.put, List.setIfInBounds_toArray, List.set_cons_zero, List.set_cons_succ]
                               generalize (Wra83.alloc (.cells #[.int .i64 0, .int .i64 0] 32)) = Wra85 at h9 e8_9 h8 hSWra85 ⊢
                               generalize Value.pointer (some ⟨Wra83.heap.size, 0, none⟩) = v8 at e8_9 h8 ⊢
                               exact wpAnyH_cast (by kernel_rfl) (by kernel_rfl) (tailra40 v8 v9 Wra85 h8 h9 e8_9 hSWra85)
                              refine AllReadyH.cons (o := ⟨some 10, _, _, _, _, _⟩) rfl (fun K hK => ?_) AllReadyH.nil
                              go_simp
                              have e9_10 := Nq.new h9 (.cells #[.int .i64 0, .int .i64 0] 32)
                              replace h9 := h9.alloc (.cells #[.int .i64 0, .int .i64 0] 32)
                              have h10 := Bq.new Wra83 hSWra83.size
                              have hSWra86 := hSWra83.alloc hSWra83.size (.cells #[.int .i64 0, .int .i64 0] 32)
                              refine hK.out _ _ hSWra86 (fun hHeld => ?_)
                              clear hK hHeld K
                              try clear hSWra83
                              try simp only [Act.put, List.setIfInBounds_toArray, List.set_cons_zero, List.set_cons_succ]
                              generalize (Wra83.alloc (.cells #[.int .i64 0, .int .i64 0] 32)) = Wra86 at h9 e9_10 h10 hSWra86 ⊢
                              generalize Value.pointer (some ⟨Wra83.heap.size, 0, none⟩) = v10 at e9_10 h10 ⊢
                              exact wpAnyH_cast rfl rfl (tailra42 v9 v10 Wra86 h9 h10 e9_10 hSWra86)
                            case ttailra26 =>
                             try clear hS0
                             intro v10 Wra87 h10 hSWra87
                             refine wpAnyH_ready (rs := [14, 15, 16]) (by kernel_rfl) (by simp) ?_
                             refine AllReadyH.cons (o := ⟨some 7, _, _, _, _, _⟩) rfl (fun K hK => ?_) ?_
                             ·
                              go_simp
                              have e7_10 := (Nq.new h10 (.cells #[.int .i64 0, .int .i64 0] 32)).symm
                              replace h10 := h10.alloc (.cells #[.int .i64 0, .int .i64 0] 32)
                              have h7 := Bq.new Wra87 hSWra87.size
                              have hSWra88 := hSWra87.alloc hSWra87.size (.cells #[.int .i64 0, .int .i64 0] 32)
                              refine hK.out _ _ hSWra88 (fun hHeld => ?_)
                              clear hK hHeld K
                              try clear hSWra87
                              try simp only [Act.put, List.setIfInBounds_toArray, List.set_cons_zero, List.set_cons_succ]
                              generalize (Wra87.alloc (.cells #[.int .i64 0, .int .i64 0] 32)) = Wra88 at h10 e7_10 h7 hSWra88 ⊢
                              generalize Value.pointer (some ⟨Wra87.heap.size, 0, none⟩) = v7 at e7_10 h7 ⊢
                              exact wpAnyH_cast (by kernel_rfl) (by kernel_rfl) (tailra39 v7 v10 Wra88 h7 h10 e7_10 hSWra88)
                             refine AllReadyH.cons (o := ⟨some 8, _, _, _, _, _⟩) rfl (fun K hK => ?_) ?_
                             ·
                              go_simp
                              have e8_10 := (Nq.new h10 (.cells #[.int .i64 0, .int .i64 0] 32)).symm
                              replace h10 := h10.alloc (.cells #[.int .i64 0, .int .i64 0] 32)
                              have h8 := Bq.new Wra87 hSWra87.size
                              have hSWra89 := hSWra87.alloc hSWra87.size (.cells #[.int .i64 0, .int .i64 0] 32)
                              refine hK.out _ _ hSWra89 (fun hHeld => ?_)
                              clear hK hHeld K
                              try clear hSWra87
                              try simp only [Act.put, List.setIfInBounds_toArray, List.set_cons_zero, List.set_cons_succ]
                              generalize (Wra87.alloc (.cells #[.int .i64 0, .int .i64 0] 32)) = Wra89 at h10 e8_10 h8 hSWra89 ⊢
                              generalize Value.pointer (some ⟨Wra87.heap.size, 0, none⟩) = v8 at e8_10 h8 ⊢
                              exact wpAnyH_cast (by kernel_rfl) (by kernel_rfl) (tailra41 v8 v10 Wra89 h8 h10 e8_10 hSWra89)
                             refine AllReadyH.cons (o := ⟨some 9, _, _, _, _, _⟩) rfl (fun K hK => ?_) AllReadyH.nil
                             go_simp
                             have e9_10 := (Nq.new h10 (.cells #[.int .i64 0, .int .i64 0] 32)).symm
                             replace h10 := h10.alloc (.cells #[.int .i64 0, .int .i64 0] 32)
                             have h9 := Bq.new Wra87 hSWra87.size
                             have hSWra90 := hSWra87.alloc hSWra87.size (.cells #[.int .i64 0, .int .i64 0] 32)
                             refine hK.out _ _ hSWra90 (fun hHeld => ?_)
                             clear hK hHeld K
                             try clear hSWra87
                             try simp only [Act.put, List.setIfInBounds_toArray, List.set_cons_zero, List.set_cons_succ]
                             generalize (Wra87.alloc (.cells #[.int .i64 0, .int .i64 0] 32)) = Wra90 at h10 e9_10 h9 hSWra90 ⊢
                             generalize Value.pointer (some ⟨Wra87.heap.size, 0, none⟩) = v9 at e9_10 h9 ⊢
                             exact wpAnyH_cast (by kernel_rfl) (by kernel_rfl) (tailra42 v9 v10 Wra90 h9 h10 e9_10 hSWra90)
                           case ttailra27 =>
                            try clear hS0
                            intro v7 v8 Wra91 h7 h8 e7_8 hSWra91
                            refine wpAnyH_ready (rs := [13, 16, 17]) (by kernel_rfl) (by simp) ?_
                            refine AllReadyH.cons (o := ⟨some 24, _, _, _, _, _⟩) rfl (fun K hK => ?_) ?_
                            ·
                             go_simp
                             go_at_call 32
                             refine (CEk.out _ hSWra91).mono ?_
                             rintro e Wra92 ⟨rfl, hbWra92⟩
                             replace h7 := h7.below hbWra92
                             replace h8 := h8.below hbWra92
                             replace e7_8 := e7_8.below hbWra92
                             have hSWra92 := hSWra91.trans (hbWra92.mono hSWra91.size)
                             try clear hSWra91
                             clear hbWra92
                             go_wp2_with fail
                             refine hK.out _ _ hSWra92 (fun hHeld => ?_)
                             clear hK hHeld K
                             try simp only [Act.put, List.setIfInBounds_toArray, List.set_cons_zero, List.set_cons_succ]
                             exact wpAnyH_cast (by kernel_rfl) (by kernel_rfl) (tailra37 v7 v8 Wra92 h7 h8 e7_8 hSWra92)
                            refine AllReadyH.cons (o := ⟨some 9, _, _, _, _, _⟩) rfl (fun K hK => ?_) ?_
                            ·
                             go_simp
                             have e7_9 := Nq.new h7 (.cells #[.int .i64 0, .int .i64 0] 32)
                             have e8_9 := Nq.new h8 (.cells #[.int .i64 0, .int .i64 0] 32)
                             replace h7 := h7.alloc (.cells #[.int .i64 0, .int .i64 0] 32)
                             replace h8 := h8.alloc (.cells #[.int .i64 0, .int .i64 0] 32)
                             replace e7_8 := e7_8.alloc (.cells #[.int .i64 0, .int .i64 0] 32)
                             have h9 := Bq.new Wra91 hSWra91.size
                             have hSWra93 := hSWra91.alloc hSWra91.size (.cells #[.int .i64 0, .int .i64 0] 32)
                             refine hK.out _ _ hSWra93 (fun hHeld => ?_)
                             clear hK hHeld K
                             try clear hSWra91
                             try simp only [Act.put, List.setIfInBounds_toArray, List.set_cons_zero, List.set_cons_succ]
                             generalize (Wra91.alloc (.cells #[.int .i64 0, .int .i64 0] 32)) = Wra93 at h7 h8 e7_8 e7_9 e8_9 h9 hSWra93 ⊢
                             generalize Value.pointer (some ⟨Wra91.heap.size, 0, none⟩) = v9 at e7_9 e8_9 h9 ⊢
                             exact wpAnyH_cast rfl rfl (tailra43 v7 v8 v9 Wra93 h7 h8 e7_8 h9 e7_9 e8_9 hSWra93)
                            refine AllReadyH.cons (o := ⟨some 10, _, _, _, _, _⟩) rfl (fun K hK => ?_) AllReadyH.nil
                            go_simp
                            have e7_10 := Nq.new h7 (.cells #[.int .i64 0, .int .i64 0] 32)
                            have e8_10 := Nq.new h8 (.cells #[.int .i64 0, .int .i64 0] 32)
                            replace h7 := h7.alloc (.cells #[.int .i64 0, .int .i64 0] 32)
                            replace h8 := h8.alloc (.cells #[.int .i64 0, .int .i64 0] 32)
                            replace e7_8 := e7_8.alloc (.cells #[.int .i64 0, .int .i64 0] 32)
                            have h10 := Bq.new Wra91 hSWra91.size
                            have hSWra94 := hSWra91.alloc hSWra91.size (.cells #[.int .i64 0, .int .i64 0] 32)
                            refine hK.out _ _ hSWra94 (fun hHeld => ?_)
                            clear hK hHeld K
                            try clear hSWra91
                            try simp only [Act.put, List.setIfInBounds_toArray, List.set_cons_zero, List.set_cons_succ]
                            generalize (Wra91.alloc (.cells #[.int .i64 0, .int .i64 0] 32)) = Wra94 at h7 h8 e7_8 e7_10 e8_10 h10 hSWra94 ⊢
                            generalize Value.pointer (some ⟨Wra91.heap.size, 0, none⟩) = v10 at e7_10 e8_10 h10 ⊢
                            exact wpAnyH_cast rfl rfl (tailra44 v7 v8 v10 Wra94 h7 h8 e7_8 h10 e7_10 e8_10 hSWra94)
                          case ttailra28 =>
                           try clear hS0
                           intro v7 v9 Wra95 h7 h9 e7_9 hSWra95
                           refine wpAnyH_ready (rs := [13, 15, 17]) (by kernel_rfl) (by simp) ?_
                           refine AllReadyH.cons (o := ⟨some 24, _, _, _, _, _⟩) rfl (fun K hK => ?_) ?_
                           ·
                            go_simp
                            go_at_call 32
                            refine (CEk.out _ hSWra95).mono ?_
                            rintro e Wra96 ⟨rfl, hbWra96⟩
                            replace h7 := h7.below hbWra96
                            replace h9 := h9.below hbWra96
                            replace e7_9 := e7_9.below hbWra96
                            have hSWra96 := hSWra95.trans (hbWra96.mono hSWra95.size)
                            try clear hSWra95
                            clear hbWra96
                            go_wp2_with fail
                            refine hK.out _ _ hSWra96 (fun hHeld => ?_)
                            clear hK hHeld K
                            try simp only [Act.put, List.setIfInBounds_toArray, List.set_cons_zero, List.set_cons_succ]
                            exact wpAnyH_cast (by kernel_rfl) (by kernel_rfl) (tailra38 v7 v9 Wra96 h7 h9 e7_9 hSWra96)
                           refine AllReadyH.cons (o := ⟨some 8, _, _, _, _, _⟩) rfl (fun K hK => ?_) ?_
                           ·
                            go_simp
                            have e7_8 := Nq.new h7 (.cells #[.int .i64 0, .int .i64 0] 32)
                            have e8_9 := (Nq.new h9 (.cells #[.int .i64 0, .int .i64 0] 32)).symm
                            replace h7 := h7.alloc (.cells #[.int .i64 0, .int .i64 0] 32)
                            replace h9 := h9.alloc (.cells #[.int .i64 0, .int .i64 0] 32)
                            replace e7_9 := e7_9.alloc (.cells #[.int .i64 0, .int .i64 0] 32)
                            have h8 := Bq.new Wra95 hSWra95.size
                            have hSWra97 := hSWra95.alloc hSWra95.size (.cells #[.int .i64 0, .int .i64 0] 32)
                            refine hK.out _ _ hSWra97 (fun hHeld => ?_)
                            clear hK hHeld K
                            try clear hSWra95
                            try simp only [Act.put, List.setIfInBounds_toArray, List.set_cons_zero, List.set_cons_succ]
                            generalize (Wra95.alloc (.cells #[.int .i64 0, .int .i64 0] 32)) = Wra97 at h7 h9 e7_9 e7_8 e8_9 h8 hSWra97 ⊢
                            generalize Value.pointer (some ⟨Wra95.heap.size, 0, none⟩) = v8 at e7_8 e8_9 h8 ⊢
                            exact wpAnyH_cast (by kernel_rfl) (by kernel_rfl) (tailra43 v7 v8 v9 Wra97 h7 h8 e7_8 h9 e7_9 e8_9 hSWra97)
                           refine AllReadyH.cons (o := ⟨some 10, _, _, _, _, _⟩) rfl (fun K hK => ?_) AllReadyH.nil
                           go_simp
                           have e7_10 := Nq.new h7 (.cells #[.int .i64 0, .int .i64 0] 32)
                           have e9_10 := Nq.new h9 (.cells #[.int .i64 0, .int .i64 0] 32)
                           replace h7 := h7.alloc (.cells #[.int .i64 0, .int .i64 0] 32)
                           replace h9 := h9.alloc (.cells #[.int .i64 0, .int .i64 0] 32)
                           replace e7_9 := e7_9.alloc (.cells #[.int .i64 0, .int .i64 0] 32)
                           have h10 := Bq.new Wra95 hSWra95.size
                           have hSWra98 := hSWra95.alloc hSWra95.size (.cells #[.int .i64 0, .int .i64 0] 32)
                           refine hK.out _ _ hSWra98 (fun hHeld => ?_)
                           clear hK hHeld K
                           try clear hSWra95
                           try simp only [Act.put, List.setIfInBounds_toArray, List.set_cons_zero, List.set_cons_succ]
                           generalize (Wra95.alloc (.cells #[.int .i64 0, .int .i64 0] 32)) = Wra98 at h7 h9 e7_9 e7_10 e9_10 h10 hSWra98 ⊢
                           generalize Value.pointer (some ⟨Wra95.heap.size, 0, none⟩) = v10 at e7_10 e9_10 h10 ⊢
                           exact wpAnyH_cast rfl rfl (tailra45 v7 v9 v10 Wra98 h7 h9 e7_9 h10 e7_10 e9_10 hSWra98)
                         case ttailra29 =>
                          try clear hS0
                          intro v7 v10 Wra99 h7 h10 e7_10 hSWra99
                          refine wpAnyH_ready (rs := [13, 15, 16]) (by kernel_rfl) (by simp) ?_
                          refine AllReadyH.cons (o := ⟨some 24, _, _, _, _, _⟩) rfl (fun K hK => ?_) ?_
                          ·
                           go_simp
                           go_at_call 32
                           refine (CEk.out _ hSWra99).mono ?_
                           rintro e Wra100 ⟨rfl, hbWra100⟩
                           replace h7 := h7.below hbWra100
                           replace h10 := h10.below hbWra100
                           replace e7_10 := e7_10.below hbWra100
                           have hSWra100 := hSWra99.trans (hbWra100.mono hSWra99.size)
                           try clear hSWra99
                           clear hbWra100
                           go_wp2_with fail
                           refine hK.out _ _ hSWra100 (fun hHeld => ?_)
                           clear hK hHeld K
                           try simp only [Act.put, List.setIfInBounds_toArray, List.set_cons_zero, List.set_cons_succ]
                           exact wpAnyH_cast (by kernel_rfl) (by kernel_rfl) (tailra39 v7 v10 Wra100 h7 h10 e7_10 hSWra100)
                          refine AllReadyH.cons (o := ⟨some 8, _, _, _, _, _⟩) rfl (fun K hK => ?_) ?_
                          ·
                           go_simp
                           have e7_8 := Nq.new h7 (.cells #[.int .i64 0, .int .i64 0] 32)
                           have e8_10 := (Nq.new h10 (.cells #[.int .i64 0, .int .i64 0] 32)).symm
                           replace h7 := h7.alloc (.cells #[.int .i64 0, .int .i64 0] 32)
                           replace h10 := h10.alloc (.cells #[.int .i64 0, .int .i64 0] 32)
                           replace e7_10 := e7_10.alloc (.cells #[.int .i64 0, .int .i64 0] 32)
                           have h8 := Bq.new Wra99 hSWra99.size
                           have hSWra101 := hSWra99.alloc hSWra99.size (.cells #[.int .i64 0, .int .i64 0] 32)
                           refine hK.out _ _ hSWra101 (fun hHeld => ?_)
                           clear hK hHeld K
                           try clear hSWra99
                           try simp only [Act.put, List.setIfInBounds_toArray, List.set_cons_zero, List.set_cons_succ]
                           generalize (Wra99.alloc (.cells #[.int .i64 0, .int .i64 0] 32)) = Wra101 at h7 h10 e7_10 e7_8 e8_10 h8 hSWra101 ⊢
                           generalize Value.pointer (some ⟨Wra99.heap.size, 0, none⟩) = v8 at e7_8 e8_10 h8 ⊢
                           exact wpAnyH_cast (by kernel_rfl) (by kernel_rfl) (tailra44 v7 v8 v10 Wra101 h7 h8 e7_8 h10 e7_10 e8_10 hSWra101)
                          refine AllReadyH.cons (o := ⟨some 9, _, _, _, _, _⟩) rfl (fun K hK => ?_) AllReadyH.nil
                          go_simp
                          have e7_9 := Nq.new h7 (.cells #[.int .i64 0, .int .i64 0] 32)
                          have e9_10 := (Nq.new h10 (.cells #[.int .i64 0, .int .i64 0] 32)).symm
                          replace h7 := h7.alloc (.cells #[.int .i64 0, .int .i64 0] 32)
                          replace h10 := h10.alloc (.cells #[.int .i64 0, .int .i64 0] 32)
                          replace e7_10 := e7_10.alloc (.cells #[.int .i64 0, .int .i64 0] 32)
                          have h9 := Bq.new Wra99 hSWra99.size
                          have hSWra102 := hSWra99.alloc hSWra99.size (.cells #[.int .i64 0, .int .i64 0] 32)
                          refine hK.out _ _ hSWra102 (fun hHeld => ?_)
                          clear hK hHeld K
                          try clear hSWra99
                          try simp only [Act.put, List.setIfInBounds_toArray, List.set_cons_zero, List.set_cons_succ]
                          generalize (Wra99.alloc (.cells #[.int .i64 0, .int .i64 0] 32)) = Wra102 at h7 h10 e7_10 e7_9 e9_10 h9 hSWra102 ⊢
                          generalize Value.pointer (some ⟨Wra99.heap.size, 0, none⟩) = v9 at e7_9 e9_10 h9 ⊢
                          exact wpAnyH_cast (by kernel_rfl) (by kernel_rfl) (tailra45 v7 v9 v10 Wra102 h7 h9 e7_9 h10 e7_10 e9_10 hSWra102)
                        case ttailra30 =>
                         try clear hS0
                         intro v8 v9 Wra103 h8 h9 e8_9 hSWra103
                         refine wpAnyH_ready (rs := [13, 14, 17]) (by kernel_rfl) (by simp) ?_
                         refine AllReadyH.cons (o := ⟨some 24, _, _, _, _, _⟩) rfl (fun K hK => ?_) ?_
                         ·
                          go_simp
                          go_at_call 32
                          refine (CEk.out _ hSWra103).mono ?_
                          rintro e Wra104 ⟨rfl, hbWra104⟩
                          replace h8 := h8.below hbWra104
                          replace h9 := h9.below hbWra104
                          replace e8_9 := e8_9.below hbWra104
                          have hSWra104 := hSWra103.trans (hbWra104.mono hSWra103.size)
                          try clear hSWra103
                          clear hbWra104
                          go_wp2_with fail
                          refine hK.out _ _ hSWra104 (fun hHeld => ?_)
                          clear hK hHeld K
                          try simp only [Act.put, List.setIfInBounds_toArray, List.set_cons_zero, List.set_cons_succ]
                          exact wpAnyH_cast (by kernel_rfl) (by kernel_rfl) (tailra40 v8 v9 Wra104 h8 h9 e8_9 hSWra104)
                         refine AllReadyH.cons (o := ⟨some 7, _, _, _, _, _⟩) rfl (fun K hK => ?_) ?_
                         ·
                          go_simp
                          have e7_8 := (Nq.new h8 (.cells #[.int .i64 0, .int .i64 0] 32)).symm
                          have e7_9 := (Nq.new h9 (.cells #[.int .i64 0, .int .i64 0] 32)).symm
                          replace h8 := h8.alloc (.cells #[.int .i64 0, .int .i64 0] 32)
                          replace h9 := h9.alloc (.cells #[.int .i64 0, .int .i64 0] 32)
                          replace e8_9 := e8_9.alloc (.cells #[.int .i64 0, .int .i64 0] 32)
                          have h7 := Bq.new Wra103 hSWra103.size
                          have hSWra105 := hSWra103.alloc hSWra103.size (.cells #[.int .i64 0, .int .i64 0] 32)
                          refine hK.out _ _ hSWra105 (fun hHeld => ?_)
                          clear hK hHeld K
                          try clear hSWra103
                          try simp only [Act.put, List.setIfInBounds_toArray, List.set_cons_zero, List.set_cons_succ]
                          generalize (Wra103.alloc (.cells #[.int .i64 0, .int .i64 0] 32)) = Wra105 at h8 h9 e8_9 e7_8 e7_9 h7 hSWra105 ⊢
                          generalize Value.pointer (some ⟨Wra103.heap.size, 0, none⟩) = v7 at e7_8 e7_9 h7 ⊢
                          exact wpAnyH_cast (by kernel_rfl) (by kernel_rfl) (tailra43 v7 v8 v9 Wra105 h7 h8 e7_8 h9 e7_9 e8_9 hSWra105)
                         refine AllReadyH.cons (o := ⟨some 10, _, _, _, _, _⟩) rfl (fun K hK => ?_) AllReadyH.nil
                         go_simp
                         have e8_10 := Nq.new h8 (.cells #[.int .i64 0, .int .i64 0] 32)
                         have e9_10 := Nq.new h9 (.cells #[.int .i64 0, .int .i64 0] 32)
                         replace h8 := h8.alloc (.cells #[.int .i64 0, .int .i64 0] 32)
                         replace h9 := h9.alloc (.cells #[.int .i64 0, .int .i64 0] 32)
                         replace e8_9 := e8_9.alloc (.cells #[.int .i64 0, .int .i64 0] 32)
                         have h10 := Bq.new Wra103 hSWra103.size
                         have hSWra106 := hSWra103.alloc hSWra103.size (.cells #[.int .i64 0, .int .i64 0] 32)
                         refine hK.out _ _ hSWra106 (fun hHeld => ?_)
                         clear hK hHeld K
                         try clear hSWra103
                         try simp only [Act.put, List.setIfInBounds_toArray, List.set_cons_zero, List.set_cons_succ]
                         generalize (Wra103.alloc (.cells #[.int .i64 0, .int .i64 0] 32)) = Wra106 at h8 h9 e8_9 e8_10 e9_10 h10 hSWra106 ⊢
                         generalize Value.pointer (some ⟨Wra103.heap.size, 0, none⟩) = v10 at e8_10 e9_10 h10 ⊢
                         exact wpAnyH_cast rfl rfl (tailra46 v8 v9 v10 Wra106 h8 h9 e8_9 h10 e8_10 e9_10 hSWra106)
                       case ttailra31 =>
                        try clear hS0
                        intro v8 v10 Wra107 h8 h10 e8_10 hSWra107
                        refine wpAnyH_ready (rs := [13, 14, 16]) (by kernel_rfl) (by simp) ?_
                        refine AllReadyH.cons (o := ⟨some 24, _, _, _, _, _⟩) rfl (fun K hK => ?_) ?_
                        ·
                         go_simp
                         go_at_call 32
                         refine (CEk.out _ hSWra107).mono ?_
                         rintro e Wra108 ⟨rfl, hbWra108⟩
                         replace h8 := h8.below hbWra108
                         replace h10 := h10.below hbWra108
                         replace e8_10 := e8_10.below hbWra108
                         have hSWra108 := hSWra107.trans (hbWra108.mono hSWra107.size)
                         try clear hSWra107
                         clear hbWra108
                         go_wp2_with fail
                         refine hK.out _ _ hSWra108 (fun hHeld => ?_)
                         clear hK hHeld K
                         try simp only [Act.put, List.setIfInBounds_toArray, List.set_cons_zero, List.set_cons_succ]
                         exact wpAnyH_cast (by kernel_rfl) (by kernel_rfl) (tailra41 v8 v10 Wra108 h8 h10 e8_10 hSWra108)
                        refine AllReadyH.cons (o := ⟨some 7, _, _, _, _, _⟩) rfl (fun K hK => ?_) ?_
                        ·
                         go_simp
                         have e7_8 := (Nq.new h8 (.cells #[.int .i64 0, .int .i64 0] 32)).symm
                         have e7_10 := (Nq.new h10 (.cells #[.int .i64 0, .int .i64 0] 32)).symm
                         replace h8 := h8.alloc (.cells #[.int .i64 0, .int .i64 0] 32)
                         replace h10 := h10.alloc (.cells #[.int .i64 0, .int .i64 0] 32)
                         replace e8_10 := e8_10.alloc (.cells #[.int .i64 0, .int .i64 0] 32)
                         have h7 := Bq.new Wra107 hSWra107.size
                         have hSWra109 := hSWra107.alloc hSWra107.size (.cells #[.int .i64 0, .int .i64 0] 32)
                         refine hK.out _ _ hSWra109 (fun hHeld => ?_)
                         clear hK hHeld K
                         try clear hSWra107
                         try simp only [Act.put, List.setIfInBounds_toArray, List.set_cons_zero, List.set_cons_succ]
                         generalize (Wra107.alloc (.cells #[.int .i64 0, .int .i64 0] 32)) = Wra109 at h8 h10 e8_10 e7_8 e7_10 h7 hSWra109 ⊢
                         generalize Value.pointer (some ⟨Wra107.heap.size, 0, none⟩) = v7 at e7_8 e7_10 h7 ⊢
                         exact wpAnyH_cast (by kernel_rfl) (by kernel_rfl) (tailra44 v7 v8 v10 Wra109 h7 h8 e7_8 h10 e7_10 e8_10 hSWra109)
                        refine AllReadyH.cons (o := ⟨some 9, _, _, _, _, _⟩) rfl (fun K hK => ?_) AllReadyH.nil
                        go_simp
                        have e8_9 := Nq.new h8 (.cells #[.int .i64 0, .int .i64 0] 32)
                        have e9_10 := (Nq.new h10 (.cells #[.int .i64 0, .int .i64 0] 32)).symm
                        replace h8 := h8.alloc (.cells #[.int .i64 0, .int .i64 0] 32)
                        replace h10 := h10.alloc (.cells #[.int .i64 0, .int .i64 0] 32)
                        replace e8_10 := e8_10.alloc (.cells #[.int .i64 0, .int .i64 0] 32)
                        have h9 := Bq.new Wra107 hSWra107.size
                        have hSWra110 := hSWra107.alloc hSWra107.size (.cells #[.int .i64 0, .int .i64 0] 32)
                        refine hK.out _ _ hSWra110 (fun hHeld => ?_)
                        clear hK hHeld K
                        try clear hSWra107
                        try simp only [Act.put, List.setIfInBounds_toArray, List.set_cons_zero, List.set_cons_succ]
                        generalize (Wra107.alloc (.cells #[.int .i64 0, .int .i64 0] 32)) = Wra110 at h8 h10 e8_10 e8_9 e9_10 h9 hSWra110 ⊢
                        generalize Value.pointer (some ⟨Wra107.heap.size, 0, none⟩) = v9 at e8_9 e9_10 h9 ⊢
                        exact wpAnyH_cast (by kernel_rfl) (by kernel_rfl) (tailra46 v8 v9 v10 Wra110 h8 h9 e8_9 h10 e8_10 e9_10 hSWra110)
                      case ttailra32 =>
                       try clear hS0
                       intro v9 v10 Wra111 h9 h10 e9_10 hSWra111
                       refine wpAnyH_ready (rs := [13, 14, 15]) (by kernel_rfl) (by simp) ?_
                       refine AllReadyH.cons (o := ⟨some 24, _, _, _, _, _⟩) rfl (fun K hK => ?_) ?_
                       ·
                        go_simp
                        go_at_call 32
                        refine (CEk.out _ hSWra111).mono ?_
                        rintro e Wra112 ⟨rfl, hbWra112⟩
                        replace h9 := h9.below hbWra112
                        replace h10 := h10.below hbWra112
                        replace e9_10 := e9_10.below hbWra112
                        have hSWra112 := hSWra111.trans (hbWra112.mono hSWra111.size)
                        try clear hSWra111
                        clear hbWra112
                        go_wp2_with fail
                        refine hK.out _ _ hSWra112 (fun hHeld => ?_)
                        clear hK hHeld K
                        try simp only [Act.put, List.setIfInBounds_toArray, List.set_cons_zero, List.set_cons_succ]
                        exact wpAnyH_cast (by kernel_rfl) (by kernel_rfl) (tailra42 v9 v10 Wra112 h9 h10 e9_10 hSWra112)
                       refine AllReadyH.cons (o := ⟨some 7, _, _, _, _, _⟩) rfl (fun K hK => ?_) ?_
                       ·
                        go_simp
                        have e7_9 := (Nq.new h9 (.cells #[.int .i64 0, .int .i64 0] 32)).symm
                        have e7_10 := (Nq.new h10 (.cells #[.int .i64 0, .int .i64 0] 32)).symm
                        replace h9 := h9.alloc (.cells #[.int .i64 0, .int .i64 0] 32)
                        replace h10 := h10.alloc (.cells #[.int .i64 0, .int .i64 0] 32)
                        replace e9_10 := e9_10.alloc (.cells #[.int .i64 0, .int .i64 0] 32)
                        have h7 := Bq.new Wra111 hSWra111.size
                        have hSWra113 := hSWra111.alloc hSWra111.size (.cells #[.int .i64 0, .int .i64 0] 32)
                        refine hK.out _ _ hSWra113 (fun hHeld => ?_)
                        clear hK hHeld K
                        try clear hSWra111
                        try simp only [Act.put, List.setIfInBounds_toArray, List.set_cons_zero, List.set_cons_succ]
                        generalize (Wra111.alloc (.cells #[.int .i64 0, .int .i64 0] 32)) = Wra113 at h9 h10 e9_10 e7_9 e7_10 h7 hSWra113 ⊢
                        generalize Value.pointer (some ⟨Wra111.heap.size, 0, none⟩) = v7 at e7_9 e7_10 h7 ⊢
                        exact wpAnyH_cast (by kernel_rfl) (by kernel_rfl) (tailra45 v7 v9 v10 Wra113 h7 h9 e7_9 h10 e7_10 e9_10 hSWra113)
                       refine AllReadyH.cons (o := ⟨some 8, _, _, _, _, _⟩) rfl (fun K hK => ?_) AllReadyH.nil
                       go_simp
                       have e8_9 := (Nq.new h9 (.cells #[.int .i64 0, .int .i64 0] 32)).symm
                       have e8_10 := (Nq.new h10 (.cells #[.int .i64 0, .int .i64 0] 32)).symm
                       replace h9 := h9.alloc (.cells #[.int .i64 0, .int .i64 0] 32)
                       replace h10 := h10.alloc (.cells #[.int .i64 0, .int .i64 0] 32)
                       replace e9_10 := e9_10.alloc (.cells #[.int .i64 0, .int .i64 0] 32)
                       have h8 := Bq.new Wra111 hSWra111.size
                       have hSWra114 := hSWra111.alloc hSWra111.size (.cells #[.int .i64 0, .int .i64 0] 32)
                       refine hK.out _ _ hSWra114 (fun hHeld => ?_)
                       clear hK hHeld K
                       try clear hSWra111
                       try simp only [Act.put, List.setIfInBounds_toArray, List.set_cons_zero, List.set_cons_succ]
                       generalize (Wra111.alloc (.cells #[.int .i64 0, .int .i64 0] 32)) = Wra114 at h9 h10 e9_10 e8_9 e8_10 h8 hSWra114 ⊢
                       generalize Value.pointer (some ⟨Wra111.heap.size, 0, none⟩) = v8 at e8_9 e8_10 h8 ⊢
                       exact wpAnyH_cast (by kernel_rfl) (by kernel_rfl) (tailra46 v8 v9 v10 Wra114 h8 h9 e8_9 h10 e8_10 e9_10 hSWra114)
                     case ttailra33 =>
                      try clear hS0
                      intro v7 v8 v9 Wra115 h7 h8 e7_8 h9 e7_9 e8_9 hSWra115
                      refine wpAnyH_ready (rs := [6, 17]) (by kernel_rfl) (by simp) ?_
                      refine AllReadyH.cons (o := ⟨some 17, _, _, _, _, _⟩) rfl (fun K hK => ?_) ?_
                      ·
                       go_simp
                       go_at_call 32
                       refine (CEi.out _ hSWra115).mono ?_
                       rintro e Wra116 ⟨rfl, hbWra116⟩
                       replace h7 := h7.below hbWra116
                       replace h8 := h8.below hbWra116
                       replace e7_8 := e7_8.below hbWra116
                       replace h9 := h9.below hbWra116
                       replace e7_9 := e7_9.below hbWra116
                       replace e8_9 := e8_9.below hbWra116
                       have hSWra116 := hSWra115.trans (hbWra116.mono hSWra115.size)
                       try clear hSWra115
                       clear hbWra116
                       go_wp2_with fail
                       refine hK.out _ _ hSWra116 (fun hHeld => ?_)
                       clear hK hHeld K
                       try simp only [Act.put, List.setIfInBounds_toArray, List.set_cons_zero, List.set_cons_succ]
                       exact wpAnyH_cast (by kernel_rfl) (by kernel_rfl) (tailra43 v7 v8 v9 Wra116 h7 h8 e7_8 h9 e7_9 e8_9 hSWra116)
                      refine AllReadyH.cons (o := ⟨some 10, _, _, _, _, _⟩) rfl (fun K hK => ?_) AllReadyH.nil
                      go_simp
                      have e7_10 := Nq.new h7 (.cells #[.int .i64 0, .int .i64 0] 32)
                      have e8_10 := Nq.new h8 (.cells #[.int .i64 0, .int .i64 0] 32)
                      have e9_10 := Nq.new h9 (.cells #[.int .i64 0, .int .i64 0] 32)
                      replace h7 := h7.alloc (.cells #[.int .i64 0, .int .i64 0] 32)
                      replace h8 := h8.alloc (.cells #[.int .i64 0, .int .i64 0] 32)
                      replace e7_8 := e7_8.alloc (.cells #[.int .i64 0, .int .i64 0] 32)
                      replace h9 := h9.alloc (.cells #[.int .i64 0, .int .i64 0] 32)
                      replace e7_9 := e7_9.alloc (.cells #[.int .i64 0, .int .i64 0] 32)
                      replace e8_9 := e8_9.alloc (.cells #[.int .i64 0, .int .i64 0] 32)
                      have h10 := Bq.new Wra115 hSWra115.size
                      have hSWra117 := hSWra115.alloc hSWra115.size (.cells #[.int .i64 0, .int .i64 0] 32)
                      refine hK.out _ _ hSWra117 (fun hHeld => ?_)
                      clear hK hHeld K
                      try clear hSWra115
                      try simp only [Act.put, List.setIfInBounds_toArray, List.set_cons_zero, List.set_cons_succ]
                      generalize (Wra115.alloc (.cells #[.int .i64 0, .int .i64 0] 32)) = Wra117 at h7 h8 e7_8 h9 e7_9 e8_9 e7_10 e8_10 e9_10 h10 hSWra117 ⊢
                      generalize Value.pointer (some ⟨Wra115.heap.size, 0, none⟩) = v10 at e7_10 e8_10 e9_10 h10 ⊢
                      exact wpAnyH_cast rfl rfl (tailra47 v7 v8 v9 v10 Wra117 h7 h8 e7_8 h9 e7_9 e8_9 h10 e7_10 e8_10 e9_10 hSWra117)
                    case ttailra34 =>
                     try clear hS0
                     intro v7 v8 v10 Wra118 h7 h8 e7_8 h10 e7_10 e8_10 hSWra118
                     refine wpAnyH_ready (rs := [6, 16]) (by kernel_rfl) (by simp) ?_
                     refine AllReadyH.cons (o := ⟨some 17, _, _, _, _, _⟩) rfl (fun K hK => ?_) ?_
                     ·
                      go_simp
                      go_at_call 32
                      refine (CEi.out _ hSWra118).mono ?_
                      rintro e Wra119 ⟨rfl, hbWra119⟩
                      replace h7 := h7.below hbWra119
                      replace h8 := h8.below hbWra119
                      replace e7_8 := e7_8.below hbWra119
                      replace h10 := h10.below hbWra119
                      replace e7_10 := e7_10.below hbWra119
                      replace e8_10 := e8_10.below hbWra119
                      have hSWra119 := hSWra118.trans (hbWra119.mono hSWra118.size)
                      try clear hSWra118
                      clear hbWra119
                      go_wp2_with fail
                      refine hK.out _ _ hSWra119 (fun hHeld => ?_)
                      clear hK hHeld K
                      try simp only [Act.put, List.setIfInBounds_toArray, List.set_cons_zero, List.set_cons_succ]
                      exact wpAnyH_cast (by kernel_rfl) (by kernel_rfl) (tailra44 v7 v8 v10 Wra119 h7 h8 e7_8 h10 e7_10 e8_10 hSWra119)
                     refine AllReadyH.cons (o := ⟨some 9, _, _, _, _, _⟩) rfl (fun K hK => ?_) AllReadyH.nil
                     go_simp
                     have e7_9 := Nq.new h7 (.cells #[.int .i64 0, .int .i64 0] 32)
                     have e8_9 := Nq.new h8 (.cells #[.int .i64 0, .int .i64 0] 32)
                     have e9_10 := (Nq.new h10 (.cells #[.int .i64 0, .int .i64 0] 32)).symm
                     replace h7 := h7.alloc (.cells #[.int .i64 0, .int .i64 0] 32)
                     replace h8 := h8.alloc (.cells #[.int .i64 0, .int .i64 0] 32)
                     replace e7_8 := e7_8.alloc (.cells #[.int .i64 0, .int .i64 0] 32)
                     replace h10 := h10.alloc (.cells #[.int .i64 0, .int .i64 0] 32)
                     replace e7_10 := e7_10.alloc (.cells #[.int .i64 0, .int .i64 0] 32)
                     replace e8_10 := e8_10.alloc (.cells #[.int .i64 0, .int .i64 0] 32)
                     have h9 := Bq.new Wra118 hSWra118.size
                     have hSWra120 := hSWra118.alloc hSWra118.size (.cells #[.int .i64 0, .int .i64 0] 32)
                     refine hK.out _ _ hSWra120 (fun hHeld => ?_)
                     clear hK hHeld K
                     try clear hSWra118
                     try simp only [Act.put, List.setIfInBounds_toArray, List.set_cons_zero, List.set_cons_succ]
                     generalize (Wra118.alloc (.cells #[.int .i64 0, .int .i64 0] 32)) = Wra120 at h7 h8 e7_8 h10 e7_10 e8_10 e7_9 e8_9 e9_10 h9 hSWra120 ⊢
                     generalize Value.pointer (some ⟨Wra118.heap.size, 0, none⟩) = v9 at e7_9 e8_9 e9_10 h9 ⊢
                     exact wpAnyH_cast (by kernel_rfl) (by kernel_rfl) (tailra47 v7 v8 v9 v10 Wra120 h7 h8 e7_8 h9 e7_9 e8_9 h10 e7_10 e8_10 e9_10 hSWra120)
                   case ttailra35 =>
                    try clear hS0
                    intro v7 v9 v10 Wra121 h7 h9 e7_9 h10 e7_10 e9_10 hSWra121
                    refine wpAnyH_ready (rs := [6, 15]) (by kernel_rfl) (by simp) ?_
                    refine AllReadyH.cons (o := ⟨some 17, _, _, _, _, _⟩) rfl (fun K hK => ?_) ?_
                    ·
                     go_simp
                     go_at_call 32
                     refine (CEi.out _ hSWra121).mono ?_
                     rintro e Wra122 ⟨rfl, hbWra122⟩
                     replace h7 := h7.below hbWra122
                     replace h9 := h9.below hbWra122
                     replace e7_9 := e7_9.below hbWra122
                     replace h10 := h10.below hbWra122
                     replace e7_10 := e7_10.below hbWra122
                     replace e9_10 := e9_10.below hbWra122
                     have hSWra122 := hSWra121.trans (hbWra122.mono hSWra121.size)
                     try clear hSWra121
                     clear hbWra122
                     go_wp2_with fail
                     refine hK.out _ _ hSWra122 (fun hHeld => ?_)
                     clear hK hHeld K
                     try simp only [Act.put, List.setIfInBounds_toArray, List.set_cons_zero, List.set_cons_succ]
                     exact wpAnyH_cast (by kernel_rfl) (by kernel_rfl) (tailra45 v7 v9 v10 Wra122 h7 h9 e7_9 h10 e7_10 e9_10 hSWra122)
                    refine AllReadyH.cons (o := ⟨some 8, _, _, _, _, _⟩) rfl (fun K hK => ?_) AllReadyH.nil
                    go_simp
                    have e7_8 := Nq.new h7 (.cells #[.int .i64 0, .int .i64 0] 32)
                    have e8_9 := (Nq.new h9 (.cells #[.int .i64 0, .int .i64 0] 32)).symm
                    have e8_10 := (Nq.new h10 (.cells #[.int .i64 0, .int .i64 0] 32)).symm
                    replace h7 := h7.alloc (.cells #[.int .i64 0, .int .i64 0] 32)
                    replace h9 := h9.alloc (.cells #[.int .i64 0, .int .i64 0] 32)
                    replace e7_9 := e7_9.alloc (.cells #[.int .i64 0, .int .i64 0] 32)
                    replace h10 := h10.alloc (.cells #[.int .i64 0, .int .i64 0] 32)
                    replace e7_10 := e7_10.alloc (.cells #[.int .i64 0, .int .i64 0] 32)
                    replace e9_10 := e9_10.alloc (.cells #[.int .i64 0, .int .i64 0] 32)
                    have h8 := Bq.new Wra121 hSWra121.size
                    have hSWra123 := hSWra121.alloc hSWra121.size (.cells #[.int .i64 0, .int .i64 0] 32)
                    refine hK.out _ _ hSWra123 (fun hHeld => ?_)
                    clear hK hHeld K
                    try clear hSWra121
                    try simp only [Act.put, List.setIfInBounds_toArray, List.set_cons_zero, List.set_cons_succ]
                    generalize (Wra121.alloc (.cells #[.int .i64 0, .int .i64 0] 32)) = Wra123 at h7 h9 e7_9 h10 e7_10 e9_10 e7_8 e8_9 e8_10 h8 hSWra123 ⊢
                    generalize Value.pointer (some ⟨Wra121.heap.size, 0, none⟩) = v8 at e7_8 e8_9 e8_10 h8 ⊢
                    exact wpAnyH_cast (by kernel_rfl) (by kernel_rfl) (tailra47 v7 v8 v9 v10 Wra123 h7 h8 e7_8 h9 e7_9 e8_9 h10 e7_10 e8_10 e9_10 hSWra123)
                  case ttailra36 =>
                   try clear hS0
                   intro v8 v9 v10 Wra124 h8 h9 e8_9 h10 e8_10 e9_10 hSWra124
                   refine wpAnyH_ready (rs := [6, 14]) (by kernel_rfl) (by simp) ?_
                   refine AllReadyH.cons (o := ⟨some 17, _, _, _, _, _⟩) rfl (fun K hK => ?_) ?_
                   ·
                    go_simp
                    go_at_call 32
                    refine (CEi.out _ hSWra124).mono ?_
                    rintro e Wra125 ⟨rfl, hbWra125⟩
                    replace h8 := h8.below hbWra125
                    replace h9 := h9.below hbWra125
                    replace e8_9 := e8_9.below hbWra125
                    replace h10 := h10.below hbWra125
                    replace e8_10 := e8_10.below hbWra125
                    replace e9_10 := e9_10.below hbWra125
                    have hSWra125 := hSWra124.trans (hbWra125.mono hSWra124.size)
                    try clear hSWra124
                    clear hbWra125
                    go_wp2_with fail
                    refine hK.out _ _ hSWra125 (fun hHeld => ?_)
                    clear hK hHeld K
                    try simp only [Act.put, List.setIfInBounds_toArray, List.set_cons_zero, List.set_cons_succ]
                    exact wpAnyH_cast (by kernel_rfl) (by kernel_rfl) (tailra46 v8 v9 v10 Wra125 h8 h9 e8_9 h10 e8_10 e9_10 hSWra125)
                   refine AllReadyH.cons (o := ⟨some 7, _, _, _, _, _⟩) rfl (fun K hK => ?_) AllReadyH.nil
                   go_simp
                   have e7_8 := (Nq.new h8 (.cells #[.int .i64 0, .int .i64 0] 32)).symm
                   have e7_9 := (Nq.new h9 (.cells #[.int .i64 0, .int .i64 0] 32)).symm
                   have e7_10 := (Nq.new h10 (.cells #[.int .i64 0, .int .i64 0] 32)).symm
                   replace h8 := h8.alloc (.cells #[.int .i64 0, .int .i64 0] 32)
                   replace h9 := h9.alloc (.cells #[.int .i64 0, .int .i64 0] 32)
                   replace e8_9 := e8_9.alloc (.cells #[.int .i64 0, .int .i64 0] 32)
                   replace h10 := h10.alloc (.cells #[.int .i64 0, .int .i64 0] 32)
                   replace e8_10 := e8_10.alloc (.cells #[.int .i64 0, .int .i64 0] 32)
                   replace e9_10 := e9_10.alloc (.cells #[.int .i64 0, .int .i64 0] 32)
                   have h7 := Bq.new Wra124 hSWra124.size
                   have hSWra126 := hSWra124.alloc hSWra124.size (.cells #[.int .i64 0, .int .i64 0] 32)
                   refine hK.out _ _ hSWra126 (fun hHeld => ?_)
                   clear hK hHeld K
                   try clear hSWra124
                   try simp only [Act.put, List.setIfInBounds_toArray, List.set_cons_zero, List.set_cons_succ]
                   generalize (Wra124.alloc (.cells #[.int .i64 0, .int .i64 0] 32)) = Wra126 at h8 h9 e8_9 h10 e8_10 e9_10 e7_8 e7_9 e7_10 h7 hSWra126 ⊢
                   generalize Value.pointer (some ⟨Wra124.heap.size, 0, none⟩) = v7 at e7_8 e7_9 e7_10 h7 ⊢
                   exact wpAnyH_cast (by kernel_rfl) (by kernel_rfl) (tailra47 v7 v8 v9 v10 Wra126 h7 h8 e7_8 h9 e7_9 e8_9 h10 e7_10 e8_10 e9_10 hSWra126)
                 case ttailra37 =>
                  try clear hS0
                  intro v7 v8 Wra127 h7 h8 e7_8 hSWra127
                  refine wpAnyH_ready (rs := [16, 17]) (by kernel_rfl) (by simp) ?_
                  refine AllReadyH.cons (o := ⟨some 9, _, _, _, _, _⟩) rfl (fun K hK => ?_) ?_
                  ·
                   go_simp
                   have e7_9 := Nq.new h7 (.cells #[.int .i64 0, .int .i64 0] 32)
                   have e8_9 := Nq.new h8 (.cells #[.int .i64 0, .int .i64 0] 32)
                   replace h7 := h7.alloc (.cells #[.int .i64 0, .int .i64 0] 32)
                   replace h8 := h8.alloc (.cells #[.int .i64 0, .int .i64 0] 32)
                   replace e7_8 := e7_8.alloc (.cells #[.int .i64 0, .int .i64 0] 32)
                   have h9 := Bq.new Wra127 hSWra127.size
                   have hSWra128 := hSWra127.alloc hSWra127.size (.cells #[.int .i64 0, .int .i64 0] 32)
                   refine hK.out _ _ hSWra128 (fun hHeld => ?_)
                   clear hK hHeld K
                   try clear hSWra127
                   try simp only [Act.put, List.setIfInBounds_toArray, List.set_cons_zero, List.set_cons_succ]
                   generalize (Wra127.alloc (.cells #[.int .i64 0, .int .i64 0] 32)) = Wra128 at h7 h8 e7_8 e7_9 e8_9 h9 hSWra128 ⊢
                   generalize Value.pointer (some ⟨Wra127.heap.size, 0, none⟩) = v9 at e7_9 e8_9 h9 ⊢
                   exact wpAnyH_cast rfl rfl (tailra48 v7 v8 v9 Wra128 h7 h8 e7_8 h9 e7_9 e8_9 hSWra128)
                  refine AllReadyH.cons (o := ⟨some 10, _, _, _, _, _⟩) rfl (fun K hK => ?_) AllReadyH.nil
                  go_simp
                  have e7_10 := Nq.new h7 (.cells #[.int .i64 0, .int .i64 0] 32)
                  have e8_10 := Nq.new h8 (.cells #[.int .i64 0, .int .i64 0] 32)
                  replace h7 := h7.alloc (.cells #[.int .i64 0, .int .i64 0] 32)
                  replace h8 := h8.alloc (.cells #[.int .i64 0, .int .i64 0] 32)
                  replace e7_8 := e7_8.alloc (.cells #[.int .i64 0, .int .i64 0] 32)
                  have h10 := Bq.new Wra127 hSWra127.size
                  have hSWra129 := hSWra127.alloc hSWra127.size (.cells #[.int .i64 0, .int .i64 0] 32)
                  refine hK.out _ _ hSWra129 (fun hHeld => ?_)
                  clear hK hHeld K
                  try clear hSWra127
                  try simp only [Act.put, List.setIfInBounds_toArray, List.set_cons_zero, List.set_cons_succ]
                  generalize (Wra127.alloc (.cells #[.int .i64 0, .int .i64 0] 32)) = Wra129 at h7 h8 e7_8 e7_10 e8_10 h10 hSWra129 ⊢
                  generalize Value.pointer (some ⟨Wra127.heap.size, 0, none⟩) = v10 at e7_10 e8_10 h10 ⊢
                  exact wpAnyH_cast rfl rfl (tailra49 v7 v8 v10 Wra129 h7 h8 e7_8 h10 e7_10 e8_10 hSWra129)
                case ttailra38 =>
                 try clear hS0
                 intro v7 v9 Wra130 h7 h9 e7_9 hSWra130
                 refine wpAnyH_ready (rs := [15, 17]) (by kernel_rfl) (by simp) ?_
                 refine AllReadyH.cons (o := ⟨some 8, _, _, _, _, _⟩) rfl (fun K hK => ?_) ?_
                 ·
                  go_simp
                  have e7_8 := Nq.new h7 (.cells #[.int .i64 0, .int .i64 0] 32)
                  have e8_9 := (Nq.new h9 (.cells #[.int .i64 0, .int .i64 0] 32)).symm
                  replace h7 := h7.alloc (.cells #[.int .i64 0, .int .i64 0] 32)
                  replace h9 := h9.alloc (.cells #[.int .i64 0, .int .i64 0] 32)
                  replace e7_9 := e7_9.alloc (.cells #[.int .i64 0, .int .i64 0] 32)
                  have h8 := Bq.new Wra130 hSWra130.size
                  have hSWra131 := hSWra130.alloc hSWra130.size (.cells #[.int .i64 0, .int .i64 0] 32)
                  refine hK.out _ _ hSWra131 (fun hHeld => ?_)
                  clear hK hHeld K
                  try clear hSWra130
                  try simp only [Act.put, List.setIfInBounds_toArray, List.set_cons_zero, List.set_cons_succ]
                  generalize (Wra130.alloc (.cells #[.int .i64 0, .int .i64 0] 32)) = Wra131 at h7 h9 e7_9 e7_8 e8_9 h8 hSWra131 ⊢
                  generalize Value.pointer (some ⟨Wra130.heap.size, 0, none⟩) = v8 at e7_8 e8_9 h8 ⊢
                  exact wpAnyH_cast (by kernel_rfl) (by kernel_rfl) (tailra48 v7 v8 v9 Wra131 h7 h8 e7_8 h9 e7_9 e8_9 hSWra131)
                 refine AllReadyH.cons (o := ⟨some 10, _, _, _, _, _⟩) rfl (fun K hK => ?_) AllReadyH.nil
                 go_simp
                 have e7_10 := Nq.new h7 (.cells #[.int .i64 0, .int .i64 0] 32)
                 have e9_10 := Nq.new h9 (.cells #[.int .i64 0, .int .i64 0] 32)
                 replace h7 := h7.alloc (.cells #[.int .i64 0, .int .i64 0] 32)
                 replace h9 := h9.alloc (.cells #[.int .i64 0, .int .i64 0] 32)
                 replace e7_9 := e7_9.alloc (.cells #[.int .i64 0, .int .i64 0] 32)
                 have h10 := Bq.new Wra130 hSWra130.size
                 have hSWra132 := hSWra130.alloc hSWra130.size (.cells #[.int .i64 0, .int .i64 0] 32)
                 refine hK.out _ _ hSWra132 (fun hHeld => ?_)
                 clear hK hHeld K
                 try clear hSWra130
                 try simp only [Act.put, List.setIfInBounds_toArray, List.set_cons_zero, List.set_cons_succ]
                 generalize (Wra130.alloc (.cells #[.int .i64 0, .int .i64 0] 32)) = Wra132 at h7 h9 e7_9 e7_10 e9_10 h10 hSWra132 ⊢
                 generalize Value.pointer (some ⟨Wra130.heap.size, 0, none⟩) = v10 at e7_10 e9_10 h10 ⊢
                 exact wpAnyH_cast rfl rfl (tailra50 v7 v9 v10 Wra132 h7 h9 e7_9 h10 e7_10 e9_10 hSWra132)
               case ttailra39 =>
                try clear hS0
                intro v7 v10 Wra133 h7 h10 e7_10 hSWra133
                refine wpAnyH_ready (rs := [15, 16]) (by kernel_rfl) (by simp) ?_
                refine AllReadyH.cons (o := ⟨some 8, _, _, _, _, _⟩) rfl (fun K hK => ?_) ?_
                ·
                 go_simp
                 have e7_8 := Nq.new h7 (.cells #[.int .i64 0, .int .i64 0] 32)
                 have e8_10 := (Nq.new h10 (.cells #[.int .i64 0, .int .i64 0] 32)).symm
                 replace h7 := h7.alloc (.cells #[.int .i64 0, .int .i64 0] 32)
                 replace h10 := h10.alloc (.cells #[.int .i64 0, .int .i64 0] 32)
                 replace e7_10 := e7_10.alloc (.cells #[.int .i64 0, .int .i64 0] 32)
                 have h8 := Bq.new Wra133 hSWra133.size
                 have hSWra134 := hSWra133.alloc hSWra133.size (.cells #[.int .i64 0, .int .i64 0] 32)
                 refine hK.out _ _ hSWra134 (fun hHeld => ?_)
                 clear hK hHeld K
                 try clear hSWra133
                 try simp only [Act.put, List.setIfInBounds_toArray, List.set_cons_zero, List.set_cons_succ]
                 generalize (Wra133.alloc (.cells #[.int .i64 0, .int .i64 0] 32)) = Wra134 at h7 h10 e7_10 e7_8 e8_10 h8 hSWra134 ⊢
                 generalize Value.pointer (some ⟨Wra133.heap.size, 0, none⟩) = v8 at e7_8 e8_10 h8 ⊢
                 exact wpAnyH_cast (by kernel_rfl) (by kernel_rfl) (tailra49 v7 v8 v10 Wra134 h7 h8 e7_8 h10 e7_10 e8_10 hSWra134)
                refine AllReadyH.cons (o := ⟨some 9, _, _, _, _, _⟩) rfl (fun K hK => ?_) AllReadyH.nil
                go_simp
                have e7_9 := Nq.new h7 (.cells #[.int .i64 0, .int .i64 0] 32)
                have e9_10 := (Nq.new h10 (.cells #[.int .i64 0, .int .i64 0] 32)).symm
                replace h7 := h7.alloc (.cells #[.int .i64 0, .int .i64 0] 32)
                replace h10 := h10.alloc (.cells #[.int .i64 0, .int .i64 0] 32)
                replace e7_10 := e7_10.alloc (.cells #[.int .i64 0, .int .i64 0] 32)
                have h9 := Bq.new Wra133 hSWra133.size
                have hSWra135 := hSWra133.alloc hSWra133.size (.cells #[.int .i64 0, .int .i64 0] 32)
                refine hK.out _ _ hSWra135 (fun hHeld => ?_)
                clear hK hHeld K
                try clear hSWra133
                try simp only [Act.put, List.setIfInBounds_toArray, List.set_cons_zero, List.set_cons_succ]
                generalize (Wra133.alloc (.cells #[.int .i64 0, .int .i64 0] 32)) = Wra135 at h7 h10 e7_10 e7_9 e9_10 h9 hSWra135 ⊢
                generalize Value.pointer (some ⟨Wra133.heap.size, 0, none⟩) = v9 at e7_9 e9_10 h9 ⊢
                exact wpAnyH_cast (by kernel_rfl) (by kernel_rfl) (tailra50 v7 v9 v10 Wra135 h7 h9 e7_9 h10 e7_10 e9_10 hSWra135)
              case ttailra40 =>
               try clear hS0
               intro v8 v9 Wra136 h8 h9 e8_9 hSWra136
               refine wpAnyH_ready (rs := [14, 17]) (by kernel_rfl) (by simp) ?_
               refine AllReadyH.cons (o := ⟨some 7, _, _, _, _, _⟩) rfl (fun K hK => ?_) ?_
               ·
                go_simp
                have e7_8 := (Nq.new h8 (.cells #[.int .i64 0, .int .i64 0] 32)).symm
                have e7_9 := (Nq.new h9 (.cells #[.int .i64 0, .int .i64 0] 32)).symm
                replace h8 := h8.alloc (.cells #[.int .i64 0, .int .i64 0] 32)
                replace h9 := h9.alloc (.cells #[.int .i64 0, .int .i64 0] 32)
                replace e8_9 := e8_9.alloc (.cells #[.int .i64 0, .int .i64 0] 32)
                have h7 := Bq.new Wra136 hSWra136.size
                have hSWra137 := hSWra136.alloc hSWra136.size (.cells #[.int .i64 0, .int .i64 0] 32)
                refine hK.out _ _ hSWra137 (fun hHeld => ?_)
                clear hK hHeld K
                try clear hSWra136
                try simp only [Act.put, List.setIfInBounds_toArray, List.set_cons_zero, List.set_cons_succ]
                generalize (Wra136.alloc (.cells #[.int .i64 0, .int .i64 0] 32)) = Wra137 at h8 h9 e8_9 e7_8 e7_9 h7 hSWra137 ⊢
                generalize Value.pointer (some ⟨Wra136.heap.size, 0, none⟩) = v7 at e7_8 e7_9 h7 ⊢
                exact wpAnyH_cast (by kernel_rfl) (by kernel_rfl) (tailra48 v7 v8 v9 Wra137 h7 h8 e7_8 h9 e7_9 e8_9 hSWra137)
               refine AllReadyH.cons (o := ⟨some 10, _, _, _, _, _⟩) rfl (fun K hK => ?_) AllReadyH.nil
               go_simp
               have e8_10 := Nq.new h8 (.cells #[.int .i64 0, .int .i64 0] 32)
               have e9_10 := Nq.new h9 (.cells #[.int .i64 0, .int .i64 0] 32)
               replace h8 := h8.alloc (.cells #[.int .i64 0, .int .i64 0] 32)
               replace h9 := h9.alloc (.cells #[.int .i64 0, .int .i64 0] 32)
               replace e8_9 := e8_9.alloc (.cells #[.int .i64 0, .int .i64 0] 32)
               have h10 := Bq.new Wra136 hSWra136.size
               have hSWra138 := hSWra136.alloc hSWra136.size (.cells #[.int .i64 0, .int .i64 0] 32)
               refine hK.out _ _ hSWra138 (fun hHeld => ?_)
               clear hK hHeld K
               try clear hSWra136
               try simp only [Act.put, List.setIfInBounds_toArray, List.set_cons_zero, List.set_cons_succ]
               generalize (Wra136.alloc (.cells #[.int .i64 0, .int .i64 0] 32)) = Wra138 at h8 h9 e8_9 e8_10 e9_10 h10 hSWra138 ⊢
               generalize Value.pointer (some ⟨Wra136.heap.size, 0, none⟩) = v10 at e8_10 e9_10 h10 ⊢
               exact wpAnyH_cast rfl rfl (tailra51 v8 v9 v10 Wra138 h8 h9 e8_9 h10 e8_10 e9_10 hSWra138)
             case ttailra41 =>
              try clear hS0
              intro v8 v10 Wra139 h8 h10 e8_10 hSWra139
              refine wpAnyH_ready (rs := [14, 16]) (by kernel_rfl) (by simp) ?_
              refine AllReadyH.cons (o := ⟨some 7, _, _, _, _, _⟩) rfl (fun K hK => ?_) ?_
              ·
               go_simp
               have e7_8 := (Nq.new h8 (.cells #[.int .i64 0, .int .i64 0] 32)).symm
               have e7_10 := (Nq.new h10 (.cells #[.int .i64 0, .int .i64 0] 32)).symm
               replace h8 := h8.alloc (.cells #[.int .i64 0, .int .i64 0] 32)
               replace h10 := h10.alloc (.cells #[.int .i64 0, .int .i64 0] 32)
               replace e8_10 := e8_10.alloc (.cells #[.int .i64 0, .int .i64 0] 32)
               have h7 := Bq.new Wra139 hSWra139.size
               have hSWra140 := hSWra139.alloc hSWra139.size (.cells #[.int .i64 0, .int .i64 0] 32)
               refine hK.out _ _ hSWra140 (fun hHeld => ?_)
               clear hK hHeld K
               try clear hSWra139
               try simp only [Act.put, List.setIfInBounds_toArray, List.set_cons_zero, List.set_cons_succ]
               generalize (Wra139.alloc (.cells #[.int .i64 0, .int .i64 0] 32)) = Wra140 at h8 h10 e8_10 e7_8 e7_10 h7 hSWra140 ⊢
               generalize Value.pointer (some ⟨Wra139.heap.size, 0, none⟩) = v7 at e7_8 e7_10 h7 ⊢
               exact wpAnyH_cast (by kernel_rfl) (by kernel_rfl) (tailra49 v7 v8 v10 Wra140 h7 h8 e7_8 h10 e7_10 e8_10 hSWra140)
              refine AllReadyH.cons (o := ⟨some 9, _, _, _, _, _⟩) rfl (fun K hK => ?_) AllReadyH.nil
              go_simp
              have e8_9 := Nq.new h8 (.cells #[.int .i64 0, .int .i64 0] 32)
              have e9_10 := (Nq.new h10 (.cells #[.int .i64 0, .int .i64 0] 32)).symm
              replace h8 := h8.alloc (.cells #[.int .i64 0, .int .i64 0] 32)
              replace h10 := h10.alloc (.cells #[.int .i64 0, .int .i64 0] 32)
              replace e8_10 := e8_10.alloc (.cells #[.int .i64 0, .int .i64 0] 32)
              have h9 := Bq.new Wra139 hSWra139.size
              have hSWra141 := hSWra139.alloc hSWra139.size (.cells #[.int .i64 0, .int .i64 0] 32)
              refine hK.out _ _ hSWra141 (fun hHeld => ?_)
              clear hK hHeld K
              try clear hSWra139
              try simp only [Act.put, List.setIfInBounds_toArray, List.set_cons_zero, List.set_cons_succ]
              generalize (Wra139.alloc (.cells #[.int .i64 0, .int .i64 0] 32)) = Wra141 at h8 h10 e8_10 e8_9 e9_10 h9 hSWra141 ⊢
              generalize Value.pointer (some ⟨Wra139.heap.size, 0, none⟩) = v9 at e8_9 e9_10 h9 ⊢
              exact wpAnyH_cast (by kernel_rfl) (by kernel_rfl) (tailra51 v8 v9 v10 Wra141 h8 h9 e8_9 h10 e8_10 e9_10 hSWra141)
            case ttailra42 =>
             try clear hS0
             intro v9 v10 Wra142 h9 h10 e9_10 hSWra142
             refine wpAnyH_ready (rs := [14, 15]) (by kernel_rfl) (by simp) ?_
             refine AllReadyH.cons (o := ⟨some 7, _, _, _, _, _⟩) rfl (fun K hK => ?_) ?_
             ·
              go_simp
              have e7_9 := (Nq.new h9 (.cells #[.int .i64 0, .int .i64 0] 32)).symm
              have e7_10 := (Nq.new h10 (.cells #[.int .i64 0, .int .i64 0] 32)).symm
              replace h9 := h9.alloc (.cells #[.int .i64 0, .int .i64 0] 32)
              replace h10 := h10.alloc (.cells #[.int .i64 0, .int .i64 0] 32)
              replace e9_10 := e9_10.alloc (.cells #[.int .i64 0, .int .i64 0] 32)
              have h7 := Bq.new Wra142 hSWra142.size
              have hSWra143 := hSWra142.alloc hSWra142.size (.cells #[.int .i64 0, .int .i64 0] 32)
              refine hK.out _ _ hSWra143 (fun hHeld => ?_)
              clear hK hHeld K
              try clear hSWra142
              try simp only [Act.put, List.setIfInBounds_toArray, List.set_cons_zero, List.set_cons_succ]
              generalize (Wra142.alloc (.cells #[.int .i64 0, .int .i64 0] 32)) = Wra143 at h9 h10 e9_10 e7_9 e7_10 h7 hSWra143 ⊢
              generalize Value.pointer (some ⟨Wra142.heap.size, 0, none⟩) = v7 at e7_9 e7_10 h7 ⊢
              exact wpAnyH_cast (by kernel_rfl) (by kernel_rfl) (tailra50 v7 v9 v10 Wra143 h7 h9 e7_9 h10 e7_10 e9_10 hSWra143)
             refine AllReadyH.cons (o := ⟨some 8, _, _, _, _, _⟩) rfl (fun K hK => ?_) AllReadyH.nil
             go_simp
             have e8_9 := (Nq.new h9 (.cells #[.int .i64 0, .int .i64 0] 32)).symm
             have e8_10 := (Nq.new h10 (.cells #[.int .i64 0, .int .i64 0] 32)).symm
             replace h9 := h9.alloc (.cells #[.int .i64 0, .int .i64 0] 32)
             replace h10 := h10.alloc (.cells #[.int .i64 0, .int .i64 0] 32)
             replace e9_10 := e9_10.alloc (.cells #[.int .i64 0, .int .i64 0] 32)
             have h8 := Bq.new Wra142 hSWra142.size
             have hSWra144 := hSWra142.alloc hSWra142.size (.cells #[.int .i64 0, .int .i64 0] 32)
             refine hK.out _ _ hSWra144 (fun hHeld => ?_)
             clear hK hHeld K
             try clear hSWra142
             try simp only [Act.put, List.setIfInBounds_toArray, List.set_cons_zero, List.set_cons_succ]
             generalize (Wra142.alloc (.cells #[.int .i64 0, .int .i64 0] 32)) = Wra144 at h9 h10 e9_10 e8_9 e8_10 h8 hSWra144 ⊢
             generalize Value.pointer (some ⟨Wra142.heap.size, 0, none⟩) = v8 at e8_9 e8_10 h8 ⊢
             exact wpAnyH_cast (by kernel_rfl) (by kernel_rfl) (tailra51 v8 v9 v10 Wra144 h8 h9 e8_9 h10 e8_10 e9_10 hSWra144)
           case ttailra43 =>
            try clear hS0
            intro v7 v8 v9 Wra145 h7 h8 e7_8 h9 e7_9 e8_9 hSWra145
            refine wpAnyH_ready (rs := [13, 17]) (by kernel_rfl) (by simp) ?_
            refine AllReadyH.cons (o := ⟨some 24, _, _, _, _, _⟩) rfl (fun K hK => ?_) ?_
            ·
             go_simp
             go_at_call 32
             refine (CEk.out _ hSWra145).mono ?_
             rintro e Wra146 ⟨rfl, hbWra146⟩
             replace h7 := h7.below hbWra146
             replace h8 := h8.below hbWra146
             replace e7_8 := e7_8.below hbWra146
             replace h9 := h9.below hbWra146
             replace e7_9 := e7_9.below hbWra146
             replace e8_9 := e8_9.below hbWra146
             have hSWra146 := hSWra145.trans (hbWra146.mono hSWra145.size)
             try clear hSWra145
             clear hbWra146
             go_wp2_with fail
             refine hK.out _ _ hSWra146 (fun hHeld => ?_)
             clear hK hHeld K
             try simp only [Act.put, List.setIfInBounds_toArray, List.set_cons_zero, List.set_cons_succ]
             exact wpAnyH_cast (by kernel_rfl) (by kernel_rfl) (tailra48 v7 v8 v9 Wra146 h7 h8 e7_8 h9 e7_9 e8_9 hSWra146)
            refine AllReadyH.cons (o := ⟨some 10, _, _, _, _, _⟩) rfl (fun K hK => ?_) AllReadyH.nil
            go_simp
            have e7_10 := Nq.new h7 (.cells #[.int .i64 0, .int .i64 0] 32)
            have e8_10 := Nq.new h8 (.cells #[.int .i64 0, .int .i64 0] 32)
            have e9_10 := Nq.new h9 (.cells #[.int .i64 0, .int .i64 0] 32)
            replace h7 := h7.alloc (.cells #[.int .i64 0, .int .i64 0] 32)
            replace h8 := h8.alloc (.cells #[.int .i64 0, .int .i64 0] 32)
            replace e7_8 := e7_8.alloc (.cells #[.int .i64 0, .int .i64 0] 32)
            replace h9 := h9.alloc (.cells #[.int .i64 0, .int .i64 0] 32)
            replace e7_9 := e7_9.alloc (.cells #[.int .i64 0, .int .i64 0] 32)
            replace e8_9 := e8_9.alloc (.cells #[.int .i64 0, .int .i64 0] 32)
            have h10 := Bq.new Wra145 hSWra145.size
            have hSWra147 := hSWra145.alloc hSWra145.size (.cells #[.int .i64 0, .int .i64 0] 32)
            refine hK.out _ _ hSWra147 (fun hHeld => ?_)
            clear hK hHeld K
            try clear hSWra145
            try simp only [Act.put, List.setIfInBounds_toArray, List.set_cons_zero, List.set_cons_succ]
            generalize (Wra145.alloc (.cells #[.int .i64 0, .int .i64 0] 32)) = Wra147 at h7 h8 e7_8 h9 e7_9 e8_9 e7_10 e8_10 e9_10 h10 hSWra147 ⊢
            generalize Value.pointer (some ⟨Wra145.heap.size, 0, none⟩) = v10 at e7_10 e8_10 e9_10 h10 ⊢
            exact wpAnyH_cast rfl rfl (tailra52 v7 v8 v9 v10 Wra147 h7 h8 e7_8 h9 e7_9 e8_9 h10 e7_10 e8_10 e9_10 hSWra147)
          case ttailra44 =>
           try clear hS0
           intro v7 v8 v10 Wra148 h7 h8 e7_8 h10 e7_10 e8_10 hSWra148
           refine wpAnyH_ready (rs := [13, 16]) (by kernel_rfl) (by simp) ?_
           refine AllReadyH.cons (o := ⟨some 24, _, _, _, _, _⟩) rfl (fun K hK => ?_) ?_
           ·
            go_simp
            go_at_call 32
            refine (CEk.out _ hSWra148).mono ?_
            rintro e Wra149 ⟨rfl, hbWra149⟩
            replace h7 := h7.below hbWra149
            replace h8 := h8.below hbWra149
            replace e7_8 := e7_8.below hbWra149
            replace h10 := h10.below hbWra149
            replace e7_10 := e7_10.below hbWra149
            replace e8_10 := e8_10.below hbWra149
            have hSWra149 := hSWra148.trans (hbWra149.mono hSWra148.size)
            try clear hSWra148
            clear hbWra149
            go_wp2_with fail
            refine hK.out _ _ hSWra149 (fun hHeld => ?_)
            clear hK hHeld K
            try simp only [Act.put, List.setIfInBounds_toArray, List.set_cons_zero, List.set_cons_succ]
            exact wpAnyH_cast (by kernel_rfl) (by kernel_rfl) (tailra49 v7 v8 v10 Wra149 h7 h8 e7_8 h10 e7_10 e8_10 hSWra149)
           refine AllReadyH.cons (o := ⟨some 9, _, _, _, _, _⟩) rfl (fun K hK => ?_) AllReadyH.nil
           go_simp
           have e7_9 := Nq.new h7 (.cells #[.int .i64 0, .int .i64 0] 32)
           have e8_9 := Nq.new h8 (.cells #[.int .i64 0, .int .i64 0] 32)
           have e9_10 := (Nq.new h10 (.cells #[.int .i64 0, .int .i64 0] 32)).symm
           replace h7 := h7.alloc (.cells #[.int .i64 0, .int .i64 0] 32)
           replace h8 := h8.alloc (.cells #[.int .i64 0, .int .i64 0] 32)
           replace e7_8 := e7_8.alloc (.cells #[.int .i64 0, .int .i64 0] 32)
           replace h10 := h10.alloc (.cells #[.int .i64 0, .int .i64 0] 32)
           replace e7_10 := e7_10.alloc (.cells #[.int .i64 0, .int .i64 0] 32)
           replace e8_10 := e8_10.alloc (.cells #[.int .i64 0, .int .i64 0] 32)
           have h9 := Bq.new Wra148 hSWra148.size
           have hSWra150 := hSWra148.alloc hSWra148.size (.cells #[.int .i64 0, .int .i64 0] 32)
           refine hK.out _ _ hSWra150 (fun hHeld => ?_)
           clear hK hHeld K
           try clear hSWra148
           try simp only [Act.put, List.setIfInBounds_toArray, List.set_cons_zero, List.set_cons_succ]
           generalize (Wra148.alloc (.cells #[.int .i64 0, .int .i64 0] 32)) = Wra150 at h7 h8 e7_8 h10 e7_10 e8_10 e7_9 e8_9 e9_10 h9 hSWra150 ⊢
           generalize Value.pointer (some ⟨Wra148.heap.size, 0, none⟩) = v9 at e7_9 e8_9 e9_10 h9 ⊢
           exact wpAnyH_cast (by kernel_rfl) (by kernel_rfl) (tailra52 v7 v8 v9 v10 Wra150 h7 h8 e7_8 h9 e7_9 e8_9 h10 e7_10 e8_10 e9_10 hSWra150)
         case ttailra45 =>
          try clear hS0
          intro v7 v9 v10 Wra151 h7 h9 e7_9 h10 e7_10 e9_10 hSWra151
          refine wpAnyH_ready (rs := [13, 15]) (by kernel_rfl) (by simp) ?_
          refine AllReadyH.cons (o := ⟨some 24, _, _, _, _, _⟩) rfl (fun K hK => ?_) ?_
          ·
           go_simp
           go_at_call 32
           refine (CEk.out _ hSWra151).mono ?_
           rintro e Wra152 ⟨rfl, hbWra152⟩
           replace h7 := h7.below hbWra152
           replace h9 := h9.below hbWra152
           replace e7_9 := e7_9.below hbWra152
           replace h10 := h10.below hbWra152
           replace e7_10 := e7_10.below hbWra152
           replace e9_10 := e9_10.below hbWra152
           have hSWra152 := hSWra151.trans (hbWra152.mono hSWra151.size)
           try clear hSWra151
           clear hbWra152
           go_wp2_with fail
           refine hK.out _ _ hSWra152 (fun hHeld => ?_)
           clear hK hHeld K
           try simp only [Act.put, List.setIfInBounds_toArray, List.set_cons_zero, List.set_cons_succ]
           exact wpAnyH_cast (by kernel_rfl) (by kernel_rfl) (tailra50 v7 v9 v10 Wra152 h7 h9 e7_9 h10 e7_10 e9_10 hSWra152)
          refine AllReadyH.cons (o := ⟨some 8, _, _, _, _, _⟩) rfl (fun K hK => ?_) AllReadyH.nil
          go_simp
          have e7_8 := Nq.new h7 (.cells #[.int .i64 0, .int .i64 0] 32)
          have e8_9 := (Nq.new h9 (.cells #[.int .i64 0, .int .i64 0] 32)).symm
          have e8_10 := (Nq.new h10 (.cells #[.int .i64 0, .int .i64 0] 32)).symm
          replace h7 := h7.alloc (.cells #[.int .i64 0, .int .i64 0] 32)
          replace h9 := h9.alloc (.cells #[.int .i64 0, .int .i64 0] 32)
          replace e7_9 := e7_9.alloc (.cells #[.int .i64 0, .int .i64 0] 32)
          replace h10 := h10.alloc (.cells #[.int .i64 0, .int .i64 0] 32)
          replace e7_10 := e7_10.alloc (.cells #[.int .i64 0, .int .i64 0] 32)
          replace e9_10 := e9_10.alloc (.cells #[.int .i64 0, .int .i64 0] 32)
          have h8 := Bq.new Wra151 hSWra151.size
          have hSWra153 := hSWra151.alloc hSWra151.size (.cells #[.int .i64 0, .int .i64 0] 32)
          refine hK.out _ _ hSWra153 (fun hHeld => ?_)
          clear hK hHeld K
          try clear hSWra151
          try simp only [Act.put, List.setIfInBounds_toArray, List.set_cons_zero, List.set_cons_succ]
          generalize (Wra151.alloc (.cells #[.int .i64 0, .int .i64 0] 32)) = Wra153 at h7 h9 e7_9 h10 e7_10 e9_10 e7_8 e8_9 e8_10 h8 hSWra153 ⊢
          generalize Value.pointer (some ⟨Wra151.heap.size, 0, none⟩) = v8 at e7_8 e8_9 e8_10 h8 ⊢
          exact wpAnyH_cast (by kernel_rfl) (by kernel_rfl) (tailra52 v7 v8 v9 v10 Wra153 h7 h8 e7_8 h9 e7_9 e8_9 h10 e7_10 e8_10 e9_10 hSWra153)
        case ttailra46 =>
         try clear hS0
         intro v8 v9 v10 Wra154 h8 h9 e8_9 h10 e8_10 e9_10 hSWra154
         refine wpAnyH_ready (rs := [13, 14]) (by kernel_rfl) (by simp) ?_
         refine AllReadyH.cons (o := ⟨some 24, _, _, _, _, _⟩) rfl (fun K hK => ?_) ?_
         ·
          go_simp
          go_at_call 32
          refine (CEk.out _ hSWra154).mono ?_
          rintro e Wra155 ⟨rfl, hbWra155⟩
          replace h8 := h8.below hbWra155
          replace h9 := h9.below hbWra155
          replace e8_9 := e8_9.below hbWra155
          replace h10 := h10.below hbWra155
          replace e8_10 := e8_10.below hbWra155
          replace e9_10 := e9_10.below hbWra155
          have hSWra155 := hSWra154.trans (hbWra155.mono hSWra154.size)
          try clear hSWra154
          clear hbWra155
          go_wp2_with fail
          refine hK.out _ _ hSWra155 (fun hHeld => ?_)
          clear hK hHeld K
          try simp only [Act.put, List.setIfInBounds_toArray, List.set_cons_zero, List.set_cons_succ]
          exact wpAnyH_cast (by kernel_rfl) (by kernel_rfl) (tailra51 v8 v9 v10 Wra155 h8 h9 e8_9 h10 e8_10 e9_10 hSWra155)
         refine AllReadyH.cons (o := ⟨some 7, _, _, _, _, _⟩) rfl (fun K hK => ?_) AllReadyH.nil
         go_simp
         have e7_8 := (Nq.new h8 (.cells #[.int .i64 0, .int .i64 0] 32)).symm
         have e7_9 := (Nq.new h9 (.cells #[.int .i64 0, .int .i64 0] 32)).symm
         have e7_10 := (Nq.new h10 (.cells #[.int .i64 0, .int .i64 0] 32)).symm
         replace h8 := h8.alloc (.cells #[.int .i64 0, .int .i64 0] 32)
         replace h9 := h9.alloc (.cells #[.int .i64 0, .int .i64 0] 32)
         replace e8_9 := e8_9.alloc (.cells #[.int .i64 0, .int .i64 0] 32)
         replace h10 := h10.alloc (.cells #[.int .i64 0, .int .i64 0] 32)
         replace e8_10 := e8_10.alloc (.cells #[.int .i64 0, .int .i64 0] 32)
         replace e9_10 := e9_10.alloc (.cells #[.int .i64 0, .int .i64 0] 32)
         have h7 := Bq.new Wra154 hSWra154.size
         have hSWra156 := hSWra154.alloc hSWra154.size (.cells #[.int .i64 0, .int .i64 0] 32)
         refine hK.out _ _ hSWra156 (fun hHeld => ?_)
         clear hK hHeld K
         try clear hSWra154
         try simp only [Act.put, List.setIfInBounds_toArray, List.set_cons_zero, List.set_cons_succ]
         generalize (Wra154.alloc (.cells #[.int .i64 0, .int .i64 0] 32)) = Wra156 at h8 h9 e8_9 h10 e8_10 e9_10 e7_8 e7_9 e7_10 h7 hSWra156 ⊢
         generalize Value.pointer (some ⟨Wra154.heap.size, 0, none⟩) = v7 at e7_8 e7_9 e7_10 h7 ⊢
         exact wpAnyH_cast (by kernel_rfl) (by kernel_rfl) (tailra52 v7 v8 v9 v10 Wra156 h7 h8 e7_8 h9 e7_9 e8_9 h10 e7_10 e8_10 e9_10 hSWra156)
       case ttailra47 =>
        try clear hS0
        intro v7 v8 v9 v10 Wra157 h7 h8 e7_8 h9 e7_9 e8_9 h10 e7_10 e8_10 e9_10 hSWra157
        refine wpAnyH_ready (rs := [6]) (by kernel_rfl) (by simp) ?_
        refine AllReadyH.cons (o := ⟨some 17, _, _, _, _, _⟩) rfl (fun K hK => ?_) AllReadyH.nil
        go_simp
        go_at_call 32
        refine (CEi.out _ hSWra157).mono ?_
        rintro e Wra158 ⟨rfl, hbWra158⟩
        replace h7 := h7.below hbWra158
        replace h8 := h8.below hbWra158
        replace e7_8 := e7_8.below hbWra158
        replace h9 := h9.below hbWra158
        replace e7_9 := e7_9.below hbWra158
        replace e8_9 := e8_9.below hbWra158
        replace h10 := h10.below hbWra158
        replace e7_10 := e7_10.below hbWra158
        replace e8_10 := e8_10.below hbWra158
        replace e9_10 := e9_10.below hbWra158
        have hSWra158 := hSWra157.trans (hbWra158.mono hSWra157.size)
        try clear hSWra157
        clear hbWra158
        go_wp2_with fail
        refine hK.out _ _ hSWra158 (fun hHeld => ?_)
        clear hK hHeld K
        try simp only [Act.put, List.setIfInBounds_toArray, List.set_cons_zero, List.set_cons_succ]
        exact wpAnyH_cast (by kernel_rfl) (by kernel_rfl) (tailra52 v7 v8 v9 v10 Wra158 h7 h8 e7_8 h9 e7_9 e8_9 h10 e7_10 e8_10 e9_10 hSWra158)
      case ttailra48 =>
       try clear hS0
       intro v7 v8 v9 Wra159 h7 h8 e7_8 h9 e7_9 e8_9 hSWra159
       refine wpAnyH_ready (rs := [17]) (by kernel_rfl) (by simp) ?_
       refine AllReadyH.cons (o := ⟨some 10, _, _, _, _, _⟩) rfl (fun K hK => ?_) AllReadyH.nil
       go_simp
       have e7_10 := Nq.new h7 (.cells #[.int .i64 0, .int .i64 0] 32)
       have e8_10 := Nq.new h8 (.cells #[.int .i64 0, .int .i64 0] 32)
       have e9_10 := Nq.new h9 (.cells #[.int .i64 0, .int .i64 0] 32)
       replace h7 := h7.alloc (.cells #[.int .i64 0, .int .i64 0] 32)
       replace h8 := h8.alloc (.cells #[.int .i64 0, .int .i64 0] 32)
       replace e7_8 := e7_8.alloc (.cells #[.int .i64 0, .int .i64 0] 32)
       replace h9 := h9.alloc (.cells #[.int .i64 0, .int .i64 0] 32)
       replace e7_9 := e7_9.alloc (.cells #[.int .i64 0, .int .i64 0] 32)
       replace e8_9 := e8_9.alloc (.cells #[.int .i64 0, .int .i64 0] 32)
       have h10 := Bq.new Wra159 hSWra159.size
       have hSWra160 := hSWra159.alloc hSWra159.size (.cells #[.int .i64 0, .int .i64 0] 32)
       refine hK.out _ _ hSWra160 (fun hHeld => ?_)
       clear hK hHeld K
       try clear hSWra159
       try simp only [Act.put, List.setIfInBounds_toArray, List.set_cons_zero, List.set_cons_succ]
       generalize (Wra159.alloc (.cells #[.int .i64 0, .int .i64 0] 32)) = Wra160 at h7 h8 e7_8 h9 e7_9 e8_9 e7_10 e8_10 e9_10 h10 hSWra160 ⊢
       generalize Value.pointer (some ⟨Wra159.heap.size, 0, none⟩) = v10 at e7_10 e8_10 e9_10 h10 ⊢
       exact wpAnyH_cast rfl rfl (tailra53 v7 v8 v9 v10 Wra160 h7 h8 e7_8 h9 e7_9 e8_9 h10 e7_10 e8_10 e9_10 hSWra160)
     case ttailra49 =>
      try clear hS0
      intro v7 v8 v10 Wra161 h7 h8 e7_8 h10 e7_10 e8_10 hSWra161
      refine wpAnyH_ready (rs := [16]) (by kernel_rfl) (by simp) ?_
      refine AllReadyH.cons (o := ⟨some 9, _, _, _, _, _⟩) rfl (fun K hK => ?_) AllReadyH.nil
      go_simp
      have e7_9 := Nq.new h7 (.cells #[.int .i64 0, .int .i64 0] 32)
      have e8_9 := Nq.new h8 (.cells #[.int .i64 0, .int .i64 0] 32)
      have e9_10 := (Nq.new h10 (.cells #[.int .i64 0, .int .i64 0] 32)).symm
      replace h7 := h7.alloc (.cells #[.int .i64 0, .int .i64 0] 32)
      replace h8 := h8.alloc (.cells #[.int .i64 0, .int .i64 0] 32)
      replace e7_8 := e7_8.alloc (.cells #[.int .i64 0, .int .i64 0] 32)
      replace h10 := h10.alloc (.cells #[.int .i64 0, .int .i64 0] 32)
      replace e7_10 := e7_10.alloc (.cells #[.int .i64 0, .int .i64 0] 32)
      replace e8_10 := e8_10.alloc (.cells #[.int .i64 0, .int .i64 0] 32)
      have h9 := Bq.new Wra161 hSWra161.size
      have hSWra162 := hSWra161.alloc hSWra161.size (.cells #[.int .i64 0, .int .i64 0] 32)
      refine hK.out _ _ hSWra162 (fun hHeld => ?_)
      clear hK hHeld K
      try clear hSWra161
      try simp only [Act.put, List.setIfInBounds_toArray, List.set_cons_zero, List.set_cons_succ]
      generalize (Wra161.alloc (.cells #[.int .i64 0, .int .i64 0] 32)) = Wra162 at h7 h8 e7_8 h10 e7_10 e8_10 e7_9 e8_9 e9_10 h9 hSWra162 ⊢
      generalize Value.pointer (some ⟨Wra161.heap.size, 0, none⟩) = v9 at e7_9 e8_9 e9_10 h9 ⊢
      exact wpAnyH_cast (by kernel_rfl) (by kernel_rfl) (tailra53 v7 v8 v9 v10 Wra162 h7 h8 e7_8 h9 e7_9 e8_9 h10 e7_10 e8_10 e9_10 hSWra162)
    case ttailra50 =>
     try clear hS0
     intro v7 v9 v10 Wra163 h7 h9 e7_9 h10 e7_10 e9_10 hSWra163
     refine wpAnyH_ready (rs := [15]) (by kernel_rfl) (by simp) ?_
     refine AllReadyH.cons (o := ⟨some 8, _, _, _, _, _⟩) rfl (fun K hK => ?_) AllReadyH.nil
     go_simp
     have e7_8 := Nq.new h7 (.cells #[.int .i64 0, .int .i64 0] 32)
     have e8_9 := (Nq.new h9 (.cells #[.int .i64 0, .int .i64 0] 32)).symm
     have e8_10 := (Nq.new h10 (.cells #[.int .i64 0, .int .i64 0] 32)).symm
     replace h7 := h7.alloc (.cells #[.int .i64 0, .int .i64 0] 32)
     replace h9 := h9.alloc (.cells #[.int .i64 0, .int .i64 0] 32)
     replace e7_9 := e7_9.alloc (.cells #[.int .i64 0, .int .i64 0] 32)
     replace h10 := h10.alloc (.cells #[.int .i64 0, .int .i64 0] 32)
     replace e7_10 := e7_10.alloc (.cells #[.int .i64 0, .int .i64 0] 32)
     replace e9_10 := e9_10.alloc (.cells #[.int .i64 0, .int .i64 0] 32)
     have h8 := Bq.new Wra163 hSWra163.size
     have hSWra164 := hSWra163.alloc hSWra163.size (.cells #[.int .i64 0, .int .i64 0] 32)
     refine hK.out _ _ hSWra164 (fun hHeld => ?_)
     clear hK hHeld K
     try clear hSWra163
     try simp only [Act.put, List.setIfInBounds_toArray, List.set_cons_zero, List.set_cons_succ]
     generalize (Wra163.alloc (.cells #[.int .i64 0, .int .i64 0] 32)) = Wra164 at h7 h9 e7_9 h10 e7_10 e9_10 e7_8 e8_9 e8_10 h8 hSWra164 ⊢
     generalize Value.pointer (some ⟨Wra163.heap.size, 0, none⟩) = v8 at e7_8 e8_9 e8_10 h8 ⊢
     exact wpAnyH_cast (by kernel_rfl) (by kernel_rfl) (tailra53 v7 v8 v9 v10 Wra164 h7 h8 e7_8 h9 e7_9 e8_9 h10 e7_10 e8_10 e9_10 hSWra164)
   case ttailra51 =>
    try clear hS0
    intro v8 v9 v10 Wra165 h8 h9 e8_9 h10 e8_10 e9_10 hSWra165
    refine wpAnyH_ready (rs := [14]) (by kernel_rfl) (by simp) ?_
    refine AllReadyH.cons (o := ⟨some 7, _, _, _, _, _⟩) rfl (fun K hK => ?_) AllReadyH.nil
    go_simp
    have e7_8 := (Nq.new h8 (.cells #[.int .i64 0, .int .i64 0] 32)).symm
    have e7_9 := (Nq.new h9 (.cells #[.int .i64 0, .int .i64 0] 32)).symm
    have e7_10 := (Nq.new h10 (.cells #[.int .i64 0, .int .i64 0] 32)).symm
    replace h8 := h8.alloc (.cells #[.int .i64 0, .int .i64 0] 32)
    replace h9 := h9.alloc (.cells #[.int .i64 0, .int .i64 0] 32)
    replace e8_9 := e8_9.alloc (.cells #[.int .i64 0, .int .i64 0] 32)
    replace h10 := h10.alloc (.cells #[.int .i64 0, .int .i64 0] 32)
    replace e8_10 := e8_10.alloc (.cells #[.int .i64 0, .int .i64 0] 32)
    replace e9_10 := e9_10.alloc (.cells #[.int .i64 0, .int .i64 0] 32)
    have h7 := Bq.new Wra165 hSWra165.size
    have hSWra166 := hSWra165.alloc hSWra165.size (.cells #[.int .i64 0, .int .i64 0] 32)
    refine hK.out _ _ hSWra166 (fun hHeld => ?_)
    clear hK hHeld K
    try clear hSWra165
    try simp only [Act.put, List.setIfInBounds_toArray, List.set_cons_zero, List.set_cons_succ]
    generalize (Wra165.alloc (.cells #[.int .i64 0, .int .i64 0] 32)) = Wra166 at h8 h9 e8_9 h10 e8_10 e9_10 e7_8 e7_9 e7_10 h7 hSWra166 ⊢
    generalize Value.pointer (some ⟨Wra165.heap.size, 0, none⟩) = v7 at e7_8 e7_9 e7_10 h7 ⊢
    exact wpAnyH_cast (by kernel_rfl) (by kernel_rfl) (tailra53 v7 v8 v9 v10 Wra166 h7 h8 e7_8 h9 e7_9 e8_9 h10 e7_10 e8_10 e9_10 hSWra166)
  case ttailra52 =>
   try clear hS0
   intro v7 v8 v9 v10 Wra167 h7 h8 e7_8 h9 e7_9 e8_9 h10 e7_10 e8_10 e9_10 hSWra167
   refine wpAnyH_ready (rs := [13]) (by kernel_rfl) (by simp) ?_
   refine AllReadyH.cons (o := ⟨some 24, _, _, _, _, _⟩) rfl (fun K hK => ?_) AllReadyH.nil
   go_simp
   go_at_call 32
   refine (CEk.out _ hSWra167).mono ?_
   rintro e Wra168 ⟨rfl, hbWra168⟩
   replace h7 := h7.below hbWra168
   replace h8 := h8.below hbWra168
   replace e7_8 := e7_8.below hbWra168
   replace h9 := h9.below hbWra168
   replace e7_9 := e7_9.below hbWra168
   replace e8_9 := e8_9.below hbWra168
   replace h10 := h10.below hbWra168
   replace e7_10 := e7_10.below hbWra168
   replace e8_10 := e8_10.below hbWra168
   replace e9_10 := e9_10.below hbWra168
   have hSWra168 := hSWra167.trans (hbWra168.mono hSWra167.size)
   try clear hSWra167
   clear hbWra168
   go_wp2_with fail
   refine hK.out _ _ hSWra168 (fun hHeld => ?_)
   clear hK hHeld K
   try simp only [Act.put, List.setIfInBounds_toArray, List.set_cons_zero, List.set_cons_succ]
   exact wpAnyH_cast (by kernel_rfl) (by kernel_rfl) (tailra53 v7 v8 v9 v10 Wra168 h7 h8 e7_8 h9 e7_9 e8_9 h10 e7_10 e8_10 e9_10 hSWra168)
 case ttailra53 =>
  try clear hS0
  intro v7 v8 v9 v10 Wra169 h7 h8 e7_8 h9 e7_9 e8_9 h10 e7_10 e8_10 e9_10 hSWra169
  refine wpAnyH_ready (rs := [18]) (by kernel_rfl) (by simp) ?_
  refine AllReadyH.cons (o := ⟨none, _, _, _, _, _⟩) rfl (fun K hK => ?_) AllReadyH.nil
  refine Bq.store h7 (a1, a2) rfl _ _ rfl rfl rfl (fun Wra170 hbx hbW hoth => ?_)
  have hSWra170 := hSWra169.trans hbW
  replace h8 := hoth _ _ h8 e7_8.symm
  replace h9 := hoth _ _ h9 e7_9.symm
  replace h10 := hoth _ _ h10 e7_10.symm
  replace h7 := hbx
  clear hbx hbW hoth hSWra169
  have e7_8' : Nq Wra170 _ _ := e7_8
  clear e7_8
  have e7_8 := e7_8'
  clear e7_8'
  have e7_9' : Nq Wra170 _ _ := e7_9
  clear e7_9
  have e7_9 := e7_9'
  clear e7_9'
  have e8_9' : Nq Wra170 _ _ := e8_9
  clear e8_9
  have e8_9 := e8_9'
  clear e8_9'
  have e7_10' : Nq Wra170 _ _ := e7_10
  clear e7_10
  have e7_10 := e7_10'
  clear e7_10'
  have e8_10' : Nq Wra170 _ _ := e8_10
  clear e8_10
  have e8_10 := e8_10'
  clear e8_10'
  have e9_10' : Nq Wra170 _ _ := e9_10
  clear e9_10
  have e9_10 := e9_10'
  clear e9_10'
  refine hK.out _ _ hSWra170 (fun hHeld => ?_)
  clear hK hHeld K
  try simp only [Act.put, List.setIfInBounds_toArray, List.set_cons_zero, List.set_cons_succ]
  refine wpAnyH_ready (rs := [19]) (by kernel_rfl) (by simp) ?_
  refine AllReadyH.cons (o := ⟨none, _, _, _, _, _⟩) rfl (fun K hK => ?_) AllReadyH.nil
  refine Bq.store h8 (b1, b2) rfl _ _ rfl rfl rfl (fun Wra171 hbx hbW hoth => ?_)
  have hSWra171 := hSWra170.trans hbW
  replace h7 := hoth _ _ h7 e7_8
  replace h9 := hoth _ _ h9 e8_9.symm
  replace h10 := hoth _ _ h10 e8_10.symm
  replace h8 := hbx
  clear hbx hbW hoth hSWra170
  have e7_8' : Nq Wra171 _ _ := e7_8
  clear e7_8
  have e7_8 := e7_8'
  clear e7_8'
  have e7_9' : Nq Wra171 _ _ := e7_9
  clear e7_9
  have e7_9 := e7_9'
  clear e7_9'
  have e8_9' : Nq Wra171 _ _ := e8_9
  clear e8_9
  have e8_9 := e8_9'
  clear e8_9'
  have e7_10' : Nq Wra171 _ _ := e7_10
  clear e7_10
  have e7_10 := e7_10'
  clear e7_10'
  have e8_10' : Nq Wra171 _ _ := e8_10
  clear e8_10
  have e8_10 := e8_10'
  clear e8_10'
  have e9_10' : Nq Wra171 _ _ := e9_10
  clear e9_10
  have e9_10 := e9_10'
  clear e9_10'
  refine hK.out _ _ hSWra171 (fun hHeld => ?_)
  clear hK hHeld K
  try simp only [Act.put, List.setIfInBounds_toArray, List.set_cons_zero, List.set_cons_succ]
  refine wpAnyH_ready (rs := [20]) (by kernel_rfl) (by simp) ?_
  refine AllReadyH.cons (o := ⟨none, _, _, _, _, _⟩) rfl (fun K hK => ?_) AllReadyH.nil
  refine Bq.store h9 (c1, c2) rfl _ _ rfl rfl rfl (fun Wra172 hbx hbW hoth => ?_)
  have hSWra172 := hSWra171.trans hbW
  replace h7 := hoth _ _ h7 e7_9
  replace h8 := hoth _ _ h8 e8_9
  replace h10 := hoth _ _ h10 e9_10.symm
  replace h9 := hbx
  clear hbx hbW hoth hSWra171
  have e7_8' : Nq Wra172 _ _ := e7_8
  clear e7_8
  have e7_8 := e7_8'
  clear e7_8'
  have e7_9' : Nq Wra172 _ _ := e7_9
  clear e7_9
  have e7_9 := e7_9'
  clear e7_9'
  have e8_9' : Nq Wra172 _ _ := e8_9
  clear e8_9
  have e8_9 := e8_9'
  clear e8_9'
  have e7_10' : Nq Wra172 _ _ := e7_10
  clear e7_10
  have e7_10 := e7_10'
  clear e7_10'
  have e8_10' : Nq Wra172 _ _ := e8_10
  clear e8_10
  have e8_10 := e8_10'
  clear e8_10'
  have e9_10' : Nq Wra172 _ _ := e9_10
  clear e9_10
  have e9_10 := e9_10'
  clear e9_10'
  refine hK.out _ _ hSWra172 (fun hHeld => ?_)
  clear hK hHeld K
  try simp only [Act.put, List.setIfInBounds_toArray, List.set_cons_zero, List.set_cons_succ]
  refine wpAnyH_ready (rs := [21]) (by kernel_rfl) (by simp) ?_
  refine AllReadyH.cons (o := ⟨none, _, _, _, _, _⟩) rfl (fun K hK => ?_) AllReadyH.nil
  refine Bq.store h10 (d1, d2) rfl _ _ rfl rfl rfl (fun Wra173 hbx hbW hoth => ?_)
  have hSWra173 := hSWra172.trans hbW
  replace h7 := hoth _ _ h7 e7_10
  replace h8 := hoth _ _ h8 e8_10
  replace h9 := hoth _ _ h9 e9_10
  replace h10 := hbx
  clear hbx hbW hoth hSWra172
  have e7_8' : Nq Wra173 _ _ := e7_8
  clear e7_8
  have e7_8 := e7_8'
  clear e7_8'
  have e7_9' : Nq Wra173 _ _ := e7_9
  clear e7_9
  have e7_9 := e7_9'
  clear e7_9'
  have e8_9' : Nq Wra173 _ _ := e8_9
  clear e8_9
  have e8_9 := e8_9'
  clear e8_9'
  have e7_10' : Nq Wra173 _ _ := e7_10
  clear e7_10
  have e7_10 := e7_10'
  clear e7_10'
  have e8_10' : Nq Wra173 _ _ := e8_10
  clear e8_10
  have e8_10 := e8_10'
  clear e8_10'
  have e9_10' : Nq Wra173 _ _ := e9_10
  clear e9_10
  have e9_10 := e9_10'
  clear e9_10'
  refine hK.out _ _ hSWra173 (fun hHeld => ?_)
  clear hK hHeld K
  try simp only [Act.put, List.setIfInBounds_toArray, List.set_cons_zero, List.set_cons_succ]
  refine wpAnyH_done (by kernel_rfl) ?_ _
  have hw1 := hd0.trans (hSWra173.mono hd0.size)
  clear e7_8 e7_9 e7_10 e8_9 e8_10 e9_10 hSWra173
  obtain ⟨n7, rfl, H7⟩ := h7.cells
  obtain ⟨n8, rfl, H8⟩ := h8.cells
  obtain ⟨n9, rfl, H9⟩ := h9.cells
  obtain ⟨n10, rfl, H10⟩ := h10.cells
  clear h7 h8 h9 h10 CEi CEk HLi HLk
  obtain ⟨k1, k2⟩ := H7.out _ (Below.refl _ _)
  obtain ⟨k3, k4⟩ := H8.out _ (Below.refl _ _)
  obtain ⟨k5, k6⟩ := H9.out _ (Below.refl _ _)
  obtain ⟨k7, k8⟩ := H10.out _ (Below.refl _ _)
  try dsimp only at k1 k2 k3 k4 k5 k6 k7 k8
  have hG := Try.guard32
  have hN1 := fun W => Try.eql32 b1 b2 c1 c2 W
  have hN2 := fun W => Try.eql32 d1 d2 a1 a2 W
  by_cases q1 : ((b1, b2) : Pt) = (c1, c2)
  ·
   have HR := Lib.hid (HR.out.trans (if_pos q1))
   rw [decide_eq_true q1] at hN1
   clear q1 hN2
   go_wp2_with fail
   refine (Oabd.out _).mono ?_
   rintro e w5 ⟨rfl, hb5⟩
   have hw5 := hw1.trans (hb5.mono hw1.size)
   clear k1 k2 k3 k4 k5 k6 k7 k8
   obtain ⟨k1, k2⟩ := H7.out _ hb5
   obtain ⟨k3, k4⟩ := H8.out _ hb5
   obtain ⟨k5, k6⟩ := H9.out _ hb5
   obtain ⟨k7, k8⟩ := H10.out _ hb5
   try dsimp only at k1 k2 k3 k4 k5 k6 k7 k8
   cases o1
   rotate_left
   ·
    go_wp2
    go_ret
    exact RetV.bool (by rw [HR.out]; rfl) hw5
   go_wp2_with fail
   refine (Ocda.out _).mono ?_
   rintro e w6 ⟨rfl, hb6⟩
   have hw6 := hw5.trans (hb6.mono hw5.size)
   clear k1 k2 k3 k4 k5 k6 k7 k8
   cases o2
   all_goals
    go_wp2
    go_ret
    exact RetV.bool (by rw [HR.out]; rfl) hw6
  have HR := Lib.hid (HR.out.trans (if_neg q1))
  rw [decide_eq_false q1] at hN1
  clear q1
  by_cases q2 : ((d1, d2) : Pt) = (a1, a2)
  ·
   have HR := Lib.hid (HR.out.trans (if_pos q2))
   rw [decide_eq_true q2] at hN2
   clear q2
   go_wp2_with fail
   refine (Ocdb.out _).mono ?_
   rintro e w5 ⟨rfl, hb5⟩
   have hw5 := hw1.trans (hb5.mono hw1.size)
   clear k1 k2 k3 k4 k5 k6 k7 k8
   obtain ⟨k1, k2⟩ := H7.out _ hb5
   obtain ⟨k3, k4⟩ := H8.out _ hb5
   obtain ⟨k5, k6⟩ := H9.out _ hb5
   obtain ⟨k7, k8⟩ := H10.out _ hb5
   try dsimp only at k1 k2 k3 k4 k5 k6 k7 k8
   cases o3
   rotate_left
   ·
    go_wp2
    go_ret
    exact RetV.bool (by rw [HR.out]; rfl) hw5
   go_wp2_with fail
   refine (Oabc.out _).mono ?_
   rintro e w6 ⟨rfl, hb6⟩
   have hw6 := hw5.trans (hb6.mono hw5.size)
   clear k1 k2 k3 k4 k5 k6 k7 k8
   cases o4
   all_goals
    go_wp2
    go_ret
    exact RetV.bool (by rw [HR.out]; rfl) hw6
  have HR := Lib.hid (HR.out.trans (if_neg q2))
  rw [decide_eq_false q2] at hN2
  clear q2
  go_wp2_with fail
  refine (TO.out _).mono ?_
  rintro e w5 ⟨rfl, hb5⟩
  have hw5 := hw1.trans (hb5.mono hw1.size)
  clear k1 k2 k3 k4 k5 k6 k7 k8
  cases o5
  all_goals
   go_wp2
   go_ret
   exact RetV.bool (by rw [HR.out]; rfl) hw5
end Go.Proofs
