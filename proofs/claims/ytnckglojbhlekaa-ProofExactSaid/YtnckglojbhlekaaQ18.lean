/- Errata, the reference's. -/
import Derived.Test.YtnckglojbhlekaaQ17
set_option linter.unusedVariables false
set_option linter.unusedSimpArgs false
namespace Go.Proofs
open Go.RowKit Go.Proofs.Mp

theorem slI_own {w : World} {base : Nat} {v : Value} {xs : List Int} (h : OwnI 3 w base v xs) : SlI w v xs := by
  have h0 := h
  rcases h.2 with ⟨rfl, hn⟩ | ⟨g, cap, cur, rfl, _, _, hnc, _⟩
  · exact ⟨none, 0, by rw [hn], by omega, Own.rd encI_len h0⟩
  · exact ⟨_, cap, rfl, hnc, Own.rd encI_len h0⟩
def RetSI (w : World) (xs : List Int) (e : Ending) (w' : World) : Prop := ∃ v, e = .returned v ∧ SlI w' v xs ∧ Below w.heap.size w w'
theorem c_sheets {w0 : World} {u : Value} {xs : List Pd} (h : SlP w0 u xs) (W : World) (hb : Below w0.heap.size w0 W) : Calls Try.prog 35 #[u] W (RetSI W (shs xs)) := by
  obtain ⟨A, c, rfl, h1, h2, hR, _⟩ := h
  exact (ref_sheets A c xs W (by omega) (hR.below hb)).mono fun e w' ⟨v, e1, e2, e3⟩ => ⟨v, e1, slI_own e2, e3⟩
theorem c_valid {W : World} {v : Value} {zs : List Int} (h : SlI W v zs) (hl : zs.length ≤ 1000000) : Calls Try.prog 34 #[v] W (RetV W (.bool (ascB zs))) := by
  obtain ⟨A, c, rfl, h1, hR⟩ := h
  exact ref_valid A c zs W (by omega) hR
theorem c_union {W : World} {u v : Value} {xs ys : List Int} (h : SlI W u xs) (g : SlI W v ys) (hl : xs.length ≤ 1000000) (hm : ys.length ≤ 1000000) : Calls Try.prog 36 #[u, v] W (RetSI W (putL (putL [] xs) ys)) := by
  obtain ⟨A, c, rfl, h1, hR⟩ := h
  obtain ⟨B, d, rfl, g1, hS⟩ := g
  exact (ref_union A B c d xs ys W (by omega) (by omega) hR hS).mono fun e w' ⟨A', c', e1, e2, e3, e4⟩ => ⟨_, e1, ⟨A', c', rfl, e2, e3⟩, e4⟩
theorem c_find {w0 : World} {u : Value} {xs : List Pd} (h : SlP w0 u xs) (n : Int) (W : World) (hb : Below w0.heap.size w0 W) :
    Calls Try.prog 37 #[u, .int .i64 n] W (fun e w' => e = .returned (.tuple #[aggQ ((fnd xs n).getD z0).s ((fnd xs n).getD z0).p, .bool (fnd xs n).isSome]) ∧ Below W.heap.size W w') := by
  obtain ⟨A, c, rfl, h1, h2, hR, _⟩ := h
  exact ref_find A c xs n W (by omega) (hR.below hb)
theorem few_z4 : Few4 z4 200 := fun j => by rcases j with _ | _ | _ | j <;> exact Nat.zero_le _
theorem rd_z4 (w : World) : Rd4 w z4 := fun j => by rcases j with _ | _ | _ | j <;> exact Rd.nil _
theorem SlP.found {w : World} {u : Value} {xs : List Pd} (h : SlP w u xs) (n : Int) : Few4 ((fnd xs n).getD z0).p 200 ∧ Rd4 w ((fnd xs n).getD z0).p := by
  obtain ⟨A, c, rfl, h1, h2, hR, hP⟩ := h
  cases hf : fnd xs n with
  | none => exact ⟨few_z4, rd_z4 w⟩
  | some q =>
    unfold fnd at hf
    exact hP q (List.mem_of_find?_eq_some hf)
/-- a variable of the call's own, in a block from B on, that holds the product x -/
def BoxQ (B : Nat) (w : World) (pv : Value) (x : Pd) : Prop := ∃ g, pv = .pointer (some ⟨g, 0, none⟩) ∧ B ≤ g ∧ Mp.Row w g 59 (encQ x)
theorem BoxQ.below {B C : Nat} {w w' : World} {pv : Value} {x : Pd} (h : BoxQ B w pv x) (hb : Below C w w') (hC : w.heap.size ≤ C) : BoxQ B w' pv x := by
  obtain ⟨g, rfl, h1, h2⟩ := h
  exact ⟨g, rfl, h1, (hb.block g (by have := h2.lt; omega)).trans h2⟩
theorem BoxQ.new {B : Nat} (w : World) (hB : B ≤ w.heap.size) : BoxQ B (w.alloc (.cells #[.int .i64 0, .int .i64 0, .slice none 0 0, .slice none 0 0, .slice none 0 0, .slice none 0 0, .int .i64 0, .int .i64 0, .slice none 0 0, .int .i64 0, .int .i64 0, .slice none 0 0, .int .i64 0, .int .i64 0, .slice none 0 0, .int .i64 0, .int .i64 0, .slice none 0 0, .int .u64 0] 59)) (.pointer (some ⟨w.heap.size, 0, none⟩)) z0 :=
  ⟨_, rfl, hB, heap_alloc_last w _⟩
theorem BoxQ.store {B : Nat} {ops : Array Oper} {o : Oper} {a : Act} {K : Act → World → Prop} {Q : Exit → Act → World → Prop} {E : Prop} {w : World} {pv : Value} {x : Pd} (h : BoxQ B w pv x) (q : Pd) (hgd : o.guard = none) (X Y : Operand) (ho : o.op = .store 59 X Y)
    (hx : a.eval X = pv) (hy : a.eval Y = aggQ q.s q.p) (hK : ∀ w', BoxQ B w' pv q → Below B w w' → K (a.put o.dst undef) w') :
    if Region.wanted o (yielded ops a.tmps) = true then Oper.wp Try.prog o a w K Q else E := by
  have hw : Region.wanted o (yielded ops a.tmps) = true := by simp [Region.wanted, hgd]
  rw [if_pos hw]
  obtain ⟨g, rfl, h1, h2⟩ := h
  have hst := run_storeVar_row (P := Try.prog) w g 59 59 (encQ x).toArray (encQ q).toArray h2 Try.size59 rfl (all_oneCell_toArray (encQ_one q))
  have hy' : a.eval Y = .agg (encQ q).toArray := hy
  unfold Oper.wp execOp
  simp only [ho, hx, hy', Instr.storeAt, Instr.sureAddr, Sem.run_bind, Sem.run_pure, Result.andThen_ok, hst]
  exact hK _ ⟨g, rfl, h1, setRow_heap _ _ _ _ _ _ h2⟩ (below_setRow (Below.refl _ _) h1 _)
theorem BoxQ.range {B : Nat} {w : World} {pv : Value} {x : Pd} (h : BoxQ B w pv x) : ∃ g, pv = .pointer (some ⟨g, 0, none⟩) ∧ g < w.heap.size ∧ w.rangeAt g 0 (encQ x) := by
  obtain ⟨g, rfl, _, h2⟩ := h
  exact ⟨g, rfl, h2.lt, fun j v hv => by rw [Nat.zero_add, h2.cell]; exact hv⟩
theorem BoxQ.belowR {B : Nat} {w w' : World} {pv : Value} {x : Pd} (h : BoxQ B w pv x) (hb : Below w.heap.size w w') : BoxQ B w' pv x := h.below hb (Nat.le_refl _)
theorem BoxQ.alloc {B : Nat} {w : World} {pv : Value} {x : Pd} (h : BoxQ B w pv x) (o : Obj) : BoxQ B (w.alloc o) pv x := h.belowR (bw1 _ _)
def stepL (xs ys : List Pd) : List Int := putL (putL [] (shs xs)) (shs ys)
theorem stepL_len (xs ys : List Pd) : (stepL xs ys).length ≤ xs.length + ys.length := by
  have h1 := putL_len (putL [] (shs xs)) (shs ys)
  have h2 := putL_len [] (shs xs)
  simp only [List.length_nil, shs_len] at h1 h2
  unfold stepL
  omega
theorem drop_cons_get {α : Type} [Inhabited α] (l : List α) {k : Nat} (h : k < l.length) : l.drop k = l[k]! :: l.drop (k + 1) := by
  rw [getElem!_pos l k h]
  exact List.drop_eq_getElem_cons h
/-- what the switch leaves -/
def SwR (base : Nat) (wq : World) (st : St) (L : List Df) (l n e : Value) (wc : World) : Prop :=
  SlD wc n (stD st) ∧ e = .int .i64 (stE st) ∧ Own 65 5 encD wc base l L ∧ Below wq.heap.size wq wc
theorem stepOf_two {a b : List Pd} {n : Int} {x y : Pd} (ha : (fnd a n).isSome = true) (hb : (fnd b n).isSome = true) (hx : (fnd a n).getD z0 = x) (hy : (fnd b n).getD z0 = y) : stepOf a b n = .two x y := by
  unfold stepOf
  cases h1 : fnd a n with
  | none => rw [h1] at ha; cases ha
  | some x' =>
    cases h2 : fnd b n with
    | none => rw [h2] at hb; cases hb
    | some y' => rw [h1] at hx; rw [h2] at hy; simp at hx hy; subst hx; subst hy; rfl
theorem stepOf_one {a b : List Pd} {n : Int} {x : Pd} (ha : (fnd a n).isSome = true) (hb : (fnd b n).isSome = false) (hx : (fnd a n).getD z0 = x) : stepOf a b n = .one x := by
  unfold stepOf
  cases h1 : fnd a n with
  | none => rw [h1] at ha; cases ha
  | some x' =>
    cases h2 : fnd b n with
    | some y' => rw [h2] at hb; cases hb
    | none => rw [h1] at hx; simp at hx; subst hx; rfl
theorem stepOf_new {a b : List Pd} {n : Int} {y : Pd} (ha : (fnd a n).isSome = false) (hy : (fnd b n).getD z0 = y) : stepOf a b n = .one y := by
  unfold stepOf
  cases h1 : fnd a n with
  | some x' => rw [h1] at ha; cases ha
  | none => subst hy; rfl

set_option maxRecDepth 100000 in
set_option maxHeartbeats 8000000 in
theorem ref_errata (u v : Value) (xs ys : List Pd) (w : World) (hx : SlP w u xs) (hy : SlP w v ys) : Calls Try.prog 20 #[aggE u, aggE v] w (DifPost (erE xs ys) (erL xs ys) w) := by
  have HX := Lib.hid hx
  have HY := Lib.hid hy
  have hlx : xs.length ≤ 6 := by obtain ⟨_, _, _, _, h6, _⟩ := hx; exact h6
  have hly : ys.length ≤ 6 := by obtain ⟨_, _, _, _, h6, _⟩ := hy; exact h6
  clear hx hy
  unfold aggE
  have k0 : Below w.heap.size w ((w.alloc (.cells #[.int .i64 0, u, .slice none 0 0] 44)).alloc (.cells #[.int .i64 0, v, .slice none 0 0] 44)) := (bw1 _ _).alloc (by simp) _
  have hs0 : ((w.alloc (.cells #[.int .i64 0, u, .slice none 0 0] 44)).alloc (.cells #[.int .i64 0, v, .slice none 0 0] 44)).heap.size = w.heap.size + 2 := by simp
  have hu1 : u.oneCell' = true := by obtain ⟨A, c, e, _⟩ := HX.out; rw [e]; rfl
  have hv1 : v.oneCell' = true := by obtain ⟨A, c, e, _⟩ := HY.out; rw [e]; rfl
  obtain ⟨p, hp⟩ : ∃ p, ascB (shs xs) = p := ⟨_, rfl⟩
  obtain ⟨q, hq⟩ : ∃ q, ascB (shs ys) = q := ⟨_, rfl⟩
  have HP := Lib.hid hp
  have HQ := Lib.hid hq
  clear hp hq
  go_enter Try.func20, Try.ntmps20
  go_wp2_with fail
  refine (c_sheets HX.out _ k0).mono ?_
  rintro e w1 ⟨v1, rfl, hv1', hb1⟩
  have k1 := k0.trans (hb1.mono k0.size)
  have hs1 := hb1.size
  rw [hs0] at hs1
  have c1 : w1.cell? ⟨w.heap.size + 1, 1, none⟩ = some v := (hb1.cell (p := ⟨w.heap.size + 1, 1, none⟩) (by show w.heap.size + 1 < _; rw [hs0]; omega)).trans (by simp)
  have c0 : w1.cell? ⟨w.heap.size, 1, none⟩ = some u := (hb1.cell (p := ⟨w.heap.size, 1, none⟩) (by show w.heap.size < _; rw [hs0]; omega)).trans (by simp)
  go_wp2_with fail
  refine (c_valid hv1' (by rw [shs_len]; omega)).mono ?_
  rintro e w2 ⟨rfl, hb2⟩
  rw [HP.out]
  have k2 := k1.trans (hb2.mono k1.size)
  have hs2 := hb2.size
  have d1 : w2.cell? ⟨w.heap.size + 1, 1, none⟩ = some v := (hb2.cell (p := ⟨w.heap.size + 1, 1, none⟩) (by show w.heap.size + 1 < w1.heap.size; omega)).trans c1
  have d0 : w2.cell? ⟨w.heap.size, 1, none⟩ = some u := (hb2.cell (p := ⟨w.heap.size, 1, none⟩) (by show w.heap.size < w1.heap.size; omega)).trans c0
  clear c0 c1
  cases p
  · have HE : Hid (erE xs ys = 10 ∧ erL xs ys = []) := Lib.hid ⟨by unfold erE; rw [if_neg (by rw [HP.out]; simp)], by unfold erL; rw [if_neg (by rw [HP.out]; simp)]⟩
    go_wp2
    go_ret2
    exact difPost_err HE.out.1 (by omega) HE.out.2 k2
  go_wp2_with fail
  refine (c_sheets HY.out _ k2).mono ?_
  rintro e w3 ⟨v3, rfl, hv3, hb3⟩
  have k3 := k2.trans (hb3.mono k2.size)
  have hs3 := hb3.size
  have c1 : w3.cell? ⟨w.heap.size + 1, 1, none⟩ = some v := (hb3.cell (p := ⟨w.heap.size + 1, 1, none⟩) (by show w.heap.size + 1 < w2.heap.size; omega)).trans d1
  have c0 : w3.cell? ⟨w.heap.size, 1, none⟩ = some u := (hb3.cell (p := ⟨w.heap.size, 1, none⟩) (by show w.heap.size < w2.heap.size; omega)).trans d0
  clear d0 d1
  go_wp2_with fail
  refine (c_valid hv3 (by rw [shs_len]; omega)).mono ?_
  rintro e w4 ⟨rfl, hb4⟩
  rw [HQ.out]
  have k4 := k3.trans (hb4.mono k3.size)
  have hs4 := hb4.size
  have d1 : w4.cell? ⟨w.heap.size + 1, 1, none⟩ = some v := (hb4.cell (p := ⟨w.heap.size + 1, 1, none⟩) (by show w.heap.size + 1 < w3.heap.size; omega)).trans c1
  have d0 : w4.cell? ⟨w.heap.size, 1, none⟩ = some u := (hb4.cell (p := ⟨w.heap.size, 1, none⟩) (by show w.heap.size < w3.heap.size; omega)).trans c0
  clear c0 c1
  cases q
  · have HE : Hid (erE xs ys = 10 ∧ erL xs ys = []) := Lib.hid ⟨by unfold erE; rw [if_neg (by rw [HQ.out]; simp)], by unfold erL; rw [if_neg (by rw [HQ.out]; simp)]⟩
    go_wp2
    go_ret2
    exact difPost_err HE.out.1 (by omega) HE.out.2 k4
  have HE : Hid (erE xs ys = evE (mg xs ys) ∧ erL xs ys = evL (mg xs ys)) := Lib.hid ⟨by unfold erE; rw [if_pos ⟨HP.out, HQ.out⟩], by unfold erL; rw [if_pos ⟨HP.out, HQ.out⟩]⟩
  have HMG : Hid ((stepL xs ys).map (stepOf xs ys) = mg xs ys) := Lib.hid (mg_ref xs ys HP.out HQ.out)
  have hzl := stepL_len xs ys
  clear hv1' hv3
  go_wp2_with fail
  have hcu : ∀ W, Below w4.heap.size w4 W → W.cell? ⟨w.heap.size, 1, none⟩ = some u := fun W hW => (hW.cell (p := ⟨w.heap.size, 1, none⟩) (by show w.heap.size < w4.heap.size; omega)).trans d0
  have hcv : ∀ W, Below w4.heap.size w4 W → W.cell? ⟨w.heap.size + 1, 1, none⟩ = some v := fun W hW => (hW.cell (p := ⟨w.heap.size + 1, 1, none⟩) (by show w.heap.size + 1 < w4.heap.size; omega)).trans d1
  have HCU := Lib.hid hcu
  have HCV := Lib.hid hcv
  clear hcu hcv d0 d1
  have hS0 : (fun W : World => Below w4.heap.size w4 W) w4.drew := (Below.refl _ _).drew
  refine wp_region_held_drew (S := fun W : World => Below w4.heap.size w4 W) (by kernel_rfl) hS0 (fun hHeld => ?_)
  clear hHeld
  generalize w4.drew = wzqa at *
  refine wpAnyH_take (i := 0) (oi := ⟨some 27, _, _, _, _, _⟩) (v := ?vqa1) rfl (by kernel_rfl) (by kernel_rfl) (by kernel_rfl) (fun _ _ _ h => h) (Or.inl ⟨by kernel_rfl, ?hyqa1⟩) (by assumption) ?restqa1
  case hyqa1 => (intro W hSw; (try dsimp only at hSw); go_simp; try with_reducible rfl)
  case' restqa1 => try simp only [Act.put, List.setIfInBounds_toArray, List.set_cons_zero, List.set_cons_succ]
  refine wpAnyH_take (i := 1) (oi := ⟨some 28, _, _, _, _, _⟩) (v := ?vqa2) rfl (by kernel_rfl) (by kernel_rfl) (by kernel_rfl) (fun _ _ _ h => h) (Or.inl ⟨by kernel_rfl, ?hyqa2⟩) (by assumption) ?restqa2
  case hyqa2 => (intro W hSw; have hg := HCU.out W hSw; (try dsimp only at hSw); go_simp; try with_reducible rfl)
  case' restqa2 => try simp only [Act.put, List.setIfInBounds_toArray, List.set_cons_zero, List.set_cons_succ]
  refine wpAnyH_take (i := 3) (oi := ⟨some 30, _, _, _, _, _⟩) (v := ?vqa3) rfl (by kernel_rfl) (by kernel_rfl) (by kernel_rfl) (fun _ _ _ h => h) (Or.inl ⟨by kernel_rfl, ?hyqa3⟩) (by assumption) ?restqa3
  case hyqa3 => (intro W hSw; (try dsimp only at hSw); go_simp; try with_reducible rfl)
  case' restqa3 => try simp only [Act.put, List.setIfInBounds_toArray, List.set_cons_zero, List.set_cons_succ]
  refine wpAnyH_take (i := 4) (oi := ⟨some 31, _, _, _, _, _⟩) (v := ?vqa4) rfl (by kernel_rfl) (by kernel_rfl) (by kernel_rfl) (fun _ _ _ h => h) (Or.inl ⟨by kernel_rfl, ?hyqa4⟩) (by assumption) ?restqa4
  case hyqa4 => (intro W hSw; have hg := HCV.out W hSw; (try dsimp only at hSw); go_simp; try with_reducible rfl)
  case' restqa4 => try simp only [Act.put, List.setIfInBounds_toArray, List.set_cons_zero, List.set_cons_succ]
  refine wpAnyH_ready (rs := [2]) (by kernel_rfl) (by simp) ?_
  refine AllReadyH.cons (o := ⟨some 29, _, _, _, _, _⟩) rfl (fun K hK => ?_) AllReadyH.nil
  go_simp
  go_at_call 35
  refine (c_sheets HX.out wzqa (k4.trans (hS0.mono k4.size))).mono ?_
  rintro e Wqa1 ⟨v5, rfl, hl1, hbWqa1⟩
  have hSWqa1 := hS0.trans (hbWqa1.mono hS0.size)
  try clear hS0
  clear hbWqa1
  go_wp2_with fail
  refine hK.out _ _ hSWqa1 (fun hHeld => ?_)
  clear hK hHeld K
  try simp only [Act.put, List.setIfInBounds_toArray, List.set_cons_zero, List.set_cons_succ]
  refine wpAnyH_ready (rs := [5]) (by kernel_rfl) (by simp) ?_
  refine AllReadyH.cons (o := ⟨some 32, _, _, _, _, _⟩) rfl (fun K hK => ?_) AllReadyH.nil
  go_simp
  go_at_call 35
  refine (c_sheets HY.out Wqa1 (k4.trans (hSWqa1.mono k4.size))).mono ?_
  rintro e Wqa2 ⟨v6, rfl, hl2, hbWqa2⟩
  replace hl1 := hl1.below hbWqa2
  have hSWqa2 := hSWqa1.trans (hbWqa2.mono hSWqa1.size)
  try clear hSWqa1
  clear hbWqa2
  go_wp2_with fail
  refine hK.out _ _ hSWqa2 (fun hHeld => ?_)
  clear hK hHeld K
  try simp only [Act.put, List.setIfInBounds_toArray, List.set_cons_zero, List.set_cons_succ]
  refine wpAnyH_ready (rs := [6]) (by kernel_rfl) (by simp) ?_
  refine AllReadyH.cons (o := ⟨some 33, _, _, _, _, _⟩) rfl (fun K hK => ?_) AllReadyH.nil
  go_simp
  go_at_call 36
  refine (c_union hl1 hl2 (by rw [shs_len]; omega) (by rw [shs_len]; omega)).mono ?_
  rintro e Wqa3 ⟨v7, rfl, hall, hbWqa3⟩
  replace hl1 := hl1.below hbWqa3
  replace hl2 := hl2.below hbWqa3
  have hSWqa3 := hSWqa2.trans (hbWqa3.mono hSWqa2.size)
  try clear hSWqa2
  clear hbWqa3
  go_wp2_with fail
  refine hK.out _ _ hSWqa3 (fun hHeld => ?_)
  clear hK hHeld K
  try simp only [Act.put, List.setIfInBounds_toArray, List.set_cons_zero, List.set_cons_succ]
  refine wpAnyH_take (i := 7) (oi := ⟨some 7, _, _, _, _, _⟩) (v := ?vqa5) rfl (by kernel_rfl) (by kernel_rfl) (by kernel_rfl) (fun _ _ _ h => h) (Or.inl ⟨by kernel_rfl, ?hyqa5⟩) (by assumption) ?restqa5
  case hyqa5 => (intro W hSw; (try dsimp only at hSw); go_simp; try with_reducible rfl)
  case' restqa5 => try simp only [Act.put, List.setIfInBounds_toArray, List.set_cons_zero, List.set_cons_succ]
  refine wpAnyH_done (by kernel_rfl) ?_ _
  skip
  have k5 := k4.trans (hSWqa3.mono k4.size)
  have HCU2 := Lib.hid (fun (W : World) (hW : Below Wqa3.heap.size Wqa3 W) => HCU.out W (hSWqa3.trans (hW.mono hSWqa3.size)))
  have HCV2 := Lib.hid (fun (W : World) (hW : Below Wqa3.heap.size Wqa3 W) => HCV.out W (hSWqa3.trans (hW.mono hSWqa3.size)))
  change SlI Wqa3 v7 (stepL xs ys) at hall
  clear HCU HCV hSWqa3 hl1 hl2
  generalize Wqa3 = w5 at *
  obtain ⟨zs, hzs⟩ : ∃ zs, stepL xs ys = zs := ⟨_, rfl⟩
  rw [hzs] at hall hzl HMG
  clear hzs
  obtain ⟨Az, cz, rfl, hcz, hRz⟩ := hall
  have HRZ := Lib.hid hRz
  clear hRz
  go_wp2_with fail
  go_loopw [6, 8] (fun l i wr => ∃ (k : Nat) (L : List Df), k ≤ zs.length ∧ i = .int .i64 k ∧ Own 65 5 encD wr w5.heap.size l L ∧ L.length ≤ 65536 * k ∧ evE (mg xs ys) = evE ((zs.drop k).map (stepOf xs ys)) ∧ evA (mg xs ys) = L ++ evA ((zs.drop k).map (stepOf xs ys)) ∧ Below w5.heap.size w5 wr) (fun _ i _ => zs.length - (intOf i).toNat)
  case atStart => exact ⟨0, [], Nat.zero_le _, rfl, Own.nil w5 _, by simp, by rw [← HMG.out]; rfl, by rw [← HMG.out]; rfl, Below.refl _ _⟩
  case round =>
    obtain ⟨k, L, hk, rfl, hown, hL, hE, hA, hbw⟩ := hrel
    have kk := k5.trans (hbw.mono k5.size)
    by_cases hlt : k < zs.length
    · obtain ⟨b, off, rfl, hbz, g1⟩ := RdI.get HRZ.out hbw hlt
      have hdr := drop_cons_get zs hlt
      have hdm : (zs.drop k).map (stepOf xs ys) = stepOf xs ys zs[k]! :: (zs.drop (k + 1)).map (stepOf xs ys) := by rw [hdr]; rfl
      rw [hdm] at hE hA
      have HE1 := Lib.hid hE
      have HA1 := Lib.hid hA
      have HDR := Lib.hid hdr
      clear hE hA hdm hdr
      obtain ⟨n, hn⟩ : ∃ n, zs[k]! = n := ⟨_, rfl⟩
      rw [hn] at g1 HE1 HA1
      have HN := Lib.hid hn
      clear hn
      have HG := Lib.hid (fun (W : World) (hW : Below wr.heap.size wr W) => ((hW.cell (p := ⟨b, off + k, none⟩) (by have := hbw.size; show b < _; omega)).trans g1 : W.cell? ⟨b, off + k, none⟩ = some (.int .i64 n)))
      have HU := Lib.hid (fun (W : World) (hW : Below wr.heap.size wr W) => HCU2.out W (hbw.trans (hW.mono hbw.size)))
      have HV := Lib.hid (fun (W : World) (hW : Below wr.heap.size wr W) => HCV2.out W (hbw.trans (hW.mono hbw.size)))
      obtain ⟨q1, hq1⟩ : ∃ q1, (fnd xs n).getD z0 = q1 := ⟨_, rfl⟩
      obtain ⟨q2, hq2⟩ : ∃ q2, (fnd ys n).getD z0 = q2 := ⟨_, rfl⟩
      obtain ⟨b1, hb1'⟩ : ∃ b1, (fnd xs n).isSome = b1 := ⟨_, rfl⟩
      obtain ⟨b2, hb2'⟩ : ∃ b2, (fnd ys n).isSome = b2 := ⟨_, rfl⟩
      have FX := Lib.hid (fun (W : World) (hW : Below wr.heap.size wr W) => (by have := c_find HX.out n W (kk.trans (hW.mono kk.size)); rw [hq1, hb1'] at this; exact this : Calls Try.prog 37 #[u, .int .i64 n] W (fun e w' => e = .returned (.tuple #[aggQ q1.s q1.p, .bool b1]) ∧ Below W.heap.size W w')))
      have FY := Lib.hid (fun (W : World) (hW : Below wr.heap.size wr W) => (by have := c_find HY.out n W (kk.trans (hW.mono kk.size)); rw [hq2, hb2'] at this; exact this : Calls Try.prog 37 #[v, .int .i64 n] W (fun e w' => e = .returned (.tuple #[aggQ q2.s q2.p, .bool b2]) ∧ Below W.heap.size W w')))
      have HF1 := HX.out.found n
      have HF2 := HY.out.found n
      rw [hq1] at HF1
      rw [hq2] at HF2
      have HQ1 := Lib.hid hq1
      have HQ2 := Lib.hid hq2
      have HB1 := Lib.hid hb1'
      have HB2 := Lib.hid hb2'
      have HFF1 := Lib.hid HF1
      have HFF2 := Lib.hid HF2
      have HOWN := Lib.hid hown
      clear hq1 hq2 hb1' hb2' HF1 HF2 g1 hown
      have hS1 : (fun W : World => Below wr.heap.size wr W) wr.drew := (Below.refl _ _).drew
      go_wp2_with fail
      refine wp_region_held_drew (S := fun W : World => Below wr.heap.size wr W) (by kernel_rfl) hS1 (fun hHeld => ?_)
      clear hHeld
      generalize wr.drew = wzqb at *
      refine wpAnyH_take (i := 0) (oi := ⟨some 41, _, _, _, _, _⟩) (v := ?vqb1) rfl (by kernel_rfl) (by kernel_rfl) (by kernel_rfl) (fun _ _ _ h => h) (Or.inl ⟨by kernel_rfl, ?hyqb1⟩) (by assumption) ?restqb1
      case hyqb1 => (intro W hSw; (try dsimp only at hSw); go_simp; try with_reducible rfl)
      case' restqb1 => try simp only [Act.put, List.setIfInBounds_toArray, List.set_cons_zero, List.set_cons_succ]
      refine wpAnyH_take (i := 1) (oi := ⟨some 42, _, _, _, _, _⟩) (v := ?vqb2) rfl (by kernel_rfl) (by kernel_rfl) (by kernel_rfl) (fun _ _ _ h => h) (Or.inl ⟨by kernel_rfl, ?hyqb2⟩) (by assumption) ?restqb2
      case hyqb2 => (intro W hSw; have hg := HU.out W hSw; (try dsimp only at hSw); go_simp; try with_reducible rfl)
      case' restqb2 => try simp only [Act.put, List.setIfInBounds_toArray, List.set_cons_zero, List.set_cons_succ]
      refine wpAnyH_take (i := 2) (oi := ⟨some 43, _, _, _, _, _⟩) (v := ?vqb3) rfl (by kernel_rfl) (by kernel_rfl) (by kernel_rfl) (fun _ _ _ h => h) (Or.inl ⟨by kernel_rfl, ?hyqb3⟩) (by assumption) ?restqb3
      case hyqb3 => (intro W hSw; (try dsimp only at hSw); go_simp; try with_reducible rfl)
      case' restqb3 => try simp only [Act.put, List.setIfInBounds_toArray, List.set_cons_zero, List.set_cons_succ]
      refine wpAnyH_take (i := 3) (oi := ⟨some 44, _, _, _, _, _⟩) (v := ?vqb4) rfl (by kernel_rfl) (by kernel_rfl) (by kernel_rfl) (fun _ _ _ h => h) (Or.inl ⟨by kernel_rfl, ?hyqb4⟩) (by assumption) ?restqb4
      case hyqb4 => (intro W hSw; (try dsimp only at hSw); go_simp; try with_reducible rfl)
      case' restqb4 => try simp only [Act.put, List.setIfInBounds_toArray, List.set_cons_zero, List.set_cons_succ]
      refine wpAnyH_take (i := 4) (oi := ⟨some 45, _, _, _, _, _⟩) (v := ?vqb5) rfl (by kernel_rfl) (by kernel_rfl) (by kernel_rfl) (fun _ _ _ h => h) (Or.inl ⟨by kernel_rfl, ?hyqb5⟩) (by assumption) ?restqb5
      case hyqb5 => (intro W hSw; (try dsimp only at hSw); go_simp; try with_reducible rfl)
      case' restqb5 => try simp only [Act.put, List.setIfInBounds_toArray, List.set_cons_zero, List.set_cons_succ]
      refine wpAnyH_take (i := 5) (oi := ⟨some 46, _, _, _, _, _⟩) (v := ?vqb6) rfl (by kernel_rfl) (by kernel_rfl) (by kernel_rfl) (fun _ _ _ h => h) (Or.inl ⟨by kernel_rfl, ?hyqb6⟩) (by assumption) ?restqb6
      case hyqb6 => (intro W hSw; have hg := HG.out W hSw; (try dsimp only at hSw); go_simp; try with_reducible rfl)
      case' restqb6 => try simp only [Act.put, List.setIfInBounds_toArray, List.set_cons_zero, List.set_cons_succ]
      refine' wpAnyH_share (fun H f l (act : Value → Act) => ∀ (p9 : Value) (WX : World), BoxQ wr.heap.size WX p9 z0 → (fun W : World => Below wr.heap.size wr W) WX → H f l (act p9) WX) (fun tailqb7 => ?mtailqb7) ?ttailqb7
      case mtailqb7 =>
        refine wpAnyH_ready (rs := [6, 10]) (by kernel_rfl) (by simp) ?_
        refine AllReadyH.cons (o := ⟨some 47, _, _, _, _, _⟩) rfl (fun K hK => ?_) ?_
        · skip
          go_simp
          go_at_call 37
          refine (FX.out wzqb hS1).mono ?_
          rintro e Wqb1 ⟨rfl, hbWqb1⟩
          have hSWqb1 := hS1.trans (hbWqb1.mono hS1.size)
          try clear hS1
          clear hbWqb1
          go_wp2_with fail
          refine hK.out _ _ hSWqb1 (fun hHeld => ?_)
          clear hK hHeld K
          try simp only [Act.put, List.setIfInBounds_toArray, List.set_cons_zero, List.set_cons_succ]
          refine wpAnyH_take (i := 7) (oi := ⟨some 40, _, _, _, _, _⟩) (v := ?vqb8) rfl (by kernel_rfl) (by kernel_rfl) (by kernel_rfl) (fun _ _ _ h => h) (Or.inl ⟨by kernel_rfl, ?hyqb8⟩) (by assumption) ?restqb8
          case hyqb8 => (intro W hSw; (try dsimp only at hSw); go_simp; try with_reducible rfl)
          case' restqb8 => try simp only [Act.put, List.setIfInBounds_toArray, List.set_cons_zero, List.set_cons_succ]
          refine wpAnyH_take (i := 8) (oi := ⟨some 48, _, _, _, _, _⟩) (v := ?vqb9) rfl (by kernel_rfl) (by kernel_rfl) (by kernel_rfl) (fun _ _ _ h => h) (Or.inl ⟨by kernel_rfl, ?hyqb9⟩) (by assumption) ?restqb9
          case hyqb9 => (intro W hSw; (try dsimp only at hSw); go_simp; try with_reducible rfl)
          case' restqb9 => try simp only [Act.put, List.setIfInBounds_toArray, List.set_cons_zero, List.set_cons_succ]
          refine wpAnyH_take (i := 9) (oi := ⟨some 49, _, _, _, _, _⟩) (v := ?vqb10) rfl (by kernel_rfl) (by kernel_rfl) (by kernel_rfl) (fun _ _ _ h => h) (Or.inl ⟨by kernel_rfl, ?hyqb10⟩) (by assumption) ?restqb10
          case hyqb10 => (intro W hSw; (try dsimp only at hSw); go_simp; try with_reducible rfl)
          case' restqb10 => try simp only [Act.put, List.setIfInBounds_toArray, List.set_cons_zero, List.set_cons_succ]
          refine wpAnyH_ready (rs := [10]) (by kernel_rfl) (by simp) ?_
          refine AllReadyH.cons (o := ⟨some 9, _, _, _, _, _⟩) rfl (fun K hK => ?_) AllReadyH.nil
          go_simp
          have hboxqb := BoxQ.new Wqb1 hSWqb1.size
          have hSWqb2 := hSWqb1.alloc hSWqb1.size (.cells #[.int .i64 0, .int .i64 0, .slice none 0 0, .slice none 0 0, .slice none 0 0, .slice none 0 0, .int .i64 0, .int .i64 0, .slice none 0 0, .int .i64 0, .int .i64 0, .slice none 0 0, .int .i64 0, .int .i64 0, .slice none 0 0, .int .i64 0, .int .i64 0, .slice none 0 0, .int .u64 0] 59)
          refine hK.out _ _ hSWqb2 (fun hHeld => ?_)
          clear hK hHeld K
          try clear hSWqb1
          try simp only [Act.put, List.setIfInBounds_toArray, List.set_cons_zero, List.set_cons_succ]
          generalize (Wqb1.alloc (.cells #[.int .i64 0, .int .i64 0, .slice none 0 0, .slice none 0 0, .slice none 0 0, .slice none 0 0, .int .i64 0, .int .i64 0, .slice none 0 0, .int .i64 0, .int .i64 0, .slice none 0 0, .int .i64 0, .int .i64 0, .slice none 0 0, .int .i64 0, .int .i64 0, .slice none 0 0, .int .u64 0] 59)) = Wqb2 at hboxqb hSWqb2 ⊢
          generalize Value.pointer (some ⟨Wqb1.heap.size, 0, none⟩) = p9 at hboxqb ⊢
          exact wpAnyH_cast rfl rfl (tailqb7 p9 Wqb2 hboxqb hSWqb2)
        refine AllReadyH.cons (o := ⟨some 9, _, _, _, _, _⟩) rfl (fun K hK => ?_) AllReadyH.nil
        go_simp
        have hboxqb := BoxQ.new wzqb hS1.size
        have hSWqb3 := hS1.alloc hS1.size (.cells #[.int .i64 0, .int .i64 0, .slice none 0 0, .slice none 0 0, .slice none 0 0, .slice none 0 0, .int .i64 0, .int .i64 0, .slice none 0 0, .int .i64 0, .int .i64 0, .slice none 0 0, .int .i64 0, .int .i64 0, .slice none 0 0, .int .i64 0, .int .i64 0, .slice none 0 0, .int .u64 0] 59)
        refine hK.out _ _ hSWqb3 (fun hHeld => ?_)
        clear hK hHeld K
        try clear hS1
        try simp only [Act.put, List.setIfInBounds_toArray, List.set_cons_zero, List.set_cons_succ]
        generalize (wzqb.alloc (.cells #[.int .i64 0, .int .i64 0, .slice none 0 0, .slice none 0 0, .slice none 0 0, .slice none 0 0, .int .i64 0, .int .i64 0, .slice none 0 0, .int .i64 0, .int .i64 0, .slice none 0 0, .int .i64 0, .int .i64 0, .slice none 0 0, .int .i64 0, .int .i64 0, .slice none 0 0, .int .u64 0] 59)) = Wqb3 at hboxqb hSWqb3 ⊢
        generalize Value.pointer (some ⟨wzqb.heap.size, 0, none⟩) = p9 at hboxqb ⊢
        refine wpAnyH_ready (rs := [6]) (by kernel_rfl) (by simp) ?_
        refine AllReadyH.cons (o := ⟨some 47, _, _, _, _, _⟩) rfl (fun K hK => ?_) AllReadyH.nil
        go_simp
        go_at_call 37
        refine (FX.out Wqb3 hSWqb3).mono ?_
        rintro e Wqb4 ⟨rfl, hbWqb4⟩
        replace hboxqb := hboxqb.belowR hbWqb4
        have hSWqb4 := hSWqb3.trans (hbWqb4.mono hSWqb3.size)
        try clear hSWqb3
        clear hbWqb4
        go_wp2_with fail
        refine hK.out _ _ hSWqb4 (fun hHeld => ?_)
        clear hK hHeld K
        try simp only [Act.put, List.setIfInBounds_toArray, List.set_cons_zero, List.set_cons_succ]
        refine wpAnyH_take (i := 7) (oi := ⟨some 40, _, _, _, _, _⟩) (v := ?vqb11) rfl (by kernel_rfl) (by kernel_rfl) (by kernel_rfl) (fun _ _ _ h => h) (Or.inl ⟨by kernel_rfl, ?hyqb11⟩) (by assumption) ?restqb11
        case hyqb11 => (intro W hSw; (try dsimp only at hSw); go_simp; try with_reducible rfl)
        case' restqb11 => try simp only [Act.put, List.setIfInBounds_toArray, List.set_cons_zero, List.set_cons_succ]
        refine wpAnyH_take (i := 8) (oi := ⟨some 48, _, _, _, _, _⟩) (v := ?vqb12) rfl (by kernel_rfl) (by kernel_rfl) (by kernel_rfl) (fun _ _ _ h => h) (Or.inl ⟨by kernel_rfl, ?hyqb12⟩) (by assumption) ?restqb12
        case hyqb12 => (intro W hSw; (try dsimp only at hSw); go_simp; try with_reducible rfl)
        case' restqb12 => try simp only [Act.put, List.setIfInBounds_toArray, List.set_cons_zero, List.set_cons_succ]
        refine wpAnyH_take (i := 9) (oi := ⟨some 49, _, _, _, _, _⟩) (v := ?vqb13) rfl (by kernel_rfl) (by kernel_rfl) (by kernel_rfl) (fun _ _ _ h => h) (Or.inl ⟨by kernel_rfl, ?hyqb13⟩) (by assumption) ?restqb13
        case hyqb13 => (intro W hSw; (try dsimp only at hSw); go_simp; try with_reducible rfl)
        case' restqb13 => try simp only [Act.put, List.setIfInBounds_toArray, List.set_cons_zero, List.set_cons_succ]
        exact wpAnyH_cast (by kernel_rfl) (by kernel_rfl) (tailqb7 p9 Wqb4 hboxqb hSWqb4)
      case ttailqb7 =>
        try clear hS1
        intro p9 Wqb5 hboxqb hSWqb5
        refine wpAnyH_ready (rs := [11]) (by kernel_rfl) (by simp) ?_
        refine AllReadyH.cons (o := ⟨none, _, _, _, _, _⟩) rfl (fun K hK => ?_) AllReadyH.nil
        refine BoxQ.store hboxqb q1 rfl _ _ rfl rfl rfl (fun Wqb6 hbx hbW => ?_)
        have hSWqb6 := hSWqb5.trans hbW
        clear hboxqb hbW hSWqb5
        have hboxqb := hbx
        clear hbx
        refine hK.out _ _ hSWqb6 (fun hHeld => ?_)
        clear hK hHeld K
        try simp only [Act.put, List.setIfInBounds_toArray, List.set_cons_zero, List.set_cons_succ]
        refine wpAnyH_take (i := 12) (oi := ⟨some 10, _, _, _, _, _⟩) (v := ?vqb14) rfl (by kernel_rfl) (by kernel_rfl) (by kernel_rfl) (fun _ _ _ h => h) (Or.inl ⟨by kernel_rfl, ?hyqb14⟩) (by assumption) ?restqb14
        case hyqb14 => (intro W hSw; (try dsimp only at hSw); go_simp; try with_reducible rfl)
        case' restqb14 => try simp only [Act.put, List.setIfInBounds_toArray, List.set_cons_zero, List.set_cons_succ]
        refine wpAnyH_done (by kernel_rfl) ?_ _

        have HG2 := Lib.hid (fun (W : World) (hW : Below Wqb6.heap.size Wqb6 W) => HG.out W (hSWqb6.trans (hW.mono hSWqb6.size)))
        have HV2 := Lib.hid (fun (W : World) (hW : Below Wqb6.heap.size Wqb6 W) => HV.out W (hSWqb6.trans (hW.mono hSWqb6.size)))
        have FY2 := Lib.hid (fun (W : World) (hW : Below Wqb6.heap.size Wqb6 W) => FY.out W (hSWqb6.trans (hW.mono hSWqb6.size)))
        clear HG HV FY HU FX
        have hS2 : (fun W : World => Below Wqb6.heap.size Wqb6 W) Wqb6.drew := (Below.refl _ _).drew
        go_wp2_with fail
        refine wp_region_held_drew (S := fun W : World => Below Wqb6.heap.size Wqb6 W) (by kernel_rfl) hS2 (fun hHeld => ?_)
        clear hHeld
        generalize Wqb6.drew = wzqc at *
        refine wpAnyH_take (i := 0) (oi := ⟨some 51, _, _, _, _, _⟩) (v := ?vqc1) rfl (by kernel_rfl) (by kernel_rfl) (by kernel_rfl) (fun _ _ _ h => h) (Or.inl ⟨by kernel_rfl, ?hyqc1⟩) (by assumption) ?restqc1
        case hyqc1 => (intro W hSw; (try dsimp only at hSw); go_simp; try with_reducible rfl)
        case' restqc1 => try simp only [Act.put, List.setIfInBounds_toArray, List.set_cons_zero, List.set_cons_succ]
        refine wpAnyH_take (i := 1) (oi := ⟨some 52, _, _, _, _, _⟩) (v := ?vqc2) rfl (by kernel_rfl) (by kernel_rfl) (by kernel_rfl) (fun _ _ _ h => h) (Or.inl ⟨by kernel_rfl, ?hyqc2⟩) (by assumption) ?restqc2
        case hyqc2 => (intro W hSw; have hg := HV2.out W hSw; (try dsimp only at hSw); go_simp; try with_reducible rfl)
        case' restqc2 => try simp only [Act.put, List.setIfInBounds_toArray, List.set_cons_zero, List.set_cons_succ]
        refine wpAnyH_take (i := 2) (oi := ⟨some 53, _, _, _, _, _⟩) (v := ?vqc3) rfl (by kernel_rfl) (by kernel_rfl) (by kernel_rfl) (fun _ _ _ h => h) (Or.inl ⟨by kernel_rfl, ?hyqc3⟩) (by assumption) ?restqc3
        case hyqc3 => (intro W hSw; (try dsimp only at hSw); go_simp; try with_reducible rfl)
        case' restqc3 => try simp only [Act.put, List.setIfInBounds_toArray, List.set_cons_zero, List.set_cons_succ]
        refine wpAnyH_take (i := 3) (oi := ⟨some 54, _, _, _, _, _⟩) (v := ?vqc4) rfl (by kernel_rfl) (by kernel_rfl) (by kernel_rfl) (fun _ _ _ h => h) (Or.inl ⟨by kernel_rfl, ?hyqc4⟩) (by assumption) ?restqc4
        case hyqc4 => (intro W hSw; (try dsimp only at hSw); go_simp; try with_reducible rfl)
        case' restqc4 => try simp only [Act.put, List.setIfInBounds_toArray, List.set_cons_zero, List.set_cons_succ]
        refine wpAnyH_take (i := 4) (oi := ⟨some 55, _, _, _, _, _⟩) (v := ?vqc5) rfl (by kernel_rfl) (by kernel_rfl) (by kernel_rfl) (fun _ _ _ h => h) (Or.inl ⟨by kernel_rfl, ?hyqc5⟩) (by assumption) ?restqc5
        case hyqc5 => (intro W hSw; (try dsimp only at hSw); go_simp; try with_reducible rfl)
        case' restqc5 => try simp only [Act.put, List.setIfInBounds_toArray, List.set_cons_zero, List.set_cons_succ]
        refine wpAnyH_take (i := 5) (oi := ⟨some 56, _, _, _, _, _⟩) (v := ?vqc6) rfl (by kernel_rfl) (by kernel_rfl) (by kernel_rfl) (fun _ _ _ h => h) (Or.inl ⟨by kernel_rfl, ?hyqc6⟩) (by assumption) ?restqc6
        case hyqc6 => (intro W hSw; have hg := HG2.out W hSw; (try dsimp only at hSw); go_simp; try with_reducible rfl)
        case' restqc6 => try simp only [Act.put, List.setIfInBounds_toArray, List.set_cons_zero, List.set_cons_succ]
        refine' wpAnyH_share (fun H f l (act : Value → Act) => ∀ (p11 : Value) (WX : World), BoxQ Wqb6.heap.size WX p11 z0 → (fun W : World => Below Wqb6.heap.size Wqb6 W) WX → H f l (act p11) WX) (fun tailqc7 => ?mtailqc7) ?ttailqc7
        case mtailqc7 =>
          refine wpAnyH_ready (rs := [6, 10]) (by kernel_rfl) (by simp) ?_
          refine AllReadyH.cons (o := ⟨some 57, _, _, _, _, _⟩) rfl (fun K hK => ?_) ?_
          · skip
            go_simp
            go_at_call 37
            refine (FY2.out wzqc hS2).mono ?_
            rintro e Wqc1 ⟨rfl, hbWqc1⟩
            have hSWqc1 := hS2.trans (hbWqc1.mono hS2.size)
            try clear hS2
            clear hbWqc1
            go_wp2_with fail
            refine hK.out _ _ hSWqc1 (fun hHeld => ?_)
            clear hK hHeld K
            try simp only [Act.put, List.setIfInBounds_toArray, List.set_cons_zero, List.set_cons_succ]
            refine wpAnyH_take (i := 7) (oi := ⟨some 50, _, _, _, _, _⟩) (v := ?vqc8) rfl (by kernel_rfl) (by kernel_rfl) (by kernel_rfl) (fun _ _ _ h => h) (Or.inl ⟨by kernel_rfl, ?hyqc8⟩) (by assumption) ?restqc8
            case hyqc8 => (intro W hSw; (try dsimp only at hSw); go_simp; try with_reducible rfl)
            case' restqc8 => try simp only [Act.put, List.setIfInBounds_toArray, List.set_cons_zero, List.set_cons_succ]
            refine wpAnyH_take (i := 8) (oi := ⟨some 58, _, _, _, _, _⟩) (v := ?vqc9) rfl (by kernel_rfl) (by kernel_rfl) (by kernel_rfl) (fun _ _ _ h => h) (Or.inl ⟨by kernel_rfl, ?hyqc9⟩) (by assumption) ?restqc9
            case hyqc9 => (intro W hSw; (try dsimp only at hSw); go_simp; try with_reducible rfl)
            case' restqc9 => try simp only [Act.put, List.setIfInBounds_toArray, List.set_cons_zero, List.set_cons_succ]
            refine wpAnyH_take (i := 9) (oi := ⟨some 59, _, _, _, _, _⟩) (v := ?vqc10) rfl (by kernel_rfl) (by kernel_rfl) (by kernel_rfl) (fun _ _ _ h => h) (Or.inl ⟨by kernel_rfl, ?hyqc10⟩) (by assumption) ?restqc10
            case hyqc10 => (intro W hSw; (try dsimp only at hSw); go_simp; try with_reducible rfl)
            case' restqc10 => try simp only [Act.put, List.setIfInBounds_toArray, List.set_cons_zero, List.set_cons_succ]
            refine wpAnyH_ready (rs := [10]) (by kernel_rfl) (by simp) ?_
            refine AllReadyH.cons (o := ⟨some 11, _, _, _, _, _⟩) rfl (fun K hK => ?_) AllReadyH.nil
            go_simp
            have hboxqc := BoxQ.new Wqc1 hSWqc1.size
            have hSWqc2 := hSWqc1.alloc hSWqc1.size (.cells #[.int .i64 0, .int .i64 0, .slice none 0 0, .slice none 0 0, .slice none 0 0, .slice none 0 0, .int .i64 0, .int .i64 0, .slice none 0 0, .int .i64 0, .int .i64 0, .slice none 0 0, .int .i64 0, .int .i64 0, .slice none 0 0, .int .i64 0, .int .i64 0, .slice none 0 0, .int .u64 0] 59)
            refine hK.out _ _ hSWqc2 (fun hHeld => ?_)
            clear hK hHeld K
            try clear hSWqc1
            try simp only [Act.put, List.setIfInBounds_toArray, List.set_cons_zero, List.set_cons_succ]
            generalize (Wqc1.alloc (.cells #[.int .i64 0, .int .i64 0, .slice none 0 0, .slice none 0 0, .slice none 0 0, .slice none 0 0, .int .i64 0, .int .i64 0, .slice none 0 0, .int .i64 0, .int .i64 0, .slice none 0 0, .int .i64 0, .int .i64 0, .slice none 0 0, .int .i64 0, .int .i64 0, .slice none 0 0, .int .u64 0] 59)) = Wqc2 at hboxqc hSWqc2 ⊢
            generalize Value.pointer (some ⟨Wqc1.heap.size, 0, none⟩) = p11 at hboxqc ⊢
            exact wpAnyH_cast rfl rfl (tailqc7 p11 Wqc2 hboxqc hSWqc2)
          refine AllReadyH.cons (o := ⟨some 11, _, _, _, _, _⟩) rfl (fun K hK => ?_) AllReadyH.nil
          go_simp
          have hboxqc := BoxQ.new wzqc hS2.size
          have hSWqc3 := hS2.alloc hS2.size (.cells #[.int .i64 0, .int .i64 0, .slice none 0 0, .slice none 0 0, .slice none 0 0, .slice none 0 0, .int .i64 0, .int .i64 0, .slice none 0 0, .int .i64 0, .int .i64 0, .slice none 0 0, .int .i64 0, .int .i64 0, .slice none 0 0, .int .i64 0, .int .i64 0, .slice none 0 0, .int .u64 0] 59)
          refine hK.out _ _ hSWqc3 (fun hHeld => ?_)
          clear hK hHeld K
          try clear hS2
          try simp only [Act.put, List.setIfInBounds_toArray, List.set_cons_zero, List.set_cons_succ]
          generalize (wzqc.alloc (.cells #[.int .i64 0, .int .i64 0, .slice none 0 0, .slice none 0 0, .slice none 0 0, .slice none 0 0, .int .i64 0, .int .i64 0, .slice none 0 0, .int .i64 0, .int .i64 0, .slice none 0 0, .int .i64 0, .int .i64 0, .slice none 0 0, .int .i64 0, .int .i64 0, .slice none 0 0, .int .u64 0] 59)) = Wqc3 at hboxqc hSWqc3 ⊢
          generalize Value.pointer (some ⟨wzqc.heap.size, 0, none⟩) = p11 at hboxqc ⊢
          refine wpAnyH_ready (rs := [6]) (by kernel_rfl) (by simp) ?_
          refine AllReadyH.cons (o := ⟨some 57, _, _, _, _, _⟩) rfl (fun K hK => ?_) AllReadyH.nil
          go_simp
          go_at_call 37
          refine (FY2.out Wqc3 hSWqc3).mono ?_
          rintro e Wqc4 ⟨rfl, hbWqc4⟩
          replace hboxqc := hboxqc.belowR hbWqc4
          have hSWqc4 := hSWqc3.trans (hbWqc4.mono hSWqc3.size)
          try clear hSWqc3
          clear hbWqc4
          go_wp2_with fail
          refine hK.out _ _ hSWqc4 (fun hHeld => ?_)
          clear hK hHeld K
          try simp only [Act.put, List.setIfInBounds_toArray, List.set_cons_zero, List.set_cons_succ]
          refine wpAnyH_take (i := 7) (oi := ⟨some 50, _, _, _, _, _⟩) (v := ?vqc11) rfl (by kernel_rfl) (by kernel_rfl) (by kernel_rfl) (fun _ _ _ h => h) (Or.inl ⟨by kernel_rfl, ?hyqc11⟩) (by assumption) ?restqc11
          case hyqc11 => (intro W hSw; (try dsimp only at hSw); go_simp; try with_reducible rfl)
          case' restqc11 => try simp only [Act.put, List.setIfInBounds_toArray, List.set_cons_zero, List.set_cons_succ]
          refine wpAnyH_take (i := 8) (oi := ⟨some 58, _, _, _, _, _⟩) (v := ?vqc12) rfl (by kernel_rfl) (by kernel_rfl) (by kernel_rfl) (fun _ _ _ h => h) (Or.inl ⟨by kernel_rfl, ?hyqc12⟩) (by assumption) ?restqc12
          case hyqc12 => (intro W hSw; (try dsimp only at hSw); go_simp; try with_reducible rfl)
          case' restqc12 => try simp only [Act.put, List.setIfInBounds_toArray, List.set_cons_zero, List.set_cons_succ]
          refine wpAnyH_take (i := 9) (oi := ⟨some 59, _, _, _, _, _⟩) (v := ?vqc13) rfl (by kernel_rfl) (by kernel_rfl) (by kernel_rfl) (fun _ _ _ h => h) (Or.inl ⟨by kernel_rfl, ?hyqc13⟩) (by assumption) ?restqc13
          case hyqc13 => (intro W hSw; (try dsimp only at hSw); go_simp; try with_reducible rfl)
          case' restqc13 => try simp only [Act.put, List.setIfInBounds_toArray, List.set_cons_zero, List.set_cons_succ]
          exact wpAnyH_cast (by kernel_rfl) (by kernel_rfl) (tailqc7 p11 Wqc4 hboxqc hSWqc4)
        case ttailqc7 =>
          try clear hS2
          intro p11 Wqc5 hboxqc hSWqc5
          refine wpAnyH_ready (rs := [11]) (by kernel_rfl) (by simp) ?_
          refine AllReadyH.cons (o := ⟨none, _, _, _, _, _⟩) rfl (fun K hK => ?_) AllReadyH.nil
          refine BoxQ.store hboxqc q2 rfl _ _ rfl rfl rfl (fun Wqc6 hbx hbW => ?_)
          have hSWqc6 := hSWqc5.trans hbW
          clear hboxqc hbW hSWqc5
          have hboxqc := hbx
          clear hbx
          refine hK.out _ _ hSWqc6 (fun hHeld => ?_)
          clear hK hHeld K
          try simp only [Act.put, List.setIfInBounds_toArray, List.set_cons_zero, List.set_cons_succ]
          refine wpAnyH_take (i := 12) (oi := ⟨some 12, _, _, _, _, _⟩) (v := ?vqc14) rfl (by kernel_rfl) (by kernel_rfl) (by kernel_rfl) (fun _ _ _ h => h) (Or.inl ⟨by kernel_rfl, ?hyqc14⟩) (by assumption) ?restqc14
          case hyqc14 => (intro W hSw; (try dsimp only at hSw); go_simp; try with_reducible rfl)
          case' restqc14 => try simp only [Act.put, List.setIfInBounds_toArray, List.set_cons_zero, List.set_cons_succ]
          refine wpAnyH_done (by kernel_rfl) ?_ _

          have hbox9 := hboxqb.belowR hSWqc6
          have hq := hSWqb6.trans (hSWqc6.mono hSWqb6.size)
          have hown2 := HOWN.out.below hq
          have hbw2 := hbw.trans (hq.mono hbw.size)
          clear HOWN hboxqb hSWqb6 hSWqc6 HG2 HV2 FY2 hq
          generalize Wqc6 = wq at *
          obtain ⟨g9, rfl, hg9, hr9⟩ := hbox9.range
          obtain ⟨g11, rfl, hg11, hr11⟩ := hboxqc.range
          clear hbox9 hboxqc
          have kq := k5.trans (hbw2.mono k5.size)
          go_upto_block 2 with fail
          go_cut [13, 14] from 60 to 82 (fun s13 s14 wc => SwR w5.heap.size wq (stepOf xs ys n) L u6 s13 s14 wc)
          case first =>
            have hfew1 := HFF1.out.1
            have hrd1 := HFF1.out.2.below kq
            have hfew2 := HFF2.out.1
            have hrd2 := HFF2.out.2.below kq
            cases b1
            · have HST := Lib.hid (stepOf_new HB1.out HQ2.out)
              go_wp2_with (refine Try.load59 q2 rfl _ rfl g11 0 rfl hr11 ?_)
              refine (ref_whole q2.s q2.p _ hfew2 hrd2).mono ?_
              rintro e w4' ⟨vd, rfl, hSD, hb4'⟩
              have o4 := hown2.below hb4'
              go_wp2_with fail
              go_meet
              exact ⟨by rw [HST.out]; exact hSD, by rw [HST.out]; rfl, o4, hb4'⟩
            · cases b2
              · have HST := Lib.hid (stepOf_one HB1.out HB2.out HQ1.out)
                go_wp2_with (refine Try.load59 q1 rfl _ rfl g9 0 rfl hr9 ?_)
                refine (ref_whole q1.s q1.p _ hfew1 hrd1).mono ?_
                rintro e w4' ⟨vd, rfl, hSD, hb4'⟩
                have o4 := hown2.below hb4'
                go_wp2_with fail
                go_meet
                exact ⟨by rw [HST.out]; exact hSD, by rw [HST.out]; rfl, o4, hb4'⟩
              · have HST := Lib.hid (stepOf_two HB1.out HB2.out HQ1.out HQ2.out)
                go_wp2_with first
                  | (refine Try.load59 q1 rfl (.tmp 9) rfl g9 0 rfl hr9 ?_)
                  | (refine Try.load59 q2 rfl (.tmp 11) rfl g11 0 rfl hr11 ?_)
                refine (ref_sheet q1.s q2.s q1.p q2.p _ hfew1 hfew2 hrd1 hrd2).mono ?_
                rintro e w4' ⟨vd, rfl, hSD, hb4'⟩
                have o4 := hown2.below hb4'
                go_wp2_with fail
                go_meet
                exact ⟨by rw [HST.out]; exact hSD, by rw [HST.out]; rfl, o4, hb4'⟩
          case rest =>
            obtain ⟨hSD, rfl, hown', hbc⟩ := hcut
            obtain ⟨st, hst⟩ : ∃ st, stepOf xs ys n = st := ⟨_, rfl⟩
            rw [hst] at hSD HE1 HA1
            rw [hst]
            clear hst
            have kc := kq.trans (hbc.mono kq.size)
            have hbwc := hbw2.trans (hbc.mono hbw2.size)
            have hsz := hbwc.size
            have hlen := stD_len st
            obtain ⟨r, hr⟩ : ∃ r, stE st = r := ⟨_, rfl⟩
            rw [hr]
            have HR := Lib.hid hr
            clear hr hown2 hbw2 hbw
            by_cases hz : r = 0
            · subst hz
              have hN : L.length + (stD st).length ≤ 1000000000 := by omega
              have HLEN := Lib.hid hlen
              have HLL := Lib.hid hL
              clear hlen hL
              go_wp2_with (at_builtin; refine Try.appAllD hown' hSD rfl _ _ rfl rfl rfl hN hsz ?_; intro v2 w2 hown2 hb2)
              go_roundw
              case rel => exact ⟨k + 1, L ++ stD st, by omega, by go_num, hown2, (by have h1 := HLEN.out; have h2 := HLL.out; rw [List.length_append]; omega), (by rw [HE1.out, ev_ok HR.out]), (by rw [HA1.out, ev_app]), hbwc.trans hb2⟩
              case measure => simp [intOf]; omega
            · have hrb : (r != 0) = true := by simp [hz]
              have hrc : (r == 0) = false := by simp [hz]
              have HZ := Lib.hid hz
              clear hz
              go_wp2
              go_ret2
              exact difPost_err (by rw [HE.out.1, (ev_err HR.out HZ.out HE1.out).1]) HZ.out (by rw [HE.out.2, (ev_err HR.out HZ.out HE1.out).2]) kc

    · obtain rfl : k = zs.length := by omega
      have HA : Hid (evA (mg xs ys) = L) := Lib.hid (by rw [hA, List.drop_length]; simp [evA])
      have HEE : Hid (evE (mg xs ys) = 0) := Lib.hid (by rw [hE, List.drop_length]; rfl)
      clear hA hE hL
      go_wp2
      go_ret2
      exact ⟨_, by rw [HE.out.1, HEE.out]; rfl, by rw [HE.out.2]; unfold evL; rw [HEE.out, if_pos rfl, HA.out]; exact slD_own hown, kk⟩
end Go.Proofs
