/- The reference's exact search: what try computes. -/
import Derived.Test.YtaaejdhdkipdlaaXJ11
set_option linter.unusedVariables false
set_option linter.unusedSimpArgs false
namespace Go.Proofs
open Go.RowKit Go.Proofs.Mp Go.Proofs.Uf Go.Maps

/-- an empty slice, just laid, from B0 on -/
def Emp (B0 : Nat) (W : World) (v : Value) : Prop := ∃ b, v = .slice (some ⟨b, 0, none⟩) 0 0 ∧ B0 ≤ b ∧ W.heap[b]? = some (.cells #[] 3 (0, 0))
theorem Emp.below {B0 : Nat} {W W' : World} {v : Value} (h : Emp B0 W v) (hb : Below W.heap.size W W') : Emp B0 W' v := by
  obtain ⟨b, h1, h2, h3⟩ := h
  exact ⟨b, h1, h2, (hb.block b (lt_of_block h3)).trans h3⟩
theorem Emp.alloc {B0 : Nat} {W : World} {v : Value} (h : Emp B0 W v) (o : Obj) : Emp B0 (W.alloc o) v := h.below (bw1 _ _)
theorem Emp.made {B0 : Nat} (W : World) (h : B0 ≤ W.heap.size) : Emp B0 (W.alloc (.cells #[] 3)) (.slice (some ⟨W.heap.size, 0, none⟩) 0 0) := ⟨_, rfl, h, heap_alloc_last _ _⟩
theorem Emp.own {B0 : Nat} {W : World} {v : Value} (h : Emp B0 W v) : OwnI 3 W B0 v [] := by
  obtain ⟨b, rfl, h2, h3⟩ := h
  exact ⟨rfl, .inr ⟨b, 0, #[], rfl, h2, h3, Nat.le_refl _, Nat.zero_le _, rfl, rfl⟩⟩
/-- a row of the call's own from B0 on -/
def Row0 (B0 : Nat) (xs : List Int) (W : World) (v : Value) : Prop := OwnI 3 W B0 v xs
theorem Row0.below {B0 : Nat} {xs : List Int} {W W' : World} {v : Value} (h : Row0 B0 xs W v) (hb : Below W.heap.size W W') : Row0 B0 xs W' v := Own.below h hb
theorem Row0.alloc {B0 : Nat} {xs : List Int} {W : World} {v : Value} (h : Row0 B0 xs W v) (o : Obj) : Row0 B0 xs (W.alloc o) v := Own.alloc h o
def Any1 (W : World) (v : Value) : Prop := True
theorem Any1.below {W W' : World} {v : Value} (h : Any1 W v) (_ : Below W.heap.size W W') : Any1 W' v := trivial
theorem Any1.alloc {W : World} {v : Value} (h : Any1 W v) (o : Obj) : Any1 (W.alloc o) v := trivial
def BW (wb W : World) : Prop := Below wb.heap.size wb W
theorem BW.below {wb W W' : World} (h : BW wb W) (hb : Below W.heap.size W W') : BW wb W' := Below.trans h (hb.mono h.size)
theorem BW.alloc {wb W : World} (h : BW wb W) (o : Obj) : BW wb (W.alloc o) := h.below (bw1 _ _)
theorem One.apart {W w' : World} {row : Option Nat} {u : Value} {y : Int} (h : One W u y) (hg : W.grownBy w' row) (hr : ∀ b, row = some b → W.heap[b]? = some (.cells #[] 3 (0, 0))) : One w' u y := by
  obtain ⟨b, h1, h2⟩ := h
  have hlt := World.block_lt_of_cell? W _ h2
  refine ⟨b, h1, (World.cell?_of_block (hg.block b hlt ?_)).trans h2⟩
  intro e
  have := hr b e.symm
  simp [World.cell?, this] at h2
/-- append([]int{}, ys...) -/
theorem app0 {W : World} {B0 : Nat} {v u : Value} {ys : List Int} {o : Oper} {a : Act} {K : Act → World → Prop} {Q : Exit → Act → World → Prop} {ops : Array Oper} {E : Prop}
    (hE : Emp B0 W v) (hu : SlI W u ys) (hgd : o.guard = none) (s x : Operand)
    (ho : o.op = .call { callee := .builtin .append, args := #[s, x], argTypes := #[23, 23] }) (hs : a.eval s = v) (hx : a.eval x = u)
    (hN : ys.length ≤ 1000000000000) (hbase : B0 ≤ W.heap.size)
    (h : ∀ v' w', Row0 B0 ys w' v' → Below B0 W w' → (∀ u y, One W u y → One w' u y) → K (a.put o.dst v') w') : if Region.wanted o (yielded ops a.tmps) = true then Oper.wp Try.prog o a W K Q else E := by
  refine wp_of_list hgd ?_
  obtain ⟨i0, hi, hz0, hz1, hz2⟩ := Mp.info_parts Try.infoI
  obtain ⟨A, c, rfl, hc, hR⟩ := hu
  have hown := hE.own
  obtain ⟨b, rfl, hb, hh⟩ := hE
  have hgo : ∀ ad : Addr, A = some ad → (∀ j z, (ys.flatMap Mp.encI)[j]? = some z → W.cell? (ad.add j) = some z) → Oper.wp Try.prog o a W K Q := by
    rintro ad rfl hcell
    refine wp_append_own W s x 23 ho B0 3 i0 (.int .i64 0) 1 8 Try.underlying23 hi hz0 hz1 hz2 rfl (by decide) _ 0 [] hs hown ad ys.length c (ys.flatMap Mp.encI) hx (flat_len ys) hcell ?_ (by unfold maxLen; omega) (by omega) hbase ?_
    · intro z hz
      obtain ⟨y, _, hz⟩ := List.mem_flatMap.1 hz
      exact encI_one y z hz
    · intro v' w' h1 h2 _
      refine h v' w' ?_ ((Below.refl _ _).grown h2 hbase (fun k hk => (World.ownsRow.lt hown k hk).1)) (fun u y h3 => h3.apart h2 fun b' e => ?_)
      · unfold Row0 OwnI Own
        simpa using h1
      · have e : b = b' := by simpa [Value.ownBlock] using e
        rw [← e]; exact hh
  rcases A with _ | ad
  · have hy : ys = [] := by
      rcases hR with h0 | ⟨b, off, e, _⟩
      · exact h0
      · cases e
    subst hy
    have hrun : (Builtin.append_ #[23, 23] o.type #[.slice (some ⟨b, 0, none⟩) 0 0, .slice none 0 c]).run Try.prog W = .ok (.slice (some ⟨b, 0, none⟩) 0 0) W := by
      simp [Builtin.append_, run_underlying Try.underlying23, sizeOf, typeInfo, hi, Builtin.lenOf, Builtin.firstCells, storeCells]
    unfold Oper.wp
    simp [execOp, ho, resolve, invoke, builtin, hs, hx, hrun, Result.andThen]
    exact h _ W hown (Below.refl _ _) (fun _ _ h => h)
  · refine hgo ad rfl fun j z hz => ?_
    obtain ⟨hj, rfl⟩ := flat_get ys j z hz
    rcases hR with rfl | ⟨b, off, e, hlt, hcc⟩
    · exact absurd hj (Nat.not_lt_zero _)
    · have e := Option.some.inj e
      rw [e]
      have := hcc j hj 0 (.int .i64 ys[j]!) rfl
      rw [Nat.mul_one] at this
      rw [addr_add]
      exact this
set_option maxRecDepth 100000 in
set_option maxHeartbeats 4000000 in
theorem ref_try {l : List Cand} {F : List Int} {w0 : World} {lim bs cF : Nat} {vL : Value} {AF : Option Addr} (hl : l.length ≤ 1000) (hF : F.length ≤ 1000) (hlim : lim ≤ 100000)
    (HX : Hid (∀ W, w0.grownBy W (some bs) → SlC W vL l ∧ SlI W (.slice AF F.length cF) F)) :
    ∀ (fs : List Int) (k : Nat) (now : List Int) (x : XS) (v : Value) (wq : World), F.drop k = fs → k ≤ F.length → w0.grownBy wq (some bs) → inAll l now → now.length ≤ k → x.made ≤ lim → SlI wq v now → Off bs v → StQ bs vL (.slice AF F.length cF) lim (some x) wq →
      Calls Try.prog 44 #[.pointer (some ⟨bs, 0, none⟩), .int .i64 (k : Int), v] wq (TryP bs vL (.slice AF F.length cF) lim wq (srch l lim fs now x)) := by
  intro fs
  induction fs with
  | nil =>
    intro k now x v wq hdr hkl hg0 hin hnl hm0 hv hoff hSt
    have hk : F.length ≤ k := by have := congrArg List.length hdr; simp at this; omega
    have hkk : k = F.length := by omega
    subst hkk
    obtain ⟨vr, hB, hS, hO⟩ := hSt
    obtain ⟨AN, cN, rfl, hcN, hRN⟩ := hv
    have hv : SlI wq (.slice AN now.length cN) now := ⟨AN, cN, rfl, hcN, hRN⟩
    have hB1 := hB.best (now.length : Int)
    have hB2 := hB1.res (.slice AN now.length cN)
    have hg2 : wq.grownBy ((wq.setCell ⟨bs, 4, none⟩ (.int .i64 (now.length : Int))).setCell ⟨bs, 5, none⟩ (.slice AN now.length cN)) (some bs) := (grown_set _ _ _ _).trans (grown_set _ _ _ _)
    have hv2 := SlI.box hv hB hg2 (.inr hoff)
    have HP : Hid (TryP bs vL (.slice AF F.length cF) lim wq (srch l lim [] now x) (.returned (.tuple #[])) ((wq.setCell ⟨bs, 4, none⟩ (.int .i64 (now.length : Int))).setCell ⟨bs, 5, none⟩ (.slice AN now.length cN))) :=
      Lib.hid ⟨rfl, hg2, ⟨_, hB2, hv2, hoff⟩, fun z hz => by injection hz with hz; subst hz; exact hm0⟩
    obtain ⟨⟨c0, c1, c2, c3, c4, c5, c6⟩, fz⟩ := hB.cells
    obtain ⟨⟨d0, d1, d2, d3, d4, d5, d6⟩, fy⟩ := hB1.cells
    clear hB hB1 hB2 hS hO hg2 hv2 hv hRN hdr hg0 hin hm0 hk
    go_enter Try.func44, Try.ntmps44
    go_wp2_with fail
    go_end0
    exact HP.out
  | cons f fs ih =>
    intro k now x v wq hdr hkl hg0 hin hnl hm0 hv hoff hSt
    have hlt : k < F.length := by
      rcases Nat.lt_or_ge k F.length with h | h
      · exact h
      · rw [List.drop_eq_nil_of_le h] at hdr; cases hdr
    rw [List.drop_eq_getElem_cons hlt] at hdr
    injection hdr with hf hdr
    have hfl : F.length = k + 1 + fs.length := by have := congrArg List.length hdr; simp at this; omega
    have HFL := Lib.hid hfl
    have HDR := Lib.hid hdr
    have HIN := Lib.hid hin
    have HSt := Lib.hid hSt
    have HF0 : Hid (F[k]! = f) := Lib.hid (by rw [getElem!_pos F k hlt]; exact hf)
    have hcl := hSt.cell0
    have hbq := hcl.2.2
    have HOM0 := Lib.hid (fun (j : Nat) (hj : j < (ordL l f).length) => (ordL_mem (getMem hj)).1)
    have hol := ordL_len l f
    have CO0 := Lib.hid (fun (W : World) (hW : Below wq.heap.size wq W) => (ref_ordered38 vL l f W hl ((HX.out wq hg0).1.below hW)).mono (fun e w' ⟨u, h1, h2, h3⟩ => (⟨u, h1, Own.mono h2 hW.size, h3⟩ : ∃ u, e = Ending.returned u ∧ OwnI 3 w' wq.heap.size u (ordL l f) ∧ Below W.heap.size W w')))
    obtain ⟨OO, hOO⟩ : ∃ OO, ordL l f = OO := ⟨_, rfl⟩
    have HOO := Lib.hid hOO
    rw [hOO] at HOM0 CO0 hol
    have HOM := HOM0
    have CO := CO0
    have HOB : Hid (∀ (W : World) (v : Value) (ys : List Int), OwnI 3 W wq.heap.size v ys → v.ownBlock = none ∨ v.ownBlock ≠ some bs) := Lib.hid (fun W v ys h => by
      right; intro e
      have := (World.ownsRow.lt h bs e).1
      omega)
    have hbx : ∃ cs, wq.heap[bs]? = some (.cells cs 64 (0, 0)) := by
      obtain ⟨vr, hB, _⟩ := hSt
      exact ⟨_, hB⟩
    obtain ⟨cs, hbx⟩ := hbx
    have HVN0 := Lib.hid (fun (W : World) (hW : wq.grownBy W (some bs)) => SlI.box hv hbx hW (.inr hoff))
    obtain ⟨AN, cN, rfl, hcN, _⟩ := hv
    have HVN := HVN0
    have HOFV := Lib.hid hoff
    have HcL := Lib.hid (fun (W : World) (hW : Below wq.heap.size wq W) => (hW.cell (p := ⟨bs, 0, none⟩) hbq).trans hcl.1)
    have HcF := Lib.hid (fun (W : World) (hW : Below wq.heap.size wq W) => (hW.cell (p := ⟨bs, 1, none⟩) hbq).trans hcl.2.1)
    obtain ⟨A', c', e', _, hRF⟩ := (HX.out wq hg0).2
    injection e' with e1 e2 e3
    subst e1; subst e3
    obtain ⟨bf, offf, hAF, hbf, hcf⟩ := RdI.cells hRF (show 0 < F.length by omega)
    subst hAF
    have HgF : Hid (∀ W, Below wq.heap.size wq W → W.cell? ⟨bf, offf + k, none⟩ = some (.int .i64 f)) := Lib.hid (fun W hW => by rw [hcf W hW k hlt, HF0.out])
    have sF := HcF.out wq (Below.refl _ _)
    have hne : ((k : Int) == (F.length : Int)) = false := by simp; omega
    have hS5 : (fun W : World => Below wq.heap.size wq W) wq.drew := (Below.refl _ _).drew
    clear hdr hin hSt hf hcf hfl hcl hOO HOM0 CO0 HVN0 hbx hRF hoff
    go_enter Try.func44, Try.ntmps44
    go_wp2_with fail
    refine wp_region_held_drew (S := fun W : World => Below wq.heap.size wq W) (by kernel_rfl) hS5 (fun hHeld => ?_)
    clear hHeld
    generalize wq.drew = wzrd at *
    refine wpAnyH_take (i := 0) (oi := ⟨some 24, _, _, _, _, _⟩) (v := ?vrd1) rfl (by kernel_rfl) (by kernel_rfl) (by kernel_rfl) (fun _ _ _ h => h) (Or.inl ⟨by kernel_rfl, ?hyrd1⟩) (by assumption) ?restrd1
    case hyrd1 => (intro W hSw; (try dsimp only at hSw); go_simp; try with_reducible rfl)
    case' restrd1 => try simp only [Act.put, List.setIfInBounds_toArray, List.set_cons_zero, List.set_cons_succ]
    refine wpAnyH_take (i := 1) (oi := ⟨some 25, _, _, _, _, _⟩) (v := ?vrd2) rfl (by kernel_rfl) (by kernel_rfl) (by kernel_rfl) (fun _ _ _ h => h) (Or.inl ⟨by kernel_rfl, ?hyrd2⟩) (by assumption) ?restrd2
    case hyrd2 => (intro W hSw; (try dsimp only at hSw); go_simp; try with_reducible rfl)
    case' restrd2 => try simp only [Act.put, List.setIfInBounds_toArray, List.set_cons_zero, List.set_cons_succ]
    refine wpAnyH_take (i := 2) (oi := ⟨some 26, _, _, _, _, _⟩) (v := ?vrd3) rfl (by kernel_rfl) (by kernel_rfl) (by kernel_rfl) (fun _ _ _ h => h) (Or.inl ⟨by kernel_rfl, ?hyrd3⟩) (by assumption) ?restrd3
    case hyrd3 => (intro W hSw; (try dsimp only at hSw); go_simp; try with_reducible rfl)
    case' restrd3 => try simp only [Act.put, List.setIfInBounds_toArray, List.set_cons_zero, List.set_cons_succ]
    refine wpAnyH_take (i := 3) (oi := ⟨some 27, _, _, _, _, _⟩) (v := ?vrd4) rfl (by kernel_rfl) (by kernel_rfl) (by kernel_rfl) (fun _ _ _ h => h) (Or.inl ⟨by kernel_rfl, ?hyrd4⟩) (by assumption) ?restrd4
    case hyrd4 => (intro W hSw; have gq := HcL.out W hSw; (try dsimp only at hSw); go_simp; try with_reducible rfl)
    case' restrd4 => try simp only [Act.put, List.setIfInBounds_toArray, List.set_cons_zero, List.set_cons_succ]
    refine wpAnyH_take (i := 4) (oi := ⟨some 28, _, _, _, _, _⟩) (v := ?vrd5) rfl (by kernel_rfl) (by kernel_rfl) (by kernel_rfl) (fun _ _ _ h => h) (Or.inl ⟨by kernel_rfl, ?hyrd5⟩) (by assumption) ?restrd5
    case hyrd5 => (intro W hSw; (try dsimp only at hSw); go_simp; try with_reducible rfl)
    case' restrd5 => try simp only [Act.put, List.setIfInBounds_toArray, List.set_cons_zero, List.set_cons_succ]
    refine wpAnyH_take (i := 5) (oi := ⟨some 29, _, _, _, _, _⟩) (v := ?vrd6) rfl (by kernel_rfl) (by kernel_rfl) (by kernel_rfl) (fun _ _ _ h => h) (Or.inl ⟨by kernel_rfl, ?hyrd6⟩) (by assumption) ?restrd6
    case hyrd6 => (intro W hSw; (try dsimp only at hSw); go_simp; try with_reducible rfl)
    case' restrd6 => try simp only [Act.put, List.setIfInBounds_toArray, List.set_cons_zero, List.set_cons_succ]
    refine wpAnyH_take (i := 6) (oi := ⟨some 30, _, _, _, _, _⟩) (v := ?vrd7) rfl (by kernel_rfl) (by kernel_rfl) (by kernel_rfl) (fun _ _ _ h => h) (Or.inl ⟨by kernel_rfl, ?hyrd7⟩) (by assumption) ?restrd7
    case hyrd7 => (intro W hSw; (try dsimp only at hSw); go_simp; try with_reducible rfl)
    case' restrd7 => try simp only [Act.put, List.setIfInBounds_toArray, List.set_cons_zero, List.set_cons_succ]
    refine wpAnyH_take (i := 7) (oi := ⟨some 31, _, _, _, _, _⟩) (v := ?vrd8) rfl (by kernel_rfl) (by kernel_rfl) (by kernel_rfl) (fun _ _ _ h => h) (Or.inl ⟨by kernel_rfl, ?hyrd8⟩) (by assumption) ?restrd8
    case hyrd8 => (intro W hSw; have gq := HcF.out W hSw; (try dsimp only at hSw); go_simp; try with_reducible rfl)
    case' restrd8 => try simp only [Act.put, List.setIfInBounds_toArray, List.set_cons_zero, List.set_cons_succ]
    refine wpAnyH_take (i := 8) (oi := ⟨some 32, _, _, _, _, _⟩) (v := ?vrd9) rfl (by kernel_rfl) (by kernel_rfl) (by kernel_rfl) (fun _ _ _ h => h) (Or.inl ⟨by kernel_rfl, ?hyrd9⟩) (by assumption) ?restrd9
    case hyrd9 => (intro W hSw; (try dsimp only at hSw); go_simp; try with_reducible rfl)
    case' restrd9 => try simp only [Act.put, List.setIfInBounds_toArray, List.set_cons_zero, List.set_cons_succ]
    refine wpAnyH_take (i := 9) (oi := ⟨some 33, _, _, _, _, _⟩) (v := ?vrd10) rfl (by kernel_rfl) (by kernel_rfl) (by kernel_rfl) (fun _ _ _ h => h) (Or.inl ⟨by kernel_rfl, ?hyrd10⟩) (by assumption) ?restrd10
    case hyrd10 => (intro W hSw; (try dsimp only at hSw); go_simp; try with_reducible rfl)
    case' restrd10 => try simp only [Act.put, List.setIfInBounds_toArray, List.set_cons_zero, List.set_cons_succ]
    refine wpAnyH_take (i := 10) (oi := ⟨some 34, _, _, _, _, _⟩) (v := ?vrd11) rfl (by kernel_rfl) (by kernel_rfl) (by kernel_rfl) (fun _ _ _ h => h) (Or.inl ⟨by kernel_rfl, ?hyrd11⟩) (by assumption) ?restrd11
    case hyrd11 => (intro W hSw; have gq := HgF.out W hSw; (try dsimp only at hSw); go_simp; try with_reducible rfl)
    case' restrd11 => try simp only [Act.put, List.setIfInBounds_toArray, List.set_cons_zero, List.set_cons_succ]
    refine wpAnyH_ready (rs := [11]) (by kernel_rfl) (by simp) ?_
    refine AllReadyH.cons (o := ⟨some 35, _, _, _, _, _⟩) rfl (fun K hK => ?_) AllReadyH.nil
    go_simp
    go_at_call 38
    refine (CO.out wzrd hS5).mono ?_
    rintro e Wrd1 ⟨vO, rfl, hown, hbWrd1⟩
    have hSWrd1 := hS5.trans (hbWrd1.mono hS5.size)
    try clear hS5
    clear hbWrd1
    go_wp2_with fail
    refine hK.out _ _ hSWrd1 (fun hHeld => ?_)
    clear hK hHeld K
    try simp only [Act.put, List.setIfInBounds_toArray, List.set_cons_zero, List.set_cons_succ]
    refine wpAnyH_take (i := 12) (oi := ⟨some 6, _, _, _, _, _⟩) (v := ?vrd12) rfl (by kernel_rfl) (by kernel_rfl) (by kernel_rfl) (fun _ _ _ h => h) (Or.inl ⟨by kernel_rfl, ?hyrd12⟩) (by assumption) ?restrd12
    case hyrd12 => (intro W hSw; (try dsimp only at hSw); go_simp; try with_reducible rfl)
    case' restrd12 => try simp only [Act.put, List.setIfInBounds_toArray, List.set_cons_zero, List.set_cons_succ]
    refine wpAnyH_done (by kernel_rfl) ?_ _
    have hg5 := below_gr hSWrd1
    have HQ5 := Lib.hid (HSt.out.below hSWrd1)
    have HOW := Lib.hid hown
    obtain ⟨AO, cO, rfl⟩ := Own.slice hown
    have hg5b : wq.grownBy Wrd1 (some bs) := ⟨hg5.os, hg5.tape, hg5.output, hg5.size, fun k hk _ => hg5.block k hk (by simp)⟩
    clear hown hg5 hSWrd1 CO HcL HcF HgF
    generalize Wrd1 = w5 at *
    go_wp2_with fail
    go_loopw [7] (fun i wr => ∃ m oo, m ≤ OO.length ∧ i = .int .i64 (m : Nat) ∧ Hid ((OO.take m).foldl (tryS l lim (srch l lim fs) fs.length now) (some x) = oo) ∧ Hid (StQ bs vL (.slice (some ⟨bf, offf, none⟩) F.length cF) lim oo wr) ∧ Hid (leO lim oo) ∧ w5.grownBy wr (some bs)) (fun i _ => OO.length - (intOf i).toNat)
    case atStart => exact ⟨0, some x, Nat.zero_le _, rfl, Lib.hid rfl, HQ5, Lib.hid (fun z hz => by injection hz with hz; subst hz; exact hm0), World.grownBy.refl _ _⟩
    case round =>
      obtain ⟨m, oo, hm, rfl, HFM, HQ, HLE, hgw⟩ := hrel
      by_cases hlm : m < OO.length
      · obtain ⟨n1, hn1, hn1l⟩ := inB_nat (HOM.out m hlm)
        have HSU : Hid ((OO.take (m + 1)).foldl (tryS l lim (srch l lim fs) fs.length now) (some x) = tryS l lim (srch l lim fs) fs.length now oo (n1 : Int)) := Lib.hid (by rw [foldl_take_succ _ _ _ _ hlm, HFM.out, hn1])
        have HIN2 : Hid (inAll l (now ++ [(n1 : Int)])) := Lib.hid (inAll_iff.2 (fun z hz => by
          rcases List.mem_append.1 hz with hz | hz
          · exact inAll_iff.1 HIN.out z hz
          · rw [List.mem_singleton.1 hz]; exact inB_iff.2 ⟨by omega, by omega⟩))
        have hownr : OwnI 3 wr wq.heap.size (.slice AO OO.length cO) OO := World.ownsRow.kept HOW.out hgw (HOB.out _ _ _ HOW.out)
        obtain ⟨bo, offo, hAO, hbo, hco⟩ := RdI.get (Own.rd encI_len hownr) (Below.refl _ _) hlm
        subst hAO
        have hbne : bo ≠ bs := by
          intro e
          have := World.ownsRow.lt HOW.out bo rfl
          omega
        have HgO := Lib.hid (fun (W : World) (hW : SQ wr bs vL W) => ((World.cell?_of_block (w := wr) (a := ⟨bo, offo + m, none⟩) (hW.1.block bo hbo (by simpa using hbne))).trans hco : W.cell? ⟨bo, offo + m, none⟩ = _))
        rw [hn1] at HgO
        have hd2 : decide ((m : Int) < (OO.length : Int)) = true := decide_eq_true (by omega)
        have hd3 : decide (m < OO.length) = true := decide_eq_true hlm
        have hgr0 : w0.grownBy wr (some bs) := (hg0.trans hg5b).trans hgw
        have HFIT0 := Lib.hid (fun (W : World) (hW : SQ wr bs vL W) => ref_fits vL (.slice AN now.length cN) l now n1 W hl (by omega) hn1l HIN.out (HX.out W (hgr0.trans hW.1)).1 (HVN.out W ((hg5b.trans hgw).trans hW.1)))
        obtain ⟨q, hq⟩ : ∃ q, fitsB l now (n1 : Int) = q := ⟨_, rfl⟩
        rw [hq] at HFIT0
        have HFIT := HFIT0
        have hQ := HQ.out
        have hbsl := hQ.cell0.2.2
        have hS1 : (fun W : World => SQ wr bs vL W) wr.drew := SQ.drew ⟨World.grownBy.refl _ _, hbsl, hQ.cell0.1⟩
        replace hQ : StQ bs vL (.slice (some ⟨bf, offf, none⟩) F.length cF) lim oo wr.drew := hQ.below (Below.refl _ _).drew
        have HgO2 : Hid (∀ wb, w5.grownBy wb (some bs) → ∀ W, SQ wb bs vL W → W.cell? ⟨bo, offo + m, none⟩ = some (.int .i64 (n1 : Int))) := Lib.hid (fun wb hwb W hW => by
          have h1 : OwnI 3 wb wq.heap.size (.slice (some ⟨bo, offo, none⟩) OO.length cO) OO := World.ownsRow.kept HOW.out hwb (HOB.out _ _ _ HOW.out)
          obtain ⟨bo', offo', hAO, hbo', hco'⟩ := RdI.get (Own.rd encI_len h1) (Below.refl _ _) hlm
          injection hAO with hAO
          injection hAO with e1 e2
          subst e1; subst e2
          rw [hn1] at hco'
          exact (World.cell?_of_block (w := wb) (a := ⟨bo, offo + m, none⟩) (hW.1.block bo hbo' (by simpa using hbne))).trans hco')
        clear hownr hco hbo hn1 HFIT0
        cases q
        · have HF : Hid (Hid ((OO.take (m + 1)).foldl (tryS l lim (srch l lim fs) fs.length now) (some x) = oo)) := Lib.hid (Lib.hid (by
            rw [HSU.out]
            rcases oo with _ | z
            · rfl
            · exact try_hit hq))
          clear hq HgO2
          go_wp2_with fail
          refine wp_region_held_drew (S := (fun W : World => SQ wr bs vL W)) (by kernel_rfl) hS1 (fun hHeld => ?_)
          clear hHeld
          generalize wr.drew = wzra at *
          refine wpAnyH_take (i := 0) (oi := ⟨some 42, _, _, _, _, _⟩) (v := ?vra1) rfl (by kernel_rfl) (by kernel_rfl) (by kernel_rfl) (fun _ _ _ h => h) (Or.inl ⟨by kernel_rfl, ?hyra1⟩) (by assumption) ?restra1
          case hyra1 => (intro W hSw; (try dsimp only at hSw); go_simp; try with_reducible rfl)
          case' restra1 => try simp only [Act.put, List.setIfInBounds_toArray, List.set_cons_zero, List.set_cons_succ]
          refine wpAnyH_take (i := 1) (oi := ⟨some 43, _, _, _, _, _⟩) (v := ?vra2) rfl (by kernel_rfl) (by kernel_rfl) (by kernel_rfl) (fun _ _ _ h => h) (Or.inl ⟨by kernel_rfl, ?hyra2⟩) (by assumption) ?restra2
          case hyra2 => (intro W hSw; (try dsimp only at hSw); go_simp; try with_reducible rfl)
          case' restra2 => try simp only [Act.put, List.setIfInBounds_toArray, List.set_cons_zero, List.set_cons_succ]
          refine wpAnyH_take (i := 2) (oi := ⟨some 44, _, _, _, _, _⟩) (v := ?vra3) rfl (by kernel_rfl) (by kernel_rfl) (by kernel_rfl) (fun _ _ _ h => h) (Or.inl ⟨by kernel_rfl, ?hyra3⟩) (by assumption) ?restra3
          case hyra3 => (intro W hSw; (try dsimp only at hSw); go_simp; try with_reducible rfl)
          case' restra3 => try simp only [Act.put, List.setIfInBounds_toArray, List.set_cons_zero, List.set_cons_succ]
          refine wpAnyH_take (i := 3) (oi := ⟨some 45, _, _, _, _, _⟩) (v := ?vra4) rfl (by kernel_rfl) (by kernel_rfl) (by kernel_rfl) (fun _ _ _ h => h) (Or.inl ⟨by kernel_rfl, ?hyra4⟩) (by assumption) ?restra4
          case hyra4 => (intro W hSw; have gq := hSw.2.2; (try dsimp only at hSw); go_simp; try with_reducible rfl)
          case' restra4 => try simp only [Act.put, List.setIfInBounds_toArray, List.set_cons_zero, List.set_cons_succ]
          refine wpAnyH_take (i := 4) (oi := ⟨some 46, _, _, _, _, _⟩) (v := ?vra5) rfl (by kernel_rfl) (by kernel_rfl) (by kernel_rfl) (fun _ _ _ h => h) (Or.inl ⟨by kernel_rfl, ?hyra5⟩) (by assumption) ?restra5
          case hyra5 => (intro W hSw; (try dsimp only at hSw); go_simp; try with_reducible rfl)
          case' restra5 => try simp only [Act.put, List.setIfInBounds_toArray, List.set_cons_zero, List.set_cons_succ]
          refine wpAnyH_take (i := 5) (oi := ⟨some 47, _, _, _, _, _⟩) (v := ?vra6) rfl (by kernel_rfl) (by kernel_rfl) (by kernel_rfl) (fun _ _ _ h => h) (Or.inl ⟨by kernel_rfl, ?hyra6⟩) (by assumption) ?restra6
          case hyra6 => (intro W hSw; (try dsimp only at hSw); go_simp; try with_reducible rfl)
          case' restra6 => try simp only [Act.put, List.setIfInBounds_toArray, List.set_cons_zero, List.set_cons_succ]
          refine wpAnyH_take (i := 6) (oi := ⟨some 48, _, _, _, _, _⟩) (v := ?vra7) rfl (by kernel_rfl) (by kernel_rfl) (by kernel_rfl) (fun _ _ _ h => h) (Or.inl ⟨by kernel_rfl, ?hyra7⟩) (by assumption) ?restra7
          case hyra7 => (intro W hSw; (try dsimp only at hSw); go_simp; try with_reducible rfl)
          case' restra7 => try simp only [Act.put, List.setIfInBounds_toArray, List.set_cons_zero, List.set_cons_succ]
          refine wpAnyH_take (i := 7) (oi := ⟨some 49, _, _, _, _, _⟩) (v := ?vra8) rfl (by kernel_rfl) (by kernel_rfl) (by kernel_rfl) (fun _ _ _ h => h) (Or.inl ⟨by kernel_rfl, ?hyra8⟩) (by assumption) ?restra8
          case hyra8 => (intro W hSw; (try dsimp only at hSw); go_simp; try with_reducible rfl)
          case' restra8 => try simp only [Act.put, List.setIfInBounds_toArray, List.set_cons_zero, List.set_cons_succ]
          refine wpAnyH_take (i := 8) (oi := ⟨some 50, _, _, _, _, _⟩) (v := ?vra9) rfl (by kernel_rfl) (by kernel_rfl) (by kernel_rfl) (fun _ _ _ h => h) (Or.inl ⟨by kernel_rfl, ?hyra9⟩) (by assumption) ?restra9
          case hyra9 => (intro W hSw; have gq := HgO.out W hSw; (try dsimp only at hSw); go_simp; try with_reducible rfl)
          case' restra9 => try simp only [Act.put, List.setIfInBounds_toArray, List.set_cons_zero, List.set_cons_succ]
          refine wpAnyH_ready (rs := [9]) (by kernel_rfl) (by simp) ?_
          refine AllReadyH.cons (o := ⟨some 51, _, _, _, _, _⟩) rfl (fun K hK => ?_) AllReadyH.nil
          go_simp
          go_at_call 39
          refine (HFIT.out wzra hS1).mono ?_
          rintro e Wra1 ⟨rfl, hbWra1⟩
          replace hQ := hQ.below hbWra1
          have hSWra1 := hS1.trans (hbWra1.mono hS1.size)
          try clear hS1
          clear hbWra1
          go_wp2_with fail
          refine hK.out _ _ hSWra1 (fun hHeld => ?_)
          clear hK hHeld K
          try simp only [Act.put, List.setIfInBounds_toArray, List.set_cons_zero, List.set_cons_succ]
          refine wpAnyH_take (i := 10) (oi := ⟨some 52, _, _, _, _, _⟩) (v := ?vra10) rfl (by kernel_rfl) (by kernel_rfl) (by kernel_rfl) (fun _ _ _ h => h) (Or.inl ⟨by kernel_rfl, ?hyra10⟩) (by assumption) ?restra10
          case hyra10 => (intro W hSw; (try dsimp only at hSw); go_simp; try with_reducible rfl)
          case' restra10 => try simp only [Act.put, List.setIfInBounds_toArray, List.set_cons_zero, List.set_cons_succ]
          refine wpAnyH_take (i := 11) (oi := ⟨some 53, _, _, _, _, _⟩) (v := undef) rfl (by kernel_rfl) (by kernel_rfl) (by kernel_rfl) (fun _ _ _ h => h) (Or.inr ⟨by kernel_rfl, rfl⟩) (by assumption) ?restra11
          case' restra11 => try simp only [Act.put, List.setIfInBounds_toArray, List.set_cons_zero, List.set_cons_succ]
          refine wpAnyH_take (i := 12) (oi := ⟨some 54, _, _, _, _, _⟩) (v := undef) rfl (by kernel_rfl) (by kernel_rfl) (by kernel_rfl) (fun _ _ _ h => h) (Or.inr ⟨by kernel_rfl, rfl⟩) (by assumption) ?restra12
          case' restra12 => try simp only [Act.put, List.setIfInBounds_toArray, List.set_cons_zero, List.set_cons_succ]
          refine wpAnyH_take (i := 13) (oi := ⟨some 55, _, _, _, _, _⟩) (v := undef) rfl (by kernel_rfl) (by kernel_rfl) (by kernel_rfl) (fun _ _ _ h => h) (Or.inr ⟨by kernel_rfl, rfl⟩) (by assumption) ?restra13
          case' restra13 => try simp only [Act.put, List.setIfInBounds_toArray, List.set_cons_zero, List.set_cons_succ]
          refine wpAnyH_take (i := 14) (oi := ⟨some 56, _, _, _, _, _⟩) (v := undef) rfl (by kernel_rfl) (by kernel_rfl) (by kernel_rfl) (fun _ _ _ h => h) (Or.inr ⟨by kernel_rfl, rfl⟩) (by assumption) ?restra14
          case' restra14 => try simp only [Act.put, List.setIfInBounds_toArray, List.set_cons_zero, List.set_cons_succ]
          refine wpAnyH_take (i := 15) (oi := ⟨some 57, _, _, _, _, _⟩) (v := undef) rfl (by kernel_rfl) (by kernel_rfl) (by kernel_rfl) (fun _ _ _ h => h) (Or.inr ⟨by kernel_rfl, rfl⟩) (by assumption) ?restra15
          case' restra15 => try simp only [Act.put, List.setIfInBounds_toArray, List.set_cons_zero, List.set_cons_succ]
          refine wpAnyH_take (i := 16) (oi := ⟨some 58, _, _, _, _, _⟩) (v := undef) rfl (by kernel_rfl) (by kernel_rfl) (by kernel_rfl) (fun _ _ _ h => h) (Or.inr ⟨by kernel_rfl, rfl⟩) (by assumption) ?restra16
          case' restra16 => try simp only [Act.put, List.setIfInBounds_toArray, List.set_cons_zero, List.set_cons_succ]
          refine wpAnyH_take (i := 17) (oi := ⟨some 59, _, _, _, _, _⟩) (v := ?vra17) rfl (by kernel_rfl) (by kernel_rfl) (by kernel_rfl) (fun _ _ _ h => h) (Or.inl ⟨by kernel_rfl, ?hyra17⟩) (by assumption) ?restra17
          case hyra17 => (intro W hSw; (try dsimp only at hSw); go_simp; try with_reducible rfl)
          case' restra17 => try simp only [Act.put, List.setIfInBounds_toArray, List.set_cons_zero, List.set_cons_succ]
          refine wpAnyH_done (by kernel_rfl) ?_ _
          have HQ1 := Lib.hid hQ
          have hg1 := hSWra1.1
          clear hQ hSWra1
          go_wp2
          go_roundw
          case rel => exact ⟨m + 1, oo, by omega, by go_num, HF.out, HQ1, HLE, hgw.trans hg1⟩
          case measure => simp [intOf]; omega
        · obtain ⟨b1, o2, hbo2⟩ : ∃ b1 o2, stepRes lim (now.length + 1 + fs.length) oo = (b1, o2) := ⟨_, _, rfl⟩
          have HTS := Lib.hid (try_step (l := l) (g := srch l lim fs) hq hbo2)
          have HLE2 : Hid (leO lim o2) := Lib.hid (by have := stepRes_le (m := now.length + 1 + fs.length) HLE.out; rw [hbo2] at this; exact this)
          have HY : Hid (b1 = true → ∃ y, o2 = some y ∧ y.made ≤ lim) := Lib.hid (fun hb => by have := stepRes_true (lim := lim) (m := now.length + 1 + fs.length) (o := oo) (by rw [hbo2]; exact hb); rw [hbo2] at this; exact this)
          have HSTEP : Hid (∀ W, StQ bs vL (.slice (some ⟨bf, offf, none⟩) F.length cF) lim oo W → Calls Try.prog 57 #[.pointer (some ⟨bs, 0, none⟩), .int .i64 (k : Int), .int .i64 ((now.length : Int) + 1)] W (StepQ bs vL (.slice (some ⟨bf, offf, none⟩) F.length cF) lim W b1 o2)) := Lib.hid (fun W hW => by
            have := step57 k (now.length + 1) W hF hlt (by omega) hlim HLE.out hW
            rw [show F.length - k - 1 = fs.length by have := HFL.out; omega, hbo2] at this
            exact this)
          have hwrap : IntKind.i64.wrap ((now.length : Int) + 1) = (now.length : Int) + 1 := IntWalk.i64_in _ (by omega)
          clear hq hbo2
          go_wp2_with fail
          refine wp_region_held_drew (S := (fun W : World => SQ wr bs vL W)) (by kernel_rfl) hS1 (fun hHeld => ?_)
          clear hHeld
          generalize wr.drew = wzrb at *
          refine wpAnyH_take (i := 0) (oi := ⟨some 42, _, _, _, _, _⟩) (v := ?vrb1) rfl (by kernel_rfl) (by kernel_rfl) (by kernel_rfl) (fun _ _ _ h => h) (Or.inl ⟨by kernel_rfl, ?hyrb1⟩) (by assumption) ?restrb1
          case hyrb1 => (intro W hSw; (try dsimp only at hSw); go_simp; try with_reducible rfl)
          case' restrb1 => try simp only [Act.put, List.setIfInBounds_toArray, List.set_cons_zero, List.set_cons_succ]
          refine wpAnyH_take (i := 1) (oi := ⟨some 43, _, _, _, _, _⟩) (v := ?vrb2) rfl (by kernel_rfl) (by kernel_rfl) (by kernel_rfl) (fun _ _ _ h => h) (Or.inl ⟨by kernel_rfl, ?hyrb2⟩) (by assumption) ?restrb2
          case hyrb2 => (intro W hSw; (try dsimp only at hSw); go_simp; try with_reducible rfl)
          case' restrb2 => try simp only [Act.put, List.setIfInBounds_toArray, List.set_cons_zero, List.set_cons_succ]
          refine wpAnyH_take (i := 2) (oi := ⟨some 44, _, _, _, _, _⟩) (v := ?vrb3) rfl (by kernel_rfl) (by kernel_rfl) (by kernel_rfl) (fun _ _ _ h => h) (Or.inl ⟨by kernel_rfl, ?hyrb3⟩) (by assumption) ?restrb3
          case hyrb3 => (intro W hSw; (try dsimp only at hSw); go_simp; try with_reducible rfl)
          case' restrb3 => try simp only [Act.put, List.setIfInBounds_toArray, List.set_cons_zero, List.set_cons_succ]
          refine wpAnyH_take (i := 3) (oi := ⟨some 45, _, _, _, _, _⟩) (v := ?vrb4) rfl (by kernel_rfl) (by kernel_rfl) (by kernel_rfl) (fun _ _ _ h => h) (Or.inl ⟨by kernel_rfl, ?hyrb4⟩) (by assumption) ?restrb4
          case hyrb4 => (intro W hSw; have gq := hSw.2.2; (try dsimp only at hSw); go_simp; try with_reducible rfl)
          case' restrb4 => try simp only [Act.put, List.setIfInBounds_toArray, List.set_cons_zero, List.set_cons_succ]
          refine wpAnyH_take (i := 4) (oi := ⟨some 46, _, _, _, _, _⟩) (v := ?vrb5) rfl (by kernel_rfl) (by kernel_rfl) (by kernel_rfl) (fun _ _ _ h => h) (Or.inl ⟨by kernel_rfl, ?hyrb5⟩) (by assumption) ?restrb5
          case hyrb5 => (intro W hSw; (try dsimp only at hSw); go_simp; try with_reducible rfl)
          case' restrb5 => try simp only [Act.put, List.setIfInBounds_toArray, List.set_cons_zero, List.set_cons_succ]
          refine wpAnyH_take (i := 5) (oi := ⟨some 47, _, _, _, _, _⟩) (v := ?vrb6) rfl (by kernel_rfl) (by kernel_rfl) (by kernel_rfl) (fun _ _ _ h => h) (Or.inl ⟨by kernel_rfl, ?hyrb6⟩) (by assumption) ?restrb6
          case hyrb6 => (intro W hSw; (try dsimp only at hSw); go_simp; try with_reducible rfl)
          case' restrb6 => try simp only [Act.put, List.setIfInBounds_toArray, List.set_cons_zero, List.set_cons_succ]
          refine wpAnyH_take (i := 6) (oi := ⟨some 48, _, _, _, _, _⟩) (v := ?vrb7) rfl (by kernel_rfl) (by kernel_rfl) (by kernel_rfl) (fun _ _ _ h => h) (Or.inl ⟨by kernel_rfl, ?hyrb7⟩) (by assumption) ?restrb7
          case hyrb7 => (intro W hSw; (try dsimp only at hSw); go_simp; try with_reducible rfl)
          case' restrb7 => try simp only [Act.put, List.setIfInBounds_toArray, List.set_cons_zero, List.set_cons_succ]
          refine wpAnyH_take (i := 7) (oi := ⟨some 49, _, _, _, _, _⟩) (v := ?vrb8) rfl (by kernel_rfl) (by kernel_rfl) (by kernel_rfl) (fun _ _ _ h => h) (Or.inl ⟨by kernel_rfl, ?hyrb8⟩) (by assumption) ?restrb8
          case hyrb8 => (intro W hSw; (try dsimp only at hSw); go_simp; try with_reducible rfl)
          case' restrb8 => try simp only [Act.put, List.setIfInBounds_toArray, List.set_cons_zero, List.set_cons_succ]
          refine wpAnyH_take (i := 8) (oi := ⟨some 50, _, _, _, _, _⟩) (v := ?vrb9) rfl (by kernel_rfl) (by kernel_rfl) (by kernel_rfl) (fun _ _ _ h => h) (Or.inl ⟨by kernel_rfl, ?hyrb9⟩) (by assumption) ?restrb9
          case hyrb9 => (intro W hSw; have gq := HgO.out W hSw; (try dsimp only at hSw); go_simp; try with_reducible rfl)
          case' restrb9 => try simp only [Act.put, List.setIfInBounds_toArray, List.set_cons_zero, List.set_cons_succ]
          refine wpAnyH_ready (rs := [9]) (by kernel_rfl) (by simp) ?_
          refine AllReadyH.cons (o := ⟨some 51, _, _, _, _, _⟩) rfl (fun K hK => ?_) AllReadyH.nil
          go_simp
          go_at_call 39
          refine (HFIT.out wzrb hS1).mono ?_
          rintro e Wrb1 ⟨rfl, hbWrb1⟩
          replace hQ := hQ.below hbWrb1
          have hSWrb1 := hS1.trans (hbWrb1.mono hS1.size)
          try clear hS1
          clear hbWrb1
          go_wp2_with fail
          refine hK.out _ _ hSWrb1 (fun hHeld => ?_)
          clear hK hHeld K
          try simp only [Act.put, List.setIfInBounds_toArray, List.set_cons_zero, List.set_cons_succ]
          refine wpAnyH_take (i := 10) (oi := ⟨some 52, _, _, _, _, _⟩) (v := ?vrb10) rfl (by kernel_rfl) (by kernel_rfl) (by kernel_rfl) (fun _ _ _ h => h) (Or.inl ⟨by kernel_rfl, ?hyrb10⟩) (by assumption) ?restrb10
          case hyrb10 => (intro W hSw; (try dsimp only at hSw); go_simp; try with_reducible rfl)
          case' restrb10 => try simp only [Act.put, List.setIfInBounds_toArray, List.set_cons_zero, List.set_cons_succ]
          refine wpAnyH_take (i := 11) (oi := ⟨some 53, _, _, _, _, _⟩) (v := ?vrb11) rfl (by kernel_rfl) (by kernel_rfl) (by kernel_rfl) (fun _ _ _ h => h) (Or.inl ⟨by kernel_rfl, ?hyrb11⟩) (by assumption) ?restrb11
          case hyrb11 => (intro W hSw; (try dsimp only at hSw); go_simp; try with_reducible rfl)
          case' restrb11 => try simp only [Act.put, List.setIfInBounds_toArray, List.set_cons_zero, List.set_cons_succ]
          refine wpAnyH_take (i := 12) (oi := ⟨some 54, _, _, _, _, _⟩) (v := ?vrb12) rfl (by kernel_rfl) (by kernel_rfl) (by kernel_rfl) (fun _ _ _ h => h) (Or.inl ⟨by kernel_rfl, ?hyrb12⟩) (by assumption) ?restrb12
          case hyrb12 => (intro W hSw; (try dsimp only at hSw); go_simp; try with_reducible rfl)
          case' restrb12 => try simp only [Act.put, List.setIfInBounds_toArray, List.set_cons_zero, List.set_cons_succ]
          refine wpAnyH_take (i := 13) (oi := ⟨some 55, _, _, _, _, _⟩) (v := ?vrb13) rfl (by kernel_rfl) (by kernel_rfl) (by kernel_rfl) (fun _ _ _ h => h) (Or.inl ⟨by kernel_rfl, ?hyrb13⟩) (by assumption) ?restrb13
          case hyrb13 => (intro W hSw; (try dsimp only at hSw); go_simp; try with_reducible rfl)
          case' restrb13 => try simp only [Act.put, List.setIfInBounds_toArray, List.set_cons_zero, List.set_cons_succ]
          refine wpAnyH_take (i := 14) (oi := ⟨some 56, _, _, _, _, _⟩) (v := ?vrb14) rfl (by kernel_rfl) (by kernel_rfl) (by kernel_rfl) (fun _ _ _ h => h) (Or.inl ⟨by kernel_rfl, ?hyrb14⟩) (by assumption) ?restrb14
          case hyrb14 => (intro W hSw; (try dsimp only at hSw); go_simp; try with_reducible rfl)
          case' restrb14 => try simp only [Act.put, List.setIfInBounds_toArray, List.set_cons_zero, List.set_cons_succ]
          refine wpAnyH_take (i := 15) (oi := ⟨some 57, _, _, _, _, _⟩) (v := ?vrb15) rfl (by kernel_rfl) (by kernel_rfl) (by kernel_rfl) (fun _ _ _ h => h) (Or.inl ⟨by kernel_rfl, ?hyrb15⟩) (by assumption) ?restrb15
          case hyrb15 => (intro W hSw; (try dsimp only at hSw); go_simp; try with_reducible rfl)
          case' restrb15 => try simp only [Act.put, List.setIfInBounds_toArray, List.set_cons_zero, List.set_cons_succ]
          refine wpAnyH_ready (rs := [16]) (by kernel_rfl) (by simp) ?_
          refine AllReadyH.cons (o := ⟨some 58, _, _, _, _, _⟩) rfl (fun K hK => ?_) AllReadyH.nil
          go_simp
          go_at_call 57
          refine (HSTEP.out Wrb1 hQ).mono ?_
          rintro e Wrb2 ⟨rfl, hgWrb2, hQWrb2⟩
          have hSWrb2 := hSWrb1.step hgWrb2 hQWrb2
          clear hQ hgWrb2 hSWrb1
          have hQ := hQWrb2
          clear hQWrb2
          go_wp2_with fail
          refine hK.out _ _ hSWrb2 (fun hHeld => ?_)
          clear hK hHeld K
          try simp only [Act.put, List.setIfInBounds_toArray, List.set_cons_zero, List.set_cons_succ]
          refine wpAnyH_take (i := 17) (oi := ⟨some 59, _, _, _, _, _⟩) (v := ?vrb16) rfl (by kernel_rfl) (by kernel_rfl) (by kernel_rfl) (fun _ _ _ h => h) (Or.inl ⟨by kernel_rfl, ?hyrb16⟩) (by assumption) ?restrb16
          case hyrb16 => (intro W hSw; (try dsimp only at hSw); go_simp; try with_reducible rfl)
          case' restrb16 => try simp only [Act.put, List.setIfInBounds_toArray, List.set_cons_zero, List.set_cons_succ]
          refine wpAnyH_done (by kernel_rfl) ?_ _
          have HQ1 := Lib.hid hQ
          have hg1 := hSWrb2.1
          have hgw1 := hgw.trans hg1
          clear hQ hSWrb2 hg1 HSTEP HFIT
          cases b1
          · go_wp2
            go_roundw
            case rel => exact ⟨m + 1, o2, by omega, by go_num, by rw [HSU.out, HTS.out]; rfl, HQ1, HLE2, hgw1⟩
            case measure => simp [intOf]; omega
          · obtain ⟨y, hy, hyl⟩ := HY.out rfl
            subst hy
            generalize Wrb2 = wb at *
            have HQW := Lib.hid (fun (W : World) (hW : BW wb W) => HQ1.out.below hW)
            have HVW := Lib.hid (fun (W : World) (hW : BW wb W) => (HVN.out wb (hg5b.trans hgw1)).below hW)
            have HG0 := Lib.hid (fun (W : World) (hW : wb.grownBy W (some bs)) => ((hg0.trans hg5b).trans hgw1).trans hW)
            have hbl8 := HQ1.out.cell0.2.2
            have HOFF : Hid (∀ (W : World) (v : Value) (ys : List Int), OwnI 3 W wb.heap.size v ys → Off bs v) := Lib.hid (fun W v ys h e => by
              have := (World.ownsRow.lt h bs e).1
              omega)
            have HgO3 := HgO2
            replace HgO2 := Lib.hid (HgO3.out wb hgw1)
            have hS8 : (fun W : World => SQ wb bs vL W) wb.drew := SQ.drew ⟨World.grownBy.refl _ _, hbl8, HQ1.out.cell0.1⟩
            have hBW : BW wb wb.drew := (Below.refl _ _).drew
            clear hgw HgO3
            have hwrap2 : IntKind.i64.wrap ((k : Int) + 1) = (k : Int) + 1 := IntWalk.i64_in _ (by omega)
            go_wp2_with fail
            refine wp_region_held_drew (S := (fun W : World => SQ wb bs vL W)) (by kernel_rfl) hS8 (fun hHeld => ?_)
            clear hHeld
            generalize wb.drew = wzrc at *
            refine wpAnyH_take (i := 0) (oi := ⟨some 60, _, _, _, _, _⟩) (v := ?vrc1) rfl (by kernel_rfl) (by kernel_rfl) (by kernel_rfl) (fun _ _ _ h => h) (Or.inl ⟨by kernel_rfl, ?hyrc1⟩) (by assumption) ?restrc1
            case hyrc1 => (intro W hSw; (try dsimp only at hSw); go_simp; try with_reducible rfl)
            case' restrc1 => try simp only [Act.put, List.setIfInBounds_toArray, List.set_cons_zero, List.set_cons_succ]
            refine wpAnyH_take (i := 1) (oi := ⟨some 61, _, _, _, _, _⟩) (v := ?vrc2) rfl (by kernel_rfl) (by kernel_rfl) (by kernel_rfl) (fun _ _ _ h => h) (Or.inl ⟨by kernel_rfl, ?hyrc2⟩) (by assumption) ?restrc2
            case hyrc2 => (intro W hSw; (try dsimp only at hSw); go_simp; try with_reducible rfl)
            case' restrc2 => try simp only [Act.put, List.setIfInBounds_toArray, List.set_cons_zero, List.set_cons_succ]
            refine wpAnyH_take (i := 2) (oi := ⟨some 62, _, _, _, _, _⟩) (v := ?vrc3) rfl (by kernel_rfl) (by kernel_rfl) (by kernel_rfl) (fun _ _ _ h => h) (Or.inl ⟨by kernel_rfl, ?hyrc3⟩) (by assumption) ?restrc3
            case hyrc3 => (intro W hSw; (try dsimp only at hSw); go_simp; try with_reducible rfl)
            case' restrc3 => try simp only [Act.put, List.setIfInBounds_toArray, List.set_cons_zero, List.set_cons_succ]
            refine wpAnyH_take (i := 4) (oi := ⟨some 64, _, _, _, _, _⟩) (v := ?vrc4) rfl (by kernel_rfl) (by kernel_rfl) (by kernel_rfl) (fun _ _ _ h => h) (Or.inl ⟨by kernel_rfl, ?hyrc4⟩) (by assumption) ?restrc4
            case hyrc4 => (intro W hSw; (try dsimp only at hSw); go_simp; try with_reducible rfl)
            case' restrc4 => try simp only [Act.put, List.setIfInBounds_toArray, List.set_cons_zero, List.set_cons_succ]
            refine wpAnyH_take (i := 6) (oi := ⟨some 66, _, _, _, _, _⟩) (v := ?vrc5) rfl (by kernel_rfl) (by kernel_rfl) (by kernel_rfl) (fun _ _ _ h => h) (Or.inl ⟨by kernel_rfl, ?hyrc5⟩) (by assumption) ?restrc5
            case hyrc5 => (intro W hSw; (try dsimp only at hSw); go_simp; try with_reducible rfl)
            case' restrc5 => try simp only [Act.put, List.setIfInBounds_toArray, List.set_cons_zero, List.set_cons_succ]
            refine wpAnyH_take (i := 7) (oi := ⟨some 67, _, _, _, _, _⟩) (v := ?vrc6) rfl (by kernel_rfl) (by kernel_rfl) (by kernel_rfl) (fun _ _ _ h => h) (Or.inl ⟨by kernel_rfl, ?hyrc6⟩) (by assumption) ?restrc6
            case hyrc6 => (intro W hSw; (try dsimp only at hSw); go_simp; try with_reducible rfl)
            case' restrc6 => try simp only [Act.put, List.setIfInBounds_toArray, List.set_cons_zero, List.set_cons_succ]
            refine wpAnyH_take (i := 8) (oi := ⟨some 68, _, _, _, _, _⟩) (v := ?vrc7) rfl (by kernel_rfl) (by kernel_rfl) (by kernel_rfl) (fun _ _ _ h => h) (Or.inl ⟨by kernel_rfl, ?hyrc7⟩) (by assumption) ?restrc7
            case hyrc7 => (intro W hSw; (try dsimp only at hSw); go_simp; try with_reducible rfl)
            case' restrc7 => try simp only [Act.put, List.setIfInBounds_toArray, List.set_cons_zero, List.set_cons_succ]
            refine wpAnyH_take (i := 9) (oi := ⟨some 69, _, _, _, _, _⟩) (v := ?vrc8) rfl (by kernel_rfl) (by kernel_rfl) (by kernel_rfl) (fun _ _ _ h => h) (Or.inl ⟨by kernel_rfl, ?hyrc8⟩) (by assumption) ?restrc8
            case hyrc8 => (intro W hSw; have gq := HgO2.out W hSw; (try dsimp only at hSw); go_simp; try with_reducible rfl)
            case' restrc8 => try simp only [Act.put, List.setIfInBounds_toArray, List.set_cons_zero, List.set_cons_succ]
            refine' wpAnyH_share (fun H f l (act : Value → Value → Value → Act) => ∀ (v63 : Value) (v65 : Value) (v70 : Value) (WX : World), BW wb WX → Any1 WX v63 → Row0 wb.heap.size now WX v65 → One WX v70 (n1 : Int) → (fun W : World => SQ wb bs vL W) WX → H f l (act v63 v65 v70) WX) (fun tailrc10 => ?mtailrc10) ?ttailrc10
            case mtailrc10 =>
              refine' wpAnyH_share (fun H f l (act : Value → Value → Act) => ∀ (v63 : Value) (v70 : Value) (WX : World), BW wb WX → Emp wb.heap.size WX v63 → One WX v70 (n1 : Int) → (fun W : World => SQ wb bs vL W) WX → H f l (act v63 v70) WX) (fun tailrc9 => ?mtailrc9) ?ttailrc9
              case mtailrc9 =>
                refine wpAnyH_ready (rs := [3, 10]) (by kernel_rfl) (by simp) ?_
                refine AllReadyH.cons (o := ⟨some 63, _, _, _, _, _⟩) rfl (fun K hK => ?_) ?_
                · skip
                  go_simp
                  replace hBW := hBW.alloc (.cells #[] 3)
                  have hE := Emp.made (B0 := wb.heap.size) wzrc hS8.size
                  have hSWrc1 := hS8.alloc hS8.size (.cells #[] 3)
                  refine hK.out _ _ hSWrc1 (fun hHeld => ?_)
                  clear hK hHeld K
                  try clear hS8
                  try simp only [Act.put, List.setIfInBounds_toArray, List.set_cons_zero, List.set_cons_succ]
                  generalize (wzrc.alloc (.cells #[] 3)) = Wrc1 at hBW hE hSWrc1 ⊢
                  generalize Value.slice (some ⟨wzrc.heap.size, 0, none⟩) 0 0 = v63 at hE ⊢
                  refine wpAnyH_ready (rs := [5, 10]) (by kernel_rfl) (by simp) ?_
                  refine AllReadyH.cons (o := ⟨some 65, _, _, _, _, _⟩) rfl (fun K hK => ?_) ?_
                  · skip
                    refine app0 hE (HVW.out Wrc1 hBW) rfl _ _ rfl rfl rfl (by omega) hSWrc1.size ?_
                    intro v65 Wrc2 hC hbWrc2 hkp
                    have hSWrc2 := hSWrc1.trans hbWrc2
                    clear hSWrc1 hE
                    replace hBW : BW wb Wrc2 := Below.trans hBW hbWrc2
                    clear hbWrc2 hkp
                    have hE : Any1 Wrc2 v63 := trivial
                    refine hK.out _ _ hSWrc2 (fun hHeld => ?_)
                    clear hK hHeld K
                    try simp only [Act.put, List.setIfInBounds_toArray, List.set_cons_zero, List.set_cons_succ]
                    refine wpAnyH_ready (rs := [10]) (by kernel_rfl) (by simp) ?_
                    refine AllReadyH.cons (o := ⟨some 70, _, _, _, _, _⟩) rfl (fun K hK => ?_) AllReadyH.nil
                    go_simp
                    replace hBW := hBW.alloc (.cells #[.int .i64 (n1 : Int)] 3)
                    replace hE := hE.alloc (.cells #[.int .i64 (n1 : Int)] 3)
                    replace hC := hC.alloc (.cells #[.int .i64 (n1 : Int)] 3)
                    have hO1 := One.made Wrc2 (n1 : Int)
                    have hSWrc3 := hSWrc2.alloc hSWrc2.size (.cells #[.int .i64 (n1 : Int)] 3)
                    refine hK.out _ _ hSWrc3 (fun hHeld => ?_)
                    clear hK hHeld K
                    try clear hSWrc2
                    try simp only [Act.put, List.setIfInBounds_toArray, List.set_cons_zero, List.set_cons_succ]
                    generalize (Wrc2.alloc (.cells #[.int .i64 (n1 : Int)] 3)) = Wrc3 at hBW hE hC hO1 hSWrc3 ⊢
                    generalize Value.slice (some ⟨Wrc2.heap.size, 0, none⟩) 1 1 = v70 at hO1 ⊢
                    exact wpAnyH_cast rfl rfl (tailrc10 v63 v65 v70 Wrc3 hBW hE hC hO1 hSWrc3)
                  refine AllReadyH.cons (o := ⟨some 70, _, _, _, _, _⟩) rfl (fun K hK => ?_) AllReadyH.nil
                  go_simp
                  replace hBW := hBW.alloc (.cells #[.int .i64 (n1 : Int)] 3)
                  replace hE := hE.alloc (.cells #[.int .i64 (n1 : Int)] 3)
                  have hO1 := One.made Wrc1 (n1 : Int)
                  have hSWrc4 := hSWrc1.alloc hSWrc1.size (.cells #[.int .i64 (n1 : Int)] 3)
                  refine hK.out _ _ hSWrc4 (fun hHeld => ?_)
                  clear hK hHeld K
                  try clear hSWrc1
                  try simp only [Act.put, List.setIfInBounds_toArray, List.set_cons_zero, List.set_cons_succ]
                  generalize (Wrc1.alloc (.cells #[.int .i64 (n1 : Int)] 3)) = Wrc4 at hBW hE hO1 hSWrc4 ⊢
                  generalize Value.slice (some ⟨Wrc1.heap.size, 0, none⟩) 1 1 = v70 at hO1 ⊢
                  exact wpAnyH_cast rfl rfl (tailrc9 v63 v70 Wrc4 hBW hE hO1 hSWrc4)
                refine AllReadyH.cons (o := ⟨some 70, _, _, _, _, _⟩) rfl (fun K hK => ?_) AllReadyH.nil
                go_simp
                replace hBW := hBW.alloc (.cells #[.int .i64 (n1 : Int)] 3)
                have hO1 := One.made wzrc (n1 : Int)
                have hSWrc5 := hS8.alloc hS8.size (.cells #[.int .i64 (n1 : Int)] 3)
                refine hK.out _ _ hSWrc5 (fun hHeld => ?_)
                clear hK hHeld K
                try clear hS8
                try simp only [Act.put, List.setIfInBounds_toArray, List.set_cons_zero, List.set_cons_succ]
                generalize (wzrc.alloc (.cells #[.int .i64 (n1 : Int)] 3)) = Wrc5 at hBW hO1 hSWrc5 ⊢
                generalize Value.slice (some ⟨wzrc.heap.size, 0, none⟩) 1 1 = v70 at hO1 ⊢
                refine wpAnyH_ready (rs := [3]) (by kernel_rfl) (by simp) ?_
                refine AllReadyH.cons (o := ⟨some 63, _, _, _, _, _⟩) rfl (fun K hK => ?_) AllReadyH.nil
                go_simp
                replace hBW := hBW.alloc (.cells #[] 3)
                replace hO1 := hO1.alloc (.cells #[] 3)
                have hE := Emp.made (B0 := wb.heap.size) Wrc5 hSWrc5.size
                have hSWrc6 := hSWrc5.alloc hSWrc5.size (.cells #[] 3)
                refine hK.out _ _ hSWrc6 (fun hHeld => ?_)
                clear hK hHeld K
                try clear hSWrc5
                try simp only [Act.put, List.setIfInBounds_toArray, List.set_cons_zero, List.set_cons_succ]
                generalize (Wrc5.alloc (.cells #[] 3)) = Wrc6 at hBW hO1 hE hSWrc6 ⊢
                generalize Value.slice (some ⟨Wrc5.heap.size, 0, none⟩) 0 0 = v63 at hE ⊢
                exact wpAnyH_cast (by kernel_rfl) (by kernel_rfl) (tailrc9 v63 v70 Wrc6 hBW hE hO1 hSWrc6)
              case ttailrc9 =>
                try clear hBW
                try clear hS8
                intro v63 v70 Wrc7 hBW hE hO1 hSWrc7
                refine wpAnyH_ready (rs := [5]) (by kernel_rfl) (by simp) ?_
                refine AllReadyH.cons (o := ⟨some 65, _, _, _, _, _⟩) rfl (fun K hK => ?_) AllReadyH.nil
                refine app0 hE (HVW.out Wrc7 hBW) rfl _ _ rfl rfl rfl (by omega) hSWrc7.size ?_
                intro v65 Wrc8 hC hbWrc8 hkp
                have hSWrc8 := hSWrc7.trans hbWrc8
                clear hSWrc7 hE
                replace hBW : BW wb Wrc8 := Below.trans hBW hbWrc8
                replace hO1 := hkp _ _ hO1
                clear hbWrc8 hkp
                have hE : Any1 Wrc8 v63 := trivial
                refine hK.out _ _ hSWrc8 (fun hHeld => ?_)
                clear hK hHeld K
                try simp only [Act.put, List.setIfInBounds_toArray, List.set_cons_zero, List.set_cons_succ]
                exact wpAnyH_cast (by kernel_rfl) (by kernel_rfl) (tailrc10 v63 v65 v70 Wrc8 hBW hE hC hO1 hSWrc8)
            case ttailrc10 =>
              try clear hBW
              try clear hS8
              intro v63 v65 v70 Wrc9 hBW hE hC hO1 hSWrc9
              refine wpAnyH_ready (rs := [11]) (by kernel_rfl) (by simp) ?_
              refine AllReadyH.cons (o := ⟨some 71, _, _, _, _, _⟩) rfl (fun K hK => ?_) AllReadyH.nil
              refine app_wp hC hO1.sl rfl _ _ rfl rfl rfl (by simp only [List.length_singleton]; omega) hSWrc9.size ?_
              intro v71 Wrc10 hD hbWrc10
              have hSWrc10 := hSWrc9.trans hbWrc10
              clear hSWrc9 hC hO1
              replace hBW : BW wb Wrc10 := Below.trans hBW hbWrc10
              clear hbWrc10
              clear hE
              refine hK.out _ _ hSWrc10 (fun hHeld => ?_)
              clear hK hHeld K
              try simp only [Act.put, List.setIfInBounds_toArray, List.set_cons_zero, List.set_cons_succ]
              refine wpAnyH_ready (rs := [12]) (by kernel_rfl) (by simp) ?_
              refine AllReadyH.cons (o := ⟨some 72, _, _, _, _, _⟩) rfl (fun K hK => ?_) AllReadyH.nil
              go_simp
              go_at_call 44
              refine (ih (k + 1) (now ++ [(n1 : Int)]) y v71 Wrc10 HDR.out (by omega) (HG0.out _ hSWrc10.1) HIN2.out (by simp; omega) hyl (Mp.OwnI.sl2 hD) (HOFF.out _ _ _ hD) (HQW.out Wrc10 hBW)).mono ?_
              rintro e Wrc11 ⟨rfl, hgWrc11, hQ, hle⟩
              have hSWrc11 := hSWrc10.step hgWrc11 hQ
              clear hgWrc11 hD hBW hSWrc10
              go_wp2_with fail
              refine hK.out _ _ hSWrc11 (fun hHeld => ?_)
              clear hK hHeld K
              try simp only [Act.put, List.setIfInBounds_toArray, List.set_cons_zero, List.set_cons_succ]
              refine wpAnyH_done (by kernel_rfl) ?_ _
              have HQ3 := Lib.hid hQ
              have HLE3 := Lib.hid hle
              have hgw3 := hgw1.trans hSWrc11.1
              clear hQ hle hSWrc11
              go_wp2
              go_roundw
              case rel => exact ⟨m + 1, _, by omega, by go_num, by rw [HSU.out, HTS.out]; rfl, HQ3, HLE3, hgw3⟩
              case measure => simp [intOf]; omega
      · obtain rfl : m = OO.length := by omega
        have hd2 : decide ((OO.length : Int) < (OO.length : Int)) = false := decide_eq_false (by omega)
        have hd3 : decide (OO.length < OO.length) = false := decide_eq_false (by omega)
        obtain ⟨b1, o2, hbo2⟩ : ∃ b1 o2, stepRes lim (now.length + fs.length) oo = (b1, o2) := ⟨_, _, rfl⟩
        have HE : Hid (srch l lim (f :: fs) now x = if b1 = true then o2.bind (srch l lim fs now) else o2) := Lib.hid (by
          rw [← last_step hbo2]
          unfold srch
          have := HFM.out
          rw [List.take_length, ← HOO.out] at this
          rw [this])
        have HLE2 : Hid (leO lim o2) := Lib.hid (by have := stepRes_le (m := now.length + fs.length) HLE.out; rw [hbo2] at this; exact this)
        have HY : Hid (b1 = true → ∃ y, o2 = some y ∧ y.made ≤ lim) := Lib.hid (fun hb => by have := stepRes_true (lim := lim) (m := now.length + fs.length) (o := oo) (by rw [hbo2]; exact hb); rw [hbo2] at this; exact this)
        have HSTEP := Lib.hid (step57 k now.length wr hF hlt (by omega) hlim HLE.out HQ.out)
        rw [show F.length - k - 1 = fs.length by have := HFL.out; omega, hbo2] at HSTEP
        clear hbo2
        go_wp2_with fail
        refine HSTEP.out.mono ?_
        rintro e w6 ⟨rfl, hg6, hQ6⟩
        have HQ6 := Lib.hid hQ6
        have hgr6 := hgw.trans hg6
        have HGE := Lib.hid (hg5b.trans hgr6)
        clear hQ6 HSTEP
        cases b1
        · go_wp2
          go_end0
          rw [HE.out]
          exact ⟨rfl, HGE.out, HQ6.out, HLE2.out⟩
        · obtain ⟨y, hy, hyl⟩ := HY.out rfl
          subst hy
          clear HY
          go_wp2_with fail
          refine (ih (k + 1) now y (.slice AN now.length cN) w6 HDR.out (by omega) (hg0.trans HGE.out) HIN.out (by omega) hyl (HVN.out w6 HGE.out) HOFV.out HQ6.out).mono ?_
          rintro e w7 ⟨rfl, hg7, hQ7, hle7⟩
          have HP := Lib.hid (show TryP bs vL (.slice (some ⟨bf, offf, none⟩) F.length cF) lim wq (srch l lim fs now y) (.returned (.tuple #[])) w7 from ⟨rfl, HGE.out.trans hg7, hQ7, hle7⟩)
          clear hg7 hQ7 hle7
          go_wp2
          go_end0
          rw [HE.out]
          exact HP.out
end Go.Proofs
