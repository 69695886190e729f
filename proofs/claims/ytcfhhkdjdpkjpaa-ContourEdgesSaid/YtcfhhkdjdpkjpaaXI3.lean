/- The reference's Inside. -/
import Derived.Test.YtcfhhkdjdpkjpaaXJ13
set_option linter.unusedVariables false
set_option linter.unusedSimpArgs false
namespace Go.Proofs
open Go.RowKit Go.Proofs.Mp Go.Lib

theorem own_litP (w : World) (p : Pt) : OwnR 23 (w.alloc (.cells #[.int .i64 p.1, .int .i64 p.2] 23)) w.heap.size (.slice (some ⟨w.heap.size, 0, none⟩) 1 1) [p] :=
  ⟨by simp [Mp.encR], .inr ⟨w.heap.size, 1, #[.int .i64 p.1, .int .i64 p.2], rfl, Nat.le_refl _, heap_alloc_new w _, Nat.le_refl _, by unfold maxLen; omega, rfl, by simp [Mp.encR]⟩⟩
theorem Try.appPts {w : World} {base : Nat} {v : Value} {xs ys : List Pt} {ops : Array Oper} {rest : List Oper} {o : Oper} {a : Act} {Q : Exit → Act → World → Prop}
    (hown : OwnR 23 w base v xs) {A : Option Addr} {c : Nat} (hR : RdR w A ys) (hgd : o.guard = none) (s x : Operand)
    (ho : o.op = .call { callee := .builtin .append, args := #[s, x], argTypes := #[39, 39] }) (hs : a.eval s = v) (hx : a.eval x = .slice A ys.length c)
    (hN : xs.length + ys.length ≤ 1000000000000) (hbase : base ≤ w.heap.size)
    (h : ∀ v' w', OwnR 23 w' base v' (xs ++ ys) → Below base w w' → wpList Try.prog ops Q rest (a.put o.dst v') w') :
    wpList Try.prog ops Q (o :: rest) a w := by
  obtain ⟨i0, hi, hz0, hz1, hz2⟩ := Mp.info_parts Try.infoP
  exact wpList_plain hgd fun _ hK => Own.wpAll 39 i0 (.agg #[.int .i64 0, .int .i64 0]) 16 Try.underlying39 hi hz0 hz1 hz2 rfl (by decide) (by decide) encR_len encR_one s x ho hown hs hR hx (by omega) hbase fun v' w' h2 h3 => hK _ _ (h v' w' h2 h3)

set_option maxRecDepth 100000 in
set_option maxHeartbeats 16000000 in
theorem ref_Inside (lv : Int) (xs : List Pt) (p : Pt) (A : Option Addr) (c : Nat) (w : World) (hR : Rd 2 encR w A xs) (hl : xs.length ≤ 1000000) :
    Calls Try.prog 20 #[.agg #[.int .i64 lv, .slice A xs.length c], aggP p] w (RetV w (.int .i64 (insV xs p))) := by
  obtain ⟨k1, k2, hB, hz⟩ := blk2 w (.cells #[.int .i64 lv, .slice A xs.length c] 41) (.cells #[.int .i64 p.1, .int .i64 p.2] 23)
  have HI := Lib.hid fun (W' : World) (hb : Below ((w.alloc (.cells #[.int .i64 lv, .slice A xs.length c] 41)).alloc (.cells #[.int .i64 p.1, .int .i64 p.2] 23)).heap.size ((w.alloc (.cells #[.int .i64 lv, .slice A xs.length c] 41)).alloc (.cells #[.int .i64 p.1, .int .i64 p.2] 23)) W') => (show W'.cell? ⟨w.heap.size, 1, none⟩ = some (.slice A xs.length c) ∧ W'.cell? ⟨w.heap.size + 1, 0, none⟩ = some (.int .i64 p.1) ∧ W'.cell? ⟨w.heap.size + 1, 1, none⟩ = some (.int .i64 p.2) from by
    have h1 := (hb.block w.heap.size (by omega)).trans k1
    have h2 := (hb.block (w.heap.size + 1) (by omega)).trans k2
    exact ⟨by rw [cell_of_row _ _ _ _ _ _ h1]; rfl, by rw [cell_of_row _ _ _ _ _ _ h2]; rfl, by rw [cell_of_row _ _ _ _ _ _ h2]; rfl⟩)
  have HXs := Lib.hid fun (k : Nat) (hk : k < xs.length) (W' : World) (hb : Below w.heap.size w W') => (show ∃ b off, A = some ⟨b, off, none⟩ ∧ W'.cell? ⟨b, off + k * 2, none⟩ = some (.int .i64 xs[k]!.1) ∧ W'.cell? ⟨b, off + k * 2 + 1, none⟩ = some (.int .i64 xs[k]!.2) from by
    obtain ⟨b, off, h1, _, h2, h3⟩ := RdR.get hR hb hk
    exact ⟨b, off, h1, h2, h3⟩)
  have HRd := Lib.hid fun (W' : World) (hb : Below w.heap.size w W') => hR.below hb
  have cO := Lib.hid fun (a b : Pt) (W' : World) (ha : nearB a = true) (hb : nearB b = true) (hp : nearB p = true) => r8_on a b p W' (nearB_iff.1 ha) (nearB_iff.1 hb) (nearB_iff.1 hp)
  have cS := Lib.hid fun (a b : Pt) (W' : World) (ha : nearB a = true) (hb : nearB b = true) (hp : nearB p = true) => r8_Side a b p W' (nearB_iff.1 ha) (nearB_iff.1 hb) (nearB_iff.1 hp)
  have HFar := Lib.hid fun h => insV_far (xs := xs) (p := p) h
  have HNear := Lib.hid fun h h2 => insV_near (xs := xs) (p := p) h h2
  clear k1 k2 hR
  generalize insV xs p = r at *
  obtain ⟨px, py⟩ := p
  unfold aggP at *
  dsimp only at *
  have HB := Lib.hid hB
  have HO1 := Lib.hid (own_litP ((w.alloc (.cells #[.int .i64 lv, .slice A xs.length c] 41)).alloc (.cells #[.int .i64 px, .int .i64 py] 23)) (px, py))
  have HB1 := Lib.hid (bw1 ((w.alloc (.cells #[.int .i64 lv, .slice A xs.length c] 41)).alloc (.cells #[.int .i64 px, .int .i64 py] 23)) (.cells #[.int .i64 px, .int .i64 py] 23))
  have hszw : w.heap.size ≤ ((w.alloc (.cells #[.int .i64 lv, .slice A xs.length c] 41)).alloc (.cells #[.int .i64 px, .int .i64 py] 23)).heap.size := by omega
  have heq := Try.eql23
  have hgd := Try.guard23
  go_enter Try.func20, Try.ntmps20
  go_upto_region 1 with fail
  generalize ((w.alloc (.cells #[.int .i64 lv, .slice A xs.length c] 41)).alloc (.cells #[.int .i64 px, .int .i64 py] 23)) = w0 at *
  obtain ⟨i1, i2, i3⟩ := HI.out w0 (Below.refl _ _)
  have HIa := Lib.hid (HI.out _ HB1.out)
  obtain ⟨_, _, _⟩ := HIa.out
  have HRa := Lib.hid (HRd.out _ (HB.out.trans (HB1.out.mono hszw)))
  have hsz1 := HB1.out.size
  rw [hz] at HO1 hsz1
  have HSl := Lib.hid (show [((px, py) : Pt)].length + xs.length ≤ 1000000000000 by simp; omega)
  clear hB
  go_wp2_with (at_builtin; refine Try.appPts HO1.out HRa.out rfl _ _ rfl rfl rfl HSl.out hsz1 ?_; intro v2 w2 ho2 hb2)
  obtain ⟨A2, c2, rfl⟩ := Own.slice ho2
  rw [← hz] at ho2
  have cN := Lib.hid (r8_near _ A2 c2 w2 (Own.rd encR_len ho2) (by simp; omega))
  rw [← hz] at hb2
  have HB2 := Lib.hid (HB1.out.trans hb2)
  clear ho2 hb2 i1 i2 i3
  refine cN.out.mono ?_
  rintro e w3 ⟨rfl, hb3⟩
  have HB3 := Lib.hid (HB2.out.trans (hb3.mono HB2.out.size))
  have HBz := Lib.hid (HB.out.trans (HB3.out.mono hszw))
  clear hb3 cN
  obtain ⟨q, hq⟩ : ∃ q, ([((px, py) : Pt)] ++ xs).all nearB = q := ⟨_, rfl⟩
  have hq2 : (nearB (px, py) && xs.all nearB) = q := by rw [← hq]; simp
  rw [hq]
  clear hq
  cases q
  · have HF := Lib.hid (HFar.out hq2)
    clear hq2
    go_wp2
    go_ret
    exact ⟨by rw [HF.out]; rfl, HBz.out⟩
  rw [Bool.and_eq_true] at hq2
  obtain ⟨hnp, hna⟩ := hq2
  have HNP := Lib.hid hnp
  have HN := Lib.hid (HNear.out hnp hna)
  have HAll := Lib.hid fun j (hj : j < xs.length) => (show nearB xs[j]! = true from by
    rw [List.all_eq_true] at hna
    rw [getElem!_pos xs j hj]
    exact hna _ (List.getElem_mem _))
  clear hnp hna HNear HFar HBz HB1 HO1 HRa HIa HRd HB2 HSl
  have HIN := Lib.hid fun (h : (px, py) ∈ xs) => HN.out.trans (if_pos h)
  have HNI := Lib.hid fun (h : ¬ (px, py) ∈ xs) => HN.out.trans (if_neg h)
  have HON := Lib.hid fun k (hk : k < xs.length - 1) (h : onB xs[k]! xs[k + 1]! (px, py) = true) => (show r = 0 from by
    rw [HN.out]
    split
    · rfl
    · exact if_pos (onTo_of hk h))
  have HOF := Lib.hid fun (h0 : ¬ (px, py) ∈ xs) (h : onTo xs (px, py) (xs.length - 1) = false) => (HNI.out h0).trans (if_neg (by rw [h]; decide))
  clear HN HNI
  have HOS := Lib.hid fun k => onTo_succ xs (px, py) k
  have HDS := Lib.hid fun k => (show oddTo xs (px, py) (k + 1) = if crsP xs[k]! xs[k + 1]! (px, py) then !oddTo xs (px, py) k else oddTo xs (px, py) k from rfl)
  have HO0 := Lib.hid (show onTo xs (px, py) 0 = false from rfl)
  have HD0 := Lib.hid (show oddTo xs (px, py) 0 = false from rfl)
  have HCP := Lib.hid fun a b => crsP_eq a b (px, py)
  generalize onTo xs (px, py) = ot at *
  generalize oddTo xs (px, py) = od at *
  go_upto_block 0 with fail
  go_wp2_with fail
  go_loopw [5, 6] (fun s5 i wr => ∃ k m : Nat, k ≤ xs.length ∧ i = .int .i64 k ∧ s5 = .int .i64 m ∧ m ≤ k ∧ decide (m % 2 = 1) = od (k - 1) ∧ ot (k - 1) = false ∧ Hid (∀ j, j < k → xs[j]! ≠ (px, py)) ∧ Below w0.heap.size w0 wr) (fun _ i _ => xs.length - (intOf i).toNat)
  case atStart => exact ⟨0, 0, by omega, rfl, rfl, by omega, by rw [HD0.out]; rfl, HO0.out, Lib.hid (fun j hj => by omega), HB3.out⟩
  case round =>
    clear HB3
    obtain ⟨k, m, hk, rfl, rfl, hmk, hpar, hot, hne, kb⟩ := hrel
    have HBk := Lib.hid kb
    clear kb
    generalize wr = wb at *
    obtain ⟨i1, i2, i3⟩ := HI.out wb HBk.out
    have hbz := Lib.hid (HB.out.trans (HBk.out.mono hszw))
    have hsz3 := HBk.out.size
    by_cases hlt : k < xs.length
    rotate_left
    · have hkm : xs.length = k := by omega
      have hge : ¬ ((k : Int) < (xs.length : Int)) := by omega
      have hni : ¬ (px, py) ∈ xs := fun h => by
        obtain ⟨j, hj, he⟩ := List.mem_iff_getElem.1 h
        exact hne.out j (by omega) (by rw [getElem!_pos xs j hj]; exact he)
      have hHOF := HOF.out hni
      rw [hkm] at hHOF
      have HF := Lib.hid (hHOF hot)
      clear hHOF HOF hot hni hne
      have hmt : ((m : Int)).tmod 2 = ((m % 2 : Nat) : Int) := rfl
      obtain ⟨o, ho⟩ : ∃ o, od (k - 1) = o := ⟨_, rfl⟩
      rw [ho] at HF hpar
      have hk1 : o = true → 2 ≤ k := fun h => by
        rcases (by omega : k = 0 ∨ k = 1 ∨ 2 ≤ k) with rfl | rfl | h1
        · rw [HD0.out] at ho; rw [h] at ho; cases ho
        · rw [show 1 - 1 = 0 from rfl, HD0.out] at ho; rw [h] at ho; cases ho
        · exact h1
      clear ho
      cases o
      · clear hk1
        have hm0 : m % 2 = 0 := by have := of_decide_eq_false hpar; omega
        rw [hm0] at hmt
        have HF2 := Lib.hid (HF.out.trans (if_neg (fun h => by cases h.1)))
        clear HF hpar
        go_wp2_with fail
        go_quiet (fail)
        go_wp2
        go_ret
        exact ⟨by rw [HF2.out]; rfl, below_drewN hbz.out _⟩
      · have hk2 := hk1 rfl
        clear hk1
        have hm1 : m % 2 = 1 := of_decide_eq_true hpar
        rw [hm1] at hmt
        obtain ⟨b, off, rfl, c1, c2⟩ := HXs.out 0 (by omega) wb hbz.out
        obtain ⟨b', off', he, c3, c4⟩ := HXs.out (xs.length - 1) (by omega) wb hbz.out
        injection he with he
        injection he with e1 e2
        subst e1 e2
        rw [Nat.zero_mul, Nat.add_zero] at c1 c2
        have hln : (xs.length : Int) - 1 = ((xs.length - 1 : Nat) : Int) := by omega
        have hi0 : (0 : Int) ≤ ((xs.length - 1 : Nat) : Int) := by omega
        have hi1 : ((xs.length - 1 : Nat) : Int) < (xs.length : Int) := by omega
        have hi2 : (0 : Int) < (xs.length : Int) := by omega
        rw [hkm] at c3 c4 hln hi0 hi1 hi2
        obtain ⟨⟨x1, y1⟩, hx1⟩ : ∃ z, xs[0]! = z := ⟨_, rfl⟩
        obtain ⟨⟨x2, y2⟩, hx2⟩ : ∃ z, xs[k - 1]! = z := ⟨_, rfl⟩
        rw [hx1] at c1 c2
        rw [hx2] at c3 c4
        rw [hx1, hx2] at HF
        dsimp only at c1 c2 c3 c4
        rw [hkm] at i1 hge
        clear hx1 hx2 hpar
        by_cases hd : (x1, y1) = (x2, y2)
        · have HF2 := Lib.hid (HF.out.trans (if_pos ⟨rfl, hd⟩))
          injection hd with e1 e2
          subst e1 e2
          clear HF hkm
          go_wp2_with fail
          go_quiet (fail)
          go_wp2
          go_ret
          exact ⟨by rw [HF2.out]; rfl, below_drewN hbz.out _⟩
        · have HF2 := Lib.hid (HF.out.trans (if_neg fun h => hd h.2))
          clear HF hkm
          go_wp2_with fail
          go_quiet (fail)
          go_wp2
          go_ret
          exact ⟨by rw [HF2.out]; rfl, below_drewN hbz.out _⟩
    · have hli : (k : Int) < (xs.length : Int) := by omega
      obtain ⟨b, off, rfl, c1, c2⟩ := HXs.out k hlt wb hbz.out
      have HM := Lib.hid (show xs[k]! ∈ xs by rw [getElem!_pos xs k hlt]; exact List.getElem_mem hlt)
      obtain ⟨⟨x2, y2⟩, hx2⟩ : ∃ z, xs[k]! = z := ⟨_, rfl⟩
      have HZ := Lib.hid hx2
      rw [hx2] at c1 c2 HM
      dsimp only at c1 c2
      by_cases hd : (x2, y2) = (px, py)
      · have HF := Lib.hid (HIN.out (by rw [← hd]; exact HM.out))
        injection hd with e1 e2
        subst e1 e2
        clear hx2 hot hpar hne
        go_wp2_with fail
        go_quiet (fail)
        go_wp2
        go_ret
        exact ⟨by rw [HF.out]; rfl, below_drewN hbz.out _⟩
      have HNe := Lib.hid (show ∀ j, j < k + 1 → xs[j]! ≠ (px, py) from fun j hj => by
        by_cases e : j = k
        · rw [e, HZ.out]; exact hd
        · exact hne.out j (by omega))
      clear hne
      rcases k with _ | k
      · have HPar := Lib.hid hpar
        have HOt := Lib.hid hot
        clear hx2 hpar hot
        rw [Nat.zero_mul, Nat.add_zero] at c1 c2
        rw [show ((0 : Nat) : Int) = 0 from rfl] at *
        go_wp2_with fail
        go_quiet (fail)
        go_wp2
        go_roundw
        case rel => exact ⟨1, m, by omega, rfl, rfl, by omega, HPar.out, HOt.out, HNe, below_drewN HBk.out _⟩
        case measure => simp [intOf]; omega
      · rw [Nat.add_sub_cancel] at hpar hot
        rw [show (((k + 1 : Nat)) : Int) = (k : Int) + 1 by omega] at hli ⊢
        have hk0 : ¬ ((k : Int) + 1 = 0) := by omega
        have hkz : ((k : Int) + 1 == 0) = false := by rw [beq_eq_false_iff_ne]; exact hk0
        have HX1 := Lib.hid fun (W' : World) (hb : Below wb.heap.size wb W') => HXs.out k (by omega) W' (hbz.out.trans (hb.mono hbz.out.size))
        have HX2 := Lib.hid fun (W' : World) (hb : Below wb.heap.size wb W') => HXs.out (k + 1) hlt W' (hbz.out.trans (hb.mono hbz.out.size))
        have HIb := Lib.hid fun (W' : World) (hb : Below wb.heap.size wb W') => HI.out W' (HBk.out.trans (hb.mono hsz3))
        have HONk := Lib.hid (HON.out k (by omega))
        have HOSk := Lib.hid (HOS.out k)
        have HDSk := Lib.hid (HDS.out k)
        have HCk := Lib.hid (HCP.out xs[k]! xs[k + 1]!)
        have cOk := Lib.hid fun W' => cO.out xs[k]! xs[k + 1]! W' (HAll.out k (by omega)) (HAll.out (k + 1) hlt) HNP.out
        have cSk := Lib.hid fun W' => cS.out xs[k]! xs[k + 1]! W' (HAll.out k (by omega)) (HAll.out (k + 1) hlt) HNP.out
        obtain ⟨⟨x1, y1⟩, hx1⟩ : ∃ z, xs[k]! = z := ⟨_, rfl⟩
        rw [hx1, hx2] at HONk HOSk HDSk HCk cOk cSk
        have HXa := Lib.hid fun (W' : World) (hb : Below wb.heap.size wb W') => (show W'.cell? ⟨b, off + k * 2, none⟩ = some (.int .i64 x1) ∧ W'.cell? ⟨b, off + k * 2 + 1, none⟩ = some (.int .i64 y1) ∧ W'.cell? ⟨b, off + (k + 1) * 2, none⟩ = some (.int .i64 x2) ∧ W'.cell? ⟨b, off + (k + 1) * 2 + 1, none⟩ = some (.int .i64 y2) from by
          obtain ⟨b1, o1, h1, h2, h3⟩ := HX1.out W' hb
          obtain ⟨b2, o2, h4, h5, h6⟩ := HX2.out W' hb
          injection h1 with h1
          injection h1 with h1 h1'
          injection h4 with h4
          injection h4 with h4 h4'
          subst h1 h1' h4 h4'
          rw [hx1] at h2 h3
          rw [hx2] at h5 h6
          exact ⟨h2, h3, h5, h6⟩)
        have HPar := Lib.hid hpar
        clear hx1 hx2 HX1 HX2 HXs HON HOS HDS HCP cO cS HAll HOF hpar
        have hkp : (0 : Int) ≤ (k : Int) + 1 := by omega
        have hkt : ((k : Int) + 1).toNat = k + 1 := by omega
        go_wp2_with fail
        go_quiet (fail)
        go_upto_region 10 with fail
        clear i1 i2 i3 c1 c2
        have hik : (k : Int) + 1 - 1 = (k : Int) := by omega
        have hki : (0 : Int) ≤ (k : Int) := by omega
        have hkl : (k : Int) < (xs.length : Int) := by omega
        have hwk : IntKind.i64.wrap (k : Int) = (k : Int) := IntWalk.i64_in _ (by omega)
        have hS0 : (fun W' : World => Below wb.heap.size wb W') (wb.drewN nq).drew := (below_drewN (Below.refl _ _) _).drew
        refine wp_region_held_drew (S := (fun W' : World => Below wb.heap.size wb W')) (by kernel_rfl) hS0 (fun hHeld => ?_)
        clear hHeld
        generalize (wb.drewN nq).drew = wzra at *
        refine wpAnyH_take (i := 0) (oi := ⟨some 33, _, _, _, _, _⟩) (v := ?vra1) rfl (by kernel_rfl) (by kernel_rfl) (by kernel_rfl) (fun _ _ _ h => h) (Or.inl ⟨by kernel_rfl, ?hyra1⟩) (by assumption) ?restra1
        case hyra1 => (intro W hSw; (try dsimp only at hSw); go_simp; try with_reducible rfl)
        case' restra1 => try simp only [Act.put, List.setIfInBounds_toArray, List.set_cons_zero, List.set_cons_succ]
        refine wpAnyH_take (i := 1) (oi := ⟨some 34, _, _, _, _, _⟩) (v := ?vra2) rfl (by kernel_rfl) (by kernel_rfl) (by kernel_rfl) (fun _ _ _ h => h) (Or.inl ⟨by kernel_rfl, ?hyra2⟩) (by assumption) ?restra2
        case hyra2 => (intro W hSw; obtain ⟨i1, i2, i3⟩ := HIb.out W hSw; obtain ⟨c1, c2, c3, c4⟩ := HXa.out W hSw; (try dsimp only at hSw); go_simp; try with_reducible rfl)
        case' restra2 => try simp only [Act.put, List.setIfInBounds_toArray, List.set_cons_zero, List.set_cons_succ]
        refine wpAnyH_take (i := 2) (oi := ⟨some 35, _, _, _, _, _⟩) (v := ?vra3) rfl (by kernel_rfl) (by kernel_rfl) (by kernel_rfl) (fun _ _ _ h => h) (Or.inl ⟨by kernel_rfl, ?hyra3⟩) (by assumption) ?restra3
        case hyra3 => (intro W hSw; (try dsimp only at hSw); go_simp; try with_reducible rfl)
        case' restra3 => try simp only [Act.put, List.setIfInBounds_toArray, List.set_cons_zero, List.set_cons_succ]
        refine wpAnyH_take (i := 3) (oi := ⟨some 36, _, _, _, _, _⟩) (v := ?vra4) rfl (by kernel_rfl) (by kernel_rfl) (by kernel_rfl) (fun _ _ _ h => h) (Or.inl ⟨by kernel_rfl, ?hyra4⟩) (by assumption) ?restra4
        case hyra4 => (intro W hSw; (try dsimp only at hSw); go_simp; try with_reducible rfl)
        case' restra4 => try simp only [Act.put, List.setIfInBounds_toArray, List.set_cons_zero, List.set_cons_succ]
        refine wpAnyH_take (i := 4) (oi := ⟨some 37, _, _, _, _, _⟩) (v := ?vra5) rfl (by kernel_rfl) (by kernel_rfl) (by kernel_rfl) (fun _ _ _ h => h) (Or.inl ⟨by kernel_rfl, ?hyra5⟩) (by assumption) ?restra5
        case hyra5 => (intro W hSw; (try dsimp only at hSw); go_simp; try with_reducible rfl)
        case' restra5 => try simp only [Act.put, List.setIfInBounds_toArray, List.set_cons_zero, List.set_cons_succ]
        refine wpAnyH_take (i := 5) (oi := ⟨some 38, _, _, _, _, _⟩) (v := ?vra6) rfl (by kernel_rfl) (by kernel_rfl) (by kernel_rfl) (fun _ _ _ h => h) (Or.inl ⟨by kernel_rfl, ?hyra6⟩) (by assumption) ?restra6
        case hyra6 => (intro W hSw; obtain ⟨i1, i2, i3⟩ := HIb.out W hSw; obtain ⟨c1, c2, c3, c4⟩ := HXa.out W hSw; (try dsimp only at hSw); go_simp; try with_reducible rfl)
        case' restra6 => try simp only [Act.put, List.setIfInBounds_toArray, List.set_cons_zero, List.set_cons_succ]
        refine wpAnyH_take (i := 6) (oi := ⟨some 39, _, _, _, _, _⟩) (v := ?vra7) rfl (by kernel_rfl) (by kernel_rfl) (by kernel_rfl) (fun _ _ _ h => h) (Or.inl ⟨by kernel_rfl, ?hyra7⟩) (by assumption) ?restra7
        case hyra7 => (intro W hSw; (try dsimp only at hSw); go_simp; try with_reducible rfl)
        case' restra7 => try simp only [Act.put, List.setIfInBounds_toArray, List.set_cons_zero, List.set_cons_succ]
        refine wpAnyH_take (i := 7) (oi := ⟨some 40, _, _, _, _, _⟩) (v := ?vra8) rfl (by kernel_rfl) (by kernel_rfl) (by kernel_rfl) (fun _ _ _ h => h) (Or.inl ⟨by kernel_rfl, ?hyra8⟩) (by assumption) ?restra8
        case hyra8 => (intro W hSw; obtain ⟨i1, i2, i3⟩ := HIb.out W hSw; obtain ⟨c1, c2, c3, c4⟩ := HXa.out W hSw; (try dsimp only at hSw); go_simp; try with_reducible rfl)
        case' restra8 => try simp only [Act.put, List.setIfInBounds_toArray, List.set_cons_zero, List.set_cons_succ]
        refine wpAnyH_take (i := 8) (oi := ⟨some 41, _, _, _, _, _⟩) (v := ?vra9) rfl (by kernel_rfl) (by kernel_rfl) (by kernel_rfl) (fun _ _ _ h => h) (Or.inl ⟨by kernel_rfl, ?hyra9⟩) (by assumption) ?restra9
        case hyra9 => (intro W hSw; (try dsimp only at hSw); go_simp; try with_reducible rfl)
        case' restra9 => try simp only [Act.put, List.setIfInBounds_toArray, List.set_cons_zero, List.set_cons_succ]
        refine wpAnyH_take (i := 9) (oi := ⟨some 42, _, _, _, _, _⟩) (v := ?vra10) rfl (by kernel_rfl) (by kernel_rfl) (by kernel_rfl) (fun _ _ _ h => h) (Or.inl ⟨by kernel_rfl, ?hyra10⟩) (by assumption) ?restra10
        case hyra10 => (intro W hSw; (try dsimp only at hSw); go_simp; try with_reducible rfl)
        case' restra10 => try simp only [Act.put, List.setIfInBounds_toArray, List.set_cons_zero, List.set_cons_succ]
        refine wpAnyH_take (i := 10) (oi := ⟨some 43, _, _, _, _, _⟩) (v := ?vra11) rfl (by kernel_rfl) (by kernel_rfl) (by kernel_rfl) (fun _ _ _ h => h) (Or.inl ⟨by kernel_rfl, ?hyra11⟩) (by assumption) ?restra11
        case hyra11 => (intro W hSw; obtain ⟨i1, i2, i3⟩ := HIb.out W hSw; obtain ⟨c1, c2, c3, c4⟩ := HXa.out W hSw; (try dsimp only at hSw); go_simp; try with_reducible rfl)
        case' restra11 => try simp only [Act.put, List.setIfInBounds_toArray, List.set_cons_zero, List.set_cons_succ]
        refine' wpAnyH_share (fun H f l (act : Value → Value → Act) => ∀ (pv1 : Value) (pv2 : Value) (WX : World), BoxV wb.heap.size WX pv1 (0, 0) → BoxV wb.heap.size WX pv2 (0, 0) → NeV WX pv1 pv2 → (fun W' : World => Below wb.heap.size wb W') WX → H f l (act pv1 pv2) WX) (fun tailra12 => ?mtailra12) ?ttailra12
        case mtailra12 =>
          refine wpAnyH_ready (rs := [11, 12]) (by kernel_rfl) (by simp) ?_
          refine AllReadyH.cons (o := ⟨some 7, _, _, _, _, _⟩) rfl (fun K hK => ?_) ?_
          · skip
            go_simp
            have hx1 := BoxV.new wzra hS0.size
            have hSWra1 := hS0.alloc hS0.size (.cells #[.int .i64 0, .int .i64 0] 23)
            refine hK.out _ _ hSWra1 (fun hHeld => ?_)
            clear hK hHeld K
            try clear hS0
            try simp only [Act.put, List.setIfInBounds_toArray, List.set_cons_zero, List.set_cons_succ]
            generalize (wzra.alloc (.cells #[.int .i64 0, .int .i64 0] 23)) = Wra1 at hx1 hSWra1 ⊢
            generalize Value.pointer (some ⟨wzra.heap.size, 0, none⟩) = pv1 at hx1 ⊢
            refine wpAnyH_ready (rs := [12]) (by kernel_rfl) (by simp) ?_
            refine AllReadyH.cons (o := ⟨some 8, _, _, _, _, _⟩) rfl (fun K hK => ?_) AllReadyH.nil
            go_simp
            have hx2 := BoxV.new Wra1 hSWra1.size
            have hne := NeV.new2 hx1 (.cells #[.int .i64 0, .int .i64 0] 23)
            replace hx1 := hx1.alloc (.cells #[.int .i64 0, .int .i64 0] 23)
            have hSWra2 := hSWra1.alloc hSWra1.size (.cells #[.int .i64 0, .int .i64 0] 23)
            refine hK.out _ _ hSWra2 (fun hHeld => ?_)
            clear hK hHeld K
            try clear hSWra1
            try simp only [Act.put, List.setIfInBounds_toArray, List.set_cons_zero, List.set_cons_succ]
            generalize (Wra1.alloc (.cells #[.int .i64 0, .int .i64 0] 23)) = Wra2 at hx2 hne hx1 hSWra2 ⊢
            generalize Value.pointer (some ⟨Wra1.heap.size, 0, none⟩) = pv2 at hx2 hne ⊢
            exact wpAnyH_cast rfl rfl (tailra12 pv1 pv2 Wra2 hx1 hx2 hne hSWra2)
          refine AllReadyH.cons (o := ⟨some 8, _, _, _, _, _⟩) rfl (fun K hK => ?_) AllReadyH.nil
          go_simp
          have hx2 := BoxV.new wzra hS0.size
          have hSWra3 := hS0.alloc hS0.size (.cells #[.int .i64 0, .int .i64 0] 23)
          refine hK.out _ _ hSWra3 (fun hHeld => ?_)
          clear hK hHeld K
          try clear hS0
          try simp only [Act.put, List.setIfInBounds_toArray, List.set_cons_zero, List.set_cons_succ]
          generalize (wzra.alloc (.cells #[.int .i64 0, .int .i64 0] 23)) = Wra3 at hx2 hSWra3 ⊢
          generalize Value.pointer (some ⟨wzra.heap.size, 0, none⟩) = pv2 at hx2 ⊢
          refine wpAnyH_ready (rs := [11]) (by kernel_rfl) (by simp) ?_
          refine AllReadyH.cons (o := ⟨some 7, _, _, _, _, _⟩) rfl (fun K hK => ?_) AllReadyH.nil
          go_simp
          have hx1 := BoxV.new Wra3 hSWra3.size
          have hne := NeV.new1 hx2 (.cells #[.int .i64 0, .int .i64 0] 23)
          replace hx2 := hx2.alloc (.cells #[.int .i64 0, .int .i64 0] 23)
          have hSWra4 := hSWra3.alloc hSWra3.size (.cells #[.int .i64 0, .int .i64 0] 23)
          refine hK.out _ _ hSWra4 (fun hHeld => ?_)
          clear hK hHeld K
          try clear hSWra3
          try simp only [Act.put, List.setIfInBounds_toArray, List.set_cons_zero, List.set_cons_succ]
          generalize (Wra3.alloc (.cells #[.int .i64 0, .int .i64 0] 23)) = Wra4 at hx1 hne hx2 hSWra4 ⊢
          generalize Value.pointer (some ⟨Wra3.heap.size, 0, none⟩) = pv1 at hx1 hne ⊢
          exact wpAnyH_cast (by kernel_rfl) (by kernel_rfl) (tailra12 pv1 pv2 Wra4 hx1 hx2 hne hSWra4)
        case ttailra12 =>
          try clear hS0
          intro pv1 pv2 Wra5 hx1 hx2 hne hSWra5
          refine wpAnyH_ready (rs := [13]) (by kernel_rfl) (by simp) ?_
          refine AllReadyH.cons (o := ⟨none, _, _, _, _, _⟩) rfl (fun K hK => ?_) AllReadyH.nil
          refine BoxV.store hx1 (x1, y1) rfl _ _ rfl rfl rfl (fun Wra6 hbx hbo hbW => ?_)
          have hSWra6 := hSWra5.trans hbW
          have hox := hbo _ _ (Ne.symm hne) hx2
          clear hx1 hx2 hbW hbo hSWra5
          have hx1 := hbx
          have hx2 := hox
          clear hbx hox
          refine hK.out _ _ hSWra6 (fun hHeld => ?_)
          clear hK hHeld K
          try simp only [Act.put, List.setIfInBounds_toArray, List.set_cons_zero, List.set_cons_succ]
          refine wpAnyH_ready (rs := [14]) (by kernel_rfl) (by simp) ?_
          refine AllReadyH.cons (o := ⟨none, _, _, _, _, _⟩) rfl (fun K hK => ?_) AllReadyH.nil
          refine BoxV.store hx2 (x2, y2) rfl _ _ rfl rfl rfl (fun Wra7 hbx hbo hbW => ?_)
          have hSWra7 := hSWra6.trans hbW
          have hox := hbo _ _ hne hx1
          clear hx2 hx1 hbW hbo hSWra6
          have hx2 := hbx
          have hx1 := hox
          clear hbx hox
          refine hK.out _ _ hSWra7 (fun hHeld => ?_)
          clear hK hHeld K
          try simp only [Act.put, List.setIfInBounds_toArray, List.set_cons_zero, List.set_cons_succ]
          refine wpAnyH_done (by kernel_rfl) ?_ _
          obtain ⟨n1', rfl, hn1, bx1⟩ := hx1
          obtain ⟨n2', rfl, hn2, bx2⟩ := hx2
          clear hne
          have HY := Lib.hid fun (W' : World) (hW : Below Wra7.heap.size Wra7 W') => (⟨bx1.below hW, bx2.below hW⟩ : BoxP W' n1' (x1, y1) ∧ BoxP W' n2' (x2, y2))
          have HBx := Lib.hid (HBk.out.trans (hSWra7.mono hsz3))
          have HIx := Lib.hid fun (W' : World) (hW : Below Wra7.heap.size Wra7 W') => HIb.out W' (hSWra7.trans (hW.mono hSWra7.size))
          clear bx1 bx2 hSWra7 HIb HXa HBk hbz
          generalize Wra7 = w5 at *
          obtain ⟨i1, i2, i3⟩ := HIx.out w5 (Below.refl _ _)
          obtain ⟨q1, q2⟩ := HY.out w5 (Below.refl _ _)
          obtain ⟨j1, j2, _, _, _⟩ := q1.cel
          obtain ⟨j3, j4, _, _, _⟩ := q2.cel
          dsimp only at j1 j2 j3 j4
          clear q1 q2
          go_wp2_with fail
          refine (cOk.out w5).mono ?_
          rintro e w6 ⟨rfl, hb6⟩
          clear i1 i2 i3 j1 j2 j3 j4
          have HB6 := Lib.hid (HBx.out.trans (hb6.mono HBx.out.size))
          have HY6 := Lib.hid fun (W' : World) (hW : Below w6.heap.size w6 W') => HY.out W' (hb6.trans (hW.mono hb6.size))
          have HI6 := Lib.hid fun (W' : World) (hW : Below w6.heap.size w6 W') => HIx.out W' (hb6.trans (hW.mono hb6.size))
          clear hb6 HY HIx HBx
          obtain ⟨o, ho⟩ : ∃ o, onB (x1, y1) (x2, y2) (px, py) = o := ⟨_, rfl⟩
          rw [ho] at HONk HOSk ⊢
          clear ho
          cases o
          rotate_left
          · have HF := Lib.hid (HONk.out rfl)
            have HBz := Lib.hid (HB.out.trans (HB6.out.mono hszw))
            go_wp2
            go_ret
            exact ⟨by rw [HF.out]; rfl, HBz.out⟩
          have HOT := Lib.hid (show ot (k + 1) = false by rw [HOSk.out, hot]; rfl)
          clear HOSk HONk hot
          obtain ⟨i1, i2, i3⟩ := HI6.out w6 (Below.refl _ _)
          obtain ⟨q1, q2⟩ := HY6.out w6 (Below.refl _ _)
          obtain ⟨j1, j2, _, _, _⟩ := q1.cel
          obtain ⟨j3, j4, _, _, _⟩ := q2.cel
          dsimp only at j1 j2 j3 j4
          clear q1 q2
          go_wp2_with fail
          refine (cSk.out w6).mono ?_
          rintro e w7 ⟨rfl, hb7⟩
          clear i1 i2 i3 j1 j2 j3 j4
          obtain ⟨i1, i2, i3⟩ := HI6.out w7 hb7
          obtain ⟨q1, q2⟩ := HY6.out w7 hb7
          obtain ⟨j1, j2, _, _, _⟩ := q1.cel
          obtain ⟨j3, j4, _, _, _⟩ := q2.cel
          dsimp only at j1 j2 j3 j4
          have HB7 := Lib.hid (HB6.out.trans (hb7.mono HB6.out.size))
          clear q1 q2 hb7 HI6 HY6 HB6
          generalize sd (x1, y1) (x2, y2) (px, py) = s at *
          generalize crsP (x1, y1) (x2, y2) (px, py) = cr at *
          go_upto_region 14 with fail
          go_cut [85] (fun s85 wc => s85 = .bool cr ∧ wc = w7)
          case first =>
            clear cOk cSk HDSk
            try dsimp only at HCk
            by_cases g1 : y1 ≤ py
            · by_cases g2 : py < y2
              · have g4 : ¬ y2 ≤ py := by omega
                by_cases g3 : s = 1
                · obtain rfl : cr = true := by rw [HCk.out]; simp [g1, g2, g3]
                  subst g3
                  go_wp2
                  go_meet
                  exact ⟨rfl, rfl⟩
                · obtain rfl : cr = false := by rw [HCk.out]; simp [g1, g2, g3, g4]
                  go_wp2
                  go_meet
                  exact ⟨by simp [g3], rfl⟩
              · have g4 : y2 ≤ py := by omega
                have g5 : ¬ py < y1 := by omega
                obtain rfl : cr = false := by rw [HCk.out]; simp [g1, g2, g4, g5]
                go_wp2
                go_meet
                exact ⟨by simp, rfl⟩
            · by_cases g4 : y2 ≤ py
              · have g5 : py < y1 := by omega
                by_cases g6 : s = -1
                · obtain rfl : cr = true := by rw [HCk.out]; simp [g1, g4, g5, g6]
                  subst g6
                  go_wp2
                  go_meet
                  exact ⟨by simp, rfl⟩
                · obtain rfl : cr = false := by rw [HCk.out]; simp [g1, g4, g5, g6]
                  go_wp2
                  go_meet
                  exact ⟨by simp [g6], rfl⟩
              · obtain rfl : cr = false := by rw [HCk.out]; simp [g1, g4]
                go_wp2
                go_meet
                exact ⟨by simp, rfl⟩
          case rest =>
            obtain ⟨rfl, rfl⟩ := hcut
            clear i1 i2 i3 j1 j2 j3 j4 HCk cOk cSk
            generalize wc = w7 at *
            cases cr
            · have HD := Lib.hid (show decide (m % 2 = 1) = od (k + 1) by rw [HDSk.out, HPar.out]; rfl)
              clear HDSk
              go_wp2
              go_roundw
              case rel => exact ⟨k + 2, m, by omega, by go_num, rfl, by omega, HD.out, HOT.out, HNe, HB7.out⟩
              case measure => simp [intOf]; omega
            · have HD := Lib.hid (show decide ((m + 1) % 2 = 1) = od (k + 1) by
                rw [HDSk.out, if_pos rfl, ← HPar.out]
                rcases Nat.mod_two_eq_zero_or_one m with h | h
                · rw [show (m + 1) % 2 = 1 by omega, h]; rfl
                · rw [show (m + 1) % 2 = 0 by omega, h]; rfl)
              clear HDSk
              go_wp2
              go_roundw
              case rel => exact ⟨k + 2, m + 1, by omega, by go_num, by go_num, by omega, HD.out, HOT.out, HNe, HB7.out⟩
              case measure => simp [intOf]; omega
end Go.Proofs
