/- The reference's In. -/
import Derived.Test.YtafaojmkbbhjmaaC8
set_option linter.unusedVariables false
set_option linter.unusedSimpArgs false
namespace Go.Proofs
open Go.RowKit Go.Proofs.Mp

/-- two variables, and what the call keeps -/
def Two (w0 W : World) (u v : Value) (a b : Pt) : Prop := Bq w0.heap.size W u a ∧ Bq w0.heap.size W v b ∧ Nq W u v ∧ Below w0.heap.size w0 W
theorem Two.cells {w0 W : World} {u v : Value} {a b : Pt} (h : Two w0 W u v a b) : ∃ n m, u = .pointer (some ⟨n, 0, none⟩) ∧ v = .pointer (some ⟨m, 0, none⟩) ∧ n ≠ m ∧ w0.heap.size ≤ n ∧ w0.heap.size ≤ m ∧ BoxP W n a ∧ BoxP W m b ∧ Below w0.heap.size w0 W := by
  obtain ⟨⟨n, rfl, h1, h2⟩, ⟨m, rfl, h3, h4⟩, h5, h6⟩ := h
  refine ⟨n, m, rfl, rfl, fun e => h5 (by rw [e]), h1, h3, h2, h4, h6⟩
/-- the reference's way to see whether an edge counts -/
theorem sd_swap (a b p : Pt) : sd b a p = -sd a b p := by
  have h : tw b a p = -tw a b p := by unfold tw; grind
  unfold sd sg
  rw [h]
  split <;> split <;> omega
def rcB (a b p : Pt) : Bool := decide (a.2 ≤ p.2 ∧ p.2 < b.2 ∧ 0 < sd a b p)
theorem rcB_crB (a b p : Pt) : crB a b p = if b.2 < a.2 then rcB b a p else rcB a b p := by
  unfold crB rcB
  rw [sd_swap a b p]
  split
  · rw [decide_eq_decide]; omega
  · rw [decide_eq_decide]; omega

set_option maxRecDepth 100000 in
set_option maxHeartbeats 4000000 in
theorem ref_in (A : Option Addr) (c : Nat) (l : List Pt) (p : Pt) (w : World) (hmax : l.length ≤ 1000000000000) (hR : RdR w A l) :
    Calls Try.prog 24 #[.slice A l.length c, aggP p] w (RetV w (.int .i64 (inN l p))) := by
  have cP := Lib.hid fun W (hb : Below w.heap.size w W) => ref_polygon A c l W hmax (hR.below hb)
  have cV := Lib.hid fun W => ref_point p W
  have HR0 := Lib.hid (show inN l p = if polyE l = 0 ∧ Vp p then (if onAny l p = true then 0 else if parTo l p l.length = true then 1 else -1) else -1 from rfl)
  by_cases h0 : polyE l = 0
  rotate_left
  · have HR := Lib.hid (HR0.out.trans (if_neg (fun h => h0 h.1)))
    have hz : (polyE l != 0) = true := by simp [h0]
    clear HR0 hR cV
    generalize inN l p = E at *
    generalize polyE l = z at *
    clear h0
    obtain ⟨x, y⟩ := p
    unfold aggP
    dsimp only
    go_enter Try.func24, Try.ntmps24
    go_wp2_with fail
    refine (cP.out _ (bw1 _ _)).mono ?_
    rintro e w1 ⟨rfl, hb1⟩
    have hb2 := below_lit hb1
    go_wp2
    go_ret
    exact RetV.int HR.out.symm hb2
  obtain ⟨hv, hn3, hn⟩ := polyE_zero h0
  rw [h0] at cP
  by_cases hp : Vp p
  rotate_left
  · have HR := Lib.hid (HR0.out.trans (if_neg (fun h => hp h.2)))
    rw [decide_eq_false hp] at cV
    clear HR0 hR hp h0 hv
    generalize inN l p = E at *
    obtain ⟨x, y⟩ := p
    unfold aggP at *
    dsimp only at *
    go_enter Try.func24, Try.ntmps24
    go_wp2_with fail
    refine (cP.out _ (bw1 _ _)).mono ?_
    rintro e w1 ⟨rfl, hb1⟩
    obtain ⟨k1, k2⟩ := box_at w w1 _ _ 32 (hb1.mono (by simp))
    have hb2 := below_lit hb1
    go_wp2_with fail
    refine (cV.out _).mono ?_
    rintro e w2 ⟨rfl, hb3⟩
    have hb4 := below_step hb2 hb3
    go_wp2
    go_ret
    exact RetV.int HR.out.symm hb4
  rw [decide_eq_true hp] at cV
  have HR := Lib.hid (HR0.out.trans (if_pos ⟨h0, hp⟩))
  have cE := Lib.hid fun (i : Nat) (hi : i < l.length) (W : World) (hb : Below w.heap.size w W) => ref_end A c l i W hmax hi (hR.below hb)
  have HRD := Lib.hid hR
  have cO := Lib.hid fun (i : Nat) (hi : i < l.length) (W : World) => ref_on l[i]! (edE l i) p W (hv i hi).nr (edE_vp hv hi).nr hp.nr
  have cS := Lib.hid fun (i : Nat) (hi : i < l.length) (W : World) => ref_side l[i]! (edE l i) p W (hv i hi).nr (edE_vp hv hi).nr hp.nr
  have cS2 := Lib.hid fun (i : Nat) (hi : i < l.length) (W : World) => ref_side (edE l i) l[i]! p W (edE_vp hv hi).nr (hv i hi).nr hp.nr
  have HP := Lib.hid fun k => (show parTo l p (k + 1) = ((parTo l p k) ^^ (crB l[k]! (edE l k) p)) from rfl)
  clear HR0 hR hp h0 hv
  generalize inN l p = E at *
  have hoff0 : Hid (offTo l p 0) := Lib.hid fun i hi => by omega
  have hpar0 : Hid (parTo l p 0 = false) := Lib.hid rfl
  have HON := Lib.hid fun k (hk : k < l.length) (h : onB l[k]! (edE l k) p = true) => (show E = 0 by rw [HR.out, if_pos (onAny_yes hk h)])
  have HEND := Lib.hid fun q (h : offTo l p l.length) (hq : parTo l p l.length = q) => (show E = if q = true then 1 else -1 by rw [HR.out, if_neg (by rw [onAny_no h]; decide), hq])
  have HNX := Lib.hid fun k (h : offTo l p k) (hk : onB l[k]! (edE l k) p = false) => offTo_succ h hk
  clear HR
  obtain ⟨x, y⟩ := p
  unfold aggP at *
  dsimp only at *
  go_enter Try.func24, Try.ntmps24
  go_wp2_with fail
  refine (cP.out _ (bw1 _ _)).mono ?_
  rintro e w1 ⟨rfl, hb1⟩
  have HX := Lib.hid fun (W : World) (hW : Below w1.heap.size w1 W) => box_at w W (.int .i64 x) (.int .i64 y) 32 ((hb1.trans (hW.mono hb1.size)).mono (by simp))
  have hb2 := below_lit hb1
  obtain ⟨k1, k2⟩ := HX.out _ (Below.refl _ _)
  clear hb1
  go_wp2_with fail
  refine (cV.out _).mono ?_
  rintro e w2 ⟨rfl, hb3⟩
  have hb4 := below_step hb2 hb3
  have HX2 := Lib.hid fun (W : World) (hW : Below w2.heap.size w2 W) => HX.out W (hb3.trans (hW.mono hb3.size))
  clear hb2 hb3 k1 k2 HX
  go_wp2_with fail
  go_loopw [5, 6] (fun v i wr => ∃ (k : Nat) (q : Bool), k ≤ l.length ∧ i = .int .i64 k ∧ v = .bool q ∧ Hid (parTo l (x, y) k = q) ∧ Hid (offTo l (x, y) k) ∧ Below w2.heap.size w2 wr) (fun _ i _ => l.length - (intOf i).toNat)
  case atStart => exact ⟨0, false, by omega, rfl, rfl, hpar0, hoff0, Below.refl _ _⟩
  case round =>
    obtain ⟨k, q, hk, rfl, rfl, hpar, hoff, hbw⟩ := hrel
    have hbz := hb4.trans (hbw.mono hb4.size)
    by_cases hlt : k < l.length
    rotate_left
    · obtain rfl : k = l.length := by omega
      have HE := Lib.hid (HEND.out q hoff.out hpar.out)
      cases q
      all_goals
        go_wp2
        go_ret
        exact RetV.int (by rw [HE.out]; rfl) hbz
    · have hbd := below_drewN hbw 1
      have hbzd := below_drewN hbz 1
      obtain ⟨b, off, rfl, hb, hc⟩ := RdR.getAll HRD.out hbzd hlt
      have hbr : b < (wr.drewN 1).heap.size := Nat.lt_of_lt_of_le hb hbzd.size
      have HL := Lib.hid fun (W : World) (hW : Below (wr.drewN 1).heap.size (wr.drewN 1) W) => (show W.cell? ⟨b, off + k * 2, none⟩ = some (.int .i64 l[k]!.1) ∧ W.cell? ⟨b, off + k * 2 + 1, none⟩ = some (.int .i64 l[k]!.2) from ⟨(hW.cell (p := ⟨b, off + k * 2, none⟩) hbr).trans (hc k hlt).1, (hW.cell (p := ⟨b, off + k * 2 + 1, none⟩) hbr).trans (hc k hlt).2⟩)
      have CE := Lib.hid fun (W : World) (hW : Below (wr.drewN 1).heap.size (wr.drewN 1) W) => cE.out k hlt W (hbzd.trans (hW.mono hbzd.size))
      have hkl : (k : Int) < (l.length : Int) := by omega
      have hk0 : (0 : Int) ≤ (k : Int) := by omega
      have hd : decide ((k : Int) < (l.length : Int)) = true := decide_eq_true hkl
      have cOk := Lib.hid (cO.out k hlt)
      have cSk := Lib.hid (cS.out k hlt)
      have cSk2 := Lib.hid (cS2.out k hlt)
      have HPk := Lib.hid (HP.out k)
      have HONk := Lib.hid (HON.out k hlt)
      have HNXk := Lib.hid (HNX.out k hoff.out)
      rw [hpar.out] at HPk
      clear hbw hbz hpar hoff hc
      obtain ⟨⟨a1, a2⟩, hcc⟩ : ∃ p, l[k]! = p := ⟨_, rfl⟩
      obtain ⟨⟨b1, b2⟩, hdd⟩ : ∃ p, edE l k = p := ⟨_, rfl⟩
      rw [hcc] at HL
      rw [hdd] at CE
      rw [hcc, hdd] at cOk cSk cSk2 HPk HONk HNXk
      clear hcc hdd
      dsimp only at cOk cSk cSk2 HL CE
      go_upto_region 7 with fail
      go_cut [7, 8] (fun v7 v8 wx => Two (wr.drewN 1) wx v7 v8 (a1, a2) (b1, b2))
      case first =>
        refine wp_region_held_drew (S := fun W : World => Below (wr.drewN 1).heap.size (wr.drewN 1) W) (by kernel_rfl) (Below.refl _ _) (fun hHeld => ?_)
        clear hHeld
        change wpAnyH _ _ _ _ _ _ _ _ (wr.drewN 1)
        generalize wr.drewN 1 = w0 at *
        have hS0 : (fun W : World => Below w0.heap.size w0 W) w0 := Below.refl _ _
        refine wpAnyH_take (i := 0) (oi := ⟨some 23, _, _, _, _, _⟩) (v := ?vra1) rfl (by kernel_rfl) (by kernel_rfl) (by kernel_rfl) (fun _ _ _ h => h) (Or.inl ⟨by kernel_rfl, ?hyra1⟩) (by assumption) ?restra1
        case hyra1 => (intro W hSw; (try dsimp only at hSw); go_simp; try with_reducible rfl)
        case' restra1 => try simp only [Act.put, List.setIfInBounds_toArray, List.set_cons_zero, List.set_cons_succ]
        refine wpAnyH_take (i := 1) (oi := ⟨some 24, _, _, _, _, _⟩) (v := ?vra2) rfl (by kernel_rfl) (by kernel_rfl) (by kernel_rfl) (fun _ _ _ h => h) (Or.inl ⟨by kernel_rfl, ?hyra2⟩) (by assumption) ?restra2
        case hyra2 => (intro W hSw; (try dsimp only at hSw); go_simp; try with_reducible rfl)
        case' restra2 => try simp only [Act.put, List.setIfInBounds_toArray, List.set_cons_zero, List.set_cons_succ]
        refine wpAnyH_take (i := 2) (oi := ⟨some 25, _, _, _, _, _⟩) (v := ?vra3) rfl (by kernel_rfl) (by kernel_rfl) (by kernel_rfl) (fun _ _ _ h => h) (Or.inl ⟨by kernel_rfl, ?hyra3⟩) (by assumption) ?restra3
        case hyra3 => (intro W hSw; (try dsimp only at hSw); go_simp; try with_reducible rfl)
        case' restra3 => try simp only [Act.put, List.setIfInBounds_toArray, List.set_cons_zero, List.set_cons_succ]
        refine wpAnyH_take (i := 3) (oi := ⟨some 26, _, _, _, _, _⟩) (v := ?vra4) rfl (by kernel_rfl) (by kernel_rfl) (by kernel_rfl) (fun _ _ _ h => h) (Or.inl ⟨by kernel_rfl, ?hyra4⟩) (by assumption) ?restra4
        case hyra4 => (intro W hSw; obtain ⟨k1, k2⟩ := HL.out W hSw; clear hSw; (try dsimp only at hSw); go_simp; try with_reducible rfl)
        case' restra4 => try simp only [Act.put, List.setIfInBounds_toArray, List.set_cons_zero, List.set_cons_succ]
        refine wpAnyH_take (i := 4) (oi := ⟨some 27, _, _, _, _, _⟩) (v := ?vra5) rfl (by kernel_rfl) (by kernel_rfl) (by kernel_rfl) (fun _ _ _ h => h) (Or.inl ⟨by kernel_rfl, ?hyra5⟩) (by assumption) ?restra5
        case hyra5 => (intro W hSw; (try dsimp only at hSw); go_simp; try with_reducible rfl)
        case' restra5 => try simp only [Act.put, List.setIfInBounds_toArray, List.set_cons_zero, List.set_cons_succ]
        refine wpAnyH_take (i := 5) (oi := ⟨some 28, _, _, _, _, _⟩) (v := ?vra6) rfl (by kernel_rfl) (by kernel_rfl) (by kernel_rfl) (fun _ _ _ h => h) (Or.inl ⟨by kernel_rfl, ?hyra6⟩) (by assumption) ?restra6
        case hyra6 => (intro W hSw; (try dsimp only at hSw); go_simp; try with_reducible rfl)
        case' restra6 => try simp only [Act.put, List.setIfInBounds_toArray, List.set_cons_zero, List.set_cons_succ]
        refine' wpAnyH_share (fun H f l (act : Value → Value → Act) => ∀ (v7 : Value) (v8 : Value) (WX : World), Bq w0.heap.size WX v7 (0, 0) → Bq w0.heap.size WX v8 (0, 0) → Nq WX v7 v8 → (fun W : World => Below w0.heap.size w0 W) WX → H f l (act v7 v8) WX) (fun tailra10 => ?mtailra10) ?ttailra10
        case mtailra10 =>
          refine' wpAnyH_share (fun H f l (act : Value → Value → Act) => ∀ (v7 : Value) (v8 : Value) (WX : World), Bq w0.heap.size WX v7 (0, 0) → Bq w0.heap.size WX v8 (0, 0) → Nq WX v7 v8 → (fun W : World => Below w0.heap.size w0 W) WX → H f l (act v7 v8) WX) (fun tailra9 => ?mtailra9) ?ttailra9
          case mtailra9 =>
            refine' wpAnyH_share (fun H f l (act : Value → Act) => ∀ (v8 : Value) (WX : World), Bq w0.heap.size WX v8 (0, 0) → (fun W : World => Below w0.heap.size w0 W) WX → H f l (act v8) WX) (fun tailra8 => ?mtailra8) ?ttailra8
            case mtailra8 =>
              refine' wpAnyH_share (fun H f l (act : Value → Act) => ∀ (v7 : Value) (WX : World), Bq w0.heap.size WX v7 (0, 0) → (fun W : World => Below w0.heap.size w0 W) WX → H f l (act v7) WX) (fun tailra7 => ?mtailra7) ?ttailra7
              case mtailra7 =>
                refine wpAnyH_ready (rs := [6, 7, 8]) (by kernel_rfl) (by simp) ?_
                refine AllReadyH.cons (o := ⟨some 29, _, _, _, _, _⟩) rfl (fun K hK => ?_) ?_
                · skip
                  go_simp
                  go_at_call 32
                  refine (CE.out _ hS0).mono ?_
                  rintro e Wra1 ⟨rfl, hbWra1⟩
                  have hSWra1 := hS0.trans (hbWra1.mono hS0.size)
                  try clear hS0
                  clear hbWra1
                  go_wp2_with fail
                  refine hK.out _ _ hSWra1 (fun hHeld => ?_)
                  clear hK hHeld K
                  try simp only [Act.put, List.setIfInBounds_toArray, List.set_cons_zero, List.set_cons_succ]
                  refine wpAnyH_ready (rs := [7, 8]) (by kernel_rfl) (by simp) ?_
                  refine AllReadyH.cons (o := ⟨some 7, _, _, _, _, _⟩) rfl (fun K hK => ?_) ?_
                  · skip
                    go_simp
                    have h7 := Bq.new Wra1 hSWra1.size
                    have hSWra2 := hSWra1.alloc hSWra1.size (.cells #[.int .i64 0, .int .i64 0] 32)
                    refine hK.out _ _ hSWra2 (fun hHeld => ?_)
                    clear hK hHeld K
                    try clear hSWra1
                    try simp only [Act.put, List.setIfInBounds_toArray, List.set_cons_zero, List.set_cons_succ]
                    generalize (Wra1.alloc (.cells #[.int .i64 0, .int .i64 0] 32)) = Wra2 at  h7 hSWra2 ⊢
                    generalize Value.pointer (some ⟨Wra1.heap.size, 0, none⟩) = v7 at  h7 ⊢
                    exact wpAnyH_cast rfl rfl (tailra7 v7 Wra2 h7 hSWra2)
                  refine AllReadyH.cons (o := ⟨some 8, _, _, _, _, _⟩) rfl (fun K hK => ?_) AllReadyH.nil
                  go_simp
                  have h8 := Bq.new Wra1 hSWra1.size
                  have hSWra3 := hSWra1.alloc hSWra1.size (.cells #[.int .i64 0, .int .i64 0] 32)
                  refine hK.out _ _ hSWra3 (fun hHeld => ?_)
                  clear hK hHeld K
                  try clear hSWra1
                  try simp only [Act.put, List.setIfInBounds_toArray, List.set_cons_zero, List.set_cons_succ]
                  generalize (Wra1.alloc (.cells #[.int .i64 0, .int .i64 0] 32)) = Wra3 at  h8 hSWra3 ⊢
                  generalize Value.pointer (some ⟨Wra1.heap.size, 0, none⟩) = v8 at  h8 ⊢
                  exact wpAnyH_cast rfl rfl (tailra8 v8 Wra3 h8 hSWra3)
                refine AllReadyH.cons (o := ⟨some 7, _, _, _, _, _⟩) rfl (fun K hK => ?_) ?_
                · skip
                  go_simp
                  have h7 := Bq.new w0 hS0.size
                  have hSWra4 := hS0.alloc hS0.size (.cells #[.int .i64 0, .int .i64 0] 32)
                  refine hK.out _ _ hSWra4 (fun hHeld => ?_)
                  clear hK hHeld K
                  try clear hS0
                  try simp only [Act.put, List.setIfInBounds_toArray, List.set_cons_zero, List.set_cons_succ]
                  generalize (w0.alloc (.cells #[.int .i64 0, .int .i64 0] 32)) = Wra4 at  h7 hSWra4 ⊢
                  generalize Value.pointer (some ⟨w0.heap.size, 0, none⟩) = v7 at  h7 ⊢
                  refine wpAnyH_ready (rs := [6, 8]) (by kernel_rfl) (by simp) ?_
                  refine AllReadyH.cons (o := ⟨some 29, _, _, _, _, _⟩) rfl (fun K hK => ?_) ?_
                  · skip
                    go_simp
                    go_at_call 32
                    refine (CE.out _ hSWra4).mono ?_
                    rintro e Wra5 ⟨rfl, hbWra5⟩
                    replace h7 := h7.below hbWra5
                    have hSWra5 := hSWra4.trans (hbWra5.mono hSWra4.size)
                    try clear hSWra4
                    clear hbWra5
                    go_wp2_with fail
                    refine hK.out _ _ hSWra5 (fun hHeld => ?_)
                    clear hK hHeld K
                    try simp only [Act.put, List.setIfInBounds_toArray, List.set_cons_zero, List.set_cons_succ]
                    exact wpAnyH_cast (by kernel_rfl) (by kernel_rfl) (tailra7 v7 Wra5 h7 hSWra5)
                  refine AllReadyH.cons (o := ⟨some 8, _, _, _, _, _⟩) rfl (fun K hK => ?_) AllReadyH.nil
                  go_simp
                  have e7_8 := Nq.new h7 (.cells #[.int .i64 0, .int .i64 0] 32)
                  replace h7 := h7.alloc (.cells #[.int .i64 0, .int .i64 0] 32)
                  have h8 := Bq.new Wra4 hSWra4.size
                  have hSWra6 := hSWra4.alloc hSWra4.size (.cells #[.int .i64 0, .int .i64 0] 32)
                  refine hK.out _ _ hSWra6 (fun hHeld => ?_)
                  clear hK hHeld K
                  try clear hSWra4
                  try simp only [Act.put, List.setIfInBounds_toArray, List.set_cons_zero, List.set_cons_succ]
                  generalize (Wra4.alloc (.cells #[.int .i64 0, .int .i64 0] 32)) = Wra6 at h7 e7_8 h8 hSWra6 ⊢
                  generalize Value.pointer (some ⟨Wra4.heap.size, 0, none⟩) = v8 at e7_8 h8 ⊢
                  exact wpAnyH_cast rfl rfl (tailra9 v7 v8 Wra6 h7 h8 e7_8 hSWra6)
                refine AllReadyH.cons (o := ⟨some 8, _, _, _, _, _⟩) rfl (fun K hK => ?_) AllReadyH.nil
                go_simp
                have h8 := Bq.new w0 hS0.size
                have hSWra7 := hS0.alloc hS0.size (.cells #[.int .i64 0, .int .i64 0] 32)
                refine hK.out _ _ hSWra7 (fun hHeld => ?_)
                clear hK hHeld K
                try clear hS0
                try simp only [Act.put, List.setIfInBounds_toArray, List.set_cons_zero, List.set_cons_succ]
                generalize (w0.alloc (.cells #[.int .i64 0, .int .i64 0] 32)) = Wra7 at  h8 hSWra7 ⊢
                generalize Value.pointer (some ⟨w0.heap.size, 0, none⟩) = v8 at  h8 ⊢
                refine wpAnyH_ready (rs := [6, 7]) (by kernel_rfl) (by simp) ?_
                refine AllReadyH.cons (o := ⟨some 29, _, _, _, _, _⟩) rfl (fun K hK => ?_) ?_
                · skip
                  go_simp
                  go_at_call 32
                  refine (CE.out _ hSWra7).mono ?_
                  rintro e Wra8 ⟨rfl, hbWra8⟩
                  replace h8 := h8.below hbWra8
                  have hSWra8 := hSWra7.trans (hbWra8.mono hSWra7.size)
                  try clear hSWra7
                  clear hbWra8
                  go_wp2_with fail
                  refine hK.out _ _ hSWra8 (fun hHeld => ?_)
                  clear hK hHeld K
                  try simp only [Act.put, List.setIfInBounds_toArray, List.set_cons_zero, List.set_cons_succ]
                  exact wpAnyH_cast (by kernel_rfl) (by kernel_rfl) (tailra8 v8 Wra8 h8 hSWra8)
                refine AllReadyH.cons (o := ⟨some 7, _, _, _, _, _⟩) rfl (fun K hK => ?_) AllReadyH.nil
                go_simp
                have e7_8 := (Nq.new h8 (.cells #[.int .i64 0, .int .i64 0] 32)).symm
                replace h8 := h8.alloc (.cells #[.int .i64 0, .int .i64 0] 32)
                have h7 := Bq.new Wra7 hSWra7.size
                have hSWra9 := hSWra7.alloc hSWra7.size (.cells #[.int .i64 0, .int .i64 0] 32)
                refine hK.out _ _ hSWra9 (fun hHeld => ?_)
                clear hK hHeld K
                try clear hSWra7
                try simp only [Act.put, List.setIfInBounds_toArray, List.set_cons_zero, List.set_cons_succ]
                generalize (Wra7.alloc (.cells #[.int .i64 0, .int .i64 0] 32)) = Wra9 at h8 e7_8 h7 hSWra9 ⊢
                generalize Value.pointer (some ⟨Wra7.heap.size, 0, none⟩) = v7 at e7_8 h7 ⊢
                exact wpAnyH_cast (by kernel_rfl) (by kernel_rfl) (tailra9 v7 v8 Wra9 h7 h8 e7_8 hSWra9)
              case ttailra7 =>
                try clear hS0
                intro v7 Wra10 h7 hSWra10
                refine wpAnyH_ready (rs := [8]) (by kernel_rfl) (by simp) ?_
                refine AllReadyH.cons (o := ⟨some 8, _, _, _, _, _⟩) rfl (fun K hK => ?_) AllReadyH.nil
                go_simp
                have e7_8 := Nq.new h7 (.cells #[.int .i64 0, .int .i64 0] 32)
                replace h7 := h7.alloc (.cells #[.int .i64 0, .int .i64 0] 32)
                have h8 := Bq.new Wra10 hSWra10.size
                have hSWra11 := hSWra10.alloc hSWra10.size (.cells #[.int .i64 0, .int .i64 0] 32)
                refine hK.out _ _ hSWra11 (fun hHeld => ?_)
                clear hK hHeld K
                try clear hSWra10
                try simp only [Act.put, List.setIfInBounds_toArray, List.set_cons_zero, List.set_cons_succ]
                generalize (Wra10.alloc (.cells #[.int .i64 0, .int .i64 0] 32)) = Wra11 at h7 e7_8 h8 hSWra11 ⊢
                generalize Value.pointer (some ⟨Wra10.heap.size, 0, none⟩) = v8 at e7_8 h8 ⊢
                exact wpAnyH_cast rfl rfl (tailra10 v7 v8 Wra11 h7 h8 e7_8 hSWra11)
            case ttailra8 =>
              try clear hS0
              intro v8 Wra12 h8 hSWra12
              refine wpAnyH_ready (rs := [7]) (by kernel_rfl) (by simp) ?_
              refine AllReadyH.cons (o := ⟨some 7, _, _, _, _, _⟩) rfl (fun K hK => ?_) AllReadyH.nil
              go_simp
              have e7_8 := (Nq.new h8 (.cells #[.int .i64 0, .int .i64 0] 32)).symm
              replace h8 := h8.alloc (.cells #[.int .i64 0, .int .i64 0] 32)
              have h7 := Bq.new Wra12 hSWra12.size
              have hSWra13 := hSWra12.alloc hSWra12.size (.cells #[.int .i64 0, .int .i64 0] 32)
              refine hK.out _ _ hSWra13 (fun hHeld => ?_)
              clear hK hHeld K
              try clear hSWra12
              try simp only [Act.put, List.setIfInBounds_toArray, List.set_cons_zero, List.set_cons_succ]
              generalize (Wra12.alloc (.cells #[.int .i64 0, .int .i64 0] 32)) = Wra13 at h8 e7_8 h7 hSWra13 ⊢
              generalize Value.pointer (some ⟨Wra12.heap.size, 0, none⟩) = v7 at e7_8 h7 ⊢
              exact wpAnyH_cast (by kernel_rfl) (by kernel_rfl) (tailra10 v7 v8 Wra13 h7 h8 e7_8 hSWra13)
          case ttailra9 =>
            try clear hS0
            intro v7 v8 Wra14 h7 h8 e7_8 hSWra14
            refine wpAnyH_ready (rs := [6]) (by kernel_rfl) (by simp) ?_
            refine AllReadyH.cons (o := ⟨some 29, _, _, _, _, _⟩) rfl (fun K hK => ?_) AllReadyH.nil
            go_simp
            go_at_call 32
            refine (CE.out _ hSWra14).mono ?_
            rintro e Wra15 ⟨rfl, hbWra15⟩
            replace h7 := h7.below hbWra15
            replace h8 := h8.below hbWra15
            replace e7_8 := e7_8.below hbWra15
            have hSWra15 := hSWra14.trans (hbWra15.mono hSWra14.size)
            try clear hSWra14
            clear hbWra15
            go_wp2_with fail
            refine hK.out _ _ hSWra15 (fun hHeld => ?_)
            clear hK hHeld K
            try simp only [Act.put, List.setIfInBounds_toArray, List.set_cons_zero, List.set_cons_succ]
            exact wpAnyH_cast (by kernel_rfl) (by kernel_rfl) (tailra10 v7 v8 Wra15 h7 h8 e7_8 hSWra15)
        case ttailra10 =>
          try clear hS0
          intro v7 v8 Wra16 h7 h8 e7_8 hSWra16
          refine wpAnyH_ready (rs := [9]) (by kernel_rfl) (by simp) ?_
          refine AllReadyH.cons (o := ⟨none, _, _, _, _, _⟩) rfl (fun K hK => ?_) AllReadyH.nil
          refine Bq.store h7 (a1, a2) rfl _ _ rfl rfl rfl (fun Wra17 hbx hbW hoth => ?_)
          have hSWra17 := hSWra16.trans hbW
          replace h8 := hoth _ _ h8 e7_8.symm
          replace h7 := hbx
          clear hbx hbW hoth hSWra16
          have e7_8' : Nq Wra17 _ _ := e7_8
          clear e7_8
          have e7_8 := e7_8'
          clear e7_8'
          refine hK.out _ _ hSWra17 (fun hHeld => ?_)
          clear hK hHeld K
          try simp only [Act.put, List.setIfInBounds_toArray, List.set_cons_zero, List.set_cons_succ]
          refine wpAnyH_ready (rs := [10]) (by kernel_rfl) (by simp) ?_
          refine AllReadyH.cons (o := ⟨none, _, _, _, _, _⟩) rfl (fun K hK => ?_) AllReadyH.nil
          refine Bq.store h8 (b1, b2) rfl _ _ rfl rfl rfl (fun Wra18 hbx hbW hoth => ?_)
          have hSWra18 := hSWra17.trans hbW
          replace h7 := hoth _ _ h7 e7_8
          replace h8 := hbx
          clear hbx hbW hoth hSWra17
          have e7_8' : Nq Wra18 _ _ := e7_8
          clear e7_8
          have e7_8 := e7_8'
          clear e7_8'
          refine hK.out _ _ hSWra18 (fun hHeld => ?_)
          clear hK hHeld K
          try simp only [Act.put, List.setIfInBounds_toArray, List.set_cons_zero, List.set_cons_succ]
          refine wpAnyH_done (by kernel_rfl) ?_ _
          go_wp2_with fail
          go_meet
          exact ⟨h7, h8, e7_8, hSWra18⟩
      case rest =>
        obtain ⟨n, m, rfl, rfl, hnm, hn0, hm0, hA, hB, hbx⟩ := hcut.cells
        have hbw4 := hbd.trans (hbx.mono hbd.size)
        have hxn : w2.heap.size ≤ n := Nat.le_trans hbd.size hn0
        have hxm : w2.heap.size ≤ m := Nat.le_trans hbd.size hm0
        clear hcut hbx hbd hbzd HL CE hbr hn0 hm0
        obtain ⟨k1, k2, f1, f2, l1⟩ := hA.cel
        obtain ⟨k3, k4, f3, f4, l2⟩ := hB.cel
        obtain ⟨k5, k6⟩ := HX2.out _ hbw4
        dsimp only at k1 k2 k3 k4
        go_wp2_with fail
        refine (cOk.out _).mono ?_
        rintro e w5 ⟨rfl, hb5⟩
        clear k1 k2 k3 k4 k5 k6 f1 f2 f3 f4 l1 l2
        have hA5 := hA.below hb5
        have hB5 := hB.below hb5
        have hbw5 := hbw4.trans (hb5.mono hbw4.size)
        have hbz5 := hb4.trans (hbw5.mono hb4.size)
        clear hA hB hbw4 hb5
        obtain ⟨o, ho⟩ : ∃ o, onB (a1, a2) (b1, b2) (x, y) = o := ⟨_, rfl⟩
        rw [ho]
        cases o
        rotate_left
        · have HE := Lib.hid (HONk.out ho)
          clear ho
          go_wp2
          go_ret
          exact RetV.int HE.out.symm hbz5
        have hoff' := Lib.hid (HNXk.out ho)
        clear ho HONk HNXk
        obtain ⟨k1, k2, f1, f2, l1⟩ := hA5.cel
        obtain ⟨k3, k4, f3, f4, l2⟩ := hB5.cel
        dsimp only at k1 k2 k3 k4
        have hk5 := HX2.out _ hbw5
        obtain ⟨k5, k6⟩ := hk5
        go_upto_region 10 with fail
        have HCR := Lib.hid (rcB_crB (a1, a2) (b1, b2) (x, y))
        generalize crB (a1, a2) (b1, b2) (x, y) = z at *
        dsimp only at HCR
        have FIN : ∀ wx, Below w2.heap.size w2 wx → Below w.heap.size w wx := fun wx h => hb4.trans (h.mono hb4.size)
        have HFIN := Lib.hid FIN
        clear FIN
        by_cases hsw : b2 < a2
        · have HCR := Lib.hid (HCR.out.trans (if_pos hsw))
          have hq1 := (hA5.set (b1, b2)).other hnm (a1, a2)
          have hq2 := (hB5.other (Ne.symm hnm) (b1, b2)).set (a1, a2)
          have hq3 := below_setP (below_setP hbw5 (q := (b1, b2)) hxn) (q := (a1, a2)) hxm
          go_upto_region 12 with fail
          change Code.wp _ _ _ _ (setP (setP w5 n (b1, b2)) m (a1, a2))
          generalize setP (setP w5 n (b1, b2)) m (a1, a2) = w6 at *
          clear k1 k2 k3 k4 k5 k6 f1 f2 f3 f4 l1 l2 hA5 hB5 hbw5 hbz5
          obtain ⟨k1, k2, f1, f2, l1⟩ := hq1.cel
          obtain ⟨k3, k4, f3, f4, l2⟩ := hq2.cel
          obtain ⟨k5, k6⟩ := HX2.out _ hq3
          dsimp only at k1 k2 k3 k4
          have HC := Lib.hid (show rcB (b1, b2) (a1, a2) (x, y) = decide (b2 ≤ y ∧ y < a2 ∧ 0 < sd (b1, b2) (a1, a2) (x, y)) from rfl)
          generalize sd (b1, b2) (a1, a2) (x, y) = s at *
          by_cases c1 : b2 ≤ y
          · by_cases c2 : y < a2
            · go_wp2_with fail
              refine (cSk2.out _).mono ?_
              rintro e w7 ⟨rfl, hb7⟩
              have HB := Lib.hid (hq3.trans (hb7.mono hq3.size))
              clear k1 k2 k3 k4 k5 k6 f1 f2 f3 f4 l1 l2 hq1 hq2 hq3 hb7
              by_cases c3 : 0 < s
              · have HC2 := Lib.hid (show z = true by rw [HCR.out, HC.out]; exact decide_eq_true (by omega))
                clear HCR HC
                go_wp2
                go_roundw
                case rel => exact ⟨k + 1, !q, by omega, by go_num, rfl, Lib.hid (by rw [HPk.out, HC2.out]; simp), hoff', HB.out⟩
                case measure => simp [intOf]; omega

              · have HC2 := Lib.hid (show z = false by rw [HCR.out, HC.out]; exact decide_eq_false (by omega))
                clear HCR HC
                go_wp2
                go_roundw
                case rel => exact ⟨k + 1, q, by omega, by go_num, rfl, Lib.hid (by rw [HPk.out, HC2.out]; simp), hoff', HB.out⟩
                case measure => simp [intOf]; omega

            · have HC2 := Lib.hid (show z = false by rw [HCR.out, HC.out]; exact decide_eq_false (by omega))
              clear HCR HC
              have HB := Lib.hid hq3
              go_wp2
              go_roundw
              case rel => exact ⟨k + 1, q, by omega, by go_num, rfl, Lib.hid (by rw [HPk.out, HC2.out]; simp), hoff', HB.out⟩
              case measure => simp [intOf]; omega

          · have HC2 := Lib.hid (show z = false by rw [HCR.out, HC.out]; exact decide_eq_false (by omega))
            clear HCR HC
            have HB := Lib.hid hq3
            go_wp2
            go_roundw
            case rel => exact ⟨k + 1, q, by omega, by go_num, rfl, Lib.hid (by rw [HPk.out, HC2.out]; simp), hoff', HB.out⟩
            case measure => simp [intOf]; omega

        · have HCR := Lib.hid (HCR.out.trans (if_neg hsw))
          go_upto_region 12 with fail
          have HC := Lib.hid (show rcB (a1, a2) (b1, b2) (x, y) = decide (a2 ≤ y ∧ y < b2 ∧ 0 < sd (a1, a2) (b1, b2) (x, y)) from rfl)
          generalize sd (a1, a2) (b1, b2) (x, y) = s at *
          by_cases c1 : a2 ≤ y
          · by_cases c2 : y < b2
            · go_wp2_with fail
              refine (cSk.out _).mono ?_
              rintro e w7 ⟨rfl, hb7⟩
              have HB := Lib.hid (hbw5.trans (hb7.mono hbw5.size))
              clear k1 k2 k3 k4 k5 k6 f1 f2 f3 f4 l1 l2 hA5 hB5 hbw5 hb7
              by_cases c3 : 0 < s
              · have HC2 := Lib.hid (show z = true by rw [HCR.out, HC.out]; exact decide_eq_true (by omega))
                clear HCR HC
                go_wp2
                go_roundw
                case rel => exact ⟨k + 1, !q, by omega, by go_num, rfl, Lib.hid (by rw [HPk.out, HC2.out]; simp), hoff', HB.out⟩
                case measure => simp [intOf]; omega

              · have HC2 := Lib.hid (show z = false by rw [HCR.out, HC.out]; exact decide_eq_false (by omega))
                clear HCR HC
                go_wp2
                go_roundw
                case rel => exact ⟨k + 1, q, by omega, by go_num, rfl, Lib.hid (by rw [HPk.out, HC2.out]; simp), hoff', HB.out⟩
                case measure => simp [intOf]; omega

            · have HC2 := Lib.hid (show z = false by rw [HCR.out, HC.out]; exact decide_eq_false (by omega))
              clear HCR HC
              have HB := Lib.hid hbw5
              go_wp2
              go_roundw
              case rel => exact ⟨k + 1, q, by omega, by go_num, rfl, Lib.hid (by rw [HPk.out, HC2.out]; simp), hoff', HB.out⟩
              case measure => simp [intOf]; omega

          · have HC2 := Lib.hid (show z = false by rw [HCR.out, HC.out]; exact decide_eq_false (by omega))
            clear HCR HC
            have HB := Lib.hid hbw5
            go_wp2
            go_roundw
            case rel => exact ⟨k + 1, q, by omega, by go_num, rfl, Lib.hid (by rw [HPk.out, HC2.out]; simp), hoff', HB.out⟩
            case measure => simp [intOf]; omega

end Go.Proofs
