/- Twice, and the reference's Twice. -/
import Derived.Test.YtafaojmkbbhjmaaC4
set_option linter.unusedVariables false
set_option linter.unusedSimpArgs false
namespace Go.Proofs
open Go.RowKit Go.Proofs.Mp

/-- twice the signed area of the first k edges -/
def edA (a b : Pt) : Int := a.1 * b.2 - b.1 * a.2
def twTo (l : List Pt) : Nat → Int
  | 0 => 0
  | k + 1 => twTo l k + edA l[k]! (edE l k)
def twN (l : List Pt) : Int := if polyE l = 0 then twTo l l.length else 0
theorem edA_bound {a b : Pt} (ha : Vp a) (hb : Vp b) : -2199023255552 ≤ edA a b ∧ edA a b ≤ 2199023255552 ∧ -1099511627776 ≤ a.1 * b.2 ∧ a.1 * b.2 ≤ 1099511627776 ∧ -1099511627776 ≤ b.1 * a.2 ∧ b.1 * a.2 ≤ 1099511627776 := by
  obtain ⟨a1, a2, a3, a4⟩ := ha
  obtain ⟨b1, b2, b3, b4⟩ := hb
  have h1 := mul_bound a1 a2 b3 b4 (by omega)
  have h2 := mul_bound b1 b2 a3 a4 (by omega)
  unfold edA
  omega
theorem twTo_bound {l : List Pt} (hv : allVp l) : ∀ k, k ≤ l.length → -(2199023255552 * (k : Int)) ≤ twTo l k ∧ twTo l k ≤ 2199023255552 * (k : Int) := by
  intro k
  induction k with
  | zero => intro _; simp [twTo]
  | succ k ih =>
    intro hk
    obtain ⟨h1, h2⟩ := ih (by omega)
    obtain ⟨h3, h4, _⟩ := edA_bound (hv k (by omega)) (edE_vp hv (show k < l.length by omega))
    unfold twTo
    omega
theorem polyE_zero {l : List Pt} (h : polyE l = 0) : allVp l ∧ 3 ≤ l.length ∧ l.length ≤ 4096 := by
  rcases polyE_cases l with ⟨h', _⟩ | ⟨h', _⟩ | ⟨_, h1, h2, h3⟩
  · omega
  · omega
  · exact ⟨h3, h1, h2⟩

theorem Try.field32 (x y : Int) (W : World) : (Instr.field 32 (.agg #[.int .i64 x, .int .i64 y]) 0).run Try.prog W = .ok (.int .i64 x) W ∧ (Instr.field 32 (.agg #[.int .i64 x, .int .i64 y]) 1).run Try.prog W = .ok (.int .i64 y) W := by
  constructor
  · simp [Instr.field, go_sem, asAgg]
  · simp [Instr.field, go_sem, asAgg]

set_option maxRecDepth 100000 in
set_option maxHeartbeats 2000000 in
theorem ring_twice (A : Option Addr) (c : Nat) (l : List Pt) (w : World) (hmax : l.length ≤ 1000000000000) (hR : RdR w A l) :
    Calls Try.prog 13 #[.slice A l.length c] w (RetV w (.int .i64 (twN l))) := by
  have cP := Lib.hid (ring_polygon A c l w hmax hR)
  have HR0 := Lib.hid (show twN l = if polyE l = 0 then twTo l l.length else 0 from rfl)
  by_cases h0 : polyE l = 0
  rotate_left
  · have HR := Lib.hid (HR0.out.trans (if_neg h0))
    clear HR0
    have hz : (polyE l != 0) = true := by simp [h0]
    clear hR
    generalize twN l = E at *
    generalize polyE l = z at *
    clear h0
    go_enter Try.func13, Try.ntmps13
    go_wp2_with fail
    refine cP.out.mono ?_
    rintro e w1 ⟨rfl, hb1⟩
    go_wp2
    go_ret
    exact RetV.int HR.out.symm hb1
  obtain ⟨hv, hn3, hn⟩ := polyE_zero h0
  have HR := Lib.hid (HR0.out.trans (if_pos h0))
  clear HR0
  have HV := Lib.hid hv
  have HB := Lib.hid (twTo_bound hv)
  rw [h0] at cP
  clear h0 hv
  have cE := Lib.hid fun (i : Nat) (hi : i < l.length) (W : World) (hb : Below w.heap.size w W) => ring_edge A c l i W hmax hi (hR.below hb)
  unfold aggP at cE
  clear hR
  go_enter Try.func13, Try.ntmps13
  go_wp2_with fail
  refine cP.out.mono ?_
  rintro e w1 ⟨rfl, hb1⟩
  go_wp2_with fail
  go_loopw [2, 11] (fun t i wr => ∃ (k : Nat) (tk : Int), k ≤ l.length ∧ i = .int .i64 k ∧ t = .int .i64 tk ∧ Hid (twTo l k = tk) ∧ Below w.heap.size w wr) (fun _ i _ => l.length - (intOf i).toNat)
  case atStart => exact ⟨0, 0, by omega, rfl, rfl, Lib.hid rfl, hb1⟩
  case round =>
    obtain ⟨k, tk, hk, rfl, rfl, htk, hbw⟩ := hrel
    clear hb1
    by_cases hlt : k < l.length
    rotate_left
    · obtain rfl : k = l.length := by omega
      go_wp2
      go_ret
      exact RetV.int (by rw [HR.out, htk.out]) hbw
    · go_wp2_with fail
      refine (cE.out k hlt wr hbw).mono ?_
      rintro e w2 ⟨rfl, hb2⟩
      have hbw2 := hbw.trans (hb2.mono hbw.size)
      have hvv := HB.out k (by omega)
      rw [htk.out] at hvv
      obtain ⟨v1, v2⟩ := hvv
      obtain ⟨m1, m2, m3, m4, m5, m6⟩ := edA_bound (HV.out k hlt) (edE_vp HV.out hlt)
      have HS := Lib.hid (show twTo l (k + 1) = tk + edA l[k]! (edE l k) by rw [← htk.out]; rfl)
      unfold edA at m1 m2 HS
      obtain ⟨⟨a1, a2⟩, hcc⟩ : ∃ p, l[k]! = p := ⟨_, rfl⟩
      obtain ⟨⟨b1, b2⟩, hdd⟩ : ∃ p, edE l k = p := ⟨_, rfl⟩
      rw [hcc, hdd]
      rw [hcc, hdd] at m1 m2 m3 m4 m5 m6 HS
      clear hcc hdd
      dsimp only at m1 m2 m3 m4 m5 m6 HS ⊢
      have hb3 : Below w.heap.size w ((w2.alloc (.cells #[.int .i64 a1, .int .i64 a2] 32)).alloc (.cells #[.int .i64 b1, .int .i64 b2] 32)) := (hbw2.alloc hbw2.size _).alloc (by have := hbw2.size; simp; omega) _
      go_wp2
      go_roundw
      case rel => exact ⟨k + 1, _, by omega, by go_num, rfl, HS, hb3⟩
      case measure => simp [intOf]; omega

set_option maxRecDepth 100000 in
set_option maxHeartbeats 2000000 in
theorem ref_twice (A : Option Addr) (c : Nat) (l : List Pt) (w : World) (hmax : l.length ≤ 1000000000000) (hR : RdR w A l) :
    Calls Try.prog 14 #[.slice A l.length c] w (RetV w (.int .i64 (twN l))) := by
  have cP := Lib.hid (ref_polygon A c l w hmax hR)
  have HR0 := Lib.hid (show twN l = if polyE l = 0 then twTo l l.length else 0 from rfl)
  by_cases h0 : polyE l = 0
  rotate_left
  · have HR := Lib.hid (HR0.out.trans (if_neg h0))
    clear HR0
    have hz : (polyE l != 0) = true := by simp [h0]
    clear hR
    generalize twN l = E at *
    generalize polyE l = z at *
    clear h0
    go_enter Try.func14, Try.ntmps14
    go_wp2_with fail
    refine cP.out.mono ?_
    rintro e w1 ⟨rfl, hb1⟩
    go_wp2
    go_ret
    exact RetV.int HR.out.symm hb1
  obtain ⟨hv, hn3, hn⟩ := polyE_zero h0
  have HR := Lib.hid (HR0.out.trans (if_pos h0))
  clear HR0
  have HV := Lib.hid hv
  have HB := Lib.hid (twTo_bound hv)
  rw [h0] at cP
  clear h0 hv
  have cE := Lib.hid fun (i : Nat) (hi : i < l.length) (W : World) (hb : Below w.heap.size w W) => ref_end A c l i W hmax hi (hR.below hb)
  unfold aggP at cE
  have HRD := Lib.hid hR
  clear hR
  go_enter Try.func14, Try.ntmps14
  go_wp2_with fail
  refine cP.out.mono ?_
  rintro e w1 ⟨rfl, hb1⟩
  go_wp2_with fail
  go_loopw [3, 4] (fun t i wr => ∃ (k : Nat) (tk : Int), k ≤ l.length ∧ i = .int .i64 k ∧ t = .int .i64 tk ∧ Hid (twTo l k = tk) ∧ Below w.heap.size w wr) (fun _ i _ => l.length - (intOf i).toNat)
  case atStart => exact ⟨0, 0, by omega, rfl, rfl, Lib.hid rfl, hb1⟩
  case round =>
    obtain ⟨k, tk, hk, rfl, rfl, htk, hbw⟩ := hrel
    clear hb1
    by_cases hlt : k < l.length
    rotate_left
    · obtain rfl : k = l.length := by omega
      go_wp2
      go_ret
      exact RetV.int (by rw [HR.out, htk.out]) hbw
    · have hbd := below_drewN hbw 1
      obtain ⟨b, off, rfl, hb, hc⟩ := RdR.getAll HRD.out hbd hlt
      have hbr : b < (wr.drewN 1).heap.size := Nat.lt_of_lt_of_le hb hbd.size
      have HL := Lib.hid fun (W : World) (hW : Below (wr.drewN 1).heap.size (wr.drewN 1) W) => (show W.cell? ⟨b, off + k * 2, none⟩ = some (.int .i64 l[k]!.1) ∧ W.cell? ⟨b, off + k * 2 + 1, none⟩ = some (.int .i64 l[k]!.2) from ⟨(hW.cell (p := ⟨b, off + k * 2, none⟩) hbr).trans (hc k hlt).1, (hW.cell (p := ⟨b, off + k * 2 + 1, none⟩) hbr).trans (hc k hlt).2⟩)
      have CE := Lib.hid fun (W : World) (hW : Below (wr.drewN 1).heap.size (wr.drewN 1) W) => cE.out k hlt W (hbd.trans (hW.mono hbd.size))
      have hkl : (k : Int) < (l.length : Int) := by omega
      have hk0 : (0 : Int) ≤ (k : Int) := by omega
      have hd : decide ((k : Int) < (l.length : Int)) = true := decide_eq_true hkl
      have hvv := HB.out k (by omega)
      rw [htk.out] at hvv
      obtain ⟨v1, v2⟩ := hvv
      obtain ⟨m1, m2, m3, m4, m5, m6⟩ := edA_bound (HV.out k hlt) (edE_vp HV.out hlt)
      have HS := Lib.hid (show twTo l (k + 1) = tk + edA l[k]! (edE l k) by rw [← htk.out]; rfl)
      unfold edA at m1 m2 HS
      obtain ⟨⟨a1, a2⟩, hcc⟩ : ∃ p, l[k]! = p := ⟨_, rfl⟩
      obtain ⟨⟨b1, b2⟩, hdd⟩ : ∃ p, edE l k = p := ⟨_, rfl⟩
      rw [hcc] at HL m1 m2 m3 m4 m5 m6 HS
      rw [hdd] at CE m1 m2 m3 m4 m5 m6 HS
      clear hcc hdd hc
      dsimp only at HL CE m1 m2 m3 m4 m5 m6 HS
      have e1 : IntKind.i64.wrap (a1 * b2) = a1 * b2 := IntWalk.i64_in _ (by omega)
      have e2 : IntKind.i64.wrap (b1 * a2) = b1 * a2 := IntWalk.i64_in _ (by omega)
      have e3 : IntKind.i64.wrap (a1 * b2 - b1 * a2) = a1 * b2 - b1 * a2 := IntWalk.i64_in _ (by omega)
      have e4 : IntKind.i64.wrap (tk + (a1 * b2 - b1 * a2)) = tk + (a1 * b2 - b1 * a2) := IntWalk.i64_in _ (by omega)
      have hf0 := fun W => (Try.field32 b1 b2 W).1
      have hf1 := fun W => (Try.field32 b1 b2 W).2
      go_upto_region 7 with fail
      refine wp_region_held_drew (S := fun W : World => Below (wr.drewN 1).heap.size (wr.drewN 1) W) (by kernel_rfl) (Below.refl _ _) (fun hHeld => ?_)
      clear hHeld
      change wpAnyH _ _ _ _ _ _ _ _ (wr.drewN 1)
      generalize wr.drewN 1 = w0 at *
      have hS0 : (fun W : World => Below w0.heap.size w0 W) w0 := Below.refl _ _
      clear hbw htk
      refine wpAnyH_take (i := 0) (oi := ⟨some 14, _, _, _, _, _⟩) (v := ?vra1) rfl (by kernel_rfl) (by kernel_rfl) (by kernel_rfl) (fun _ _ _ h => h) (Or.inl ⟨by kernel_rfl, ?hyra1⟩) (by assumption) ?restra1
      case hyra1 => (intro W hSw; (try dsimp only at hSw); go_simp; try with_reducible rfl)
      case' restra1 => try simp only [Act.put, List.setIfInBounds_toArray, List.set_cons_zero, List.set_cons_succ]
      refine wpAnyH_take (i := 1) (oi := ⟨some 15, _, _, _, _, _⟩) (v := ?vra2) rfl (by kernel_rfl) (by kernel_rfl) (by kernel_rfl) (fun _ _ _ h => h) (Or.inl ⟨by kernel_rfl, ?hyra2⟩) (by assumption) ?restra2
      case hyra2 => (intro W hSw; (try dsimp only at hSw); go_simp; try with_reducible rfl)
      case' restra2 => try simp only [Act.put, List.setIfInBounds_toArray, List.set_cons_zero, List.set_cons_succ]
      refine wpAnyH_take (i := 2) (oi := ⟨some 16, _, _, _, _, _⟩) (v := ?vra3) rfl (by kernel_rfl) (by kernel_rfl) (by kernel_rfl) (fun _ _ _ h => h) (Or.inl ⟨by kernel_rfl, ?hyra3⟩) (by assumption) ?restra3
      case hyra3 => (intro W hSw; (try dsimp only at hSw); go_simp; try with_reducible rfl)
      case' restra3 => try simp only [Act.put, List.setIfInBounds_toArray, List.set_cons_zero, List.set_cons_succ]
      refine wpAnyH_take (i := 3) (oi := ⟨some 17, _, _, _, _, _⟩) (v := ?vra4) rfl (by kernel_rfl) (by kernel_rfl) (by kernel_rfl) (fun _ _ _ h => h) (Or.inl ⟨by kernel_rfl, ?hyra4⟩) (by assumption) ?restra4
      case hyra4 => (intro W hSw; (try dsimp only at hSw); go_simp; try with_reducible rfl)
      case' restra4 => try simp only [Act.put, List.setIfInBounds_toArray, List.set_cons_zero, List.set_cons_succ]
      refine wpAnyH_take (i := 4) (oi := ⟨some 18, _, _, _, _, _⟩) (v := ?vra5) rfl (by kernel_rfl) (by kernel_rfl) (by kernel_rfl) (fun _ _ _ h => h) (Or.inl ⟨by kernel_rfl, ?hyra5⟩) (by assumption) ?restra5
      case hyra5 => (intro W hSw; (try dsimp only at hSw); go_simp; try with_reducible rfl)
      case' restra5 => try simp only [Act.put, List.setIfInBounds_toArray, List.set_cons_zero, List.set_cons_succ]
      refine wpAnyH_take (i := 5) (oi := ⟨some 19, _, _, _, _, _⟩) (v := ?vra6) rfl (by kernel_rfl) (by kernel_rfl) (by kernel_rfl) (fun _ _ _ h => h) (Or.inl ⟨by kernel_rfl, ?hyra6⟩) (by assumption) ?restra6
      case hyra6 => (intro W hSw; obtain ⟨k1, k2⟩ := HL.out W hSw; clear hSw; (try dsimp only at hSw); go_simp; try with_reducible rfl)
      case' restra6 => try simp only [Act.put, List.setIfInBounds_toArray, List.set_cons_zero, List.set_cons_succ]
      refine wpAnyH_take (i := 6) (oi := ⟨some 20, _, _, _, _, _⟩) (v := ?vra7) rfl (by kernel_rfl) (by kernel_rfl) (by kernel_rfl) (fun _ _ _ h => h) (Or.inl ⟨by kernel_rfl, ?hyra7⟩) (by assumption) ?restra7
      case hyra7 => (intro W hSw; (try dsimp only at hSw); go_simp; try with_reducible rfl)
      case' restra7 => try simp only [Act.put, List.setIfInBounds_toArray, List.set_cons_zero, List.set_cons_succ]
      refine wpAnyH_take (i := 7) (oi := ⟨some 21, _, _, _, _, _⟩) (v := ?vra8) rfl (by kernel_rfl) (by kernel_rfl) (by kernel_rfl) (fun _ _ _ h => h) (Or.inl ⟨by kernel_rfl, ?hyra8⟩) (by assumption) ?restra8
      case hyra8 => (intro W hSw; (try dsimp only at hSw); go_simp; try with_reducible rfl)
      case' restra8 => try simp only [Act.put, List.setIfInBounds_toArray, List.set_cons_zero, List.set_cons_succ]
      refine wpAnyH_take (i := 11) (oi := ⟨some 25, _, _, _, _, _⟩) (v := ?vra9) rfl (by kernel_rfl) (by kernel_rfl) (by kernel_rfl) (fun _ _ _ h => h) (Or.inl ⟨by kernel_rfl, ?hyra9⟩) (by assumption) ?restra9
      case hyra9 => (intro W hSw; (try dsimp only at hSw); go_simp; try with_reducible rfl)
      case' restra9 => try simp only [Act.put, List.setIfInBounds_toArray, List.set_cons_zero, List.set_cons_succ]
      refine wpAnyH_take (i := 12) (oi := ⟨some 26, _, _, _, _, _⟩) (v := ?vra10) rfl (by kernel_rfl) (by kernel_rfl) (by kernel_rfl) (fun _ _ _ h => h) (Or.inl ⟨by kernel_rfl, ?hyra10⟩) (by assumption) ?restra10
      case hyra10 => (intro W hSw; (try dsimp only at hSw); go_simp; try with_reducible rfl)
      case' restra10 => try simp only [Act.put, List.setIfInBounds_toArray, List.set_cons_zero, List.set_cons_succ]
      refine wpAnyH_take (i := 15) (oi := ⟨some 29, _, _, _, _, _⟩) (v := ?vra11) rfl (by kernel_rfl) (by kernel_rfl) (by kernel_rfl) (fun _ _ _ h => h) (Or.inl ⟨by kernel_rfl, ?hyra11⟩) (by assumption) ?restra11
      case hyra11 => (intro W hSw; (try dsimp only at hSw); go_simp; try with_reducible rfl)
      case' restra11 => try simp only [Act.put, List.setIfInBounds_toArray, List.set_cons_zero, List.set_cons_succ]
      refine wpAnyH_take (i := 16) (oi := ⟨some 30, _, _, _, _, _⟩) (v := ?vra12) rfl (by kernel_rfl) (by kernel_rfl) (by kernel_rfl) (fun _ _ _ h => h) (Or.inl ⟨by kernel_rfl, ?hyra12⟩) (by assumption) ?restra12
      case hyra12 => (intro W hSw; (try dsimp only at hSw); go_simp; try with_reducible rfl)
      case' restra12 => try simp only [Act.put, List.setIfInBounds_toArray, List.set_cons_zero, List.set_cons_succ]
      refine wpAnyH_take (i := 17) (oi := ⟨some 31, _, _, _, _, _⟩) (v := ?vra13) rfl (by kernel_rfl) (by kernel_rfl) (by kernel_rfl) (fun _ _ _ h => h) (Or.inl ⟨by kernel_rfl, ?hyra13⟩) (by assumption) ?restra13
      case hyra13 => (intro W hSw; (try dsimp only at hSw); go_simp; try with_reducible rfl)
      case' restra13 => try simp only [Act.put, List.setIfInBounds_toArray, List.set_cons_zero, List.set_cons_succ]
      refine wpAnyH_take (i := 18) (oi := ⟨some 32, _, _, _, _, _⟩) (v := ?vra14) rfl (by kernel_rfl) (by kernel_rfl) (by kernel_rfl) (fun _ _ _ h => h) (Or.inl ⟨by kernel_rfl, ?hyra14⟩) (by assumption) ?restra14
      case hyra14 => (intro W hSw; (try dsimp only at hSw); go_simp; try with_reducible rfl)
      case' restra14 => try simp only [Act.put, List.setIfInBounds_toArray, List.set_cons_zero, List.set_cons_succ]
      refine wpAnyH_take (i := 19) (oi := ⟨some 33, _, _, _, _, _⟩) (v := ?vra15) rfl (by kernel_rfl) (by kernel_rfl) (by kernel_rfl) (fun _ _ _ h => h) (Or.inl ⟨by kernel_rfl, ?hyra15⟩) (by assumption) ?restra15
      case hyra15 => (intro W hSw; obtain ⟨k1, k2⟩ := HL.out W hSw; clear hSw; (try dsimp only at hSw); go_simp; try with_reducible rfl)
      case' restra15 => try simp only [Act.put, List.setIfInBounds_toArray, List.set_cons_zero, List.set_cons_succ]
      refine wpAnyH_ready (rs := [8]) (by kernel_rfl) (by simp) ?_
      refine AllReadyH.cons (o := ⟨some 22, _, _, _, _, _⟩) rfl (fun K hK => ?_) AllReadyH.nil
      go_simp
      go_at_call 32
      refine (CE.out _ hS0).mono ?_
      rintro e Wra1 ⟨rfl, hbWra1⟩
      have hSWra1 := hS0.trans (hbWra1.mono hS0.size)
      try clear hS0
      clear hbWra1
      go_wp2_with fail
      refine hK.out _ _ hSWra1 (fun hHeld => ?_)
      clear hK hHeld K
      try simp only [Act.put, List.setIfInBounds_toArray, List.set_cons_zero, List.set_cons_succ]
      refine wpAnyH_take (i := 9) (oi := ⟨some 23, _, _, _, _, _⟩) (v := ?vra16) rfl (by kernel_rfl) (by kernel_rfl) (by kernel_rfl) (fun _ _ _ h => h) (Or.inl ⟨by kernel_rfl, ?hyra16⟩) (by assumption) ?restra16
      case hyra16 => (intro W hSw; (try dsimp only at hSw); go_simp; try with_reducible rfl)
      case' restra16 => try simp only [Act.put, List.setIfInBounds_toArray, List.set_cons_zero, List.set_cons_succ]
      refine wpAnyH_take (i := 10) (oi := ⟨some 24, _, _, _, _, _⟩) (v := ?vra17) rfl (by kernel_rfl) (by kernel_rfl) (by kernel_rfl) (fun _ _ _ h => h) (Or.inl ⟨by kernel_rfl, ?hyra17⟩) (by assumption) ?restra17
      case hyra17 => (intro W hSw; (try dsimp only at hSw); go_simp; try with_reducible rfl)
      case' restra17 => try simp only [Act.put, List.setIfInBounds_toArray, List.set_cons_zero, List.set_cons_succ]
      refine wpAnyH_ready (rs := [13]) (by kernel_rfl) (by simp) ?_
      refine AllReadyH.cons (o := ⟨some 27, _, _, _, _, _⟩) rfl (fun K hK => ?_) AllReadyH.nil
      go_simp
      go_at_call 32
      refine (CE.out _ hSWra1).mono ?_
      rintro e Wra2 ⟨rfl, hbWra2⟩
      have hSWra2 := hSWra1.trans (hbWra2.mono hSWra1.size)
      try clear hSWra1
      clear hbWra2
      go_wp2_with fail
      refine hK.out _ _ hSWra2 (fun hHeld => ?_)
      clear hK hHeld K
      try simp only [Act.put, List.setIfInBounds_toArray, List.set_cons_zero, List.set_cons_succ]
      refine wpAnyH_take (i := 14) (oi := ⟨some 28, _, _, _, _, _⟩) (v := ?vra18) rfl (by kernel_rfl) (by kernel_rfl) (by kernel_rfl) (fun _ _ _ h => h) (Or.inl ⟨by kernel_rfl, ?hyra18⟩) (by assumption) ?restra18
      case hyra18 => (intro W hSw; (try dsimp only at hSw); go_simp; try with_reducible rfl)
      case' restra18 => try simp only [Act.put, List.setIfInBounds_toArray, List.set_cons_zero, List.set_cons_succ]
      refine wpAnyH_take (i := 20) (oi := ⟨some 34, _, _, _, _, _⟩) (v := ?vra19) rfl (by kernel_rfl) (by kernel_rfl) (by kernel_rfl) (fun _ _ _ h => h) (Or.inl ⟨by kernel_rfl, ?hyra19⟩) (by assumption) ?restra19
      case hyra19 => (intro W hSw; (try dsimp only at hSw); go_simp; try with_reducible rfl)
      case' restra19 => try simp only [Act.put, List.setIfInBounds_toArray, List.set_cons_zero, List.set_cons_succ]
      refine wpAnyH_take (i := 21) (oi := ⟨some 35, _, _, _, _, _⟩) (v := ?vra20) rfl (by kernel_rfl) (by kernel_rfl) (by kernel_rfl) (fun _ _ _ h => h) (Or.inl ⟨by kernel_rfl, ?hyra20⟩) (by assumption) ?restra20
      case hyra20 => (intro W hSw; (try dsimp only at hSw); go_simp; try with_reducible rfl)
      case' restra20 => try simp only [Act.put, List.setIfInBounds_toArray, List.set_cons_zero, List.set_cons_succ]
      refine wpAnyH_take (i := 22) (oi := ⟨some 36, _, _, _, _, _⟩) (v := ?vra21) rfl (by kernel_rfl) (by kernel_rfl) (by kernel_rfl) (fun _ _ _ h => h) (Or.inl ⟨by kernel_rfl, ?hyra21⟩) (by assumption) ?restra21
      case hyra21 => (intro W hSw; (try dsimp only at hSw); go_simp; try with_reducible rfl)
      case' restra21 => try simp only [Act.put, List.setIfInBounds_toArray, List.set_cons_zero, List.set_cons_succ]
      refine wpAnyH_take (i := 23) (oi := ⟨some 3, _, _, _, _, _⟩) (v := ?vra22) rfl (by kernel_rfl) (by kernel_rfl) (by kernel_rfl) (fun _ _ _ h => h) (Or.inl ⟨by kernel_rfl, ?hyra22⟩) (by assumption) ?restra22
      case hyra22 => (intro W hSw; (try dsimp only at hSw); go_simp; try with_reducible rfl)
      case' restra22 => try simp only [Act.put, List.setIfInBounds_toArray, List.set_cons_zero, List.set_cons_succ]
      refine wpAnyH_done (by kernel_rfl) ?_ _
      have hb5 := hbd.trans (hSWra2.mono hbd.size)
      go_wp2
      go_roundw
      case rel => exact ⟨k + 1, _, by omega, by go_num, rfl, HS, hb5⟩
      case measure => simp [intOf]; omega
end Go.Proofs
