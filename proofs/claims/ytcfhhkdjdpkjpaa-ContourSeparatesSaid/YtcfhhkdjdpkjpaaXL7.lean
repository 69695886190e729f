/- ContourSeparates, walked. -/
import Derived.Test.YtcfhhkdjdpkjpaaXLW
set_option linter.unusedVariables false
set_option linter.unusedSimpArgs false
namespace Go.Proofs
open Go.RowKit Go.Proofs.Mp Go.Lib

theorem BoxV.below {B : Nat} {w w' : World} {pv : Value} {p : Pt} (h : BoxV B w pv p) (hb : Below w.heap.size w w') : BoxV B w' pv p := h.belowR hb
def cntT (φ : Ln → Bool) (L : List Ln) (k : Nat) : Nat := ((L.take k).filter φ).length
theorem cntT_succ {φ : Ln → Bool} {L : List Ln} {k : Nat} (h : k < L.length) : cntT φ L (k + 1) = cntT φ L k + (if φ L[k]! = true then 1 else 0) := by
  unfold cntT
  rw [List.take_add_one, List.getElem?_eq_getElem h, getElem!_pos L k h, List.filter_append, List.length_append]
  congr 1
  cases hq : φ L[k] <;> simp [hq]
theorem cntT_le (φ : Ln → Bool) (L : List Ln) (k : Nat) : cntT φ L k ≤ k := by
  unfold cntT
  exact Nat.le_trans (List.length_filter_le _ _) (by rw [List.length_take]; omega)
theorem fndT_none {f : Nat → Pt} {E : List Nat} {P : Pt} (h : fndT f E P E.length = false) : ∀ e ∈ E, f e ≠ P := by
  unfold fndT at h
  rw [List.take_length] at h
  intro e he hp
  have : (E.any fun e => decide (f e = P)) = true := List.any_eq_true.2 ⟨e, he, decide_eq_true hp⟩
  rw [h] at this
  cases this

set_option maxRecDepth 100000 in
set_option maxHeartbeats 16000000 in
theorem law_separates (t : Ht) (level : Int) (w : World) (hmax : t.v.length ≤ 9223372036854775807) (hR : RdI w t.a t.v) : Calls Try.prog 7 #[aggH t, .int .i64 level] w (RetV w (.bool true)) := by
  have hb0 : Below w.heap.size w (w.alloc (.cells (celH t) 26)) := bw1 _ _
  have hrow0 := RowH.new w t
  have cA := Lib.hid law_awake
  have HRow := Lib.hid fun (W' : World) (hb : Below (w.alloc (.cells (celH t) 26)).heap.size (w.alloc (.cells (celH t) 26)) W') => hrow0.below hb
  have HWz := Lib.hid fun (W' : World) (hb : Below (w.alloc (.cells (celH t) 26)).heap.size (w.alloc (.cells (celH t) 26)) W') => (hb0.trans (hb.mono hb0.size) : Below w.heap.size w W')
  have cF := Lib.hid fun W => law_few t W hmax
  by_cases hf : fewB t = true
  rotate_left
  · have hf : fewB t = false := by simpa using hf
    rw [hf] at cF
    clear hR hmax hf
    obtain ⟨x, y, tw, th, st, A, cc, v⟩ := t
    unfold aggH celH at *
    dsimp only at *
    go_enter Try.func7, Try.ntmps7
    go_upto_region 1 with fail
    generalize (w.alloc (.cells #[.int .i64 x, .int .i64 y, .int .i64 tw, .int .i64 th, .int .i64 st, .slice A v.length cc] 26)) = w0 at *
    clear hrow0 hb0
    have k : Below w0.heap.size w0 w0 := Below.refl _ _
    obtain ⟨r0, r1, r2, r3, r4, r5⟩ := (HRow.out _ k).cells
    dsimp only at r0 r1 r2 r3 r4 r5
    go_wp2_with fail
    refine (cF.out _).mono ?_
    rintro e w1 ⟨rfl, hb⟩
    replace k := k.trans (hb.mono k.size)
    clear hb
    clear r0 r1 r2 r3 r4 r5
    obtain ⟨r0, r1, r2, r3, r4, r5⟩ := (HRow.out _ k).cells
    dsimp only at r0 r1 r2 r3 r4 r5
    clear r0 r1 r2 r3 r4 r5
    go_wp2_with fail
    refine (cA.out _).mono ?_
    rintro e w2 ⟨rfl, hb⟩
    replace k := k.trans (hb.mono k.size)
    clear hb
    go_wp2
    go_ret
    exact RetV.bool rfl (HWz.out _ k)
  have hl := (few_len hf).2.2
  rw [hf] at cF
  clear hf
  have cK := Lib.hid fun (W' : World) (hb : Below w.heap.size w W') => ref_checkH t W' (by omega) (hR.below hb)
  by_cases h0 : chkH t = 0
  rotate_left
  · clear hR hmax hl
    have hrn : (chkH t != 0) = true := by simpa using h0
    generalize chkH t = r at *
    obtain ⟨x, y, tw, th, st, A, cc, v⟩ := t
    unfold aggH celH at *
    dsimp only at *
    go_enter Try.func7, Try.ntmps7
    go_upto_region 1 with fail
    generalize (w.alloc (.cells #[.int .i64 x, .int .i64 y, .int .i64 tw, .int .i64 th, .int .i64 st, .slice A v.length cc] 26)) = w0 at *
    clear hrow0 hb0
    have k : Below w0.heap.size w0 w0 := Below.refl _ _
    obtain ⟨r0, r1, r2, r3, r4, r5⟩ := (HRow.out _ k).cells
    dsimp only at r0 r1 r2 r3 r4 r5
    go_wp2_with fail
    refine (cF.out _).mono ?_
    rintro e w1 ⟨rfl, hb⟩
    replace k := k.trans (hb.mono k.size)
    clear hb
    clear r0 r1 r2 r3 r4 r5
    obtain ⟨r0, r1, r2, r3, r4, r5⟩ := (HRow.out _ k).cells
    dsimp only at r0 r1 r2 r3 r4 r5
    go_wp2_with fail
    refine (cK.out _ (HWz.out _ k)).mono ?_
    rintro e w2 ⟨rfl, hb⟩
    replace k := k.trans (hb.mono k.size)
    clear hb
    clear r0 r1 r2 r3 r4 r5
    go_wp2_with fail
    refine (cA.out _).mono ?_
    rintro e w3 ⟨rfl, hb⟩
    replace k := k.trans (hb.mono k.size)
    clear hb
    go_wp2
    go_ret
    exact RetV.bool rfl (HWz.out _ k)
  obtain ⟨W, H, g⟩ := Grd.mk' h0
  rw [h0] at cK
  by_cases hlow : lowV t W H level
  rotate_left
  · have cW := Lib.hid fun (W' : World) (hb : Below w.heap.size w W') => (law_lower t W H level W' g (hR.below hb)).mono (R' := RetV W' (.bool false)) (fun e w' ⟨z, e1, e2, e3⟩ => ⟨by
      cases z
      · exact e1
      · exact absurd (e2.1 rfl) hlow, e3⟩)
    clear hR hmax hl h0 g hlow
    obtain ⟨x, y, tw, th, st, A, cc, v⟩ := t
    unfold aggH celH at *
    dsimp only at *
    go_enter Try.func7, Try.ntmps7
    go_upto_region 1 with fail
    generalize (w.alloc (.cells #[.int .i64 x, .int .i64 y, .int .i64 tw, .int .i64 th, .int .i64 st, .slice A v.length cc] 26)) = w0 at *
    clear hrow0 hb0
    have k : Below w0.heap.size w0 w0 := Below.refl _ _
    obtain ⟨r0, r1, r2, r3, r4, r5⟩ := (HRow.out _ k).cells
    dsimp only at r0 r1 r2 r3 r4 r5
    go_wp2_with fail
    refine (cF.out _).mono ?_
    rintro e w1 ⟨rfl, hb⟩
    replace k := k.trans (hb.mono k.size)
    clear hb
    clear r0 r1 r2 r3 r4 r5
    obtain ⟨r0, r1, r2, r3, r4, r5⟩ := (HRow.out _ k).cells
    dsimp only at r0 r1 r2 r3 r4 r5
    go_wp2_with fail
    refine (cK.out _ (HWz.out _ k)).mono ?_
    rintro e w2 ⟨rfl, hb⟩
    replace k := k.trans (hb.mono k.size)
    clear hb
    clear r0 r1 r2 r3 r4 r5
    obtain ⟨r0, r1, r2, r3, r4, r5⟩ := (HRow.out _ k).cells
    dsimp only at r0 r1 r2 r3 r4 r5
    go_wp2_with fail
    refine (cW.out _ (HWz.out _ k)).mono ?_
    rintro e w3 ⟨rfl, hb⟩
    replace k := k.trans (hb.mono k.size)
    clear hb
    clear r0 r1 r2 r3 r4 r5
    go_wp2_with fail
    refine (cA.out _).mono ?_
    rintro e w4 ⟨rfl, hb⟩
    replace k := k.trans (hb.mono k.size)
    clear hb
    go_wp2
    go_ret
    exact RetV.bool rfl (HWz.out _ k)
  have cW := Lib.hid fun (W' : World) (hb : Below w.heap.size w W') => (law_lower t W H level W' g (hR.below hb)).mono (R' := RetV W' (.bool true)) (fun e w' ⟨z, e1, e2, e3⟩ => ⟨by rw [e1, e2.2 hlow], e3⟩)
  have hlb := lowV_low hlow
  obtain ⟨a1, a2, a3, a4, a5, a6, a7, a8, a9, a10, _⟩ := g.all
  have eW : t.w.toNat = W := by rw [g.w]; omega
  have eH : t.h.toNat = H := by rw [g.h]; omega
  have HLT := Lib.hid (show linesT t level = linesL t W H level from by rw [← eW, ← eH]; exact if_pos h0)
  have HSM := Lib.hid (linesT_small t level)
  have HLaw := Lib.hid fun i (hi : i < (linesT t level).length) => (show 2 ≤ (linesT t level)[i]!.2.length ∧ (linesT t level)[i]!.2.length ≤ 1000000000 ∧ (linesT t level)[i]!.2[0]! = (linesT t level)[i]!.2[(linesT t level)[i]!.2.length - 1]! from by
    have hm : (linesT t level)[i]! ∈ linesT t level := by rw [getElem!_pos _ i hi]; exact List.getElem_mem hi
    have hs := (smallL_iff HSM.out).2 _ hm
    rw [HLT.out] at hm hs ⊢
    obtain ⟨q1, q2⟩ := sep_closed g hlb hm
    exact ⟨q1, hs, q2⟩)
  have HCnt := Lib.hid fun k (hk : k < W * H) (hfr : fndT (ptE t W level) (crsL (abv t level) W H) (ptA t W k) (crsL (abv t level) W H).length = false) => (show decide (((linesT t level).filter fun l => decide (insV l.2 (ptA t W k) = 1)).length % 2 = 1) = decide (level ≤ t.v[k]!) from by
    have hd := Nat.div_add_mod' k W
    have hm : k % W < W := Nat.mod_lt _ (by omega)
    have hr : k / W < H := by rw [Nat.div_lt_iff_lt_mul (by omega), Nat.mul_comm]; exact hk
    rw [HLT.out]
    have := sep_count g hlb hr hm (by rw [hd]; exact fndT_none hfr)
    rw [hd] at this
    exact this)
  have HPA := Lib.hid fun k => (show ptA t W k = (t.x + ((k % W : Nat) : Int) * t.st, t.y + ((k / W : Nat) : Int) * t.st) from rfl)
  have HVp := Lib.hid fun k (hk : k < W * H) => ptA_vp g hk
  obtain ⟨n, hn⟩ : ∃ n, (linesT t level).length = n := ⟨_, rfl⟩
  have HNl := Lib.hid hn
  have hns : n ≤ 12288 := by rw [← hn]; exact linesT_len t level
  have cL := Lib.hid fun (W' : World) (hb : Below w.heap.size w W') => cl_lines (t := t) level hn hl (hR.below hb)
  rw [h0] at cL
  have cE := Lib.hid fun (W' : World) (hb : Below w.heap.size w W') => ref_edges t _ _ level W' g (hR.below hb)
  have cP := Lib.hid fun (e : Nat) (he : crsB (abv t level) W H e = true) (W' : World) (hb : Below w.heap.size w W') => ref_Point t _ _ level e W' g he (hR.below hb)
  have HEm := Lib.hid fun m (hm : m < (crsL (abv t level) W H).length) => (show crsB (abv t level) W H (crsL (abv t level) W H)[m]! = true from by
    have hm' : (crsL (abv t level) W H)[m]! ∈ crsL (abv t level) W H := by rw [getElem!_pos _ m hm]; exact List.getElem_mem _
    exact (List.mem_filter.1 hm').2)
  have HV := Lib.hid fun i (hi : i < t.v.length) => RdI.at_ hR (i := i) hi
  obtain ⟨N, hN⟩ : ∃ N, (crsL (abv t level) W H).length = N := ⟨_, rfl⟩
  have hNci : (ci (crsL (abv t level) W H)).length = N := by rw [ci_len, hN]
  have hNs : N ≤ 12288 := by
    rw [← hN]
    unfold crsL
    refine Nat.le_trans (List.length_filter_le _ _) ?_
    rw [List.length_range]
    have h5 : 3 * W * H ≤ 3 * 64 * 64 := Nat.mul_le_mul (Nat.mul_le_mul_left 3 a2) a4
    omega
  have HNE := Lib.hid hN
  have HN := Lib.hid a5
  have hvl : t.v.length ≤ 4096 := by omega
  rw [hN] at HCnt
  have hgw := g.w
  have hgh := g.h
  have hWz : ¬ W = 0 := by omega
  clear HLT HSM hR hmax hl h0 g hn a1 a3 a4 a9 a10 hN hlow hlb eW eH a5 a6
  generalize linesT t level = L at *
  generalize ptE t W level = pf at *
  generalize crsL (abv t level) W H = E at *
  generalize crsB (abv t level) W H = CR at *
  generalize ptA t W = pA at *
  obtain ⟨x, y, tw, th, st, A, cc, v⟩ := t
  unfold aggH celH at *
  dsimp only at *
  subst hgw hgh
  have HCi := Lib.hid hNci
  go_enter Try.func7, Try.ntmps7
  go_upto_region 1 with fail
  generalize (w.alloc (.cells #[.int .i64 x, .int .i64 y, .int .i64 (W : Int), .int .i64 (H : Int), .int .i64 st, .slice A v.length cc] 26)) = w0 at *
  clear hrow0 hb0
  have k : Below w0.heap.size w0 w0 := Below.refl _ _
  obtain ⟨r0, r1, r2, r3, r4, r5⟩ := (HRow.out _ k).cells
  dsimp only at r0 r1 r2 r3 r4 r5
  go_wp2_with fail
  refine (cF.out _).mono ?_
  rintro e w1 ⟨rfl, hb⟩
  replace k := k.trans (hb.mono k.size)
  clear hb
  clear r0 r1 r2 r3 r4 r5
  obtain ⟨r0, r1, r2, r3, r4, r5⟩ := (HRow.out _ k).cells
  dsimp only at r0 r1 r2 r3 r4 r5
  go_wp2_with fail
  refine (cK.out _ (HWz.out _ k)).mono ?_
  rintro e w2 ⟨rfl, hb⟩
  replace k := k.trans (hb.mono k.size)
  clear hb
  clear r0 r1 r2 r3 r4 r5
  obtain ⟨r0, r1, r2, r3, r4, r5⟩ := (HRow.out _ k).cells
  dsimp only at r0 r1 r2 r3 r4 r5
  go_wp2_with fail
  refine (cW.out _ (HWz.out _ k)).mono ?_
  rintro e w3 ⟨rfl, hb⟩
  replace k := k.trans (hb.mono k.size)
  clear hb
  clear r0 r1 r2 r3 r4 r5
  obtain ⟨r0, r1, r2, r3, r4, r5⟩ := (HRow.out _ k).cells
  dsimp only at r0 r1 r2 r3 r4 r5
  go_wp2_with fail
  refine (cL.out _ (HWz.out _ k)).mono ?_
  rintro e w4 ⟨AL, cL, rfl, hL, hb⟩
  replace k := k.trans (hb.mono k.size)
  clear hb
  clear r0 r1 r2 r3 r4 r5
  obtain ⟨r0, r1, r2, r3, r4, r5⟩ := (HRow.out _ k).cells
  dsimp only at r0 r1 r2 r3 r4 r5
  go_wp2_with fail
  refine (cE.out _ (HWz.out _ k)).mono ?_
  rintro e w5 ⟨AE, cE', rfl, hE, hb⟩
  replace hL := hL.below hb
  replace k := k.trans (hb.mono k.size)
  clear hb
  clear r0 r1 r2 r3 r4 r5
  rw [hNci]
  have HLn := Lib.hid fun i (hi : i < n) => LnD.at_ hL (i := i) (by rw [HNl.out]; exact hi)
  have HEd := Lib.hid fun i (hi : i < N) => RdI.at_ hE (i := i) (by rw [HCi.out]; exact hi)
  clear hL hE hNci
  have HK := Lib.hid k
  clear k
  go_upto_block 0 with fail
  go_wp2_with fail
  generalize w5 = wz at *
  go_loopw [8] (fun i wr => ∃ k : Nat, k ≤ v.length ∧ i = .int .i64 k ∧ Below wz.heap.size wz wr) (fun i _ => v.length - (intOf i).toNat)
  case atStart => exact ⟨0, by omega, rfl, Below.refl _ _⟩
  case round =>
    obtain ⟨k, hk, rfl, kb⟩ := hrel
    generalize wr = wi at *
    have HKi := Lib.hid kb
    have hki := HK.out.trans (kb.mono HK.out.size)
    clear kb
    obtain ⟨r0, r1, r2, r3, r4, r5⟩ := (HRow.out wi hki).cells
    dsimp only at r0 r1 r2 r3 r4 r5
    by_cases hlt : k < v.length
    rotate_left
    · have hge : ¬ ((k : Int) < (v.length : Int)) := by omega
      go_wp2_with fail
      refine (cA.out _).mono ?_
      rintro e w7 ⟨rfl, hb⟩
      have kr := hki.trans (hb.mono hki.size)
      go_wp2
      go_ret
      exact RetV.bool rfl (HWz.out _ kr)
    · have hli : (k : Int) < (v.length : Int) := by omega
      have hk0 : (0 : Int) ≤ (k : Int) := by omega
      have hlw : k < W * H := by rw [← HN.out]; exact hlt
      have hr : ((k : Int)).tmod (W : Int) = ((k % W : Nat) : Int) := rfl
      have hq : ((k : Int)).tdiv (W : Int) = ((k / W : Nat) : Int) := rfl
      have hcb : k % W < W := Nat.mod_lt _ (by omega)
      have hrb : k / W ≤ 4096 := Nat.le_trans (Nat.div_le_self _ _) (by omega)
      have hqw : IntKind.i64.wrap ((k / W : Nat) : Int) = ((k / W : Nat) : Int) := IntWalk.i64_in _ (by generalize k / W = r at hrb; omega)
      have hvp := HVp.out k hlw
      have hpa := HPA.out k
      have HCk := Lib.hid (HCnt.out k hlw)
      obtain ⟨bv, ov, hA, hcv⟩ := HV.out k hlt
      have HCv := Lib.hid hcv
      subst hA
      clear hcv
      rw [hpa] at hvp HCk
      unfold Vp at hvp
      dsimp only at hvp
      clear hpa hlw
      generalize k % W = c at *
      generalize k / W = rr at *
      obtain ⟨vx1, vx2, vy1, vy2⟩ := hvp
      have m1 : 0 ≤ (c : Int) * st ∧ (c : Int) * st ≤ 67108864 := by
        have e1 : (0 : Int) * 0 ≤ (c : Int) * st := Int.mul_le_mul (by omega) (by omega) (by omega) (by omega)
        have e2 : (c : Int) * st ≤ 64 * 1048576 := Int.mul_le_mul (by omega) a8 (by omega) (by omega)
        omega
      have m2 : 0 ≤ (rr : Int) * st ∧ (rr : Int) * st ≤ 4294967296 := by
        have e1 : (0 : Int) * 0 ≤ (rr : Int) * st := Int.mul_le_mul (by omega) (by omega) (by omega) (by omega)
        have e2 : (rr : Int) * st ≤ 4096 * 1048576 := Int.mul_le_mul (by omega) a8 (by omega) (by omega)
        omega
      obtain ⟨m11, m12⟩ := m1
      obtain ⟨m21, m22⟩ := m2
      have hwr := IntWalk.i64_in ((c : Int) * st) (by omega)
      have hwr2 := IntWalk.i64_in ((rr : Int) * st) (by omega)
      have hwr3 := IntWalk.i64_in (x + (c : Int) * st) (by omega)
      have hwr4 := IntWalk.i64_in (y + (rr : Int) * st) (by omega)
      have HRi := Lib.hid fun (W' : World) (hb : Below wi.heap.size wi W') => (HRow.out W' (hki.trans (hb.mono hki.size))).cells
      dsimp only at HRi
      go_upto_region 10 with fail
      clear r0 r1 r2 r3 r4 r5
      have hS0 : (fun W' : World => Below wi.heap.size wi W') wi.drew := (Below.refl _ _).drew
      refine wp_region_held_drew (S := (fun W' : World => Below wi.heap.size wi W')) (by kernel_rfl) hS0 (fun hHeld => ?_)
      clear hHeld
      generalize wi.drew = wy at *
      refine wpAnyH_take (i := 0) (oi := ⟨some 47, _, _, _, _, _⟩) (v := ?vrz1) rfl (by kernel_rfl) (by kernel_rfl) (by kernel_rfl) (fun _ _ _ h => h) (Or.inl ⟨by kernel_rfl, ?hyrz1⟩) (by assumption) ?restrz1
      case hyrz1 => (intro W hSw; (try dsimp only at hSw); go_simp; try with_reducible rfl)
      case' restrz1 => try simp only [Act.put, List.setIfInBounds_toArray, List.set_cons_zero, List.set_cons_succ]
      refine wpAnyH_take (i := 1) (oi := ⟨some 48, _, _, _, _, _⟩) (v := ?vrz2) rfl (by kernel_rfl) (by kernel_rfl) (by kernel_rfl) (fun _ _ _ h => h) (Or.inl ⟨by kernel_rfl, ?hyrz2⟩) (by assumption) ?restrz2
      case hyrz2 => (intro W hSw; (try dsimp only at hSw); go_simp; try with_reducible rfl)
      case' restrz2 => try simp only [Act.put, List.setIfInBounds_toArray, List.set_cons_zero, List.set_cons_succ]
      refine wpAnyH_take (i := 2) (oi := ⟨some 49, _, _, _, _, _⟩) (v := ?vrz3) rfl (by kernel_rfl) (by kernel_rfl) (by kernel_rfl) (fun _ _ _ h => h) (Or.inl ⟨by kernel_rfl, ?hyrz3⟩) (by assumption) ?restrz3
      case hyrz3 => (intro W hSw; obtain ⟨r0, r1, r2, r3, r4, r5⟩ := HRi.out W hSw; clear hSw; (try dsimp only at hSw); go_simp; try with_reducible rfl)
      case' restrz3 => try simp only [Act.put, List.setIfInBounds_toArray, List.set_cons_zero, List.set_cons_succ]
      refine wpAnyH_take (i := 3) (oi := ⟨some 50, _, _, _, _, _⟩) (v := ?vrz4) rfl (by kernel_rfl) (by kernel_rfl) (by kernel_rfl) (fun _ _ _ h => h) (Or.inl ⟨by kernel_rfl, ?hyrz4⟩) (by assumption) ?restrz4
      case hyrz4 => (intro W hSw; (try dsimp only at hSw); go_simp; try with_reducible rfl)
      case' restrz4 => try simp only [Act.put, List.setIfInBounds_toArray, List.set_cons_zero, List.set_cons_succ]
      refine wpAnyH_take (i := 4) (oi := ⟨some 51, _, _, _, _, _⟩) (v := ?vrz5) rfl (by kernel_rfl) (by kernel_rfl) (by kernel_rfl) (fun _ _ _ h => h) (Or.inl ⟨by kernel_rfl, ?hyrz5⟩) (by assumption) ?restrz5
      case hyrz5 => (intro W hSw; (try dsimp only at hSw); go_simp; try with_reducible rfl)
      case' restrz5 => try simp only [Act.put, List.setIfInBounds_toArray, List.set_cons_zero, List.set_cons_succ]
      refine wpAnyH_take (i := 5) (oi := ⟨some 52, _, _, _, _, _⟩) (v := ?vrz6) rfl (by kernel_rfl) (by kernel_rfl) (by kernel_rfl) (fun _ _ _ h => h) (Or.inl ⟨by kernel_rfl, ?hyrz6⟩) (by assumption) ?restrz6
      case hyrz6 => (intro W hSw; obtain ⟨r0, r1, r2, r3, r4, r5⟩ := HRi.out W hSw; clear hSw; (try dsimp only at hSw); go_simp; try with_reducible rfl)
      case' restrz6 => try simp only [Act.put, List.setIfInBounds_toArray, List.set_cons_zero, List.set_cons_succ]
      refine wpAnyH_take (i := 6) (oi := ⟨some 53, _, _, _, _, _⟩) (v := ?vrz7) rfl (by kernel_rfl) (by kernel_rfl) (by kernel_rfl) (fun _ _ _ h => h) (Or.inl ⟨by kernel_rfl, ?hyrz7⟩) (by assumption) ?restrz7
      case hyrz7 => (intro W hSw; (try dsimp only at hSw); go_simp; try with_reducible rfl)
      case' restrz7 => try simp only [Act.put, List.setIfInBounds_toArray, List.set_cons_zero, List.set_cons_succ]
      refine wpAnyH_take (i := 7) (oi := ⟨some 54, _, _, _, _, _⟩) (v := ?vrz8) rfl (by kernel_rfl) (by kernel_rfl) (by kernel_rfl) (fun _ _ _ h => h) (Or.inl ⟨by kernel_rfl, ?hyrz8⟩) (by assumption) ?restrz8
      case hyrz8 => (intro W hSw; (try dsimp only at hSw); go_simp; try with_reducible rfl)
      case' restrz8 => try simp only [Act.put, List.setIfInBounds_toArray, List.set_cons_zero, List.set_cons_succ]
      refine wpAnyH_take (i := 8) (oi := ⟨some 55, _, _, _, _, _⟩) (v := ?vrz9) rfl (by kernel_rfl) (by kernel_rfl) (by kernel_rfl) (fun _ _ _ h => h) (Or.inl ⟨by kernel_rfl, ?hyrz9⟩) (by assumption) ?restrz9
      case hyrz9 => (intro W hSw; obtain ⟨r0, r1, r2, r3, r4, r5⟩ := HRi.out W hSw; clear hSw; (try dsimp only at hSw); go_simp; try with_reducible rfl)
      case' restrz9 => try simp only [Act.put, List.setIfInBounds_toArray, List.set_cons_zero, List.set_cons_succ]
      refine wpAnyH_take (i := 9) (oi := ⟨some 56, _, _, _, _, _⟩) (v := ?vrz10) rfl (by kernel_rfl) (by kernel_rfl) (by kernel_rfl) (fun _ _ _ h => h) (Or.inl ⟨by kernel_rfl, ?hyrz10⟩) (by assumption) ?restrz10
      case hyrz10 => (intro W hSw; (try dsimp only at hSw); go_simp; try with_reducible rfl)
      case' restrz10 => try simp only [Act.put, List.setIfInBounds_toArray, List.set_cons_zero, List.set_cons_succ]
      refine wpAnyH_take (i := 10) (oi := ⟨some 57, _, _, _, _, _⟩) (v := ?vrz11) rfl (by kernel_rfl) (by kernel_rfl) (by kernel_rfl) (fun _ _ _ h => h) (Or.inl ⟨by kernel_rfl, ?hyrz11⟩) (by assumption) ?restrz11
      case hyrz11 => (intro W hSw; (try dsimp only at hSw); go_simp; try with_reducible rfl)
      case' restrz11 => try simp only [Act.put, List.setIfInBounds_toArray, List.set_cons_zero, List.set_cons_succ]
      refine wpAnyH_take (i := 11) (oi := ⟨some 58, _, _, _, _, _⟩) (v := ?vrz12) rfl (by kernel_rfl) (by kernel_rfl) (by kernel_rfl) (fun _ _ _ h => h) (Or.inl ⟨by kernel_rfl, ?hyrz12⟩) (by assumption) ?restrz12
      case hyrz12 => (intro W hSw; (try dsimp only at hSw); go_simp; try with_reducible rfl)
      case' restrz12 => try simp only [Act.put, List.setIfInBounds_toArray, List.set_cons_zero, List.set_cons_succ]
      refine wpAnyH_take (i := 12) (oi := ⟨some 59, _, _, _, _, _⟩) (v := ?vrz13) rfl (by kernel_rfl) (by kernel_rfl) (by kernel_rfl) (fun _ _ _ h => h) (Or.inl ⟨by kernel_rfl, ?hyrz13⟩) (by assumption) ?restrz13
      case hyrz13 => (intro W hSw; (try dsimp only at hSw); go_simp; try with_reducible rfl)
      case' restrz13 => try simp only [Act.put, List.setIfInBounds_toArray, List.set_cons_zero, List.set_cons_succ]
      refine wpAnyH_take (i := 13) (oi := ⟨some 60, _, _, _, _, _⟩) (v := ?vrz14) rfl (by kernel_rfl) (by kernel_rfl) (by kernel_rfl) (fun _ _ _ h => h) (Or.inl ⟨by kernel_rfl, ?hyrz14⟩) (by assumption) ?restrz14
      case hyrz14 => (intro W hSw; obtain ⟨r0, r1, r2, r3, r4, r5⟩ := HRi.out W hSw; clear hSw; (try dsimp only at hSw); go_simp; try with_reducible rfl)
      case' restrz14 => try simp only [Act.put, List.setIfInBounds_toArray, List.set_cons_zero, List.set_cons_succ]
      refine wpAnyH_take (i := 14) (oi := ⟨some 61, _, _, _, _, _⟩) (v := ?vrz15) rfl (by kernel_rfl) (by kernel_rfl) (by kernel_rfl) (fun _ _ _ h => h) (Or.inl ⟨by kernel_rfl, ?hyrz15⟩) (by assumption) ?restrz15
      case hyrz15 => (intro W hSw; (try dsimp only at hSw); go_simp; try with_reducible rfl)
      case' restrz15 => try simp only [Act.put, List.setIfInBounds_toArray, List.set_cons_zero, List.set_cons_succ]
      refine wpAnyH_take (i := 15) (oi := ⟨some 62, _, _, _, _, _⟩) (v := ?vrz16) rfl (by kernel_rfl) (by kernel_rfl) (by kernel_rfl) (fun _ _ _ h => h) (Or.inl ⟨by kernel_rfl, ?hyrz16⟩) (by assumption) ?restrz16
      case hyrz16 => (intro W hSw; (try dsimp only at hSw); go_simp; try with_reducible rfl)
      case' restrz16 => try simp only [Act.put, List.setIfInBounds_toArray, List.set_cons_zero, List.set_cons_succ]
      refine wpAnyH_take (i := 16) (oi := ⟨some 63, _, _, _, _, _⟩) (v := ?vrz17) rfl (by kernel_rfl) (by kernel_rfl) (by kernel_rfl) (fun _ _ _ h => h) (Or.inl ⟨by kernel_rfl, ?hyrz17⟩) (by assumption) ?restrz17
      case hyrz17 => (intro W hSw; obtain ⟨r0, r1, r2, r3, r4, r5⟩ := HRi.out W hSw; clear hSw; (try dsimp only at hSw); go_simp; try with_reducible rfl)
      case' restrz17 => try simp only [Act.put, List.setIfInBounds_toArray, List.set_cons_zero, List.set_cons_succ]
      refine wpAnyH_take (i := 17) (oi := ⟨some 64, _, _, _, _, _⟩) (v := ?vrz18) rfl (by kernel_rfl) (by kernel_rfl) (by kernel_rfl) (fun _ _ _ h => h) (Or.inl ⟨by kernel_rfl, ?hyrz18⟩) (by assumption) ?restrz18
      case hyrz18 => (intro W hSw; (try dsimp only at hSw); go_simp; try with_reducible rfl)
      case' restrz18 => try simp only [Act.put, List.setIfInBounds_toArray, List.set_cons_zero, List.set_cons_succ]
      refine wpAnyH_take (i := 18) (oi := ⟨some 65, _, _, _, _, _⟩) (v := ?vrz19) rfl (by kernel_rfl) (by kernel_rfl) (by kernel_rfl) (fun _ _ _ h => h) (Or.inl ⟨by kernel_rfl, ?hyrz19⟩) (by assumption) ?restrz19
      case hyrz19 => (intro W hSw; (try dsimp only at hSw); go_simp; try with_reducible rfl)
      case' restrz19 => try simp only [Act.put, List.setIfInBounds_toArray, List.set_cons_zero, List.set_cons_succ]
      refine wpAnyH_take (i := 19) (oi := ⟨some 66, _, _, _, _, _⟩) (v := ?vrz20) rfl (by kernel_rfl) (by kernel_rfl) (by kernel_rfl) (fun _ _ _ h => h) (Or.inl ⟨by kernel_rfl, ?hyrz20⟩) (by assumption) ?restrz20
      case hyrz20 => (intro W hSw; obtain ⟨r0, r1, r2, r3, r4, r5⟩ := HRi.out W hSw; clear hSw; (try dsimp only at hSw); go_simp; try with_reducible rfl)
      case' restrz20 => try simp only [Act.put, List.setIfInBounds_toArray, List.set_cons_zero, List.set_cons_succ]
      refine wpAnyH_take (i := 20) (oi := ⟨some 67, _, _, _, _, _⟩) (v := ?vrz21) rfl (by kernel_rfl) (by kernel_rfl) (by kernel_rfl) (fun _ _ _ h => h) (Or.inl ⟨by kernel_rfl, ?hyrz21⟩) (by assumption) ?restrz21
      case hyrz21 => (intro W hSw; (try dsimp only at hSw); go_simp; try with_reducible rfl)
      case' restrz21 => try simp only [Act.put, List.setIfInBounds_toArray, List.set_cons_zero, List.set_cons_succ]
      refine wpAnyH_take (i := 21) (oi := ⟨some 68, _, _, _, _, _⟩) (v := ?vrz22) rfl (by kernel_rfl) (by kernel_rfl) (by kernel_rfl) (fun _ _ _ h => h) (Or.inl ⟨by kernel_rfl, ?hyrz22⟩) (by assumption) ?restrz22
      case hyrz22 => (intro W hSw; (try dsimp only at hSw); go_simp; try with_reducible rfl)
      case' restrz22 => try simp only [Act.put, List.setIfInBounds_toArray, List.set_cons_zero, List.set_cons_succ]
      refine' wpAnyH_share (fun H f l (act : Value → Act) => ∀ (pv : Value) (WX : World), BoxV wi.heap.size WX pv (0, 0) → (fun W' : World => Below wi.heap.size wi W') WX → H f l (act pv) WX) (fun tailrz23 => ?mtailrz23) ?ttailrz23
      case mtailrz23 =>
        refine wpAnyH_ready (rs := [22, 23]) (by kernel_rfl) (by simp) ?_
        refine AllReadyH.cons (o := ⟨some 69, _, _, _, _, _⟩) rfl (fun K hK => ?_) ?_
        · skip
          go_simp
          go_at_call 25
          refine (law_pt _ _ _).mono ?_
          rintro e Wrz1 ⟨rfl, hbWrz1⟩
          have hSWrz1 := hS0.trans (hbWrz1.mono hS0.size)
          try clear hS0
          clear hbWrz1
          go_wp2_with fail
          refine hK.out _ _ hSWrz1 (fun hHeld => ?_)
          clear hK hHeld K
          try simp only [Act.put, List.setIfInBounds_toArray, List.set_cons_zero, List.set_cons_succ]
          refine wpAnyH_ready (rs := [23]) (by kernel_rfl) (by simp) ?_
          refine AllReadyH.cons (o := ⟨some 9, _, _, _, _, _⟩) rfl (fun K hK => ?_) AllReadyH.nil
          go_simp
          have hx := BoxV.new Wrz1 hSWrz1.size
          have hSWrz2 := hSWrz1.alloc hSWrz1.size (.cells #[.int .i64 0, .int .i64 0] 23)
          refine hK.out _ _ hSWrz2 (fun hHeld => ?_)
          clear hK hHeld K
          try clear hSWrz1
          try simp only [Act.put, List.setIfInBounds_toArray, List.set_cons_zero, List.set_cons_succ]
          generalize (Wrz1.alloc (.cells #[.int .i64 0, .int .i64 0] 23)) = Wrz2 at hx hSWrz2 ⊢
          generalize Value.pointer (some ⟨Wrz1.heap.size, 0, none⟩) = pv at hx ⊢
          exact wpAnyH_cast rfl rfl (tailrz23 pv Wrz2 hx hSWrz2)
        refine AllReadyH.cons (o := ⟨some 9, _, _, _, _, _⟩) rfl (fun K hK => ?_) AllReadyH.nil
        go_simp
        have hx := BoxV.new wy hS0.size
        have hSWrz3 := hS0.alloc hS0.size (.cells #[.int .i64 0, .int .i64 0] 23)
        refine hK.out _ _ hSWrz3 (fun hHeld => ?_)
        clear hK hHeld K
        try clear hS0
        try simp only [Act.put, List.setIfInBounds_toArray, List.set_cons_zero, List.set_cons_succ]
        generalize (wy.alloc (.cells #[.int .i64 0, .int .i64 0] 23)) = Wrz3 at hx hSWrz3 ⊢
        generalize Value.pointer (some ⟨wy.heap.size, 0, none⟩) = pv at hx ⊢
        refine wpAnyH_ready (rs := [22]) (by kernel_rfl) (by simp) ?_
        refine AllReadyH.cons (o := ⟨some 69, _, _, _, _, _⟩) rfl (fun K hK => ?_) AllReadyH.nil
        go_simp
        go_at_call 25
        refine (law_pt _ _ _).mono ?_
        rintro e Wrz4 ⟨rfl, hbWrz4⟩
        replace hx := hx.below hbWrz4
        have hSWrz4 := hSWrz3.trans (hbWrz4.mono hSWrz3.size)
        try clear hSWrz3
        clear hbWrz4
        go_wp2_with fail
        refine hK.out _ _ hSWrz4 (fun hHeld => ?_)
        clear hK hHeld K
        try simp only [Act.put, List.setIfInBounds_toArray, List.set_cons_zero, List.set_cons_succ]
        exact wpAnyH_cast (by kernel_rfl) (by kernel_rfl) (tailrz23 pv Wrz4 hx hSWrz4)
      case ttailrz23 =>
        try clear hS0
        intro pv Wrz5 hx hSWrz5
        refine wpAnyH_ready (rs := [24]) (by kernel_rfl) (by simp) ?_
        refine AllReadyH.cons (o := ⟨none, _, _, _, _, _⟩) rfl (fun K hK => ?_) AllReadyH.nil
        refine BoxV.store hx (x + (c : Int) * st, y + (rr : Int) * st) rfl _ _ rfl rfl rfl (fun Wrz6 hbx hbo hbW => ?_)
        have hSWrz6 := hSWrz5.trans hbW
        clear hx hbW hbo hSWrz5
        have hx := hbx
        clear hbx
        refine hK.out _ _ hSWrz6 (fun hHeld => ?_)
        clear hK hHeld K
        try simp only [Act.put, List.setIfInBounds_toArray, List.set_cons_zero, List.set_cons_succ]
        refine wpAnyH_done (by kernel_rfl) ?_ _
        obtain ⟨gp, rfl, hgp, hxp⟩ := hx
        go_wp2_with fail
        clear hr hq hqw hwr hwr2 hwr3 hwr4 m11 m12 m21 m22 vx1 vx2 vy1 vy2 hcb hrb
        have hkp := hSWrz6
        generalize Wrz6 = wp at *
        have HKp := Lib.hid (HKi.out.trans (hkp.mono HKi.out.size))
        clear hkp
        have HBp := Lib.hid fun (W' : World) (hb : Below wp.heap.size wp W') => (show W'.cell? ⟨gp, 0, none⟩ = some (.int .i64 (x + (c : Int) * st)) ∧ W'.cell? ⟨gp, 1, none⟩ = some (.int .i64 (y + (rr : Int) * st)) from by
          have := (hxp.below hb).cel
          exact ⟨this.1, this.2.1⟩)
        have HWp := Lib.hid fun (W' : World) (hb : Below wp.heap.size wp W') => (HKp.out.trans (hb.mono HKp.out.size) : Below wz.heap.size wz W')
        clear hxp hgp
        generalize x + (c : Int) * st = px at *
        generalize y + (rr : Int) * st = py at *
        go_upto_block 2 with fail
        go_wp2_with fail
        have hf0 : fndT pf E (px, py) 0 = false := rfl
        go_loopw [10, 11] (fun f i wr => ∃ (q : Nat) (nf : Bool), q ≤ N ∧ i = .int .i64 q ∧ f = .bool nf ∧ Hid (nf = !fndT pf E (px, py) q) ∧ Below wp.heap.size wp wr) (fun _ i _ => N - (intOf i).toNat)
        case atStart => exact ⟨0, true, by omega, rfl, rfl, Lib.hid (by rw [hf0]; rfl), Below.refl _ _⟩
        case round =>
          obtain ⟨q, nf, hq, rfl, rfl, hnf, kb⟩ := hrel
          clear hf0
          generalize wr = wq at *
          have HKq := Lib.hid kb
          clear kb
          have kd := HKq.out
          by_cases hlq : q < N
          · have hql : (q : Int) < (N : Int) := by omega
            have hq0 : (0 : Int) ≤ (q : Int) := by omega
            have HSuc := Lib.hid (fndT_succ (f := pf) (P := (px, py)) (show q < E.length by rw [HNE.out]; exact hlq))
            rcases hfd : fndT pf E (px, py) q with _ | _
            · obtain rfl : nf = true := by have := hnf.out; rw [hfd] at this; exact this
              clear hnf
              rw [hfd, Bool.false_or] at HSuc
              obtain ⟨be, oe, hAE, hce⟩ := HEd.out q hlq
              have HCe := Lib.hid fun (W' : World) (hb : Below wp.heap.size wp W') => (show W'.cell? ⟨be, oe + q, none⟩ = some (.int .i64 ((E[q]! : Nat) : Int)) from by have := hce W' (HWp.out W' hb); rwa [ci_get (by rw [HNE.out]; exact hlq)] at this)
              subst hAE
              have cPq := Lib.hid fun (W' : World) (hb : Below wp.heap.size wp W') => cP.out E[q]! (HEm.out q (by rw [HNE.out]; exact hlq)) W' (HWz.out _ (HK.out.trans ((HWp.out W' hb).mono HK.out.size)))
              have HRz := Lib.hid fun (W' : World) (hb : Below wp.heap.size wp W') => (HRow.out W' (HK.out.trans ((HWp.out W' hb).mono HK.out.size))).cells
              dsimp only at HRz
              clear hce hfd
              generalize E[q]! = eq at *
              obtain ⟨⟨zx, zy⟩, hz⟩ : ∃ z, pf eq = z := ⟨_, rfl⟩
              rw [hz] at cPq HSuc
              unfold aggP at cPq
              dsimp only at cPq
              clear hz
              have HEq := Lib.hid (Try.neq23 zx zy px py)
              have hgd := Try.guard23
              go_upto_region 15 with fail
              as_aux_lemma =>
                have hS0 : (fun W' : World => Below wp.heap.size wp W') wq.drew := kd.drew
                refine wp_region_held_drew (S := (fun W' : World => Below wp.heap.size wp W')) (by kernel_rfl) hS0 (fun hHeld => ?_)
                clear hHeld
                generalize wq.drew = wy at *
                refine wpAnyH_take (i := 0) (oi := ⟨some 76, _, _, _, _, _⟩) (v := ?vra1) rfl (by kernel_rfl) (by kernel_rfl) (by kernel_rfl) (fun _ _ _ h => h) (Or.inl ⟨by kernel_rfl, ?hyra1⟩) (by assumption) ?restra1
                case hyra1 => (intro W hSw; (try dsimp only at hSw); go_simp; try with_reducible rfl)
                case' restra1 => try simp only [Act.put, List.setIfInBounds_toArray, List.set_cons_zero, List.set_cons_succ]
                refine wpAnyH_take (i := 1) (oi := ⟨some 77, _, _, _, _, _⟩) (v := ?vra2) rfl (by kernel_rfl) (by kernel_rfl) (by kernel_rfl) (fun _ _ _ h => h) (Or.inl ⟨by kernel_rfl, ?hyra2⟩) (by assumption) ?restra2
                case hyra2 => (intro W hSw; (try dsimp only at hSw); go_simp; try with_reducible rfl)
                case' restra2 => try simp only [Act.put, List.setIfInBounds_toArray, List.set_cons_zero, List.set_cons_succ]
                refine wpAnyH_take (i := 2) (oi := ⟨some 78, _, _, _, _, _⟩) (v := ?vra3) rfl (by kernel_rfl) (by kernel_rfl) (by kernel_rfl) (fun _ _ _ h => h) (Or.inl ⟨by kernel_rfl, ?hyra3⟩) (by assumption) ?restra3
                case hyra3 => (intro W hSw; obtain ⟨d0, d1, d2, d3, d4, d5⟩ := HRz.out W hSw; clear hSw; (try dsimp only at hSw); go_simp; try with_reducible rfl)
                case' restra3 => try simp only [Act.put, List.setIfInBounds_toArray, List.set_cons_zero, List.set_cons_succ]
                refine wpAnyH_take (i := 3) (oi := ⟨some 79, _, _, _, _, _⟩) (v := ?vra4) rfl (by kernel_rfl) (by kernel_rfl) (by kernel_rfl) (fun _ _ _ h => h) (Or.inl ⟨by kernel_rfl, ?hyra4⟩) (by assumption) ?restra4
                case hyra4 => (intro W hSw; (try dsimp only at hSw); go_simp; try with_reducible rfl)
                case' restra4 => try simp only [Act.put, List.setIfInBounds_toArray, List.set_cons_zero, List.set_cons_succ]
                refine wpAnyH_take (i := 4) (oi := ⟨some 80, _, _, _, _, _⟩) (v := ?vra5) rfl (by kernel_rfl) (by kernel_rfl) (by kernel_rfl) (fun _ _ _ h => h) (Or.inl ⟨by kernel_rfl, ?hyra5⟩) (by assumption) ?restra5
                case hyra5 => (intro W hSw; (try dsimp only at hSw); go_simp; try with_reducible rfl)
                case' restra5 => try simp only [Act.put, List.setIfInBounds_toArray, List.set_cons_zero, List.set_cons_succ]
                refine wpAnyH_take (i := 5) (oi := ⟨some 81, _, _, _, _, _⟩) (v := ?vra6) rfl (by kernel_rfl) (by kernel_rfl) (by kernel_rfl) (fun _ _ _ h => h) (Or.inl ⟨by kernel_rfl, ?hyra6⟩) (by assumption) ?restra6
                case hyra6 => (intro W hSw; (try dsimp only at hSw); go_simp; try with_reducible rfl)
                case' restra6 => try simp only [Act.put, List.setIfInBounds_toArray, List.set_cons_zero, List.set_cons_succ]
                refine wpAnyH_take (i := 6) (oi := ⟨some 82, _, _, _, _, _⟩) (v := ?vra7) rfl (by kernel_rfl) (by kernel_rfl) (by kernel_rfl) (fun _ _ _ h => h) (Or.inl ⟨by kernel_rfl, ?hyra7⟩) (by assumption) ?restra7
                case hyra7 => (intro W hSw; (try dsimp only at hSw); go_simp; try with_reducible rfl)
                case' restra7 => try simp only [Act.put, List.setIfInBounds_toArray, List.set_cons_zero, List.set_cons_succ]
                refine wpAnyH_take (i := 7) (oi := ⟨some 83, _, _, _, _, _⟩) (v := ?vra8) rfl (by kernel_rfl) (by kernel_rfl) (by kernel_rfl) (fun _ _ _ h => h) (Or.inl ⟨by kernel_rfl, ?hyra8⟩) (by assumption) ?restra8
                case hyra8 => (intro W hSw; have d0 := HCe.out W hSw; clear hSw; (try dsimp only at hSw); go_simp; try with_reducible rfl)
                case' restra8 => try simp only [Act.put, List.setIfInBounds_toArray, List.set_cons_zero, List.set_cons_succ]
                refine wpAnyH_take (i := 9) (oi := ⟨some 85, _, _, _, _, _⟩) (v := ?vra9) rfl (by kernel_rfl) (by kernel_rfl) (by kernel_rfl) (fun _ _ _ h => h) (Or.inl ⟨by kernel_rfl, ?hyra9⟩) (by assumption) ?restra9
                case hyra9 => (intro W hSw; obtain ⟨d0, d1⟩ := HBp.out W hSw; clear hSw; (try dsimp only at hSw); go_simp; try with_reducible rfl)
                case' restra9 => try simp only [Act.put, List.setIfInBounds_toArray, List.set_cons_zero, List.set_cons_succ]
                refine wpAnyH_ready (rs := [8]) (by kernel_rfl) (by simp) ?_
                refine AllReadyH.cons (o := ⟨some 84, _, _, _, _, _⟩) rfl (fun K hK => ?_) AllReadyH.nil
                go_simp
                go_at_call 22
                refine (cPq.out _ hS0).mono ?_
                rintro e Wra1 ⟨rfl, hbWra1⟩
                have hSWra1 := hS0.trans (hbWra1.mono hS0.size)
                try clear hS0
                clear hbWra1
                go_wp2_with fail
                refine hK.out _ _ hSWra1 (fun hHeld => ?_)
                clear hK hHeld K
                try simp only [Act.put, List.setIfInBounds_toArray, List.set_cons_zero, List.set_cons_succ]
                refine wpAnyH_take (i := 10) (oi := ⟨some 86, _, _, _, _, _⟩) (v := ?vra10) rfl (by kernel_rfl) (by kernel_rfl) (by kernel_rfl) (fun _ _ _ h => h) (Or.inl ⟨by kernel_rfl, ?hyra10⟩) (by assumption) ?restra10
                case hyra10 => (intro W hSw; have heq := HEq.out; clear hSw; (try dsimp only at hSw); go_simp; try with_reducible rfl)
                case' restra10 => try simp only [Act.put, List.setIfInBounds_toArray, List.set_cons_zero, List.set_cons_succ]
                refine wpAnyH_take (i := 11) (oi := ⟨some 87, _, _, _, _, _⟩) (v := ?vra11) rfl (by kernel_rfl) (by kernel_rfl) (by kernel_rfl) (fun _ _ _ h => h) (Or.inl ⟨by kernel_rfl, ?hyra11⟩) (by assumption) ?restra11
                case hyra11 => (intro W hSw; (try dsimp only at hSw); go_simp; try with_reducible rfl)
                case' restra11 => try simp only [Act.put, List.setIfInBounds_toArray, List.set_cons_zero, List.set_cons_succ]
                refine wpAnyH_take (i := 12) (oi := ⟨some 10, _, _, _, _, _⟩) (v := ?vra12) rfl (by kernel_rfl) (by kernel_rfl) (by kernel_rfl) (fun _ _ _ h => h) (Or.inl ⟨by kernel_rfl, ?hyra12⟩) (by assumption) ?restra12
                case hyra12 => (intro W hSw; (try dsimp only at hSw); go_simp; try with_reducible rfl)
                case' restra12 => try simp only [Act.put, List.setIfInBounds_toArray, List.set_cons_zero, List.set_cons_succ]
                refine wpAnyH_done (by kernel_rfl) ?_ _
                go_wp2
                go_roundw
                case rel => exact ⟨q + 1, _, by omega, by go_num, rfl, Lib.hid (by rw [HSuc.out]; first | rfl | simp), hSWra1⟩
                case measure => simp [intOf]; omega
            · have HSu2 := Lib.hid (show fndT pf E (px, py) (q + 1) = true by rw [HSuc.out, hfd]; rfl)
              obtain rfl : nf = false := by have := hnf.out; rw [hfd] at this; exact this
              clear hnf hfd HSuc
              go_wp2_with fail
              go_quiet (fail)
              go_wp2
              go_roundw
              case rel => exact ⟨q + 1, false, by omega, by go_num, rfl, Lib.hid (by rw [HSu2.out]; rfl), below_drewN HKq.out _⟩
              case measure => simp [intOf]; omega
          · obtain rfl : q = N := by omega
            have hge : ¬ ((q : Int) < (q : Int)) := by omega
            clear kd
            obtain ⟨fr, hfr⟩ : ∃ fr, fndT pf E (px, py) q = fr := ⟨_, rfl⟩
            rw [hfr] at HCk hnf
            have HINS := Lib.hid fun k => cntT_succ (φ := fun l => decide (insV l.2 (px, py) = 1)) (L := L) (k := k)
            have HCN := Lib.hid (show fr = false → decide (cntT (fun l => decide (insV l.2 (px, py) = 1)) L n % 2 = 1) = decide (level ≤ v[k]!) from fun h => by
              have := HCk.out h
              unfold cntT
              rw [← HNl.out, List.take_length]
              exact this)
            have HCl := Lib.hid (cntT_le (fun l => decide (insV l.2 (px, py) = 1)) L)
            have hc0 : cntT (fun l => decide (insV l.2 (px, py) = 1)) L 0 = 0 := rfl
            clear HCk hfr
            generalize hcn : cntT (fun l => decide (insV l.2 (px, py) = 1)) L = cn at *
            clear hcn
            go_upto_block 4 with fail
            go_wp2_with fail
            generalize wq = ws at *
            go_loopw [12, 13] (fun m i wr => ∃ j : Nat, j ≤ n ∧ i = .int .i64 j ∧ m = .int .i64 (cn j) ∧ Below wp.heap.size wp wr) (fun _ i _ => n - (intOf i).toNat)
            case atStart => exact ⟨0, by omega, rfl, by rw [hc0]; rfl, HKq.out⟩
            case round =>
              obtain ⟨j, hj, rfl, rfl, kb⟩ := hrel
              generalize wr = wj at *
              have HKj := Lib.hid kb
              clear kb
              have hcb := HCl.out j
              by_cases hlj : j < n
              rotate_left
              · obtain rfl : j = n := by omega
                have hge2 : ¬ ((j : Int) < (j : Int)) := by omega
                have hkz := HK.out.trans ((HWp.out _ HKj.out).mono HK.out.size)
                obtain ⟨r0, r1, r2, r3, r4, r5⟩ := (HRow.out wj hkz).cells
                dsimp only at r0 r1 r2 r3 r4 r5
                have cv := HCv.out wj (HWz.out _ hkz)
                have HKz := Lib.hid (HWp.out _ HKj.out)
                obtain ⟨z, hz⟩ : ∃ z, v[k]! = z := ⟨_, rfl⟩
                rw [hz] at cv HCN
                have hmt : ((cn j : Nat) : Int).tmod 2 = ((cn j % 2 : Nat) : Int) := rfl
                clear hkz hz
                generalize cn j = cj at *
                rcases fr with _ | _
                · obtain rfl : nf = true := hnf.out
                  clear hnf
                  have hcv := HCN.out rfl
                  by_cases hab : level ≤ z
                  · rw [decide_eq_true hab, decide_eq_true_eq] at hcv
                    rw [hcv] at hmt
                    go_wp2_with fail
                    go_roundw
                    case rel => exact ⟨k + 1, by omega, by go_num, HKz.out⟩
                    case measure => simp [intOf]; omega
                  · have hc2 : cj % 2 = 0 := by
                      rw [decide_eq_false hab, decide_eq_false_iff_not] at hcv
                      omega
                    rw [hc2] at hmt
                    clear hcv
                    go_wp2_with fail
                    go_roundw
                    case rel => exact ⟨k + 1, by omega, by go_num, HKz.out⟩
                    case measure => simp [intOf]; omega
                · obtain rfl : nf = false := hnf.out
                  clear hnf
                  go_wp2_with fail
                  go_roundw
                  case rel => exact ⟨k + 1, by omega, by go_num, HKz.out⟩
                  case measure => simp [intOf]; omega
              · have hjl : (j : Int) < (n : Int) := by omega
                have hj0 : (0 : Int) ≤ (j : Int) := by omega
                have HSj := Lib.hid (HINS.out j (by rw [HNl.out]; exact hlj))
                obtain ⟨b, off, g, cap, rfl, hc⟩ := HLn.out j hlj
                obtain ⟨m2, m3, m4⟩ := HLaw.out j (by rw [HNl.out]; exact hlj)
                generalize L[j]! = l at *
                obtain ⟨lv, pts⟩ := l
                dsimp only at *
                have HC := Lib.hid fun (W' : World) (hb : Below wp.heap.size wp W') => (show W'.cell? ⟨b, off + j * 2, none⟩ = some (.int .i64 lv) ∧ W'.cell? ⟨b, off + j * 2 + 1, none⟩ = some (.slice (some ⟨g, 0, none⟩) pts.length cap) from ⟨(hc W' (HWp.out W' hb)).1, (hc W' (HWp.out W' hb)).2.1⟩)
                have HP := Lib.hid fun (W' : World) (hb : Below wp.heap.size wp W') => (hc W' (HWp.out W' hb)).2.2
                clear hc
                obtain ⟨m, hm⟩ : ∃ m, pts.length = m := ⟨_, rfl⟩
                have HM := Lib.hid hm
                rw [hm] at HC m2 m3 m4
                obtain ⟨m1, hln, hm1⟩ : ∃ m1 : Nat, (m : Int) - 1 = (m1 : Int) ∧ m - 1 = m1 := ⟨m - 1, by omega, rfl⟩
                have hmw : IntKind.i64.wrap (m1 : Int) = (m1 : Int) := IntWalk.i64_in _ (by omega)
                have hi0 : (0 : Int) ≤ (m1 : Int) := by omega
                have hi1 : (m1 : Int) < (m : Int) := by omega
                have hi2 : (0 : Int) < (m : Int) := by omega
                have hi5 : 0 < m := by omega
                have hi6 : m1 < m := by omega
                have h2l : ¬ ((m : Int) < 2) := by omega
                rw [hm1] at m4
                have cI := Lib.hid fun (W' : World) (hb : Below wp.heap.size wp W') => con_Inside lv pts (px, py) (some ⟨g, 0, none⟩) cap W' (HP.out W' hb) (by rw [HM.out]; omega)
                rw [hm] at cI
                have HZ0 := Lib.hid fun (W' : World) (hb : Below wp.heap.size wp W') => Rd.cells0 (HP.out W' hb) (k := 0) (by rw [HM.out]; omega)
                have HZ1 := Lib.hid fun (W' : World) (hb : Below wp.heap.size wp W') => Rd.cells0 (HP.out W' hb) (k := m1) (by rw [HM.out]; omega)
                rw [← m4] at HZ1
                obtain ⟨⟨f1, f2⟩, hf1⟩ : ∃ z, pts[0]! = z := ⟨_, rfl⟩
                rw [hf1] at HZ0 HZ1
                dsimp only at HZ0 HZ1
                rw [Nat.zero_mul] at HZ0
                unfold aggP at cI
                dsimp only at cI
                clear hf1 m4 hm hm1
                have HNQ := Lib.hid (Try.neq23 f1 f2 f1 f2)
                have hgd := Try.guard23
                generalize hiv : insV pts (px, py) = iv at *
                clear hiv
                go_upto_region 20 with fail
                go_cut [124] (fun vv wx => vv = .bool false ∧ Below wp.heap.size wp wx)
                case first =>
                  as_aux_lemma =>
                    have hS0 : (fun W' : World => Below wp.heap.size wp W') wj.drew := HKj.out.drew
                    refine wp_region_held_drew (S := (fun W' : World => Below wp.heap.size wp W')) (by kernel_rfl) hS0 (fun hHeld => ?_)
                    clear hHeld
                    generalize wj.drew = wy at *
                    refine wpAnyH_take (i := 0) (oi := ⟨some 94, _, _, _, _, _⟩) (v := ?vrb1) rfl (by kernel_rfl) (by kernel_rfl) (by kernel_rfl) (fun _ _ _ h => h) (Or.inl ⟨by kernel_rfl, ?hyrb1⟩) (by assumption) ?restrb1
                    case hyrb1 => (intro W hSw; (try dsimp only at hSw); go_simp; try with_reducible rfl)
                    case' restrb1 => try simp only [Act.put, List.setIfInBounds_toArray, List.set_cons_zero, List.set_cons_succ]
                    refine wpAnyH_take (i := 1) (oi := ⟨some 95, _, _, _, _, _⟩) (v := ?vrb2) rfl (by kernel_rfl) (by kernel_rfl) (by kernel_rfl) (fun _ _ _ h => h) (Or.inl ⟨by kernel_rfl, ?hyrb2⟩) (by assumption) ?restrb2
                    case hyrb2 => (intro W hSw; (try dsimp only at hSw); go_simp; try with_reducible rfl)
                    case' restrb2 => try simp only [Act.put, List.setIfInBounds_toArray, List.set_cons_zero, List.set_cons_succ]
                    refine wpAnyH_take (i := 2) (oi := ⟨some 96, _, _, _, _, _⟩) (v := ?vrb3) rfl (by kernel_rfl) (by kernel_rfl) (by kernel_rfl) (fun _ _ _ h => h) (Or.inl ⟨by kernel_rfl, ?hyrb3⟩) (by assumption) ?restrb3
                    case hyrb3 => (intro W hSw; (try dsimp only at hSw); go_simp; try with_reducible rfl)
                    case' restrb3 => try simp only [Act.put, List.setIfInBounds_toArray, List.set_cons_zero, List.set_cons_succ]
                    refine wpAnyH_take (i := 3) (oi := ⟨some 97, _, _, _, _, _⟩) (v := ?vrb4) rfl (by kernel_rfl) (by kernel_rfl) (by kernel_rfl) (fun _ _ _ h => h) (Or.inl ⟨by kernel_rfl, ?hyrb4⟩) (by assumption) ?restrb4
                    case hyrb4 => (intro W hSw; (try dsimp only at hSw); go_simp; try with_reducible rfl)
                    case' restrb4 => try simp only [Act.put, List.setIfInBounds_toArray, List.set_cons_zero, List.set_cons_succ]
                    refine wpAnyH_take (i := 4) (oi := ⟨some 98, _, _, _, _, _⟩) (v := ?vrb5) rfl (by kernel_rfl) (by kernel_rfl) (by kernel_rfl) (fun _ _ _ h => h) (Or.inl ⟨by kernel_rfl, ?hyrb5⟩) (by assumption) ?restrb5
                    case hyrb5 => (intro W hSw; obtain ⟨d1, d2⟩ := HC.out W hSw; clear hSw; (try dsimp only at hSw); go_simp; try with_reducible rfl)
                    case' restrb5 => try simp only [Act.put, List.setIfInBounds_toArray, List.set_cons_zero, List.set_cons_succ]
                    refine wpAnyH_take (i := 5) (oi := ⟨some 99, _, _, _, _, _⟩) (v := ?vrb6) rfl (by kernel_rfl) (by kernel_rfl) (by kernel_rfl) (fun _ _ _ h => h) (Or.inl ⟨by kernel_rfl, ?hyrb6⟩) (by assumption) ?restrb6
                    case hyrb6 => (intro W hSw; (try dsimp only at hSw); go_simp; try with_reducible rfl)
                    case' restrb6 => try simp only [Act.put, List.setIfInBounds_toArray, List.set_cons_zero, List.set_cons_succ]
                    refine wpAnyH_take (i := 6) (oi := ⟨some 100, _, _, _, _, _⟩) (v := ?vrb7) rfl (by kernel_rfl) (by kernel_rfl) (by kernel_rfl) (fun _ _ _ h => h) (Or.inl ⟨by kernel_rfl, ?hyrb7⟩) (by assumption) ?restrb7
                    case hyrb7 => (intro W hSw; (try dsimp only at hSw); go_simp; try with_reducible rfl)
                    case' restrb7 => try simp only [Act.put, List.setIfInBounds_toArray, List.set_cons_zero, List.set_cons_succ]
                    refine wpAnyH_take (i := 7) (oi := ⟨some 101, _, _, _, _, _⟩) (v := ?vrb8) rfl (by kernel_rfl) (by kernel_rfl) (by kernel_rfl) (fun _ _ _ h => h) (Or.inl ⟨by kernel_rfl, ?hyrb8⟩) (by assumption) ?restrb8
                    case hyrb8 => (intro W hSw; (try dsimp only at hSw); go_simp; try with_reducible rfl)
                    case' restrb8 => try simp only [Act.put, List.setIfInBounds_toArray, List.set_cons_zero, List.set_cons_succ]
                    refine wpAnyH_take (i := 8) (oi := ⟨some 102, _, _, _, _, _⟩) (v := ?vrb9) rfl (by kernel_rfl) (by kernel_rfl) (by kernel_rfl) (fun _ _ _ h => h) (Or.inl ⟨by kernel_rfl, ?hyrb9⟩) (by assumption) ?restrb9
                    case hyrb9 => (intro W hSw; (try dsimp only at hSw); go_simp; try with_reducible rfl)
                    case' restrb9 => try simp only [Act.put, List.setIfInBounds_toArray, List.set_cons_zero, List.set_cons_succ]
                    refine wpAnyH_take (i := 9) (oi := ⟨some 103, _, _, _, _, _⟩) (v := ?vrb10) rfl (by kernel_rfl) (by kernel_rfl) (by kernel_rfl) (fun _ _ _ h => h) (Or.inl ⟨by kernel_rfl, ?hyrb10⟩) (by assumption) ?restrb10
                    case hyrb10 => (intro W hSw; (try dsimp only at hSw); go_simp; try with_reducible rfl)
                    case' restrb10 => try simp only [Act.put, List.setIfInBounds_toArray, List.set_cons_zero, List.set_cons_succ]
                    refine wpAnyH_take (i := 10) (oi := ⟨some 104, _, _, _, _, _⟩) (v := ?vrb11) rfl (by kernel_rfl) (by kernel_rfl) (by kernel_rfl) (fun _ _ _ h => h) (Or.inl ⟨by kernel_rfl, ?hyrb11⟩) (by assumption) ?restrb11
                    case hyrb11 => (intro W hSw; (try dsimp only at hSw); go_simp; try with_reducible rfl)
                    case' restrb11 => try simp only [Act.put, List.setIfInBounds_toArray, List.set_cons_zero, List.set_cons_succ]
                    refine wpAnyH_take (i := 11) (oi := ⟨some 105, _, _, _, _, _⟩) (v := ?vrb12) rfl (by kernel_rfl) (by kernel_rfl) (by kernel_rfl) (fun _ _ _ h => h) (Or.inl ⟨by kernel_rfl, ?hyrb12⟩) (by assumption) ?restrb12
                    case hyrb12 => (intro W hSw; (try dsimp only at hSw); go_simp; try with_reducible rfl)
                    case' restrb12 => try simp only [Act.put, List.setIfInBounds_toArray, List.set_cons_zero, List.set_cons_succ]
                    refine wpAnyH_take (i := 12) (oi := ⟨some 106, _, _, _, _, _⟩) (v := ?vrb13) rfl (by kernel_rfl) (by kernel_rfl) (by kernel_rfl) (fun _ _ _ h => h) (Or.inl ⟨by kernel_rfl, ?hyrb13⟩) (by assumption) ?restrb13
                    case hyrb13 => (intro W hSw; obtain ⟨d1, d2⟩ := HC.out W hSw; clear hSw; (try dsimp only at hSw); go_simp; try with_reducible rfl)
                    case' restrb13 => try simp only [Act.put, List.setIfInBounds_toArray, List.set_cons_zero, List.set_cons_succ]
                    refine wpAnyH_take (i := 13) (oi := ⟨some 107, _, _, _, _, _⟩) (v := ?vrb14) rfl (by kernel_rfl) (by kernel_rfl) (by kernel_rfl) (fun _ _ _ h => h) (Or.inl ⟨by kernel_rfl, ?hyrb14⟩) (by assumption) ?restrb14
                    case hyrb14 => (intro W hSw; (try dsimp only at hSw); go_simp; try with_reducible rfl)
                    case' restrb14 => try simp only [Act.put, List.setIfInBounds_toArray, List.set_cons_zero, List.set_cons_succ]
                    refine wpAnyH_take (i := 14) (oi := ⟨some 108, _, _, _, _, _⟩) (v := ?vrb15) rfl (by kernel_rfl) (by kernel_rfl) (by kernel_rfl) (fun _ _ _ h => h) (Or.inl ⟨by kernel_rfl, ?hyrb15⟩) (by assumption) ?restrb15
                    case hyrb15 => (intro W hSw; obtain ⟨z1, z2⟩ := HZ0.out W hSw; obtain ⟨z3, z4⟩ := HZ1.out W hSw; clear hSw; (try dsimp only at hSw); go_simp; try with_reducible rfl)
                    case' restrb15 => try simp only [Act.put, List.setIfInBounds_toArray, List.set_cons_zero, List.set_cons_succ]
                    refine wpAnyH_take (i := 15) (oi := ⟨some 109, _, _, _, _, _⟩) (v := ?vrb16) rfl (by kernel_rfl) (by kernel_rfl) (by kernel_rfl) (fun _ _ _ h => h) (Or.inl ⟨by kernel_rfl, ?hyrb16⟩) (by assumption) ?restrb16
                    case hyrb16 => (intro W hSw; (try dsimp only at hSw); go_simp; try with_reducible rfl)
                    case' restrb16 => try simp only [Act.put, List.setIfInBounds_toArray, List.set_cons_zero, List.set_cons_succ]
                    refine wpAnyH_take (i := 16) (oi := ⟨some 110, _, _, _, _, _⟩) (v := ?vrb17) rfl (by kernel_rfl) (by kernel_rfl) (by kernel_rfl) (fun _ _ _ h => h) (Or.inl ⟨by kernel_rfl, ?hyrb17⟩) (by assumption) ?restrb17
                    case hyrb17 => (intro W hSw; (try dsimp only at hSw); go_simp; try with_reducible rfl)
                    case' restrb17 => try simp only [Act.put, List.setIfInBounds_toArray, List.set_cons_zero, List.set_cons_succ]
                    refine wpAnyH_take (i := 17) (oi := ⟨some 111, _, _, _, _, _⟩) (v := ?vrb18) rfl (by kernel_rfl) (by kernel_rfl) (by kernel_rfl) (fun _ _ _ h => h) (Or.inl ⟨by kernel_rfl, ?hyrb18⟩) (by assumption) ?restrb18
                    case hyrb18 => (intro W hSw; (try dsimp only at hSw); go_simp; try with_reducible rfl)
                    case' restrb18 => try simp only [Act.put, List.setIfInBounds_toArray, List.set_cons_zero, List.set_cons_succ]
                    refine wpAnyH_take (i := 18) (oi := ⟨some 112, _, _, _, _, _⟩) (v := ?vrb19) rfl (by kernel_rfl) (by kernel_rfl) (by kernel_rfl) (fun _ _ _ h => h) (Or.inl ⟨by kernel_rfl, ?hyrb19⟩) (by assumption) ?restrb19
                    case hyrb19 => (intro W hSw; (try dsimp only at hSw); go_simp; try with_reducible rfl)
                    case' restrb19 => try simp only [Act.put, List.setIfInBounds_toArray, List.set_cons_zero, List.set_cons_succ]
                    refine wpAnyH_take (i := 19) (oi := ⟨some 113, _, _, _, _, _⟩) (v := ?vrb20) rfl (by kernel_rfl) (by kernel_rfl) (by kernel_rfl) (fun _ _ _ h => h) (Or.inl ⟨by kernel_rfl, ?hyrb20⟩) (by assumption) ?restrb20
                    case hyrb20 => (intro W hSw; obtain ⟨d1, d2⟩ := HC.out W hSw; clear hSw; (try dsimp only at hSw); go_simp; try with_reducible rfl)
                    case' restrb20 => try simp only [Act.put, List.setIfInBounds_toArray, List.set_cons_zero, List.set_cons_succ]
                    refine wpAnyH_take (i := 20) (oi := ⟨some 114, _, _, _, _, _⟩) (v := ?vrb21) rfl (by kernel_rfl) (by kernel_rfl) (by kernel_rfl) (fun _ _ _ h => h) (Or.inl ⟨by kernel_rfl, ?hyrb21⟩) (by assumption) ?restrb21
                    case hyrb21 => (intro W hSw; (try dsimp only at hSw); go_simp; try with_reducible rfl)
                    case' restrb21 => try simp only [Act.put, List.setIfInBounds_toArray, List.set_cons_zero, List.set_cons_succ]
                    refine wpAnyH_take (i := 21) (oi := ⟨some 115, _, _, _, _, _⟩) (v := ?vrb22) rfl (by kernel_rfl) (by kernel_rfl) (by kernel_rfl) (fun _ _ _ h => h) (Or.inl ⟨by kernel_rfl, ?hyrb22⟩) (by assumption) ?restrb22
                    case hyrb22 => (intro W hSw; (try dsimp only at hSw); go_simp; try with_reducible rfl)
                    case' restrb22 => try simp only [Act.put, List.setIfInBounds_toArray, List.set_cons_zero, List.set_cons_succ]
                    refine wpAnyH_take (i := 22) (oi := ⟨some 116, _, _, _, _, _⟩) (v := ?vrb23) rfl (by kernel_rfl) (by kernel_rfl) (by kernel_rfl) (fun _ _ _ h => h) (Or.inl ⟨by kernel_rfl, ?hyrb23⟩) (by assumption) ?restrb23
                    case hyrb23 => (intro W hSw; (try dsimp only at hSw); go_simp; try with_reducible rfl)
                    case' restrb23 => try simp only [Act.put, List.setIfInBounds_toArray, List.set_cons_zero, List.set_cons_succ]
                    refine wpAnyH_take (i := 23) (oi := ⟨some 117, _, _, _, _, _⟩) (v := ?vrb24) rfl (by kernel_rfl) (by kernel_rfl) (by kernel_rfl) (fun _ _ _ h => h) (Or.inl ⟨by kernel_rfl, ?hyrb24⟩) (by assumption) ?restrb24
                    case hyrb24 => (intro W hSw; (try dsimp only at hSw); go_simp; try with_reducible rfl)
                    case' restrb24 => try simp only [Act.put, List.setIfInBounds_toArray, List.set_cons_zero, List.set_cons_succ]
                    refine wpAnyH_take (i := 24) (oi := ⟨some 118, _, _, _, _, _⟩) (v := ?vrb25) rfl (by kernel_rfl) (by kernel_rfl) (by kernel_rfl) (fun _ _ _ h => h) (Or.inl ⟨by kernel_rfl, ?hyrb25⟩) (by assumption) ?restrb25
                    case hyrb25 => (intro W hSw; obtain ⟨d1, d2⟩ := HC.out W hSw; clear hSw; (try dsimp only at hSw); go_simp; try with_reducible rfl)
                    case' restrb25 => try simp only [Act.put, List.setIfInBounds_toArray, List.set_cons_zero, List.set_cons_succ]
                    refine wpAnyH_take (i := 25) (oi := ⟨some 119, _, _, _, _, _⟩) (v := ?vrb26) rfl (by kernel_rfl) (by kernel_rfl) (by kernel_rfl) (fun _ _ _ h => h) (Or.inl ⟨by kernel_rfl, ?hyrb26⟩) (by assumption) ?restrb26
                    case hyrb26 => (intro W hSw; (try dsimp only at hSw); go_simp; try with_reducible rfl)
                    case' restrb26 => try simp only [Act.put, List.setIfInBounds_toArray, List.set_cons_zero, List.set_cons_succ]
                    refine wpAnyH_take (i := 26) (oi := ⟨some 120, _, _, _, _, _⟩) (v := ?vrb27) rfl (by kernel_rfl) (by kernel_rfl) (by kernel_rfl) (fun _ _ _ h => h) (Or.inl ⟨by kernel_rfl, ?hyrb27⟩) (by assumption) ?restrb27
                    case hyrb27 => (intro W hSw; (try dsimp only at hSw); go_simp; try with_reducible rfl)
                    case' restrb27 => try simp only [Act.put, List.setIfInBounds_toArray, List.set_cons_zero, List.set_cons_succ]
                    refine wpAnyH_take (i := 27) (oi := ⟨some 121, _, _, _, _, _⟩) (v := ?vrb28) rfl (by kernel_rfl) (by kernel_rfl) (by kernel_rfl) (fun _ _ _ h => h) (Or.inl ⟨by kernel_rfl, ?hyrb28⟩) (by assumption) ?restrb28
                    case hyrb28 => (intro W hSw; (try dsimp only at hSw); go_simp; try with_reducible rfl)
                    case' restrb28 => try simp only [Act.put, List.setIfInBounds_toArray, List.set_cons_zero, List.set_cons_succ]
                    refine wpAnyH_take (i := 28) (oi := ⟨some 122, _, _, _, _, _⟩) (v := ?vrb29) rfl (by kernel_rfl) (by kernel_rfl) (by kernel_rfl) (fun _ _ _ h => h) (Or.inl ⟨by kernel_rfl, ?hyrb29⟩) (by assumption) ?restrb29
                    case hyrb29 => (intro W hSw; obtain ⟨z1, z2⟩ := HZ0.out W hSw; obtain ⟨z3, z4⟩ := HZ1.out W hSw; clear hSw; (try dsimp only at hSw); go_simp; try with_reducible rfl)
                    case' restrb29 => try simp only [Act.put, List.setIfInBounds_toArray, List.set_cons_zero, List.set_cons_succ]
                    refine wpAnyH_take (i := 29) (oi := ⟨some 123, _, _, _, _, _⟩) (v := ?vrb30) rfl (by kernel_rfl) (by kernel_rfl) (by kernel_rfl) (fun _ _ _ h => h) (Or.inl ⟨by kernel_rfl, ?hyrb30⟩) (by assumption) ?restrb30
                    case hyrb30 => (intro W hSw; have hnd := HNQ.out; clear hSw; (try dsimp only at hSw); go_simp; try with_reducible rfl)
                    case' restrb30 => try simp only [Act.put, List.setIfInBounds_toArray, List.set_cons_zero, List.set_cons_succ]
                    refine wpAnyH_take (i := 30) (oi := ⟨some 124, _, _, _, _, _⟩) (v := ?vrb31) rfl (by kernel_rfl) (by kernel_rfl) (by kernel_rfl) (fun _ _ _ h => h) (Or.inl ⟨by kernel_rfl, ?hyrb31⟩) (by assumption) ?restrb31
                    case hyrb31 => (intro W hSw; (try dsimp only at hSw); go_simp; try with_reducible rfl)
                    case' restrb31 => try simp only [Act.put, List.setIfInBounds_toArray, List.set_cons_zero, List.set_cons_succ]
                    refine wpAnyH_done (by kernel_rfl) ?_ _
                    go_wp2_with fail
                    go_meet
                    exact ⟨rfl, hS0⟩
                obtain ⟨rfl, kx⟩ := hcut
                generalize wc = wx at *
                have HKx := Lib.hid kx
                clear kx HNQ HZ0 HZ1
                go_upto_region 22 with fail
                go_cut [131] (fun vv wx => vv = .bool (decide (iv = 1)) ∧ Below wp.heap.size wp wx)
                case first =>
                  as_aux_lemma =>
                    have hS0 : (fun W' : World => Below wp.heap.size wp W') wx.drew := HKx.out.drew
                    refine wp_region_held_drew (S := (fun W' : World => Below wp.heap.size wp W')) (by kernel_rfl) hS0 (fun hHeld => ?_)
                    clear hHeld
                    generalize wx.drew = wy at *
                    refine wpAnyH_take (i := 0) (oi := ⟨some 125, _, _, _, _, _⟩) (v := ?vrc1) rfl (by kernel_rfl) (by kernel_rfl) (by kernel_rfl) (fun _ _ _ h => h) (Or.inl ⟨by kernel_rfl, ?hyrc1⟩) (by assumption) ?restrc1
                    case hyrc1 => (intro W hSw; (try dsimp only at hSw); go_simp; try with_reducible rfl)
                    case' restrc1 => try simp only [Act.put, List.setIfInBounds_toArray, List.set_cons_zero, List.set_cons_succ]
                    refine wpAnyH_take (i := 1) (oi := ⟨some 126, _, _, _, _, _⟩) (v := ?vrc2) rfl (by kernel_rfl) (by kernel_rfl) (by kernel_rfl) (fun _ _ _ h => h) (Or.inl ⟨by kernel_rfl, ?hyrc2⟩) (by assumption) ?restrc2
                    case hyrc2 => (intro W hSw; (try dsimp only at hSw); go_simp; try with_reducible rfl)
                    case' restrc2 => try simp only [Act.put, List.setIfInBounds_toArray, List.set_cons_zero, List.set_cons_succ]
                    refine wpAnyH_take (i := 2) (oi := ⟨some 127, _, _, _, _, _⟩) (v := ?vrc3) rfl (by kernel_rfl) (by kernel_rfl) (by kernel_rfl) (fun _ _ _ h => h) (Or.inl ⟨by kernel_rfl, ?hyrc3⟩) (by assumption) ?restrc3
                    case hyrc3 => (intro W hSw; (try dsimp only at hSw); go_simp; try with_reducible rfl)
                    case' restrc3 => try simp only [Act.put, List.setIfInBounds_toArray, List.set_cons_zero, List.set_cons_succ]
                    refine wpAnyH_take (i := 3) (oi := ⟨some 128, _, _, _, _, _⟩) (v := ?vrc4) rfl (by kernel_rfl) (by kernel_rfl) (by kernel_rfl) (fun _ _ _ h => h) (Or.inl ⟨by kernel_rfl, ?hyrc4⟩) (by assumption) ?restrc4
                    case hyrc4 => (intro W hSw; obtain ⟨d1, d2⟩ := HC.out W hSw; clear hSw; (try dsimp only at hSw); go_simp; try with_reducible rfl)
                    case' restrc4 => try simp only [Act.put, List.setIfInBounds_toArray, List.set_cons_zero, List.set_cons_succ]
                    refine wpAnyH_take (i := 4) (oi := ⟨some 129, _, _, _, _, _⟩) (v := ?vrc5) rfl (by kernel_rfl) (by kernel_rfl) (by kernel_rfl) (fun _ _ _ h => h) (Or.inl ⟨by kernel_rfl, ?hyrc5⟩) (by assumption) ?restrc5
                    case hyrc5 => (intro W hSw; obtain ⟨d1, d2⟩ := HBp.out W hSw; clear hSw; (try dsimp only at hSw); go_simp; try with_reducible rfl)
                    case' restrc5 => try simp only [Act.put, List.setIfInBounds_toArray, List.set_cons_zero, List.set_cons_succ]
                    refine wpAnyH_ready (rs := [5]) (by kernel_rfl) (by simp) ?_
                    refine AllReadyH.cons (o := ⟨some 130, _, _, _, _, _⟩) rfl (fun K hK => ?_) AllReadyH.nil
                    go_simp
                    go_at_call 19
                    refine (cI.out _ hS0).mono ?_
                    rintro e Wrc1 ⟨rfl, hbWrc1⟩
                    have hSWrc1 := hS0.trans (hbWrc1.mono hS0.size)
                    try clear hS0
                    clear hbWrc1
                    go_wp2_with fail
                    refine hK.out _ _ hSWrc1 (fun hHeld => ?_)
                    clear hK hHeld K
                    try simp only [Act.put, List.setIfInBounds_toArray, List.set_cons_zero, List.set_cons_succ]
                    refine wpAnyH_take (i := 6) (oi := ⟨some 131, _, _, _, _, _⟩) (v := ?vrc6) rfl (by kernel_rfl) (by kernel_rfl) (by kernel_rfl) (fun _ _ _ h => h) (Or.inl ⟨by kernel_rfl, ?hyrc6⟩) (by assumption) ?restrc6
                    case hyrc6 => (intro W hSw; (try dsimp only at hSw); go_simp; try with_reducible rfl)
                    case' restrc6 => try simp only [Act.put, List.setIfInBounds_toArray, List.set_cons_zero, List.set_cons_succ]
                    refine wpAnyH_done (by kernel_rfl) ?_ _
                    go_wp2_with fail
                    go_meet
                    exact ⟨by first | rfl | simp, hSWrc1⟩
                obtain ⟨rfl, kx⟩ := hcut
                generalize wc = wx2 at *
                have HKx2 := Lib.hid kx
                clear kx
                have hcb2 : (cn j : Int) ≤ 12288 := by omega
                by_cases hiv : iv = 1
                · have HSj2 := Lib.hid (show cn (j + 1) = cn j + 1 from by rw [HSj.out, if_pos (decide_eq_true hiv)])
                  subst hiv
                  go_wp2_with fail
                  go_roundw
                  case rel => exact ⟨j + 1, by omega, by go_num, by rw [HSj2.out]; go_num, HKx2.out⟩
                  case measure => simp [intOf]; omega
                · have HSj2 := Lib.hid (show cn (j + 1) = cn j from by rw [HSj.out, if_neg (by rw [decide_eq_true_eq]; exact hiv)]; rfl)
                  have hd : decide (iv = 1) = false := decide_eq_false hiv
                  rw [hd]
                  go_wp2_with fail
                  go_roundw
                  case rel => exact ⟨j + 1, by omega, by go_num, by rw [HSj2.out], HKx2.out⟩
                  case measure => simp [intOf]; omega
end Go.Proofs
