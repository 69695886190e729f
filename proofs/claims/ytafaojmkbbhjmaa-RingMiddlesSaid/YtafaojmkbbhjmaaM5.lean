/- search, walked. -/
import Derived.Test.YtafaojmkbbhjmaaM4
import Derived.Laws.EntriesVeiled
set_option linter.unusedVariables false
set_option linter.unusedSimpArgs false
namespace Go.Proofs
open Go.RowKit Go.Proofs.Mp

/-- row and longest, one after the other -/
theorem row_slice {W : World} {l : List Pt} {y : Int} {e : Ending} {w' : World} (h : RetR W (rowL l y) e w') : ∃ A c, e = .returned (.slice A (rowL l y).length c) ∧ RdR w' A (rowL l y) ∧ Below W.heap.size W w' := by
  obtain ⟨A, c, h1, h2, h3⟩ := h
  exact ⟨A, c, h1, h2, h3⟩
theorem dropB_len : ∀ (lo : Int) (b : List (Int × Int)), (dropB lo b).length ≤ b.length := by
  intro lo b
  induction b with
  | nil => simp [dropB]
  | cons s ss ih =>
    unfold dropB
    split
    · simp only [List.length_cons]; omega
    · exact Nat.le_refl _
theorem minusF_len : ∀ (a b : List (Int × Int)), (minusF a b).length ≤ a.length * (b.length + 1) := by
  intro a
  induction a with
  | nil => intro b; simp [minusF]
  | cons r rs ih =>
    intro b
    have h1 := cutF_len (dropB r.1 b) r.1 r.2
    have h2 := dropB_len r.1 b
    have h3 := ih (dropB r.1 b)
    have h4 := Nat.mul_le_mul_left rs.length (show (dropB r.1 b).length + 1 ≤ b.length + 1 by omega)
    show (cutF r.1 (dropB r.1 b) r.2 ++ minusF rs (dropB r.1 b)).length ≤ (rs.length + 1) * (b.length + 1)
    rw [List.length_append, Nat.succ_mul]
    omega
theorem insL_len (l : List Pt) (y : Int) : (insL l y).length ≤ l.length := by
  have h1 := insTo_len (srtI (endsTo l y l.length)) ((srtI (endsTo l y l.length)).length / 2)
  have h2 := endsTo_len l y l.length
  rw [srtI_len] at h1
  unfold insL
  rw [srtI_len]
  omega
theorem rowL_len (l : List Pt) (y : Int) (hn : l.length ≤ 4096) : (rowL l y).length ≤ 1000000000 := by
  unfold rowL
  split
  · simp
  · have h1 := minusF_len (normL (insL l y)) (normL (edgesTo l y l.length))
    have h2 := normL_len (insL l y)
    have h3 := normL_len (edgesTo l y l.length)
    have h4 := insL_len l y
    have h5 := edgesTo_len l y l.length
    have h6 := Nat.mul_le_mul (show (normL (insL l y)).length ≤ 4096 by omega) (show (normL (edgesTo l y l.length)).length + 1 ≤ 12289 by omega)
    unfold minusL
    omega
theorem ysq_up {m : Int} {d : Nat} (h : d ≠ 0) : ysq m (trN d 0) = m + d := by
  unfold trN ysq
  rw [if_neg h, if_pos (by omega)]
  omega
theorem ysq_dn {m : Int} {d : Nat} (h : d ≠ 0) : ysq m (trN d 1) = m - d := by
  unfold trN ysq
  rw [if_neg h, if_neg (by omega)]
  omega
theorem ysq_0 {m : Int} : ysq m (trN 0 0) = m := by simp [trN, ysq]
theorem trN_next (d : Nat) : trN d 2 = trN (d + 1) 0 := by unfold trN; split <;> simp <;> omega
theorem trN_one (d : Nat) (h : d ≠ 0) (i : Nat) : trN d (i + 1) = trN d i + 1 := by unfold trN; rw [if_neg h, if_neg h]; omega

theorem Try.index62 (x y : Int) (W : World) : (Instr.index 62 (.agg #[.int .i64 x, .int .i64 y]) (.int .i64 0)).run Try.prog W = .ok (.int .i64 x) W ∧ (Instr.index 62 (.agg #[.int .i64 x, .int .i64 y]) (.int .i64 1)).run Try.prog W = .ok (.int .i64 y) W := by
  constructor
  · simp [Instr.index, go_sem, asAgg]
  · simp [Instr.index, go_sem, asAgg]

set_option maxRecDepth 100000 in
set_option maxHeartbeats 8000000 in
theorem ring_search (A : Option Addr) (c : Nat) (l : List Pt) (b : Bo) (w : World) (hn : l.length ≤ 4096) (hv : allVp l) (hy1 : -1048576 ≤ b.y0) (hy2 : b.y1 ≤ 1048576) (hy3 : b.y0 ≤ b.y1) (hR : RdR w A l) :
    Calls Try.prog 33 #[aggO b, .func (.func 34) #[.slice A l.length c] #[]] w (RetV w (.tuple #[aggP (mdP l (mdR l b)), .bool (mdR l b).isSome])) := by
  have cR := Lib.hid fun (y : Int) (h1 : -1048576 ≤ y) (h2 : y ≤ 1048576) (W : World) (hb : Below w.heap.size w W) => ring_row A c l y W hn hv h1 h2 (hR.below hb)
  have cL := Lib.hid fun (y : Int) (h1 : -1048576 ≤ y) (h2 : y ≤ 1048576) (A' : Option Addr) (c' : Nat) (W : World) (hr : RdR W A' (rowL l y)) => ring_longest A' c' (rowL l y) W (Nat.le_trans (rowL_len l y hn) (by decide)) (rowL_in hv h1 h2) hr
  have cF := Lib.hid fun a W h1 h2 => num_floor a 2 W h1 h2 (by decide)
  have HM := Lib.hid (show mdR l b = frst (okY l) b.y0 b.y1 (flo (b.y0 + b.y1) 2) (trN (b.y1 - b.y0 + 1).toNat 0) from rfl)
  have HOK := Lib.hid fun y => (show okY l y = longB (rowL l y) from rfl)
  have HMP := Lib.hid fun y => (show mdP l (some y) = (longX (rowL l y), y) from rfl)
  have HMN := Lib.hid (show mdP l none = (0, 0) from rfl)
  generalize mdR l b = res at *
  generalize mdP l = mp at *
  generalize okY l = ok at *
  clear hR hv
  have hfl := flo_spec (a := b.y0 + b.y1) (b := 2) (by omega)
  obtain ⟨x0, y0, xx1, y1⟩ := b
  unfold aggO aggP
  dsimp only at *
  obtain ⟨m, hm⟩ : ∃ m, flo (y0 + y1) 2 = m := ⟨_, rfl⟩
  rw [hm] at HM hfl
  have HMM := Lib.hid hm
  clear hm
  obtain ⟨f1, f2⟩ := hfl
  obtain ⟨D, hD⟩ : ∃ D : Nat, (y1 - y0 + 1).toNat = D := ⟨_, rfl⟩
  rw [hD] at HM
  have hDi : y1 - y0 + 1 = (D : Int) := by omega
  have HDD := Lib.hid hDi
  clear hD hDi
  have hw0 : Below w.heap.size w ((w.alloc (.cells #[.int .i64 x0, .int .i64 y0, .int .i64 xx1, .int .i64 y1] 29)).alloc (.cells #[.int .i64 0, .int .i64 0] 32)) := ((Below.refl _ _).alloc (Nat.le_refl _) _).alloc (by simp) _
  have HB := Lib.hid fun (W : World) (hW : Below ((w.alloc (.cells #[.int .i64 x0, .int .i64 y0, .int .i64 xx1, .int .i64 y1] 29)).alloc (.cells #[.int .i64 0, .int .i64 0] 32)).heap.size ((w.alloc (.cells #[.int .i64 x0, .int .i64 y0, .int .i64 xx1, .int .i64 y1] 29)).alloc (.cells #[.int .i64 0, .int .i64 0] 32)) W) =>
    (show RowO W w.heap.size ⟨x0, y0, xx1, y1⟩ ∧ BoxP W (w.heap.size + 1) (0, 0) from by
      have h1 : RowO (w.alloc (.cells #[.int .i64 x0, .int .i64 y0, .int .i64 xx1, .int .i64 y1] 29)) w.heap.size ⟨x0, y0, xx1, y1⟩ := heap_alloc_new w _
      have h2 := BoxP.new (w.alloc (.cells #[.int .i64 x0, .int .i64 y0, .int .i64 xx1, .int .i64 y1] 29)) (0, 0)
      rw [show (w.alloc (.cells #[.int .i64 x0, .int .i64 y0, .int .i64 xx1, .int .i64 y1] 29)).heap.size = w.heap.size + 1 by simp] at h2
      exact ⟨(h1.alloc _).below hW, h2.below hW⟩)
  go_enter Try.func33, Try.ntmps33
  go_wp2_with fail
  refine (cF.out _ _ (by omega) (by omega)).mono ?_
  rintro e w1 ⟨rfl, hb1⟩
  rw [HMM.out]
  generalize ((w.alloc (.cells #[.int .i64 x0, .int .i64 y0, .int .i64 xx1, .int .i64 y1] 29)).alloc (.cells #[.int .i64 0, .int .i64 0] 32)) = w0 at *
  have hwb := hw0.trans (hb1.mono hw0.size)
  obtain ⟨hro, hbp⟩ := HB.out _ hb1
  obtain ⟨k1, k2, k3, k4⟩ := hro.cells
  dsimp only at k1 k2 k3 k4
  clear hro hbp
  go_upto_block 0 with fail
  rw [HDD.out]
  go_wp2_with fail
  have hm1 : -1048576 ≤ m := by omega
  have hm2 : m ≤ 1048576 := by omega
  have hDb : D ≤ 2097153 := by have := HDD.out; omega
  clear k1 k2 k3 k4 hw0
  go_loopw [28] (fun v wr => ∃ d : Nat, d ≤ D ∧ v = .int .i64 d ∧ Hid (frst ok y0 y1 m (trN d 0) = none) ∧ Below w1.heap.size w1 wr) (fun v _ => D - (intOf v).toNat)
  case atStart => exact ⟨0, by omega, rfl, Lib.hid rfl, Below.refl _ _⟩
  case round =>
    obtain ⟨d, hd, rfl, hno, hbw⟩ := hrel
    have hb2 := hb1.trans (hbw.mono hb1.size)
    have hbz := hwb.trans (hbw.mono hwb.size)
    by_cases hdD : d < D
    rotate_left
    · obtain rfl : d = D := by omega
      have hres : res = none := by rw [HM.out, hno.out]
      obtain ⟨hro, hbp⟩ := HB.out _ hb2
      obtain ⟨p1, p2, p3, p4, p5⟩ := hbp.cel
      dsimp only at p1 p2
      have hfin := hbp.set (0, 0)
      have HFB := Lib.hid (below_setP hbz (m := w.heap.size + 1) (q := (0, 0)) (by omega))
      subst hres
      go_wp2_with fail
      have q1 := hfin.c0
      have q2 := hfin.c1
      refine bodyPost_ret (v := .tuple #[.agg #[.int .i64 0, .int .i64 0], .bool false]) (by simp only [setP] at q1 q2; simp [results, Try.results33, go_sem, q1, q2]) rfl ?_
      exact ⟨by rw [HMN.out]; rfl, HFB.out⟩
    · have hdi : (d : Int) < (D : Int) := by omega
      have hd0 : (0 : Int) ≤ (d : Int) := by omega
      have hdb : (d : Int) ≤ 2097153 := by omega
      clear hb2 hbz
      go_wp2_with fail
      go_loopw [38] (fun v wx => ∃ i : Nat, i ≤ 2 ∧ v = .int .i64 i ∧ Hid (frst ok y0 y1 m (trN d i) = none) ∧ Below w1.heap.size w1 wx) (fun v _ => 2 - (intOf v).toNat)
      case atStart => exact ⟨0, by omega, rfl, hno, hbw⟩
      case round =>
        obtain ⟨i, hi, rfl, hno2, hbx⟩ := hrel
        have hb2 := hb1.trans (hbx.mono hb1.size)
        have hbz := hwb.trans (hbx.mono hwb.size)
        obtain ⟨hro, hbp⟩ := HB.out _ hb2
        obtain ⟨k1, k2, k3, k4⟩ := hro.cells
        dsimp only at k1 k2 k3 k4
        clear hro hbp
        rcases (by omega : i = 0 ∨ i = 1 ∨ i = 2) with rfl | rfl | rfl
        · skip
          have hix := fun W => (Try.index62 (m + (d : Int)) (m - (d : Int)) W).1
          rw [show ((0 : Nat) : Int) = 0 from rfl]
          by_cases hdz : d = 0
          · skip
            have hq : ((d : Int) == 0) = true := by rw [beq_iff_eq]; omega
            have Hdz := Lib.hid hdz
            clear hdz
            by_cases ht : m + (d : Int) < y0
            · exfalso; omega
            by_cases ht2 : y1 < m + (d : Int)
            · skip
              have HNX := Lib.hid (show frst ok y0 y1 m (trN d 1) = none by rw [show trN d 1 = trN d 0 + 1 by rw [Hdz.out]; rfl, frst_out (by rw [show ysq m (trN d 0) = m + (d : Int) by rw [Hdz.out]; simp [trN, ysq]]; omega)]; exact hno2.out)
              go_wp2
              go_roundw
              case rel => exact ⟨1, by omega, by go_num, HNX, hbx⟩
              case measure => simp [intOf]
            have HT := Lib.hid (show y0 ≤ m + (d : Int) ∧ m + (d : Int) ≤ y1 by omega)
            have hy1' : -1048576 ≤ m + (d : Int) := by omega
            have hy2' : m + (d : Int) ≤ 1048576 := by omega
            go_wp2_with fail
            refine (cR.out (m + (d : Int)) hy1' hy2' _ hbz).mono ?_
            rintro e w6 hrw
            obtain ⟨A6, c6, rfl, hR6, hb6⟩ := row_slice hrw
            clear hrw
            go_wp2_with fail
            refine (cL.out (m + (d : Int)) hy1' hy2' A6 c6 w6 hR6).mono ?_
            rintro e w7 ⟨rfl, hb7⟩
            have hb67 := hb6.trans (hb7.mono hb6.size)
            have hbx7 := hbx.trans (hb67.mono hbx.size)
            have hbz7 := hbz.trans (hb67.mono hbz.size)
            have hb27 := hb2.trans (hb67.mono hb2.size)
            clear k1 k2 k3 k4 hR6 hb6 hb7 hb67 hb2 hbz hbx
            obtain ⟨X, hX⟩ : ∃ X, longX (rowL l (m + (d : Int))) = X := ⟨_, rfl⟩
            obtain ⟨z, hz⟩ : ∃ z, longB (rowL l (m + (d : Int))) = z := ⟨_, rfl⟩
            rw [hX, hz]
            have HX := Lib.hid hX
            have HZ := Lib.hid ((HOK.out (m + (d : Int))).trans hz)
            clear hX hz
            cases z
            · have HNX := Lib.hid (show frst ok y0 y1 m (trN d 1) = none by rw [show trN d 1 = trN d 0 + 1 by rw [Hdz.out]; rfl, frst_no (by rw [show ysq m (trN d 0) = m + (d : Int) by rw [Hdz.out]; simp [trN, ysq]]; exact HZ.out)]; exact hno2.out)
              go_wp2
              go_roundw
              case rel => exact ⟨1, by omega, by go_num, HNX, hbx7⟩
              case measure => simp [intOf]
            · have HNX := Lib.hid (show res = some (m + (d : Int)) by
                rw [HM.out]
                refine frst_some (n := trN d 0 + 1) ?_ _ (by unfold trN; split <;> split <;> omega)
                rw [frst_yes hno2.out (by rw [show ysq m (trN d 0) = m + (d : Int) by rw [Hdz.out]; simp [trN, ysq]]; have := HT.out; omega) (by rw [show ysq m (trN d 0) = m + (d : Int) by rw [Hdz.out]; simp [trN, ysq]]; have := HT.out; omega) (by rw [show ysq m (trN d 0) = m + (d : Int) by rw [Hdz.out]; simp [trN, ysq]]; exact HZ.out), show ysq m (trN d 0) = m + (d : Int) by rw [Hdz.out]; simp [trN, ysq]])
              obtain ⟨hro, hbp⟩ := HB.out _ hb27
              obtain ⟨p1, p2, p3, p4, p5⟩ := hbp.cel
              dsimp only at p1 p2
              have hfin := hbp.set (X, m + (d : Int))
              have HFB := Lib.hid (below_setP hbz7 (m := w.heap.size + 1) (q := (X, m + (d : Int))) (by omega))
              clear hro hbp
              go_wp2_with fail
              have q1 := hfin.c0
              have q2 := hfin.c1
              refine bodyPost_ret (v := .tuple #[.agg #[.int .i64 X, .int .i64 (m + (d : Int))], .bool true]) (by simp only [setP] at q1 q2; simp [results, Try.results33, go_sem, q1, q2]) rfl ?_
              exact ⟨by rw [HNX.out, HMP.out, HX.out]; rfl, HFB.out⟩
          · skip
            have hq : ((d : Int) == 0) = false := by rw [beq_eq_false_iff_ne]; omega
            by_cases ht : m + (d : Int) < y0
            · exfalso; omega
            by_cases ht2 : y1 < m + (d : Int)
            · skip
              have HNX := Lib.hid (show frst ok y0 y1 m (trN d 1) = none by rw [trN_one d hdz 0, frst_out (by rw [ysq_up hdz]; omega)]; exact hno2.out)
              go_wp2
              go_roundw
              case rel => exact ⟨1, by omega, by go_num, HNX, hbx⟩
              case measure => simp [intOf]
            have HT := Lib.hid (show y0 ≤ m + (d : Int) ∧ m + (d : Int) ≤ y1 by omega)
            have hy1' : -1048576 ≤ m + (d : Int) := by omega
            have hy2' : m + (d : Int) ≤ 1048576 := by omega
            go_wp2_with fail
            refine (cR.out (m + (d : Int)) hy1' hy2' _ hbz).mono ?_
            rintro e w6 hrw
            obtain ⟨A6, c6, rfl, hR6, hb6⟩ := row_slice hrw
            clear hrw
            go_wp2_with fail
            refine (cL.out (m + (d : Int)) hy1' hy2' A6 c6 w6 hR6).mono ?_
            rintro e w7 ⟨rfl, hb7⟩
            have hb67 := hb6.trans (hb7.mono hb6.size)
            have hbx7 := hbx.trans (hb67.mono hbx.size)
            have hbz7 := hbz.trans (hb67.mono hbz.size)
            have hb27 := hb2.trans (hb67.mono hb2.size)
            clear k1 k2 k3 k4 hR6 hb6 hb7 hb67 hb2 hbz hbx
            obtain ⟨X, hX⟩ : ∃ X, longX (rowL l (m + (d : Int))) = X := ⟨_, rfl⟩
            obtain ⟨z, hz⟩ : ∃ z, longB (rowL l (m + (d : Int))) = z := ⟨_, rfl⟩
            rw [hX, hz]
            have HX := Lib.hid hX
            have HZ := Lib.hid ((HOK.out (m + (d : Int))).trans hz)
            clear hX hz
            cases z
            · have HNX := Lib.hid (show frst ok y0 y1 m (trN d 1) = none by rw [trN_one d hdz 0, frst_no (by rw [ysq_up hdz]; exact HZ.out)]; exact hno2.out)
              go_wp2
              go_roundw
              case rel => exact ⟨1, by omega, by go_num, HNX, hbx7⟩
              case measure => simp [intOf]
            · have HNX := Lib.hid (show res = some (m + (d : Int)) by
                rw [HM.out]
                refine frst_some (n := trN d 0 + 1) ?_ _ (by unfold trN; split <;> split <;> omega)
                rw [frst_yes hno2.out (by rw [ysq_up hdz]; have := HT.out; omega) (by rw [ysq_up hdz]; have := HT.out; omega) (by rw [ysq_up hdz]; exact HZ.out), ysq_up hdz])
              obtain ⟨hro, hbp⟩ := HB.out _ hb27
              obtain ⟨p1, p2, p3, p4, p5⟩ := hbp.cel
              dsimp only at p1 p2
              have hfin := hbp.set (X, m + (d : Int))
              have HFB := Lib.hid (below_setP hbz7 (m := w.heap.size + 1) (q := (X, m + (d : Int))) (by omega))
              clear hro hbp
              go_wp2_with fail
              have q1 := hfin.c0
              have q2 := hfin.c1
              refine bodyPost_ret (v := .tuple #[.agg #[.int .i64 X, .int .i64 (m + (d : Int))], .bool true]) (by simp only [setP] at q1 q2; simp [results, Try.results33, go_sem, q1, q2]) rfl ?_
              exact ⟨by rw [HNX.out, HMP.out, HX.out]; rfl, HFB.out⟩
        · skip
          have hix := fun W => (Try.index62 (m + (d : Int)) (m - (d : Int)) W).2
          rw [show ((1 : Nat) : Int) = 1 from rfl]
          by_cases hdz : d = 0
          · have hq : ((d : Int) == 0) = true := by rw [beq_iff_eq]; omega
            have HNX := Lib.hid (show frst ok y0 y1 m (trN d 2) = none by rw [hdz]; rw [hdz] at hno2; exact hno2.out)
            have Hdz := Lib.hid hdz
            clear hdz
            by_cases ht : m - (d : Int) < y0
            · exfalso; have := Hdz.out; omega
            by_cases ht2 : y1 < m - (d : Int)
            · exfalso; have := Hdz.out; omega
            go_wp2
            go_roundw
            case rel => exact ⟨2, by omega, by go_num, HNX, hbx⟩
            case measure => simp [intOf]
          · skip
            have hq : ((d : Int) == 0) = false := by rw [beq_eq_false_iff_ne]; omega
            by_cases ht : m - (d : Int) < y0
            · skip
              have HNX := Lib.hid (show frst ok y0 y1 m (trN d 2) = none by rw [trN_one d hdz 1, frst_out (by rw [ysq_dn hdz]; omega)]; exact hno2.out)
              go_wp2
              go_roundw
              case rel => exact ⟨2, by omega, by go_num, HNX, hbx⟩
              case measure => simp [intOf]
            by_cases ht2 : y1 < m - (d : Int)
            · exfalso; omega
            have HT := Lib.hid (show y0 ≤ m - (d : Int) ∧ m - (d : Int) ≤ y1 by omega)
            have hy1' : -1048576 ≤ m - (d : Int) := by omega
            have hy2' : m - (d : Int) ≤ 1048576 := by omega
            go_wp2_with fail
            refine (cR.out (m - (d : Int)) hy1' hy2' _ hbz).mono ?_
            rintro e w6 hrw
            obtain ⟨A6, c6, rfl, hR6, hb6⟩ := row_slice hrw
            clear hrw
            go_wp2_with fail
            refine (cL.out (m - (d : Int)) hy1' hy2' A6 c6 w6 hR6).mono ?_
            rintro e w7 ⟨rfl, hb7⟩
            have hb67 := hb6.trans (hb7.mono hb6.size)
            have hbx7 := hbx.trans (hb67.mono hbx.size)
            have hbz7 := hbz.trans (hb67.mono hbz.size)
            have hb27 := hb2.trans (hb67.mono hb2.size)
            clear k1 k2 k3 k4 hR6 hb6 hb7 hb67 hb2 hbz hbx
            obtain ⟨X, hX⟩ : ∃ X, longX (rowL l (m - (d : Int))) = X := ⟨_, rfl⟩
            obtain ⟨z, hz⟩ : ∃ z, longB (rowL l (m - (d : Int))) = z := ⟨_, rfl⟩
            rw [hX, hz]
            have HX := Lib.hid hX
            have HZ := Lib.hid ((HOK.out (m - (d : Int))).trans hz)
            clear hX hz
            cases z
            · have HNX := Lib.hid (show frst ok y0 y1 m (trN d 2) = none by rw [trN_one d hdz 1, frst_no (by rw [ysq_dn hdz]; exact HZ.out)]; exact hno2.out)
              go_wp2
              go_roundw
              case rel => exact ⟨2, by omega, by go_num, HNX, hbx7⟩
              case measure => simp [intOf]
            · have HNX := Lib.hid (show res = some (m - (d : Int)) by
                rw [HM.out]
                refine frst_some (n := trN d 1 + 1) ?_ _ (by unfold trN; split <;> split <;> omega)
                rw [frst_yes hno2.out (by rw [ysq_dn hdz]; have := HT.out; omega) (by rw [ysq_dn hdz]; have := HT.out; omega) (by rw [ysq_dn hdz]; exact HZ.out), ysq_dn hdz])
              obtain ⟨hro, hbp⟩ := HB.out _ hb27
              obtain ⟨p1, p2, p3, p4, p5⟩ := hbp.cel
              dsimp only at p1 p2
              have hfin := hbp.set (X, m - (d : Int))
              have HFB := Lib.hid (below_setP hbz7 (m := w.heap.size + 1) (q := (X, m - (d : Int))) (by omega))
              clear hro hbp
              go_wp2_with fail
              have q1 := hfin.c0
              have q2 := hfin.c1
              refine bodyPost_ret (v := .tuple #[.agg #[.int .i64 X, .int .i64 (m - (d : Int))], .bool true]) (by simp only [setP] at q1 q2; simp [results, Try.results33, go_sem, q1, q2]) rfl ?_
              exact ⟨by rw [HNX.out, HMP.out, HX.out]; rfl, HFB.out⟩
        · rw [show ((2 : Nat) : Int) = 2 from rfl]
          have HNX := Lib.hid (show frst ok y0 y1 m (trN (d + 1) 0) = none by rw [← trN_next]; exact hno2.out)
          go_wp2
          go_roundw
          case rel => exact ⟨d + 1, by omega, by go_num, HNX, hbx⟩
          case measure => simp [intOf]; omega
end Go.Proofs
