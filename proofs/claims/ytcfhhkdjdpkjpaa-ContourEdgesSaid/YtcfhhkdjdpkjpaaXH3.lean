/- Round; the extent of a grid. -/
import Derived.Test.YtcfhhkdjdpkjpaaXJ2
import Derived.Test.YtcfhhkdjdpkjpaaXShelf
set_option linter.unusedVariables false
set_option linter.unusedSimpArgs false
namespace Go.Proofs
open Go.RowKit Go.Proofs.Mp

set_option maxHeartbeats 1000000 in
theorem num_size (n : Int) (w : World) (h1 : 0 ≤ n) (h2 : n ≤ 4611686018427387904) : Calls Try.prog 83 #[.int .i64 n] w (RetV w (.int .u64 n)) := by
  have hw : IntKind.u64.wrap n = n := by simp [IntKind.wrap, IntKind.bits, IntKind.signed]; omega
  go_enter Try.func83, Try.ntmps83
  go_wp2
  go_ret
  exact ⟨by simp [hw], Below.refl _ _⟩
/-- a / b, rounded, and halves up -/
def rnd (a b : Int) : Int := flo (2 * a + b) (2 * b)
theorem rnd_flo {a b : Int} (hb : 0 < b) : rnd a b = if b ≤ 2 * (a - flo a b * b) then flo a b + 1 else flo a b := by
  obtain ⟨f1, f2⟩ := flo_spec (a := a) hb
  obtain ⟨g1, g2⟩ := flo_spec (a := 2 * a + b) (b := 2 * b) (by omega)
  unfold rnd
  generalize flo a b = q at *
  generalize flo (2 * a + b) (2 * b) = r at *
  rw [Int.mul_add, Int.mul_one] at f2 g2
  rw [Int.mul_assoc] at g1 g2
  rw [Int.mul_comm q b]
  have key : ∀ r' : Int, b * r' ≤ b * q + b → ¬ (b * q + b < b * r') := fun r' h => by omega
  split
  · rename_i h
    have k1 : b * r < b * (q + 2) := by rw [Int.mul_add]; omega
    have k2 : b * q < b * r := by
      have : b * (q + 1) < b * (r + 1) := by rw [Int.mul_add, Int.mul_add]; omega
      have := Int.lt_of_mul_lt_mul_left this (Int.le_of_lt hb)
      exact Int.mul_lt_mul_of_pos_left (by omega) hb
    have := Int.lt_of_mul_lt_mul_left k1 (Int.le_of_lt hb)
    have := Int.lt_of_mul_lt_mul_left k2 (Int.le_of_lt hb)
    omega
  · rename_i h
    have k1 : b * r < b * (q + 1) := by rw [Int.mul_add]; omega
    have k2 : b * q < b * (r + 1) := by rw [Int.mul_add]; omega
    have := Int.lt_of_mul_lt_mul_left k1 (Int.le_of_lt hb)
    have := Int.lt_of_mul_lt_mul_left k2 (Int.le_of_lt hb)
    omega

theorem rnd_near {a b : Int} (hb : 0 < b) : -absI a - 1 ≤ rnd a b ∧ rnd a b ≤ absI a + 1 := by
  obtain ⟨g1, g2⟩ := flo_spec (a := 2 * a + b) (b := 2 * b) (by omega)
  unfold rnd
  generalize flo (2 * a + b) (2 * b) = r at *
  have hA : a ≤ absI a ∧ -a ≤ absI a ∧ 0 ≤ absI a := by unfold absI; split <;> omega
  generalize absI a = A at *
  rw [Int.mul_add, Int.mul_one, Int.mul_assoc] at g2
  rw [Int.mul_assoc] at g1
  constructor
  · rcases Int.lt_or_le r (-A - 1) with h | h
    · have := Int.mul_le_mul_of_nonneg_left (show r ≤ -A - 2 by omega) (Int.le_of_lt hb)
      have h3 : b * (-A - 2) ≤ -A - 2 * b := by
        have : 1 * A ≤ b * A := Int.mul_le_mul_of_nonneg_right (by omega) hA.2.2
        have e : b * (-A - 2) = -(b * A) - 2 * b := by grind
        omega
      omega
    · exact h
  · rcases Int.lt_or_le (A + 1) r with h | h
    · have := Int.mul_le_mul_of_nonneg_left (show A + 2 ≤ r by omega) (Int.le_of_lt hb)
      have h3 : A + 2 * b ≤ b * (A + 2) := by
        have : 1 * A ≤ b * A := Int.mul_le_mul_of_nonneg_right (by omega) hA.2.2
        have e : b * (A + 2) = b * A + 2 * b := by grind
        omega
      omega
    · exact h

set_option maxRecDepth 100000 in
set_option maxHeartbeats 2000000 in
theorem num_round (a b : Int) (w : World) (h1 : -2305843009213693952 ≤ a) (h2 : a ≤ 2305843009213693952) (hb : 0 < b) (hb2 : b ≤ 1152921504606846976) :
    Calls Try.prog 75 #[.int .i64 a, .int .i64 b] w (RetV w (.tuple #[.int .i64 (rnd a b), .int .i64 0])) := by
  have cF := Lib.hid fun W => num_floor a b W (by omega) (by omega) (by omega)
  have hr := rnd_flo (a := a) hb
  obtain ⟨f1, f2⟩ := flo_spec (a := a) hb
  have hqb := quo_bound a b (by omega) (by omega) (by omega)
  have hg := go_div a b (by omega)
  have hq1 : -2305843009213693953 ≤ flo a b ∧ flo a b ≤ 2305843009213693953 := by
    have := Int.natAbs_tdiv_le_natAbs a b
    omega
  generalize flo a b = q at *
  generalize rnd a b = r at *
  rw [Int.mul_add, Int.mul_one] at f2
  rw [Int.mul_comm b q] at f1 f2
  have hm1 : -4611686018427387904 ≤ q * b := by omega
  have hm2 : q * b ≤ 4611686018427387904 := by omega
  obtain ⟨m, hm⟩ : ∃ m, a - q * b = m := ⟨_, rfl⟩
  have hm3 : 0 ≤ m := by omega
  have hm4 : m < b := by omega
  have cS := Lib.hid fun W => (show Calls Try.prog 83 #[.int .i64 (a - q * b)] W (RetV W (.int .u64 m)) by rw [hm]; exact num_size m W hm3 (by omega))
  have cT := Lib.hid fun W => num_size b W (by omega) (by omega)
  have hwu : IntKind.u64.wrap (b - m) = b - m := by simp [IntKind.wrap, IntKind.bits, IntKind.signed]; omega
  rw [hm] at hr
  clear hg hqb f1 f2
  obtain ⟨hq1, hq2⟩ := hq1
  by_cases hc : b - m ≤ m
  · have HR := Lib.hid (hr.trans (if_pos (by omega)))
    clear hr
    have HM := Lib.hid hm
    clear hm
    go_enter Try.func75, Try.ntmps75
    go_wp2_with fail
    refine (cF.out _).mono ?_
    rintro e w1 ⟨rfl, hb1⟩
    go_wp2_with fail
    refine (cS.out _).mono ?_
    rintro e w2 ⟨rfl, hb2⟩
    have k2 := hb1.trans (hb2.mono hb1.size)
    go_wp2_with fail
    refine (cT.out _).mono ?_
    rintro e w3 ⟨rfl, hb3⟩
    have HK := Lib.hid (k2.trans (hb3.mono k2.size))
    clear hb1 hb2 hb3 k2
    go_wp2
    refine bodyPost_ret (v := .tuple #[.int .i64 (q + 1), .int .i64 0]) (by simp [results, Try.results75, go_sem]) rfl ?_
    exact ⟨by rw [HR.out], HK.out⟩
  · have HR := Lib.hid (hr.trans (if_neg (by omega)))
    clear hr
    have HM := Lib.hid hm
    clear hm
    go_enter Try.func75, Try.ntmps75
    go_wp2_with fail
    refine (cF.out _).mono ?_
    rintro e w1 ⟨rfl, hb1⟩
    go_wp2_with fail
    refine (cS.out _).mono ?_
    rintro e w2 ⟨rfl, hb2⟩
    have k2 := hb1.trans (hb2.mono hb1.size)
    go_wp2_with fail
    refine (cT.out _).mono ?_
    rintro e w3 ⟨rfl, hb3⟩
    have HK := Lib.hid (k2.trans (hb3.mono k2.size))
    clear hb1 hb2 hb3 k2
    go_wp2
    refine bodyPost_ret (v := .tuple #[.int .i64 (q), .int .i64 0]) (by simp [results, Try.results75, go_sem]) rfl ?_
    exact ⟨by rw [HR.out], HK.out⟩

/-- the least and the greatest of the first k -/
def minTo (v : List Int) : Nat → Int
  | 0 => v[0]!
  | k + 1 => min (minTo v k) v[k]!
def maxTo (v : List Int) : Nat → Int
  | 0 => v[0]!
  | k + 1 => max (maxTo v k) v[k]!
def loV (v : List Int) : Int := minTo v v.length
def hiV (v : List Int) : Int := maxTo v v.length
theorem minOf_loV {v : List Int} (h : 0 < v.length) : Lib.minOf v = loV v := by
  have key : ∀ k, k ≤ v.length → (v.take k).foldl min (v.headD 0) = minTo v k := by
    intro k
    induction k with
    | zero => intro _; rcases v with _ | ⟨x, v⟩
              · simp at h
              · rfl
    | succ k ih =>
      intro hk
      rw [foldl_take_succ _ _ _ _ (by omega), ih (by omega)]
      rfl
  have := key v.length (Nat.le_refl _)
  rwa [List.take_length] at this
theorem maxOf_hiV {v : List Int} (h : 0 < v.length) : Lib.maxOf v = hiV v := by
  have key : ∀ k, k ≤ v.length → (v.take k).foldl max (v.headD 0) = maxTo v k := by
    intro k
    induction k with
    | zero => intro _; rcases v with _ | ⟨x, v⟩
              · simp at h
              · rfl
    | succ k ih =>
      intro hk
      rw [foldl_take_succ _ _ _ _ (by omega), ih (by omega)]
      rfl
  have := key v.length (Nat.le_refl _)
  rwa [List.take_length] at this
theorem minTo_le {v : List Int} : ∀ k, k ≤ v.length → ∀ j, j < k → minTo v k ≤ v[j]!
  | 0, _, j, hj => by omega
  | k + 1, hk, j, hj => by
    unfold minTo
    rcases Nat.lt_succ_iff_lt_or_eq.1 hj with g | rfl
    · have := minTo_le (v := v) k (by omega) j g; omega
    · omega
theorem maxTo_ge {v : List Int} : ∀ k, k ≤ v.length → ∀ j, j < k → v[j]! ≤ maxTo v k
  | 0, _, j, hj => by omega
  | k + 1, hk, j, hj => by
    unfold maxTo
    rcases Nat.lt_succ_iff_lt_or_eq.1 hj with g | rfl
    · have := maxTo_ge (v := v) k (by omega) j g; omega
    · omega
theorem minTo_att {v : List Int} (h : 0 < v.length) : ∀ k, k ≤ v.length → ∃ j, j < v.length ∧ minTo v k = v[j]!
  | 0, _ => ⟨0, h, rfl⟩
  | k + 1, hk => by
    obtain ⟨j, h1, h2⟩ := minTo_att h k (by omega)
    unfold minTo
    rcases Int.le_total (minTo v k) v[k]! with g | g
    · exact ⟨j, h1, by omega⟩
    · exact ⟨k, by omega, by omega⟩
theorem maxTo_att {v : List Int} (h : 0 < v.length) : ∀ k, k ≤ v.length → ∃ j, j < v.length ∧ maxTo v k = v[j]!
  | 0, _ => ⟨0, h, rfl⟩
  | k + 1, hk => by
    obtain ⟨j, h1, h2⟩ := maxTo_att h k (by omega)
    unfold maxTo
    rcases Int.le_total (maxTo v k) v[k]! with g | g
    · exact ⟨k, by omega, by omega⟩
    · exact ⟨j, h1, by omega⟩
theorem chkH_pos {t : Ht} (h : chkH t = 0) : 0 < t.v.length := by
  obtain ⟨_, h1, h2, h3, h4, _, _, _, h5, _⟩ := chkH_zero h
  have := grid_mul2 h1 h2 h3 h4
  omega
/-- what Extent returns -/
def extA (t : Ht) : Int := if chkH t = 0 then loV t.v else 0
def extB (t : Ht) : Int := if chkH t = 0 then hiV t.v else 0
theorem getD_get {v : List Int} {j : Nat} (hj : j < v.length) : v.getD j 0 = v[j]! := by rw [getElem!_pos v j hj]; simp [List.getD, hj]
theorem RdI.all {w : World} {A : Option Addr} {xs : List Int} (h : RdI w A xs) (h0 : 0 < xs.length) : ∃ b off, A = some ⟨b, off, none⟩ ∧ b < w.heap.size ∧ ∀ w', Below w.heap.size w w' → ∀ j, j < xs.length → w'.cell? ⟨b, off + j, none⟩ = some (.int .i64 xs[j]!) := by
  rcases h with rfl | ⟨b, off, rfl, hb0, hc⟩
  · simp at h0
  · refine ⟨b, off, rfl, hb0, fun w' hb j hj => ?_⟩
    have := hc j hj 0 (.int .i64 xs[j]!) rfl
    rw [Nat.mul_one, Nat.add_zero] at this
    exact (hb.cell (p := ⟨b, off + j, none⟩) hb0).trans this

set_option maxRecDepth 100000 in
set_option maxHeartbeats 4000000 in
theorem ter_extent (t : Ht) (w : World) (hmax : t.v.length ≤ 1000000000000) (hR : RdI w t.a t.v) : Calls Try.prog 34 #[aggH t] w (RetV w (.tuple #[.int .i64 (extA t), .int .i64 (extB t), .int .i64 (chkH t)])) := by
  have hb0 : Below w.heap.size w (w.alloc (.cells (celH t) 26)) := bw1 _ _
  have cC := Lib.hid (ter_check t (w.alloc (.cells (celH t) 26)) hmax (hR.below hb0))
  have HW := Lib.hid fun (W : World) (hW : Below (w.alloc (.cells (celH t) 26)).heap.size (w.alloc (.cells (celH t) 26)) W) => (RowH.new w t).below hW
  have HB0 := Lib.hid hb0
  by_cases h0 : chkH t = 0
  · have HA := Lib.hid (show extA t = loV t.v from if_pos h0)
    have HB := Lib.hid (show extB t = hiV t.v from if_pos h0)
    rw [HA.out, HB.out]
    have hp := chkH_pos h0
    have HL := Lib.hid (minOf_loV hp)
    have HH := Lib.hid (maxOf_hiV hp)
    rw [h0] at cC ⊢
    obtain ⟨b, off, hA, hbb, hcc⟩ := RdI.all hR hp
    have cMin := Lib.hid fun (W : World) (hW : Below w.heap.size w W) => Try.slices_Min_int b off t.v.length t.c t.v W hp (Nat.le_refl _) (by omega) (fun j hj => by rw [getD_get hj]; exact hcc W hW j hj)
    have cMax := Lib.hid fun (W : World) (hW : Below w.heap.size w W) => Try.slices_Max_int b off t.v.length t.c t.v W hp (Nat.le_refl _) (by omega) (fun j hj => by rw [getD_get hj]; exact hcc W hW j hj)
    rw [List.take_length, HL.out] at cMin
    rw [List.take_length, HH.out] at cMax
    clear hcc hR HL HH HA HB h0 hb0
    generalize loV t.v = lo at *
    generalize hiV t.v = hi at *
    obtain ⟨x, y, tw, th, st, A, c, v⟩ := t
    dsimp only at *
    subst hA
    unfold aggH celH at *
    dsimp only at *
    obtain ⟨d0, d1, d2, d3, d4, d5⟩ := (HW.out _ (Below.refl _ _)).cells
    dsimp only at d0 d1 d2 d3 d4 d5
    go_enter Try.func34, Try.ntmps34
    go_upto_region 1 with fail
    generalize (w.alloc (.cells #[.int .i64 x, .int .i64 y, .int .i64 tw, .int .i64 th, .int .i64 st, .slice (some ⟨b, off, none⟩) v.length c] 26)) = w0 at *
    go_wp2_with fail
    refine cC.out.mono ?_
    rintro e w1 ⟨rfl, k⟩
    clear d0 d1 d2 d3 d4 d5
    obtain ⟨d0, d1, d2, d3, d4, d5⟩ := (HW.out _ k).cells
    dsimp only at d0 d1 d2 d3 d4 d5
    have kz := HB0.out.trans (k.mono HB0.out.size)
    go_upto_region 4 with fail
    go_quiet (first | (go_at_call 59; exact Calls.quiet_of_same (cMin.out _ (below_drewN kz _))) | (go_at_call 60; exact Calls.quiet_of_same (cMax.out _ (below_drewN kz _))))
    have HK := Lib.hid (below_drewN kz nq)
    clear k kz d0 d1 d2 d3 d4 d5
    go_wp2
    refine bodyPost_ret (v := .tuple #[.int .i64 lo, .int .i64 hi, .int .i64 0]) (by simp [results, Try.results34, go_sem]) rfl ?_
    exact ⟨rfl, HK.out⟩
  · have HA := Lib.hid (show extA t = 0 from if_neg h0)
    have HB := Lib.hid (show extB t = 0 from if_neg h0)
    rw [HA.out, HB.out]
    have hz : (chkH t != 0) = true := by simp [h0]
    clear HA HB h0 hR hb0
    generalize chkH t = r at *
    obtain ⟨x, y, tw, th, st, A, c, v⟩ := t
    unfold aggH celH at *
    dsimp only at *
    obtain ⟨d0, d1, d2, d3, d4, d5⟩ := (HW.out _ (Below.refl _ _)).cells
    dsimp only at d0 d1 d2 d3 d4 d5
    go_enter Try.func34, Try.ntmps34
    go_upto_region 1 with fail
    generalize (w.alloc (.cells #[.int .i64 x, .int .i64 y, .int .i64 tw, .int .i64 th, .int .i64 st, .slice A v.length c] 26)) = w0 at *
    go_wp2_with fail
    refine cC.out.mono ?_
    rintro e w1 ⟨rfl, k⟩
    clear d0 d1 d2 d3 d4 d5
    have HK := Lib.hid (HB0.out.trans (k.mono HB0.out.size))
    clear k
    go_wp2
    refine bodyPost_ret (v := .tuple #[.int .i64 0, .int .i64 0, .int .i64 r]) (by simp [results, Try.results34, go_sem]) rfl ?_
    exact ⟨rfl, HK.out⟩

set_option maxRecDepth 100000 in
set_option maxHeartbeats 4000000 in
theorem ref_extent (t : Ht) (w : World) (hmax : t.v.length ≤ 1000000000000) (hR : RdI w t.a t.v) : Calls Try.prog 17 #[aggH t] w (RetV w (.tuple #[.int .i64 (extA t), .int .i64 (extB t), .int .i64 (chkH t)])) := by
  have hb0 : Below w.heap.size w (w.alloc (.cells (celH t) 26)) := bw1 _ _
  have cC := Lib.hid (ref_checkH t (w.alloc (.cells (celH t) 26)) hmax (hR.below hb0))
  have HW := Lib.hid fun (W : World) (hW : Below (w.alloc (.cells (celH t) 26)).heap.size (w.alloc (.cells (celH t) 26)) W) => (RowH.new w t).below hW
  have HB0 := Lib.hid hb0
  by_cases h0 : chkH t = 0
  · have HA := Lib.hid (show extA t = loV t.v from if_pos h0)
    have HB := Lib.hid (show extB t = hiV t.v from if_pos h0)
    rw [HA.out, HB.out]
    have hp := chkH_pos h0
    rw [h0] at cC ⊢
    obtain ⟨b, off, hA, hbb, hcc⟩ := RdI.all hR hp
    have HCC := Lib.hid hcc
    have HA0 := Lib.hid (show minTo t.v 0 = t.v[0]! from rfl)
    have HB1 := Lib.hid (show maxTo t.v 0 = t.v[0]! from rfl)
    have HAS := Lib.hid (show ∀ k, minTo t.v (k + 1) = min (minTo t.v k) t.v[k]! from fun _ => rfl)
    have HBS := Lib.hid (show ∀ k, maxTo t.v (k + 1) = max (maxTo t.v k) t.v[k]! from fun _ => rfl)
    have HAE := Lib.hid (show loV t.v = minTo t.v t.v.length from rfl)
    have HBE := Lib.hid (show hiV t.v = maxTo t.v t.v.length from rfl)
    clear hcc hR HA HB h0 hb0
    obtain ⟨x, y, tw, th, st, A, c, v⟩ := t
    dsimp only at *
    subst hA
    unfold aggH celH at *
    dsimp only at *
    obtain ⟨d0, d1, d2, d3, d4, d5⟩ := (HW.out _ (Below.refl _ _)).cells
    dsimp only at d0 d1 d2 d3 d4 d5
    go_enter Try.func17, Try.ntmps17
    go_upto_region 1 with fail
    generalize (w.alloc (.cells #[.int .i64 x, .int .i64 y, .int .i64 tw, .int .i64 th, .int .i64 st, .slice (some ⟨b, off, none⟩) v.length c] 26)) = w0 at *
    go_wp2_with fail
    refine cC.out.mono ?_
    rintro e w1 ⟨rfl, k⟩
    clear d0 d1 d2 d3 d4 d5
    obtain ⟨d0, d1, d2, d3, d4, d5⟩ := (HW.out _ k).cells
    dsimp only at d0 d1 d2 d3 d4 d5
    have kz := HB0.out.trans (k.mono HB0.out.size)
    have g0 := HCC.out _ kz 0 hp
    rw [Nat.add_zero] at g0
    obtain ⟨z0, hz0⟩ : ∃ z, v[0]! = z := ⟨_, rfl⟩
    rw [hz0] at g0 HA0 HB1
    clear hz0
    go_upto_region 4 with fail
    go_quiet (fail)
    have k1 := below_drewN k nq
    generalize w1.drewN nq = w2 at *
    clear d0 d1 d2 d3 d4 d5 g0 k kz
    go_wp2_with fail
    go_loopw [6, 7, 8] (fun a b i wr => ∃ q : Nat, q ≤ v.length ∧ i = .int .i64 q ∧ a = .int .i64 (minTo v q) ∧ b = .int .i64 (maxTo v q) ∧ Below w0.heap.size w0 wr) (fun _ _ i _ => v.length - (intOf i).toNat)
    case atStart => exact ⟨0, by omega, rfl, by rw [HA0.out], by rw [HB1.out], k1⟩
    case round =>
      obtain ⟨q, hq, rfl, rfl, rfl, k⟩ := hrel
      obtain ⟨d0, d1, d2, d3, d4, d5⟩ := (HW.out _ k).cells
      dsimp only at d0 d1 d2 d3 d4 d5
      have kz := HB0.out.trans (k.mono HB0.out.size)
      by_cases hlt : q < v.length
      · have g1 := HCC.out _ kz q hlt
        have HX := Lib.hid (HAS.out q)
        have HY := Lib.hid (HBS.out q)
        obtain ⟨z, hz⟩ : ∃ z, v[q]! = z := ⟨_, rfl⟩
        rw [hz] at g1 HX HY
        clear hz kz
        generalize minTo v q = a at *
        generalize maxTo v q = b' at *
        go_upto_region 8 with fail
        go_quiet (fail)
        have HK := Lib.hid (below_drewN k nq)
        clear k d0 d1 d2 d3 d4 d5 g1
        go_wp2
        go_roundw
        case rel => exact ⟨q + 1, by omega, by go_num, by rw [HX.out], by rw [HY.out], HK.out⟩
        case measure => simp [intOf]; omega
      · obtain rfl : q = v.length := by omega
        have HK := Lib.hid kz
        clear k kz hq
        generalize minTo v v.length = a at *
        generalize maxTo v v.length = b' at *
        go_wp2
        refine bodyPost_ret (v := .tuple #[.int .i64 a, .int .i64 b', .int .i64 0]) (by simp [results, Try.results17, go_sem]) rfl ?_
        exact ⟨by rw [HAE.out, HBE.out], HK.out⟩
  · have HA := Lib.hid (show extA t = 0 from if_neg h0)
    have HB := Lib.hid (show extB t = 0 from if_neg h0)
    rw [HA.out, HB.out]
    have hz : (chkH t != 0) = true := by simp [h0]
    clear HA HB h0 hR hb0
    generalize chkH t = r at *
    obtain ⟨x, y, tw, th, st, A, c, v⟩ := t
    unfold aggH celH at *
    dsimp only at *
    obtain ⟨d0, d1, d2, d3, d4, d5⟩ := (HW.out _ (Below.refl _ _)).cells
    dsimp only at d0 d1 d2 d3 d4 d5
    go_enter Try.func17, Try.ntmps17
    go_upto_region 1 with fail
    generalize (w.alloc (.cells #[.int .i64 x, .int .i64 y, .int .i64 tw, .int .i64 th, .int .i64 st, .slice A v.length c] 26)) = w0 at *
    go_wp2_with fail
    refine cC.out.mono ?_
    rintro e w1 ⟨rfl, k⟩
    clear d0 d1 d2 d3 d4 d5
    have HK := Lib.hid (HB0.out.trans (k.mono HB0.out.size))
    clear k
    go_wp2
    refine bodyPost_ret (v := .tuple #[.int .i64 0, .int .i64 0, .int .i64 r]) (by simp [results, Try.results17, go_sem]) rfl ?_
    exact ⟨rfl, HK.out⟩
end Go.Proofs
