/- Floor and Ceil of num. -/
import Derived.Test.YtafaojmkbbhjmaaN2
set_option linter.unusedVariables false
set_option linter.unusedSimpArgs false
namespace Go.Proofs
open Go.RowKit Go.Proofs.Mp

set_option maxRecDepth 100000 in
theorem check_any (a b : Int) (w : World) (h1 : -4611686018427387904 ≤ a) (hb : b ≠ 0) : Calls Try.prog 57 #[.int .i64 a, .int .i64 b] w (RetV w (.int .i64 0)) := by
  have d1 : (b == 0) = false := by simp [hb]
  have d2 : (a == -9223372036854775808) = false := by rw [beq_eq_false_iff_ne]; omega
  go_enter Try.func57, Try.ntmps57
  go_wp2
  go_ret
  exact RetV.int rfl (Below.refl _ _)

/-- Go's quotient and remainder, and the quotients rounded down and up -/
theorem go_div (a b : Int) (hb : b ≠ 0) : (a.tmod b = 0 ∧ flo a b = a.tdiv b ∧ cei a b = a.tdiv b) ∨
    (a.tmod b ≠ 0 ∧ (a.tmod b < 0 ↔ b < 0) ∧ flo a b = a.tdiv b ∧ cei a b = a.tdiv b + 1) ∨ (a.tmod b ≠ 0 ∧ ¬ (a.tmod b < 0 ↔ b < 0) ∧ flo a b = a.tdiv b - 1 ∧ cei a b = a.tdiv b) := by
  have hF := floR a b hb
  have hC := ceiR a b hb
  have key : a.tdiv b = (if minusB a b = true then -(absI a / absI b) else absI a / absI b) ∧ a.tmod b = (if a < 0 then -(absI a % absI b) else absI a % absI b) := by
    unfold minusB
    simp only [decide_eq_true_eq]
    rcases Int.lt_or_gt_of_ne hb with h | h
    · have hB : absI b = -b := by unfold absI; rw [if_pos h]
      rw [hB]
      have e1 : a.tdiv b = -(a.tdiv (-b)) := by rw [Int.tdiv_neg]; omega
      have e2 : a.tmod b = a.tmod (-b) := by rw [Int.tmod_neg]
      rw [e1, e2]
      rcases Int.lt_or_le a 0 with g | g
      · have e3 : a.tdiv (-b) = -((-a).tdiv (-b)) := by rw [Int.neg_tdiv]; omega
        have e4 : a.tmod (-b) = -((-a).tmod (-b)) := by rw [Int.neg_tmod]; omega
        rw [e3, e4, Int.tdiv_eq_ediv_of_nonneg (by omega), Int.tmod_eq_emod_of_nonneg (by omega), if_neg (by omega), if_pos g, show absI a = -a by unfold absI; rw [if_pos g]]
        exact ⟨by omega, rfl⟩
      · rw [Int.tdiv_eq_ediv_of_nonneg g, Int.tmod_eq_emod_of_nonneg g, if_neg (show ¬ a < 0 by omega), show absI a = a by unfold absI; rw [if_neg (by omega)]]
        refine ⟨?_, rfl⟩
        split
        · rfl
        · have : a = 0 := by omega
          subst this
          simp
    · have hB : absI b = b := by unfold absI; rw [if_neg (by omega)]
      rw [hB]
      rcases Int.lt_or_le a 0 with g | g
      · have e3 : a.tdiv b = -((-a).tdiv b) := by rw [Int.neg_tdiv]; omega
        have e4 : a.tmod b = -((-a).tmod b) := by rw [Int.neg_tmod]; omega
        rw [e3, e4, Int.tdiv_eq_ediv_of_nonneg (by omega), Int.tmod_eq_emod_of_nonneg (by omega), if_pos (by omega), if_pos g, show absI a = -a by unfold absI; rw [if_pos g]]
        exact ⟨rfl, rfl⟩
      · rw [Int.tdiv_eq_ediv_of_nonneg g, Int.tmod_eq_emod_of_nonneg g, if_neg (by omega), if_neg (by omega), show absI a = a by unfold absI; rw [if_neg (by omega)]]
        exact ⟨rfl, rfl⟩
  have hB1 : 1 ≤ absI b := by unfold absI; split <;> omega
  have hr := Int.emod_nonneg (absI a) (show absI b ≠ 0 by omega)
  have hA : a = 0 → absI a % absI b = 0 := by intro h; subst h; simp [absI]
  have HM : minusB a b = true ↔ (a < 0 ∧ 0 < b) ∨ (0 < a ∧ b < 0) := by unfold minusB; rw [decide_eq_true_eq]
  obtain ⟨k1, k2⟩ := key
  rw [k1, k2, hF, hC]
  clear k1 k2 hF hC
  generalize absI a / absI b = q at *
  generalize absI a % absI b = r at *
  clear hB1
  by_cases hm : minusB a b = true
  · have hm' := HM.1 hm
    simp only [if_pos hm]
    by_cases hr0 : r = 0
    · subst hr0
      left
      simp
    · have : 0 < r := by omega
      simp only [if_pos this]
      right; right
      refine ⟨?_, ?_, by first | trivial | omega, by first | trivial | omega⟩
      · split <;> omega
      · split <;> omega
  · have hm' : ¬ ((a < 0 ∧ 0 < b) ∨ (0 < a ∧ b < 0)) := fun h => hm (HM.2 h)
    simp only [if_neg hm]
    by_cases hr0 : r = 0
    · subst hr0
      left
      simp
    · have h0 : 0 < r := by omega
      have ha : a ≠ 0 := fun h => hr0 (hA h)
      simp only [if_pos h0]
      right; left
      refine ⟨?_, ?_, by first | trivial | omega, by first | trivial | omega⟩
      · split <;> omega
      · split <;> omega
theorem quo_bound (a b : Int) (hb : b ≠ 0) (h1 : -4611686018427387904 ≤ a) (h2 : a ≤ 4611686018427387904) : -4611686018427387904 ≤ a.tdiv b ∧ a.tdiv b ≤ 4611686018427387904 := by
  have := Int.natAbs_tdiv_le_natAbs a b
  omega

set_option maxRecDepth 100000 in
set_option maxHeartbeats 1000000 in
theorem num_floor (a b : Int) (w : World) (h1 : -4611686018427387904 ≤ a) (h2 : a ≤ 4611686018427387904) (hb : b ≠ 0) :
    Calls Try.prog 47 #[.int .i64 a, .int .i64 b] w (RetV w (.tuple #[.int .i64 (flo a b), .int .i64 0])) := by
  have cC := Lib.hid fun W => check_any a b W h1 hb
  have hg := go_div a b hb
  have hqb := quo_bound a b hb h1 h2
  have hb0 : ¬ b = 0 := hb
  have hbb : (b == 0) = false := by simp [hb]
  have hw : IntKind.i64.wrap (a.tdiv b) = a.tdiv b := IntWalk.i64_in _ (by omega)
  obtain ⟨q, hq⟩ : ∃ q, a.tdiv b = q := ⟨_, rfl⟩
  obtain ⟨r, hr⟩ : ∃ r, a.tmod b = r := ⟨_, rfl⟩
  rw [hq] at hw hg hqb
  rw [hr] at hg
  generalize flo a b = f at *
  generalize cei a b = c at *
  have HB := Lib.hid hb
  clear hb
  rcases hg with ⟨e1, e2, e3⟩ | ⟨e1, e4, e2, e3⟩ | ⟨e1, e4, e2, e3⟩
  · have d1 : (r != 0) = false := by simp [e1]
    clear e1
    have HV := Lib.hid (show f = q from e2)
    clear e2 e3
    go_enter Try.func47, Try.ntmps47
    go_wp2_with fail
    refine (cC.out _).mono ?_
    rintro e w1 ⟨rfl, hb1⟩
    go_wp2
    refine bodyPost_ret (v := .tuple #[.int .i64 (q), .int .i64 0]) (by simp [results, Try.results47, go_sem]) rfl ?_
    exact ⟨by rw [HV.out], hb1⟩
  · have d1 : (r != 0) = true := by simp [e1]
    by_cases g : b < 0
    · have d2 : decide (b < 0) = true := decide_eq_true g
      have d3 : decide (r < 0) = true := decide_eq_true (by omega)
      clear e1 e4 g
      have HV := Lib.hid (show f = q from e2)
      clear e2 e3
      go_enter Try.func47, Try.ntmps47
      go_wp2_with fail
      refine (cC.out _).mono ?_
      rintro e w1 ⟨rfl, hb1⟩
      go_wp2
      refine bodyPost_ret (v := .tuple #[.int .i64 (q), .int .i64 0]) (by simp [results, Try.results47, go_sem]) rfl ?_
      exact ⟨by rw [HV.out], hb1⟩
    · have d2 : decide (b < 0) = false := decide_eq_false g
      have d3 : decide (r < 0) = false := decide_eq_false (by omega)
      clear e1 e4 g
      have HV := Lib.hid (show f = q from e2)
      clear e2 e3
      go_enter Try.func47, Try.ntmps47
      go_wp2_with fail
      refine (cC.out _).mono ?_
      rintro e w1 ⟨rfl, hb1⟩
      go_wp2
      refine bodyPost_ret (v := .tuple #[.int .i64 (q), .int .i64 0]) (by simp [results, Try.results47, go_sem]) rfl ?_
      exact ⟨by rw [HV.out], hb1⟩
  · have d1 : (r != 0) = true := by simp [e1]
    by_cases g : b < 0
    · have d2 : decide (b < 0) = true := decide_eq_true g
      have d3 : decide (r < 0) = false := decide_eq_false (by omega)
      clear e1 e4 g
      have HV := Lib.hid (show f = q - 1 from e2)
      clear e2 e3
      go_enter Try.func47, Try.ntmps47
      go_wp2_with fail
      refine (cC.out _).mono ?_
      rintro e w1 ⟨rfl, hb1⟩
      go_wp2
      refine bodyPost_ret (v := .tuple #[.int .i64 (q - 1), .int .i64 0]) (by simp [results, Try.results47, go_sem]) rfl ?_
      exact ⟨by rw [HV.out], hb1⟩
    · have d2 : decide (b < 0) = false := decide_eq_false g
      have d3 : decide (r < 0) = true := decide_eq_true (by omega)
      clear e1 e4 g
      have HV := Lib.hid (show f = q - 1 from e2)
      clear e2 e3
      go_enter Try.func47, Try.ntmps47
      go_wp2_with fail
      refine (cC.out _).mono ?_
      rintro e w1 ⟨rfl, hb1⟩
      go_wp2
      refine bodyPost_ret (v := .tuple #[.int .i64 (q - 1), .int .i64 0]) (by simp [results, Try.results47, go_sem]) rfl ?_
      exact ⟨by rw [HV.out], hb1⟩

set_option maxRecDepth 100000 in
set_option maxHeartbeats 1000000 in
theorem num_ceil (a b : Int) (w : World) (h1 : -4611686018427387904 ≤ a) (h2 : a ≤ 4611686018427387904) (hb : b ≠ 0) :
    Calls Try.prog 49 #[.int .i64 a, .int .i64 b] w (RetV w (.tuple #[.int .i64 (cei a b), .int .i64 0])) := by
  have cC := Lib.hid fun W => check_any a b W h1 hb
  have hg := go_div a b hb
  have hqb := quo_bound a b hb h1 h2
  have hb0 : ¬ b = 0 := hb
  have hbb : (b == 0) = false := by simp [hb]
  have hw : IntKind.i64.wrap (a.tdiv b) = a.tdiv b := IntWalk.i64_in _ (by omega)
  obtain ⟨q, hq⟩ : ∃ q, a.tdiv b = q := ⟨_, rfl⟩
  obtain ⟨r, hr⟩ : ∃ r, a.tmod b = r := ⟨_, rfl⟩
  rw [hq] at hw hg hqb
  rw [hr] at hg
  generalize flo a b = f at *
  generalize cei a b = c at *
  have HB := Lib.hid hb
  clear hb
  rcases hg with ⟨e1, e2, e3⟩ | ⟨e1, e4, e2, e3⟩ | ⟨e1, e4, e2, e3⟩
  · have d1 : (r != 0) = false := by simp [e1]
    clear e1
    have HV := Lib.hid (show c = q from e3)
    clear e2 e3
    go_enter Try.func49, Try.ntmps49
    go_wp2_with fail
    refine (cC.out _).mono ?_
    rintro e w1 ⟨rfl, hb1⟩
    go_wp2
    refine bodyPost_ret (v := .tuple #[.int .i64 (q), .int .i64 0]) (by simp [results, Try.results49, go_sem]) rfl ?_
    exact ⟨by rw [HV.out], hb1⟩
  · have d1 : (r != 0) = true := by simp [e1]
    by_cases g : b < 0
    · have d2 : decide (b < 0) = true := decide_eq_true g
      have d3 : decide (r < 0) = true := decide_eq_true (by omega)
      clear e1 e4 g
      have HV := Lib.hid (show c = q + 1 from e3)
      clear e2 e3
      go_enter Try.func49, Try.ntmps49
      go_wp2_with fail
      refine (cC.out _).mono ?_
      rintro e w1 ⟨rfl, hb1⟩
      go_wp2
      refine bodyPost_ret (v := .tuple #[.int .i64 (q + 1), .int .i64 0]) (by simp [results, Try.results49, go_sem]) rfl ?_
      exact ⟨by rw [HV.out], hb1⟩
    · have d2 : decide (b < 0) = false := decide_eq_false g
      have d3 : decide (r < 0) = false := decide_eq_false (by omega)
      clear e1 e4 g
      have HV := Lib.hid (show c = q + 1 from e3)
      clear e2 e3
      go_enter Try.func49, Try.ntmps49
      go_wp2_with fail
      refine (cC.out _).mono ?_
      rintro e w1 ⟨rfl, hb1⟩
      go_wp2
      refine bodyPost_ret (v := .tuple #[.int .i64 (q + 1), .int .i64 0]) (by simp [results, Try.results49, go_sem]) rfl ?_
      exact ⟨by rw [HV.out], hb1⟩
  · have d1 : (r != 0) = true := by simp [e1]
    by_cases g : b < 0
    · have d2 : decide (b < 0) = true := decide_eq_true g
      have d3 : decide (r < 0) = false := decide_eq_false (by omega)
      clear e1 e4 g
      have HV := Lib.hid (show c = q from e3)
      clear e2 e3
      go_enter Try.func49, Try.ntmps49
      go_wp2_with fail
      refine (cC.out _).mono ?_
      rintro e w1 ⟨rfl, hb1⟩
      go_wp2
      refine bodyPost_ret (v := .tuple #[.int .i64 (q), .int .i64 0]) (by simp [results, Try.results49, go_sem]) rfl ?_
      exact ⟨by rw [HV.out], hb1⟩
    · have d2 : decide (b < 0) = false := decide_eq_false g
      have d3 : decide (r < 0) = true := decide_eq_true (by omega)
      clear e1 e4 g
      have HV := Lib.hid (show c = q from e3)
      clear e2 e3
      go_enter Try.func49, Try.ntmps49
      go_wp2_with fail
      refine (cC.out _).mono ?_
      rintro e w1 ⟨rfl, hb1⟩
      go_wp2
      refine bodyPost_ret (v := .tuple #[.int .i64 (q), .int .i64 0]) (by simp [results, Try.results49, go_sem]) rfl ?_
      exact ⟨by rw [HV.out], hb1⟩
end Go.Proofs
