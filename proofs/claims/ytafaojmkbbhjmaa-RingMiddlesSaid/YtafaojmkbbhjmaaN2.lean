/- Floor and Ceil of num, and the reference's. -/
import Derived.Test.YtafaojmkbbhjmaaN1
import Derived.Test.YtafaojmkbbhjmaaG2
import Derived.Deep.CutRange
import Derived.BigQuiet
import Derived.Deep.QuietTactic
set_option linter.unusedVariables false
set_option linter.unusedSimpArgs false
namespace Go.Proofs
open Go.RowKit Go.Proofs.Mp

def minusB (a b : Int) : Bool := decide ((a < 0 ∧ 0 < b) ∨ (0 < a ∧ b < 0))
set_option maxRecDepth 1000 in
set_option maxHeartbeats 200000 in
theorem parts_any (a b : Int) (w : World) (h1 : -4611686018427387904 ≤ a) (h2 : a ≤ 4611686018427387904) (h3 : -4611686018427387904 ≤ b) (h4 : b ≤ 4611686018427387904) (hb : b ≠ 0) :
    Calls Try.prog 54 #[.int .i64 a, .int .i64 b] w (RetV w (.tuple #[.int .u64 (absI a / absI b), .int .u64 (absI a % absI b), .bool (minusB a b)])) := by
  have cA := Lib.hid fun W => size_any a W h1 h2
  have cB := Lib.hid fun W => size_any b W h3 h4
  have ha0 : 0 ≤ absI a ∧ absI a ≤ 4611686018427387904 := by unfold absI; split <;> omega
  have hb0 : 1 ≤ absI b := by unfold absI; split <;> omega
  have HM := Lib.hid (show minusB a b = decide ((a < 0 ∧ 0 < b) ∨ (0 < a ∧ b < 0)) from rfl)
  generalize minusB a b = z at *
  generalize absI a = A at *
  generalize absI b = B at *
  have hq : IntKind.u64.wrap (A.tdiv B) = A / B := IntWalk.u64_quo A B (by omega)
  have hq' : A.tdiv B = A / B := Int.tdiv_eq_ediv_of_nonneg ha0.1
  have hr : A.tmod B = A % B := Int.tmod_eq_emod_of_nonneg ha0.1
  have hnz : ¬ B = 0 := by omega
  have hnz' : (B == 0) = false := by simp [hnz]
  obtain ⟨q, hqq⟩ : ∃ q, A / B = q := ⟨_, rfl⟩
  obtain ⟨r, hrr⟩ : ∃ r, A % B = r := ⟨_, rfl⟩
  rw [hqq] at hq hq' ⊢
  rw [hrr] at hr ⊢
  have hqb : 0 ≤ q ∧ q ≤ 4611686018427387904 := by rw [← hqq]; have := IntWalk.tdiv_le A B ha0.1 hb0; omega
  clear hqq hrr h1 h2 h3 h4
  by_cases c1 : a < 0
  · have d1 : decide (a < 0) = true := decide_eq_true c1
    by_cases c2 : 0 < b
    · have d2 : decide (0 < b) = true := decide_eq_true c2
      have HZ := Lib.hid (show z = true by rw [HM.out]; exact decide_eq_true (by omega))
      clear HM c1 c2 hb
      go_enter Try.func54, Try.ntmps54
      go_upto_region 1 with fail
      go_quiet (first | (go_at_call_of 65 (Value.int IntKind.i64 a); exact Calls.quiet_of_same (cA.out _)) | (go_at_call_of 65 (Value.int IntKind.i64 b); exact Calls.quiet_of_same (cB.out _)))
      go_wp2
      refine bodyPost_ret (v := .tuple #[.int .u64 q, .int .u64 r, .bool true]) (by simp [results, Try.results54, go_sem]) rfl ?_
      exact ⟨by rw [HZ.out], below_drewN (Below.refl _ _) _⟩
    · have d2 : decide (0 < b) = false := decide_eq_false c2
      have d3 : decide (0 < a) = false := decide_eq_false (by omega)
      have HZ := Lib.hid (show z = false by rw [HM.out]; exact decide_eq_false (by omega))
      clear HM c1 c2 hb
      go_enter Try.func54, Try.ntmps54
      go_upto_region 1 with fail
      go_quiet (first | (go_at_call_of 65 (Value.int IntKind.i64 a); exact Calls.quiet_of_same (cA.out _)) | (go_at_call_of 65 (Value.int IntKind.i64 b); exact Calls.quiet_of_same (cB.out _)))
      go_wp2
      refine bodyPost_ret (v := .tuple #[.int .u64 q, .int .u64 r, .bool false]) (by simp [results, Try.results54, go_sem]) rfl ?_
      exact ⟨by rw [HZ.out], below_drewN (Below.refl _ _) _⟩
  · have d1 : decide (a < 0) = false := decide_eq_false c1
    by_cases c2 : 0 < a
    · have d2 : decide (0 < a) = true := decide_eq_true c2
      by_cases c3 : b < 0
      · have d3 : decide (b < 0) = true := decide_eq_true c3
        have HZ := Lib.hid (show z = true by rw [HM.out]; exact decide_eq_true (by omega))
        clear HM c1 c2 c3 hb
        go_enter Try.func54, Try.ntmps54
        go_upto_region 1 with fail
        go_quiet (first | (go_at_call_of 65 (Value.int IntKind.i64 a); exact Calls.quiet_of_same (cA.out _)) | (go_at_call_of 65 (Value.int IntKind.i64 b); exact Calls.quiet_of_same (cB.out _)))
        go_wp2
        refine bodyPost_ret (v := .tuple #[.int .u64 q, .int .u64 r, .bool true]) (by simp [results, Try.results54, go_sem]) rfl ?_
        exact ⟨by rw [HZ.out], below_drewN (Below.refl _ _) _⟩
      · have d3 : decide (b < 0) = false := decide_eq_false c3
        have HZ := Lib.hid (show z = false by rw [HM.out]; exact decide_eq_false (by omega))
        clear HM c1 c2 c3 hb
        go_enter Try.func54, Try.ntmps54
        go_upto_region 1 with fail
        go_quiet (first | (go_at_call_of 65 (Value.int IntKind.i64 a); exact Calls.quiet_of_same (cA.out _)) | (go_at_call_of 65 (Value.int IntKind.i64 b); exact Calls.quiet_of_same (cB.out _)))
        go_wp2
        refine bodyPost_ret (v := .tuple #[.int .u64 q, .int .u64 r, .bool false]) (by simp [results, Try.results54, go_sem]) rfl ?_
        exact ⟨by rw [HZ.out], below_drewN (Below.refl _ _) _⟩
    · have d2 : decide (0 < a) = false := decide_eq_false c2
      have HZ := Lib.hid (show z = false by rw [HM.out]; exact decide_eq_false (by omega))
      clear HM c1 c2 hb
      go_enter Try.func54, Try.ntmps54
      go_upto_region 1 with fail
      go_quiet (first | (go_at_call_of 65 (Value.int IntKind.i64 a); exact Calls.quiet_of_same (cA.out _)) | (go_at_call_of 65 (Value.int IntKind.i64 b); exact Calls.quiet_of_same (cB.out _)))
      go_wp2
      refine bodyPost_ret (v := .tuple #[.int .u64 q, .int .u64 r, .bool false]) (by simp [results, Try.results54, go_sem]) rfl ?_
      exact ⟨by rw [HZ.out], below_drewN (Below.refl _ _) _⟩

set_option maxRecDepth 100000 in
/-- the integer with an absolute value and a sign -/
theorem signed_any (z : Bool) (m : Int) (w : World) (h1 : 0 ≤ m) (h2 : m ≤ 4611686018427387905) : Calls Try.prog 55 #[.bool z, .int .u64 m] w (RetV w (.tuple #[.int .i64 (if z = true then -m else m), .int .i64 0])) := by
  have e1 : IntKind.u64.wrap (-m) = if m = 0 then 0 else 18446744073709551616 - m := by simp [IntKind.wrap, IntKind.bits, IntKind.signed]; split <;> omega
  have e2 : IntKind.i64.wrap m = m := IntWalk.i64_in _ (by omega)
  have e3 : ∀ y, y = (if m = 0 then 0 else 18446744073709551616 - m) → IntKind.i64.wrap y = -m := by
    intro y hy
    subst hy
    rw [IntKind.wrap_i64]
    split <;> omega
  have d1 : decide (9223372036854775808 < m) = false := decide_eq_false (by omega)
  have d2 : (m == 9223372036854775808) = false := by rw [beq_eq_false_iff_ne]; omega
  cases z
  · go_enter Try.func55, Try.ntmps55
    go_wp2_with fail
    refine bodyPost_ret (v := .tuple #[.int .i64 m, .int .i64 0]) (by simp [results, Try.results55, go_sem, e2]) rfl ?_
    exact ⟨rfl, Below.refl _ _⟩
  · have e4 := e3 _ rfl
    generalize (if m = 0 then (0 : Int) else 18446744073709551616 - m) = y at *
    clear e3
    go_enter Try.func55, Try.ntmps55
    go_wp2_with fail
    refine bodyPost_ret (v := .tuple #[.int .i64 (-m), .int .i64 0]) (by simp [results, Try.results55, go_sem, e1, e4]) rfl ?_
    exact ⟨rfl, Below.refl _ _⟩

theorem floR (a b : Int) (hb : b ≠ 0) : flo a b = if minusB a b = true then -(absI a / absI b + (if 0 < absI a % absI b then 1 else 0)) else absI a / absI b := by
  unfold minusB
  simp only [decide_eq_true_eq]
  rcases Int.lt_or_gt_of_ne hb with h | h
  · rw [← flo_neg a b hb]
    have hB : absI b = -b := by unfold absI; rw [if_pos h]
    rw [hB]
    rcases Int.lt_or_le 0 a with g | g
    · rw [if_pos (by omega), show absI a = a by unfold absI; rw [if_neg (by omega)]]
      have := (parts_neg (a := -a) (b := -b) (by omega) (by omega)).2
      rw [Int.neg_neg] at this
      rw [this]
      split <;> omega
    · rw [if_neg (by omega), show absI a = -a by unfold absI; split <;> omega]
      exact (parts_pos (by omega) (by omega)).1
  · have hB : absI b = b := by unfold absI; rw [if_neg (by omega)]
    rw [hB]
    rcases Int.lt_or_le a 0 with g | g
    · rw [if_pos (by omega), show absI a = -a by unfold absI; rw [if_pos g]]
      rw [(parts_neg (by omega) h).2]
      split <;> omega
    · rw [if_neg (by omega), show absI a = a by unfold absI; rw [if_neg (by omega)]]
      exact (parts_pos g h).1
theorem ceiR (a b : Int) (hb : b ≠ 0) : cei a b = if minusB a b = true then -(absI a / absI b) else absI a / absI b + (if 0 < absI a % absI b then 1 else 0) := by
  unfold minusB
  simp only [decide_eq_true_eq]
  rcases Int.lt_or_gt_of_ne hb with h | h
  · rw [← cei_neg a b hb]
    have hB : absI b = -b := by unfold absI; rw [if_pos h]
    rw [hB]
    rcases Int.lt_or_le 0 a with g | g
    · rw [if_pos (by omega), show absI a = a by unfold absI; rw [if_neg (by omega)]]
      have := (parts_neg (a := -a) (b := -b) (by omega) (by omega)).1
      rw [Int.neg_neg] at this
      rw [this]
    · rw [if_neg (by omega), show absI a = -a by unfold absI; split <;> omega]
      rw [(parts_pos (by omega) (by omega)).2]
      split <;> omega
  · have hB : absI b = b := by unfold absI; rw [if_neg (by omega)]
    rw [hB]
    rcases Int.lt_or_le a 0 with g | g
    · rw [if_pos (by omega), show absI a = -a by unfold absI; rw [if_pos g]]
      exact (parts_neg (by omega) h).1
    · rw [if_neg (by omega), show absI a = a by unfold absI; rw [if_neg (by omega)]]
      rw [(parts_pos g h).2]
      split <;> omega

set_option maxRecDepth 100000 in
set_option maxHeartbeats 1000000 in
theorem ref_floor (a b : Int) (w : World) (h1 : -4611686018427387904 ≤ a) (h2 : a ≤ 4611686018427387904) (h3 : -4611686018427387904 ≤ b) (h4 : b ≤ 4611686018427387904) (hb : b ≠ 0) :
    Calls Try.prog 38 #[.int .i64 a, .int .i64 b] w (RetV w (.tuple #[.int .i64 (flo a b), .int .i64 0])) := by
  have cP := Lib.hid fun W => parts_any a b W h1 h2 h3 h4 hb
  have hF := floR a b hb
  have hb0 : (b == 0) = false := by simp [hb]
  have ha0 : 0 ≤ absI a ∧ absI a ≤ 4611686018427387904 := by unfold absI; split <;> omega
  have hB0 : 1 ≤ absI b := by unfold absI; split <;> omega
  have hq := IntWalk.tdiv_le (absI a) (absI b) ha0.1 hB0
  generalize absI a / absI b = q at *
  generalize absI a % absI b = r at *
  generalize minusB a b = z at *
  generalize flo a b = F at *
  have cS := Lib.hid fun z m W (h : 0 ≤ m) (h' : m ≤ 4611686018427387905) => signed_any z m W h h'
  have hqb : 0 ≤ q ∧ q ≤ 4611686018427387904 := by omega
  clear h1 h2 h3 h4 hb ha0 hB0 hq
  have HF := Lib.hid hF
  clear hF
  by_cases hr : 0 < r
  · have hd : decide (0 < r) = true := decide_eq_true hr
    have HR := Lib.hid hr
    clear hr
    cases z
    · have HF2 := Lib.hid (show F = q by rw [HF.out]; have := HR.out; simp <;> omega)
      clear HF
      go_enter Try.func38, Try.ntmps38
      go_wp2_with fail
      refine (cP.out _).mono ?_
      rintro e w1 ⟨rfl, hb1⟩
      go_wp2_with fail
      refine (cS.out _ _ _ (by omega) (by omega)).mono ?_
      rintro e w2 ⟨rfl, hb2⟩
      go_wp2
      refine bodyPost_ret (v := .tuple #[.int .i64 (q), .int .i64 0]) (by simp [results, Try.results38, go_sem]) rfl ?_
      exact ⟨by rw [HF2.out], below_step hb1 hb2⟩
    · have HF2 := Lib.hid (show F = -(q + 1) by rw [HF.out]; have := HR.out; simp <;> omega)
      clear HF
      go_enter Try.func38, Try.ntmps38
      go_wp2_with fail
      refine (cP.out _).mono ?_
      rintro e w1 ⟨rfl, hb1⟩
      go_wp2_with fail
      refine (cS.out _ _ _ (by omega) (by omega)).mono ?_
      rintro e w2 ⟨rfl, hb2⟩
      go_wp2
      refine bodyPost_ret (v := .tuple #[.int .i64 (-(q + 1)), .int .i64 0]) (by simp [results, Try.results38, go_sem]) rfl ?_
      exact ⟨by rw [HF2.out], below_step hb1 hb2⟩
  · have hd : decide (0 < r) = false := decide_eq_false hr
    have HR := Lib.hid hr
    clear hr
    cases z
    · have HF2 := Lib.hid (show F = q by rw [HF.out]; have := HR.out; simp <;> omega)
      clear HF
      go_enter Try.func38, Try.ntmps38
      go_wp2_with fail
      refine (cP.out _).mono ?_
      rintro e w1 ⟨rfl, hb1⟩
      go_wp2_with fail
      refine (cS.out _ _ _ (by omega) (by omega)).mono ?_
      rintro e w2 ⟨rfl, hb2⟩
      go_wp2
      refine bodyPost_ret (v := .tuple #[.int .i64 (q), .int .i64 0]) (by simp [results, Try.results38, go_sem]) rfl ?_
      exact ⟨by rw [HF2.out], below_step hb1 hb2⟩
    · have HF2 := Lib.hid (show F = -q by rw [HF.out]; have := HR.out; simp <;> omega)
      clear HF
      go_enter Try.func38, Try.ntmps38
      go_wp2_with fail
      refine (cP.out _).mono ?_
      rintro e w1 ⟨rfl, hb1⟩
      go_wp2_with fail
      refine (cS.out _ _ _ (by omega) (by omega)).mono ?_
      rintro e w2 ⟨rfl, hb2⟩
      go_wp2
      refine bodyPost_ret (v := .tuple #[.int .i64 (-q), .int .i64 0]) (by simp [results, Try.results38, go_sem]) rfl ?_
      exact ⟨by rw [HF2.out], below_step hb1 hb2⟩

set_option maxRecDepth 100000 in
set_option maxHeartbeats 1000000 in
theorem ref_ceil (a b : Int) (w : World) (h1 : -4611686018427387904 ≤ a) (h2 : a ≤ 4611686018427387904) (h3 : -4611686018427387904 ≤ b) (h4 : b ≤ 4611686018427387904) (hb : b ≠ 0) :
    Calls Try.prog 64 #[.int .i64 a, .int .i64 b] w (RetV w (.tuple #[.int .i64 (cei a b), .int .i64 0])) := by
  have cP := Lib.hid fun W => parts_any a b W h1 h2 h3 h4 hb
  have hF := ceiR a b hb
  have hb0 : (b == 0) = false := by simp [hb]
  have ha0 : 0 ≤ absI a ∧ absI a ≤ 4611686018427387904 := by unfold absI; split <;> omega
  have hB0 : 1 ≤ absI b := by unfold absI; split <;> omega
  have hq := IntWalk.tdiv_le (absI a) (absI b) ha0.1 hB0
  generalize absI a / absI b = q at *
  generalize absI a % absI b = r at *
  generalize minusB a b = z at *
  generalize cei a b = F at *
  have cS := Lib.hid fun z m W (h : 0 ≤ m) (h' : m ≤ 4611686018427387905) => signed_any z m W h h'
  have hqb : 0 ≤ q ∧ q ≤ 4611686018427387904 := by omega
  clear h1 h2 h3 h4 hb ha0 hB0 hq
  have HF := Lib.hid hF
  clear hF
  by_cases hr : 0 < r
  · have hd : decide (0 < r) = true := decide_eq_true hr
    have HR := Lib.hid hr
    clear hr
    cases z
    · have HF2 := Lib.hid (show F = q + 1 by rw [HF.out]; have := HR.out; simp <;> omega)
      clear HF
      go_enter Try.func64, Try.ntmps64
      go_wp2_with fail
      refine (cP.out _).mono ?_
      rintro e w1 ⟨rfl, hb1⟩
      go_wp2_with fail
      refine (cS.out _ _ _ (by omega) (by omega)).mono ?_
      rintro e w2 ⟨rfl, hb2⟩
      go_wp2
      refine bodyPost_ret (v := .tuple #[.int .i64 (q + 1), .int .i64 0]) (by simp [results, Try.results64, go_sem]) rfl ?_
      exact ⟨by rw [HF2.out], below_step hb1 hb2⟩
    · have HF2 := Lib.hid (show F = -q by rw [HF.out]; have := HR.out; simp <;> omega)
      clear HF
      go_enter Try.func64, Try.ntmps64
      go_wp2_with fail
      refine (cP.out _).mono ?_
      rintro e w1 ⟨rfl, hb1⟩
      go_wp2_with fail
      refine (cS.out _ _ _ (by omega) (by omega)).mono ?_
      rintro e w2 ⟨rfl, hb2⟩
      go_wp2
      refine bodyPost_ret (v := .tuple #[.int .i64 (-q), .int .i64 0]) (by simp [results, Try.results64, go_sem]) rfl ?_
      exact ⟨by rw [HF2.out], below_step hb1 hb2⟩
  · have hd : decide (0 < r) = false := decide_eq_false hr
    have HR := Lib.hid hr
    clear hr
    cases z
    · have HF2 := Lib.hid (show F = q by rw [HF.out]; have := HR.out; simp <;> omega)
      clear HF
      go_enter Try.func64, Try.ntmps64
      go_wp2_with fail
      refine (cP.out _).mono ?_
      rintro e w1 ⟨rfl, hb1⟩
      go_wp2_with fail
      refine (cS.out _ _ _ (by omega) (by omega)).mono ?_
      rintro e w2 ⟨rfl, hb2⟩
      go_wp2
      refine bodyPost_ret (v := .tuple #[.int .i64 (q), .int .i64 0]) (by simp [results, Try.results64, go_sem]) rfl ?_
      exact ⟨by rw [HF2.out], below_step hb1 hb2⟩
    · have HF2 := Lib.hid (show F = -q by rw [HF.out]; have := HR.out; simp <;> omega)
      clear HF
      go_enter Try.func64, Try.ntmps64
      go_wp2_with fail
      refine (cP.out _).mono ?_
      rintro e w1 ⟨rfl, hb1⟩
      go_wp2_with fail
      refine (cS.out _ _ _ (by omega) (by omega)).mono ?_
      rintro e w2 ⟨rfl, hb2⟩
      go_wp2
      refine bodyPost_ret (v := .tuple #[.int .i64 (-q), .int .i64 0]) (by simp [results, Try.results64, go_sem]) rfl ?_
      exact ⟨by rw [HF2.out], below_step hb1 hb2⟩
end Go.Proofs
