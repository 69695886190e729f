/- Division, rounded down and up. -/
import Derived.Test.YtafaojmkbbhjmaaA3
import Derived.Lib.MinMax
set_option linter.unusedVariables false
set_option linter.unusedSimpArgs false
namespace Go.Proofs
open Go.RowKit Go.Proofs.Mp

def absI (n : Int) : Int := if n < 0 then -n else n
/-- a / b, rounded down -/
def flo (a b : Int) : Int := if 0 < b then a / b else (-a) / (-b)
/-- a / b, rounded up -/
def cei (a b : Int) : Int := -flo (-a) b
theorem flo_spec {a b : Int} (hb : 0 < b) : b * flo a b ≤ a ∧ a < b * (flo a b + 1) := by
  unfold flo
  rw [if_pos hb]
  have h1 := Int.mul_ediv_add_emod a b
  have h2 := Int.emod_nonneg a (by omega : b ≠ 0)
  have h3 := Int.emod_lt_of_pos a hb
  rw [Int.mul_add]
  omega
theorem flo_neg (a b : Int) (hb : b ≠ 0) : flo (-a) (-b) = flo a b := by
  unfold flo
  rcases Int.lt_or_gt_of_ne hb with h | h
  · rw [if_pos (by omega), if_neg (by omega)]
  · rw [if_neg (by omega), if_pos (by omega)]
    simp
theorem flo_unique {a b q : Int} (hb : 0 < b) (h1 : b * q ≤ a) (h2 : a < b * (q + 1)) : flo a b = q := by
  obtain ⟨g1, g2⟩ := flo_spec (a := a) hb
  generalize flo a b = f at *
  have e1 : b * f < b * (q + 1) := Int.lt_of_le_of_lt g1 h2
  have e2 : b * q < b * (f + 1) := Int.lt_of_le_of_lt h1 g2
  have := Int.lt_of_mul_lt_mul_left e1 (Int.le_of_lt hb)
  have := Int.lt_of_mul_lt_mul_left e2 (Int.le_of_lt hb)
  omega
theorem cei_neg (a b : Int) (hb : b ≠ 0) : cei (-a) (-b) = cei a b := by unfold cei; rw [flo_neg _ _ hb]
theorem cei_spec {a b : Int} (hb : 0 < b) : b * (cei a b - 1) < a ∧ a ≤ b * cei a b := by
  obtain ⟨g1, g2⟩ := flo_spec (a := -a) hb
  unfold cei
  generalize flo (-a) b = f at *
  have e1 : b * (-f - 1) = -(b * (f + 1)) := by grind
  have e2 : b * (-f) = -(b * f) := by grind
  rw [e1, e2]
  omega
theorem cei_unique {a b q : Int} (hb : 0 < b) (h1 : b * (q - 1) < a) (h2 : a ≤ b * q) : cei a b = q := by
  unfold cei
  have := flo_unique (a := -a) (q := -q) hb (by have : b * (-q) = -(b * q) := by grind
                                                omega) (by have : b * (-q + 1) = -(b * (q - 1)) := by grind
                                                           omega)
  omega
/-- the absolute values' quotient and remainder, and what they tell of a / b -/
theorem parts_pos {a b : Int} (ha : 0 ≤ a) (hb : 0 < b) : flo a b = a / b ∧ cei a b = (if 0 < a % b then a / b + 1 else a / b) := by
  refine ⟨by unfold flo; rw [if_pos hb], ?_⟩
  have h1 := Int.mul_ediv_add_emod a b
  have h2 := Int.emod_nonneg a (by omega : b ≠ 0)
  have h3 := Int.emod_lt_of_pos a hb
  generalize a / b = q at *
  generalize a % b = r at *
  split
  · refine cei_unique hb ?_ ?_
    · rw [show q + 1 - 1 = q by omega]; omega
    · rw [Int.mul_add]; omega
  · refine cei_unique hb ?_ ?_
    · rw [Int.mul_sub]; omega
    · omega
theorem parts_neg {a b : Int} (ha : a ≤ 0) (hb : 0 < b) : cei a b = -((-a) / b) ∧ flo a b = (if 0 < (-a) % b then -((-a) / b) - 1 else -((-a) / b)) := by
  obtain ⟨h1, h2⟩ := parts_pos (a := -a) (by omega) hb
  constructor
  · unfold cei; rw [h1]
  · have : flo a b = -cei (-a) b := by unfold cei; simp
    rw [this, h2]
    split <;> omega

theorem size_any (n : Int) (w : World) (h1 : -4611686018427387904 ≤ n) (h2 : n ≤ 4611686018427387904) : Calls Try.prog 65 #[.int .i64 n] w fun e w' => e = .returned (.int .u64 (absI n)) ∧ w' = w := by
  unfold absI
  by_cases h : n < 0
  · rw [if_pos h]
    have e1 : IntKind.u64.wrap n = n + 18446744073709551616 := by simp [IntKind.wrap, IntKind.bits, IntKind.signed]; omega
    have e2 : IntKind.u64.wrap (-(n + 18446744073709551616)) = -n := by simp [IntKind.wrap, IntKind.bits, IntKind.signed]; omega
    go_enter Try.func65, Try.ntmps65
    go_wp2_with fail
    go_ret
    exact ⟨by simp [e1, e2], rfl⟩
  · rw [if_neg h]
    have e1 : IntKind.u64.wrap n = n := by simp [IntKind.wrap, IntKind.bits, IntKind.signed]; omega
    go_enter Try.func65, Try.ntmps65
    go_wp2_with fail
    go_ret
    exact ⟨by simp [e1], rfl⟩
end Go.Proofs
