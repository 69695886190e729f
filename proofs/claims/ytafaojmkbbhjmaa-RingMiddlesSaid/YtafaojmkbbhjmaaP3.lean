/- The ring laws' plain law of a triangle. -/
import Derived.Test.YtafaojmkbbhjmaaP2
set_option linter.unusedVariables false
set_option linter.unusedSimpArgs false
namespace Go.Proofs
open Go.RowKit Go.Proofs.Mp
theorem tri_high {X Y Z da db dc : Int} (hT : 0 < X + Y + Z) (R : X * dc + Y * da + Z * db = 0) (ha : 0 ≤ da) (hb : db < 0) (hc : 0 ≤ dc)
    (n2 : ¬ (Y = 0 ∧ 0 ≤ X ∧ 0 ≤ Z)) (n3 : ¬ (Z = 0 ∧ 0 ≤ X ∧ 0 ≤ Y)) : ((0 < X ∧ ¬ Y < 0) ∨ (¬ 0 < X ∧ Y < 0)) ↔ (0 < X ∧ 0 < Y ∧ 0 < Z) := by
  constructor
  · rintro (⟨h1, h2⟩ | ⟨h1, h2⟩)
    · have k1 := Int.mul_nonneg (Int.le_of_lt h1) hc
      have k2 := Int.mul_nonneg (show 0 ≤ Y by omega) ha
      have hz : 0 ≤ Z := by
        rcases Int.lt_or_le Z 0 with g | g
        · have := Int.mul_pos_of_neg_of_neg g hb; omega
        · exact g
      omega
    · have k1 := mul_nonpos_iff.2 (.inl ⟨show X ≤ 0 by omega, hc⟩)
      have k2 := mul_nonpos_iff.2 (.inl ⟨show Y ≤ 0 by omega, ha⟩)
      have hz : Z ≤ 0 := by
        rcases Int.lt_or_le 0 Z with g | g
        · have := Int.mul_neg_of_pos_of_neg g hb; omega
        · exact g
      omega
  · rintro ⟨h1, h2, _⟩
    left; omega
theorem tri_low {X Y Z da db dc : Int} (hT : 0 < X + Y + Z) (R : X * dc + Y * da + Z * db = 0) (ha : da < 0) (hb : 0 ≤ db) (hc : dc < 0)
    (n1 : ¬ (X = 0 ∧ 0 ≤ Y ∧ 0 ≤ Z)) : ((X < 0 ∧ ¬ 0 < Y) ∨ (¬ X < 0 ∧ 0 < Y)) ↔ (0 < X ∧ 0 < Y ∧ 0 < Z) := by
  constructor
  · rintro (⟨h1, h2⟩ | ⟨h1, h2⟩)
    · have k1 := Int.mul_pos_of_neg_of_neg h1 hc
      have k2 := mul_nonpos_iff.2 (.inl ⟨show da ≤ 0 by omega, show 0 ≤ -Y by omega⟩)
      have k3 : da * -Y = -(Y * da) := by grind
      have hz : Z ≤ 0 := by
        rcases Int.lt_or_le 0 Z with g | g
        · have := Int.mul_nonneg (Int.le_of_lt g) hb; omega
        · exact g
      omega
    · have k1 := Int.mul_neg_of_pos_of_neg h2 ha
      have k2 := mul_nonpos_iff.2 (.inr ⟨show 0 ≤ X by omega, show dc ≤ 0 by omega⟩)
      have hz : 0 < Z := by
        rcases Int.lt_or_le 0 Z with g | g
        · exact g
        · have := mul_nonpos_iff.2 (.inl ⟨g, hb⟩); omega
      omega
  · rintro ⟨h1, h2, _⟩
    right; omega
theorem tri_sum (a b c p : Pt) : tw a b p + tw b c p + tw c a p = tw a b c := by unfold tw; grind
theorem tri_y (a b c p : Pt) : tw a b p * (p.2 - c.2) + tw b c p * (p.2 - a.2) + tw c a p * (p.2 - b.2) = 0 := by unfold tw; grind
theorem tri_x (a b c p : Pt) : tw a b p * (p.1 - c.1) + tw b c p * (p.1 - a.1) + tw c a p * (p.1 - b.1) = 0 := by unfold tw; grind
/-- two weights, and where their mean lies -/
theorem mean_between {Y Z u v : Int} (h : Y * u = Z * v) (hy : 0 ≤ Y) (hz : 0 ≤ Z) (hs : 0 < Y + Z) : (0 ≤ u ∧ 0 ≤ v) ∨ (u ≤ 0 ∧ v ≤ 0) := by
  rcases Int.lt_trichotomy u 0 with hu | hu | hu
  · right
    refine ⟨by omega, ?_⟩
    rcases Int.lt_or_le 0 v with g | g
    · exfalso
      have k1 := mul_nonpos_iff.2 (.inr ⟨hy, Int.le_of_lt hu⟩)
      have k2 := Int.mul_nonneg hz (Int.le_of_lt g)
      have hz0 : Z = 0 := by
        rcases Int.mul_eq_zero.1 (show Z * v = 0 by omega) with e | e <;> omega
      have hy0 : Y = 0 := by
        rcases Int.mul_eq_zero.1 (show Y * u = 0 by omega) with e | e <;> omega
      omega
    · exact g
  · subst hu; omega
  · left
    refine ⟨by omega, ?_⟩
    rcases Int.lt_or_le v 0 with g | g
    · exfalso
      have k1 := Int.mul_nonneg hy (Int.le_of_lt hu)
      have k2 := mul_nonpos_iff.2 (.inr ⟨hz, Int.le_of_lt g⟩)
      have hz0 : Z = 0 := by
        rcases Int.mul_eq_zero.1 (show Z * v = 0 by omega) with e | e <;> omega
      have hy0 : Y = 0 := by
        rcases Int.mul_eq_zero.1 (show Y * u = 0 by omega) with e | e <;> omega
      omega
    · exact g
theorem mean_inv {Y Z u v : Int} (h : Y * u = Z * v) (hs : 0 < Y + Z) (hz : Z < 0) (huv : (0 ≤ u ∧ 0 ≤ v) ∨ (u ≤ 0 ∧ v ≤ 0)) : u = 0 ∧ v = 0 := by
  have hY : 0 < Y := by omega
  rcases huv with ⟨h1, h2⟩ | ⟨h1, h2⟩
  · have k1 := Int.mul_nonneg (Int.le_of_lt hY) h1
    have k2 := mul_nonpos_iff.2 (.inl ⟨Int.le_of_lt hz, h2⟩)
    rcases Int.mul_eq_zero.1 (show Y * u = 0 by omega) with e | e
    · omega
    · rcases Int.mul_eq_zero.1 (show Z * v = 0 by omega) with e' | e' <;> omega
  · have k1 := mul_nonpos_iff.2 (.inr ⟨Int.le_of_lt hY, h1⟩)
    have k2 : 0 ≤ -Z * -v := Int.mul_nonneg (by omega) (by omega)
    rw [Int.neg_mul_neg] at k2
    rcases Int.mul_eq_zero.1 (show Y * u = 0 by omega) with e | e
    · omega
    · rcases Int.mul_eq_zero.1 (show Z * v = 0 by omega) with e' | e' <;> omega
/-- on an edge of a triangle -/
theorem tri_on {a b c p : Pt} (hT : 0 < tw a b c) : onB a b p = true ↔ tw a b p = 0 ∧ 0 ≤ tw b c p ∧ 0 ≤ tw c a p := by
  rw [onB_iff]
  have hs := tri_sum a b c p
  have hx := tri_x a b c p
  have hy := tri_y a b c p
  constructor
  · rintro ⟨h0, h1, h2, h3, h4⟩
    rw [h0, Int.zero_mul] at hx hy
    refine ⟨h0, ?_⟩
    have ex : tw b c p * (p.1 - a.1) = tw c a p * (b.1 - p.1) := by have : tw c a p * (b.1 - p.1) = -(tw c a p * (p.1 - b.1)) := by grind
                                                                    omega
    have ey : tw b c p * (p.2 - a.2) = tw c a p * (b.2 - p.2) := by have : tw c a p * (b.2 - p.2) = -(tw c a p * (p.2 - b.2)) := by grind
                                                                    omega
    have hdeg : ¬ (a.1 = b.1 ∧ a.2 = b.2) := by
      rintro ⟨e1, e2⟩
      unfold tw at hT
      rw [e1, e2] at hT
      simp at hT
    constructor
    · rcases Int.lt_or_le (tw b c p) 0 with g | g
      · exfalso
        have k1 := mean_inv ex.symm (by omega) g (by omega)
        have k2 := mean_inv ey.symm (by omega) g (by omega)
        omega
      · exact g
    · rcases Int.lt_or_le (tw c a p) 0 with g | g
      · exfalso
        have k1 := mean_inv ex (by omega) g (by omega)
        have k2 := mean_inv ey (by omega) g (by omega)
        omega
      · exact g
  · rintro ⟨h0, h1, h2⟩
    rw [h0, Int.zero_mul] at hx hy
    refine ⟨h0, ?_⟩
    have ex : tw b c p * (p.1 - a.1) = tw c a p * (b.1 - p.1) := by have : tw c a p * (b.1 - p.1) = -(tw c a p * (p.1 - b.1)) := by grind
                                                                    omega
    have ey : tw b c p * (p.2 - a.2) = tw c a p * (b.2 - p.2) := by have : tw c a p * (b.2 - p.2) = -(tw c a p * (p.2 - b.2)) := by grind
                                                                    omega
    have k1 := mean_between ex h1 h2 (by omega)
    have k2 := mean_between ey h1 h2 (by omega)
    unfold inBx
    omega
theorem crB_iff (a b p : Pt) : crB a b p = true ↔ (0 ≤ p.2 - a.2 ∧ p.2 - b.2 < 0 ∧ 0 < tw a b p) ∨ (0 ≤ p.2 - b.2 ∧ p.2 - a.2 < 0 ∧ tw a b p < 0) := by
  unfold crB
  rw [decide_eq_true_eq, (sd_pos a b p).1, (sd_pos a b p).2]
  omega
theorem xor3 (A B C : Bool) : (A ^^ B ^^ C) = true ↔ ((A = true ∧ ¬ B = true ∧ ¬ C = true) ∨ (¬ A = true ∧ B = true ∧ ¬ C = true) ∨ (¬ A = true ∧ ¬ B = true ∧ C = true) ∨ (A = true ∧ B = true ∧ C = true)) := by
  cases A <;> cases B <;> cases C <;> simp
theorem tri_par {a b c p : Pt} (hT : 0 < tw a b c) (o1 : onB a b p = false) (o2 : onB b c p = false) (o3 : onB c a p = false) :
    (crB a b p ^^ crB b c p ^^ crB c a p) = true ↔ (0 < tw a b p ∧ 0 < tw b c p ∧ 0 < tw c a p) := by
  have hs := tri_sum a b c p
  have hy := tri_y a b c p
  have e1 : tw b c a = tw a b c := by unfold tw; grind
  have e2 : tw c a b = tw a b c := by unfold tw; grind
  have n1 : ¬ (tw a b p = 0 ∧ 0 ≤ tw b c p ∧ 0 ≤ tw c a p) := fun h => by rw [(tri_on hT).2 h] at o1; cases o1
  have n2 : ¬ (tw b c p = 0 ∧ 0 ≤ tw c a p ∧ 0 ≤ tw a b p) := fun h => by rw [(tri_on (by rw [e1]; exact hT)).2 h] at o2; cases o2
  have n3 : ¬ (tw c a p = 0 ∧ 0 ≤ tw a b p ∧ 0 ≤ tw b c p) := fun h => by rw [(tri_on (by rw [e2]; exact hT)).2 h] at o3; cases o3
  have hflat : ¬ (p.2 - a.2 = 0 ∧ p.2 - b.2 = 0 ∧ p.2 - c.2 = 0) := by
    rintro ⟨g1, g2, g3⟩
    unfold tw at hT
    rw [show c.2 - a.2 = 0 by omega, show b.2 - a.2 = 0 by omega] at hT
    simp at hT
  rw [xor3, crB_iff, crB_iff, crB_iff]
  rw [← hs] at hT
  clear hs o1 o2 o3 e1 e2
  generalize tw a b p = X at *
  generalize tw b c p = Y at *
  generalize tw c a p = Z at *
  generalize p.2 - a.2 = da at *
  generalize p.2 - b.2 = db at *
  generalize p.2 - c.2 = dc at *
  rcases Int.lt_or_le da 0 with ha | ha <;> rcases Int.lt_or_le db 0 with hb | hb <;> rcases Int.lt_or_le dc 0 with hc | hc
  · -- all above
    constructor
    · intro h; omega
    · rintro ⟨h1, h2, h3⟩
      have k1 := Int.mul_neg_of_pos_of_neg h1 hc
      have k2 := Int.mul_neg_of_pos_of_neg h2 ha
      have k3 := Int.mul_neg_of_pos_of_neg h3 hb
      omega
  · -- c low
    have := tri_low (X := Y) (Y := Z) (Z := X) (da := db) (db := dc) (dc := da) (by omega) (by omega) hb hc ha (by omega)
    omega
  · -- b low
    have := tri_low (X := X) (Y := Y) (Z := Z) (da := da) (db := db) (dc := dc) (by omega) hy ha hb hc n1
    omega
  · -- a high
    have := tri_high (X := Z) (Y := X) (Z := Y) (da := dc) (db := da) (dc := db) (by omega) (by omega) hc ha hb (by omega) (by omega)
    omega
  · -- a low
    have := tri_low (X := Z) (Y := X) (Z := Y) (da := dc) (db := da) (dc := db) (by omega) (by omega) hc ha hb (by omega)
    omega
  · -- b high
    have := tri_high (X := X) (Y := Y) (Z := Z) (da := da) (db := db) (dc := dc) (by omega) hy ha hb hc (by omega) (by omega)
    omega
  · -- c high
    have := tri_high (X := Y) (Y := Z) (Z := X) (da := db) (db := dc) (dc := da) (by omega) (by omega) hb hc ha (by omega) (by omega)
    omega
  · constructor
    · intro h; omega
    · rintro ⟨h1, h2, h3⟩
      exfalso
      have k1 := Int.mul_nonneg (Int.le_of_lt h1) hc
      have k2 := Int.mul_nonneg (Int.le_of_lt h2) ha
      have k3 := Int.mul_nonneg (Int.le_of_lt h3) hb
      have z1 := Int.mul_eq_zero.1 (show X * dc = 0 by omega)
      have z2 := Int.mul_eq_zero.1 (show Y * da = 0 by omega)
      have z3 := Int.mul_eq_zero.1 (show Z * db = 0 by omega)
      omega
end Go.Proofs
