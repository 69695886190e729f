/- Plain: a point in or on a polygon lies in its box. -/
import Derived.Test.YtafaojmkbbhjmaaP1
import Derived.Test.YtafaojmkbbhjmaaC8
set_option linter.unusedVariables false
set_option linter.unusedSimpArgs false
namespace Go.Proofs
open Go.RowKit Go.Proofs.Mp

theorem bndTo_has {l : List Pt} : ∀ k j, j < k → (bndTo l k).x0 ≤ l[j]!.1 ∧ l[j]!.1 ≤ (bndTo l k).x1 ∧ (bndTo l k).y0 ≤ l[j]!.2 ∧ l[j]!.2 ≤ (bndTo l k).y1 := by
  intro k
  induction k with
  | zero => intro j hj; omega
  | succ k ih =>
    intro j hj
    rw [show bndTo l (k + 1) = bStep (bndTo l k) l[k]! from rfl]
    unfold bStep
    dsimp only
    rcases Nat.lt_succ_iff_lt_or_eq.1 hj with h | rfl
    · have := ih j h
      omega
    · omega
theorem bnd_has {l : List Pt} {j : Nat} (hj : j < l.length) : (bnd l).x0 ≤ l[j]!.1 ∧ l[j]!.1 ≤ (bnd l).x1 ∧ (bnd l).y0 ≤ l[j]!.2 ∧ l[j]!.2 ≤ (bnd l).y1 := by
  unfold bnd
  rw [if_neg (by omega)]
  exact bndTo_has _ _ hj
theorem bnd_hasE {l : List Pt} {j : Nat} (hj : j < l.length) : (bnd l).x0 ≤ (edE l j).1 ∧ (edE l j).1 ≤ (bnd l).x1 ∧ (bnd l).y0 ≤ (edE l j).2 ∧ (edE l j).2 ≤ (bnd l).y1 := bnd_has (nx_lt hj)
/-- the edge meets the row of y, its upper end left out -/
def strB (a b : Pt) (y : Int) : Bool := decide (a.2 ≤ y) ^^ decide (b.2 ≤ y)
def strTo (l : List Pt) (y : Int) : Nat → Bool
  | 0 => false
  | k + 1 => strTo l y k ^^ strB l[k]! (edE l k) y
theorem strTo_eq {l : List Pt} {y : Int} : ∀ k, k < l.length → strTo l y k = (decide (l[0]!.2 ≤ y) ^^ decide (l[k]!.2 ≤ y)) := by
  intro k
  induction k with
  | zero => intro _; simp [strTo]
  | succ k ih =>
    intro hk
    unfold strTo strB edE
    rw [ih (by omega), nx_next hk]
    generalize decide (l[0]!.2 ≤ y) = a
    generalize decide (l[k]!.2 ≤ y) = b
    generalize decide (l[k + 1]!.2 ≤ y) = c
    cases a <;> cases b <;> cases c <;> rfl
/-- an even number of edges meets a row -/
theorem strTo_even {l : List Pt} {y : Int} (h0 : 0 < l.length) : strTo l y l.length = false := by
  obtain ⟨k, hk⟩ : ∃ k, l.length = k + 1 := ⟨l.length - 1, by omega⟩
  rw [hk]
  unfold strTo strB edE
  rw [strTo_eq k (by omega), nx_last hk.symm]
  generalize decide (l[0]!.2 ≤ y) = a
  generalize decide (l[k]!.2 ≤ y) = b
  cases a <;> cases b <;> rfl
theorem tw_split (a b p : Pt) : tw a b p = (b.1 - p.1) * (p.2 - a.2) + (a.1 - p.1) * (b.2 - p.2) := by unfold tw; grind
theorem sd_pos (a b p : Pt) : (0 < sd a b p ↔ 0 < tw a b p) ∧ (sd a b p < 0 ↔ tw a b p < 0) := by
  unfold sd
  have := sg_cases (tw a b p)
  omega
/-- to the west of both ends -/
theorem crB_west {a b p : Pt} (h1 : p.1 < a.1) (h2 : p.1 < b.1) : crB a b p = strB a b p.2 := by
  unfold crB strB
  rw [Bool.eq_iff_iff, decide_eq_true_eq, (sd_pos a b p).1, (sd_pos a b p).2]
  by_cases c1 : a.2 ≤ p.2
  · by_cases c2 : b.2 ≤ p.2
    · simp [c1, c2] <;> omega
    · have e := tw_split a b p
      have k1 := Int.mul_nonneg (show 0 ≤ b.1 - p.1 by omega) (show 0 ≤ p.2 - a.2 by omega)
      have k2 := Int.mul_pos (show 0 < a.1 - p.1 by omega) (show 0 < b.2 - p.2 by omega)
      simp [c1, c2] <;> omega
  · by_cases c2 : b.2 ≤ p.2
    · have e := tw_split a b p
      have k1 := Int.mul_neg_of_pos_of_neg (show 0 < b.1 - p.1 by omega) (show p.2 - a.2 < 0 by omega)
      have k2 := mul_nonpos_iff.2 (.inr ⟨show 0 ≤ a.1 - p.1 by omega, show b.2 - p.2 ≤ 0 by omega⟩)
      simp [c1, c2] <;> omega
    · simp [c1, c2] <;> omega
/-- to the east of both ends -/
theorem crB_east {a b p : Pt} (h1 : a.1 < p.1) (h2 : b.1 < p.1) : crB a b p = false := by
  unfold crB
  rw [decide_eq_false_iff_not, (sd_pos a b p).1, (sd_pos a b p).2]
  have e := tw_split a b p
  rintro (⟨c1, c2, c3⟩ | ⟨c1, c2, c3⟩)
  · have k1 := mul_nonpos_iff.2 (.inl ⟨show b.1 - p.1 ≤ 0 by omega, show 0 ≤ p.2 - a.2 by omega⟩)
    have k2 := mul_nonpos_iff.2 (.inl ⟨show a.1 - p.1 ≤ 0 by omega, show 0 ≤ b.2 - p.2 by omega⟩)
    omega
  · have k1 := Int.mul_nonneg (show 0 ≤ -(b.1 - p.1) by omega) (show 0 ≤ -(p.2 - a.2) by omega)
    have k2 := Int.mul_nonneg (show 0 ≤ -(a.1 - p.1) by omega) (show 0 ≤ -(b.2 - p.2) by omega)
    rw [Int.neg_mul_neg] at k1 k2
    omega
theorem parTo_congr {l : List Pt} {p : Pt} (h : ∀ i, i < l.length → crB l[i]! (edE l i) p = strB l[i]! (edE l i) p.2) : ∀ k, k ≤ l.length → parTo l p k = strTo l p.2 k := by
  intro k
  induction k with
  | zero => intro _; rfl
  | succ k ih =>
    intro hk
    unfold parTo strTo
    rw [ih (by omega), h k (by omega)]
theorem parTo_false {l : List Pt} {p : Pt} (h : ∀ i, i < l.length → crB l[i]! (edE l i) p = false) : ∀ k, k ≤ l.length → parTo l p k = false := by
  intro k
  induction k with
  | zero => intro _; rfl
  | succ k ih =>
    intro hk
    unfold parTo
    rw [ih (by omega), h k (by omega)]
    rfl
theorem parTo_some {l : List Pt} {p : Pt} (h : parTo l p l.length = true) : ∃ i, i < l.length ∧ crB l[i]! (edE l i) p = true := by
  rcases Classical.em (∃ i, i < l.length ∧ crB l[i]! (edE l i) p = true) with g | g
  · exact g
  · have := parTo_false (l := l) (p := p) (fun i hi => by
      rw [← Bool.not_eq_true]
      exact fun e => g ⟨i, hi, e⟩) _ (Nat.le_refl _)
    rw [this] at h
    cases h
theorem onAny_some {l : List Pt} {p : Pt} (h : onAny l p = true) : ∃ i, i < l.length ∧ onB l[i]! (edE l i) p = true := by
  unfold onAny at h
  rw [List.any_eq_true] at h
  obtain ⟨i, hi, h⟩ := h
  exact ⟨i, List.mem_range.1 hi, h⟩
/-- a point in or on a polygon lies in its box -/
theorem inN_bnd {l : List Pt} {p : Pt} (h : ¬ inN l p < 0) : (bnd l).x0 ≤ p.1 ∧ p.1 ≤ (bnd l).x1 ∧ (bnd l).y0 ≤ p.2 ∧ p.2 ≤ (bnd l).y1 := by
  unfold inN at h
  split at h
  · rename_i h0
    obtain ⟨hv, hn, _⟩ := polyE_zero h0.1
    split at h
    · rename_i hon
      obtain ⟨i, hi, ho⟩ := onAny_some hon
      obtain ⟨_, h1, h2, h3, h4⟩ := onB_iff.1 ho
      have := bnd_has hi
      have := bnd_hasE hi
      omega
    · split at h
      · rename_i hpar
        obtain ⟨i, hi, hc⟩ := parTo_some hpar
        have b1 := bnd_has hi
        have b2 := bnd_hasE hi
        have hy : (bnd l).y0 ≤ p.2 ∧ p.2 ≤ (bnd l).y1 := by
          unfold crB at hc
          rw [decide_eq_true_eq] at hc
          omega
        refine ⟨?_, ?_, hy⟩
        · rcases Int.lt_or_le p.1 (bnd l).x0 with g | g
          · exfalso
            have := parTo_congr (l := l) (p := p) (fun i hi => crB_west (by have := bnd_has hi; omega) (by have := bnd_hasE hi; omega)) _ (Nat.le_refl _)
            rw [this, strTo_even (by omega)] at hpar
            cases hpar
          · exact g
        · rcases Int.lt_or_le (bnd l).x1 p.1 with g | g
          · exfalso
            have := parTo_false (l := l) (p := p) (fun i hi => crB_east (by have := bnd_has hi; omega) (by have := bnd_hasE hi; omega)) _ (Nat.le_refl _)
            rw [this] at hpar
            cases hpar
          · exact g
      · omega
  · omega
end Go.Proofs
