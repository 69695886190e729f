/- Plain: the middle lies inside; where there is none, nothing does. -/
import Derived.Test.YtafaojmkbbhjmaaP5
import Derived.Test.YtafaojmkbbhjmaaM6
set_option linter.unusedVariables false
set_option linter.unusedSimpArgs false
namespace Go.Proofs
open Go.RowKit Go.Proofs.Mp

theorem par_x {l : List Pt} {p : Pt} (h0 : 0 < l.length) (h : parTo l p l.length = true) : (bnd l).x0 ≤ p.1 ∧ p.1 ≤ (bnd l).x1 := by
  constructor
  · rcases Int.lt_or_le p.1 (bnd l).x0 with g | g
    · exfalso
      have := parTo_congr (l := l) (p := p) (fun i hi => crB_west (by have := bnd_has hi; omega) (by have := bnd_hasE hi; omega)) _ (Nat.le_refl _)
      rw [this, strTo_even (by omega)] at h
      cases h
    · exact g
  · rcases Int.lt_or_le (bnd l).x1 p.1 with g | g
    · exfalso
      have := parTo_false (l := l) (p := p) (fun i hi => crB_east (by have := bnd_has hi; omega) (by have := bnd_hasE hi; omega)) _ (Nat.le_refl _)
      rw [this] at h
      cases h
    · exact g
theorem longTo_mem {zs : List (Int × Int)} : ∀ k, k ≤ zs.length → longTo zs k = (0, 0) ∨ longTo zs k ∈ zs
  | 0, _ => .inl rfl
  | k + 1, hk => by
    unfold longTo
    split
    · right
      rw [getElem!_pos _ k (by omega)]
      exact List.getElem_mem _
    · exact longTo_mem k (by omega)
theorem longTo_ge {zs : List (Int × Int)} : ∀ k, k ≤ zs.length → ∀ j, j < k → zs[j]!.2 - zs[j]!.1 ≤ (longTo zs k).2 - (longTo zs k).1
  | 0, _, j, hj => by omega
  | k + 1, hk, j, hj => by
    unfold longTo
    rcases Nat.lt_succ_iff_lt_or_eq.1 hj with h | rfl
    · have := longTo_ge (zs := zs) k (by omega) j h
      split <;> omega
    · split <;> omega
theorem flo2 (s : Int) : flo s 2 = s / 2 := by unfold flo; rw [if_pos (by omega)]
theorem longX_has {zs : List (Int × Int)} (h : longB zs = true) : hasL zs (longX zs) = true := by
  unfold longB at h
  rw [decide_eq_true_eq] at h
  rcases longTo_mem (zs := zs) zs.length (Nat.le_refl _) with g | g
  · rw [g] at h; dsimp only at h; omega
  · rw [hasL_iff]
    refine ⟨_, g, ?_, ?_⟩ <;> (unfold longX; rw [flo2]; omega)
theorem longB_nil {zs : List (Int × Int)} (hv : Vld zs) (h : longB zs = false) : zs = [] := by
  unfold longB at h
  rw [decide_eq_false_iff_not] at h
  rcases zs with _ | ⟨r, zs⟩
  · rfl
  · exfalso
    have h1 := longTo_ge (zs := r :: zs) (r :: zs).length (Nat.le_refl _) 0 (by simp)
    have h2 := hv.head
    change r.2 - r.1 ≤ _ at h1
    omega
theorem rowL_vld (l : List Pt) (y : Int) : Vld (rowL l y) := by
  unfold rowL
  split
  · exact Vld.nil
  · exact minusL_vld _ _
theorem frst_ok {ok : Int → Bool} {y0 y1 m y : Int} : ∀ n, frst ok y0 y1 m n = some y → y0 ≤ y ∧ y ≤ y1 ∧ ok y = true
  | 0, h => by simp [frst] at h
  | n + 1, h => by
    unfold frst at h
    cases hc : frst ok y0 y1 m n with
    | some z =>
      rw [hc] at h
      obtain rfl : z = y := by simpa using h
      exact frst_ok n hc
    | none =>
      rw [hc] at h
      dsimp only at h
      split at h
      · rename_i hy
        obtain rfl : ysq m n = y := by simpa using h
        exact hy
      · cases h
theorem frst_none {ok : Int → Bool} {y0 y1 m : Int} : ∀ n, frst ok y0 y1 m n = none → ∀ i, i < n → y0 ≤ ysq m i → ysq m i ≤ y1 → ok (ysq m i) = false
  | 0, _, i, hi => by omega
  | n + 1, h, i, hi => by
    intro h1 h2
    unfold frst at h
    cases hc : frst ok y0 y1 m n with
    | some z => rw [hc] at h; cases h
    | none =>
      rw [hc] at h
      dsimp only at h
      rcases Nat.lt_succ_iff_lt_or_eq.1 hi with g | rfl
      · exact frst_none n hc i g h1 h2
      · split at h
        · cases h
        · rename_i hy
          rw [← Bool.not_eq_true]
          exact fun g => hy ⟨h1, h2, g⟩
theorem ysq_all {y0 y1 y : Int} (h0 : y0 ≤ y) (h1 : y ≤ y1) : ∃ i, i < trN (y1 - y0 + 1).toNat 0 ∧ ysq (flo (y0 + y1) 2) i = y := by
  rw [flo2]
  unfold trN
  rw [if_neg (by omega)]
  rcases Int.lt_or_le ((y0 + y1) / 2) y with h | h
  · refine ⟨2 * (y - (y0 + y1) / 2).toNat - 1, by omega, ?_⟩
    unfold ysq
    rw [if_pos (by omega)]
    omega
  · refine ⟨2 * ((y0 + y1) / 2 - y).toNat, by omega, ?_⟩
    unfold ysq
    rw [if_neg (by omega)]
    omega
theorem mid_in {l : List Pt} (h : chkE l = 0) (hm : (midR l).isSome = true) : inN l (midP l) = 1 := by
  have hp := chkE_zero h
  obtain ⟨hv, hn, _⟩ := polyE_zero hp
  obtain ⟨y, hy⟩ := Option.isSome_iff_exists.1 hm
  have hb := bnd_vp hv (by omega)
  unfold midP
  rw [hy]
  unfold midR at hy
  rw [if_pos h] at hy
  obtain ⟨h1, h2, h3⟩ := frst_ok _ hy
  show inN l (longX (rowL l y), y) = 1
  have hh := longX_has h3
  have hpar := hh
  rw [row_has (by omega), Bool.and_eq_true] at hpar
  have hx := par_x (by omega) hpar.1
  dsimp only at hx
  exact (row_in hp (by unfold Vp; dsimp only; omega)).1 hh
theorem mid_none {l : List Pt} (h : chkE l = 0) (hm : (midR l).isSome = false) {x y : Int} (h1 : (bnd l).x0 ≤ x) (h2 : x ≤ (bnd l).x1) (h3 : (bnd l).y0 ≤ y) (h4 : y ≤ (bnd l).y1) : ¬ inN l (x, y) = 1 := by
  have hp := chkE_zero h
  obtain ⟨hv, hn, _⟩ := polyE_zero hp
  have hb := bnd_vp hv (by omega)
  rw [← row_in hp (by unfold Vp; dsimp only; omega)]
  have hmn : midR l = none := by
    cases hc : midR l with
    | none => rfl
    | some z => rw [hc] at hm; cases hm
  unfold midR at hmn
  rw [if_pos h] at hmn
  obtain ⟨i, hi, he⟩ := ysq_all h3 h4
  have := frst_none _ hmn i hi (by omega) (by omega)
  rw [he] at this
  rw [longB_nil (rowL_vld l y) this]
  simp [hasL]
end Go.Proofs
