/- Plain: a row's runs hold the points inside. -/
import Derived.Test.YtafaojmkbbhjmaaM4
import Derived.Test.YtafaojmkbbhjmaaP3
set_option linter.unusedVariables false
set_option linter.unusedSimpArgs false
namespace Go.Proofs
open Go.RowKit Go.Proofs.Mp

theorem cei_lt {a d n : Int} (hd : 0 < d) : n < cei a d ↔ d * n < a := by
  obtain ⟨h1, h2⟩ := cei_spec (a := a) hd
  constructor
  · intro h
    have := Int.mul_le_mul_of_nonneg_left (show n ≤ cei a d - 1 by omega) (Int.le_of_lt hd)
    omega
  · intro h
    rcases Int.lt_or_le n (cei a d) with g | g
    · exact g
    · have := Int.mul_le_mul_of_nonneg_left g (Int.le_of_lt hd)
      omega
theorem cei_exact {d t : Int} (hd : 0 < d) : cei (d * t) d = t := by
  have h1 : ∀ n, n < cei (d * t) d ↔ n < t := by
    intro n
    rw [cei_lt hd]
    constructor
    · intro h; exact Int.lt_of_mul_lt_mul_left h (Int.le_of_lt hd)
    · intro h; exact Int.mul_lt_mul_of_pos_left h hd
  have := h1 t
  have := h1 (t - 1)
  omega
theorem cei_lt' {a d n : Int} (hd : d < 0) : n < cei a d ↔ a < d * n := by
  rw [← cei_neg a d (by omega), cei_lt (by omega)]
  rw [Int.neg_mul]
  omega
theorem cei_exact' {d t : Int} (hd : d ≠ 0) : cei (d * t) d = t := by
  rcases Int.lt_or_gt_of_ne hd with h | h
  · rw [← cei_neg _ d hd, ← Int.neg_mul]
    exact cei_exact (by omega)
  · exact cei_exact h
theorem sorted_cut {x : Int} : ∀ {e : List Int}, e.Pairwise (· ≤ ·) → ∀ i, i < e.length → (e[i]! ≤ x ↔ i < e.countP fun z => decide (z ≤ x))
  | [], _, i, hi => by simp at hi
  | a :: zs, h, i, hi => by
    rw [List.pairwise_cons] at h
    by_cases ha : a ≤ x
    · have hc : (a :: zs).countP (fun z => decide (z ≤ x)) = zs.countP (fun z => decide (z ≤ x)) + 1 := List.countP_cons_of_pos (by simpa using ha)
      rw [hc]
      rcases i with _ | i
      · constructor
        · intro _; omega
        · intro _; exact ha
      · have := sorted_cut (x := x) h.2 i (by simpa using hi)
        rw [show (a :: zs)[i + 1]! = zs[i]! from rfl, this]
        omega
    · have hc : (a :: zs).countP (fun z => decide (z ≤ x)) = 0 := by
        rw [List.countP_eq_zero]
        intro z hz
        rcases List.mem_cons.1 hz with rfl | hz
        · simpa using ha
        · have := h.1 z hz
          simp
          omega
      rw [hc]
      have hm : (a :: zs)[i]! ∈ a :: zs := by rw [getElem!_pos _ i hi]; exact List.getElem_mem _
      have : ¬ (a :: zs)[i]! ≤ x := by
        rcases List.mem_cons.1 hm with g | g
        · rw [g]; exact ha
        · have := h.1 _ g
          omega
      omega
theorem insTo_has {e : List Int} {x : Int} : ∀ m, hasL (insTo e m) x = true ↔ ∃ j, j < m ∧ e[2 * j]! ≤ x ∧ x < e[2 * j + 1]!
  | 0 => by simp [insTo, hasL]
  | m + 1 => by
    unfold insTo
    rw [hasL_append, Bool.or_eq_true, insTo_has m]
    constructor
    · rintro (⟨j, h1, h2⟩ | h)
      · exact ⟨j, by omega, h2⟩
      · split at h
        · rw [hasL_iff] at h
          obtain ⟨r, hr, h1, h2⟩ := h
          rw [List.mem_singleton] at hr
          subst hr
          exact ⟨m, by omega, h1, h2⟩
        · simp [hasL] at h
    · rintro ⟨j, h1, h2, h3⟩
      rcases Nat.lt_succ_iff_lt_or_eq.1 h1 with g | rfl
      · exact .inl ⟨j, g, h2, h3⟩
      · right
        rw [if_pos (by omega), hasL_iff]
        exact ⟨_, List.mem_singleton.2 rfl, h2, h3⟩
theorem ins_odd {e : List Int} {x : Int} (hs : e.Pairwise (· ≤ ·)) (he : e.length % 2 = 0) : hasL (insTo e (e.length / 2)) x = true ↔ (e.countP fun z => decide (z ≤ x)) % 2 = 1 := by
  rw [insTo_has]
  have hle : (e.countP fun z => decide (z ≤ x)) ≤ e.length := List.countP_le_length
  constructor
  · rintro ⟨j, h1, h2, h3⟩
    have k1 := (sorted_cut (x := x) hs (2 * j) (by omega)).1 h2
    have k2 : ¬ _ := fun h => (show ¬ e[2 * j + 1]! ≤ x by omega) ((sorted_cut (x := x) hs (2 * j + 1) (by omega)).2 h)
    omega
  · intro h
    refine ⟨(e.countP fun z => decide (z ≤ x)) / 2, by omega, ?_, ?_⟩
    · exact (sorted_cut hs _ (by omega)).2 (by omega)
    · have k2 : ¬ _ := fun h' => (show ¬ 2 * ((e.countP fun z => decide (z ≤ x)) / 2) + 1 < (e.countP fun z => decide (z ≤ x)) by omega) ((sorted_cut (x := x) hs (2 * ((e.countP fun z => decide (z ≤ x)) / 2) + 1) (by omega)).1 h')
      omega
theorem cross_str (y : Int) (a b : Pt) : crossB y a b = strB a b y := by
  unfold crossB strB
  by_cases h1 : a.2 ≤ y <;> by_cases h2 : b.2 ≤ y
  · rw [decide_eq_false (show ¬ y < a.2 by omega), decide_eq_false (show ¬ y < b.2 by omega), decide_eq_true h1, decide_eq_true h2]; rfl
  · rw [decide_eq_false (show ¬ y < a.2 by omega), decide_eq_true (show y < b.2 by omega), decide_eq_true h1, decide_eq_false h2]; rfl
  · rw [decide_eq_true (show y < a.2 by omega), decide_eq_false (show ¬ y < b.2 by omega), decide_eq_false h1, decide_eq_true h2]; rfl
  · rw [decide_eq_true (show y < a.2 by omega), decide_eq_true (show y < b.2 by omega), decide_eq_false h1, decide_eq_false h2]; rfl
theorem cross_iff (y : Int) (a b : Pt) : crossB y a b = true ↔ (a.2 ≤ y ∧ y < b.2) ∨ (b.2 ≤ y ∧ y < a.2) := by
  rw [cross_str]
  unfold strB
  rw [bne_iff_ne, Ne, decide_eq_decide]
  omega
theorem tw_way (a b : Pt) (x y : Int) : tw a b (x, y) = wayI y a b - (b.2 - a.2) * (x - a.1) := by unfold tw wayI; grind
/-- an edge counts exactly if it crosses the row to the east -/
theorem crB_end (a b : Pt) (x y : Int) : crB a b (x, y) = (crossB y a b && decide (x < a.1 + upI y a b)) := by
  rw [Bool.eq_iff_iff, crB_iff, Bool.and_eq_true, cross_iff, decide_eq_true_eq, tw_way]
  dsimp only
  unfold upI
  generalize wayI y a b = W
  constructor
  · rintro (⟨h1, h2, h3⟩ | ⟨h1, h2, h3⟩)
    · have := (cei_lt (a := W) (n := x - a.1) (show 0 < b.2 - a.2 by omega)).2 (by omega)
      omega
    · have := (cei_lt' (a := W) (n := x - a.1) (show b.2 - a.2 < 0 by omega)).2 (by omega)
      omega
  · rintro ⟨h1 | h1, h2⟩
    · have := (cei_lt (a := W) (n := x - a.1) (show 0 < b.2 - a.2 by omega)).1 (by omega)
      omega
    · have := (cei_lt' (a := W) (n := x - a.1) (show b.2 - a.2 < 0 by omega)).1 (by omega)
      omega
theorem ends_par (l : List Pt) (x y : Int) : ∀ k, ((endsTo l y k).countP (fun z => decide (z ≤ x)) % 2 = 1 ↔ (parTo l (x, y) k ^^ strTo l y k) = true) ∧ ((endsTo l y k).length % 2 = 1 ↔ strTo l y k = true)
  | 0 => by simp [endsTo, parTo, strTo]
  | k + 1 => by
    obtain ⟨h1, h2⟩ := ends_par l x y k
    unfold endsTo parTo strTo
    rw [List.countP_append, List.length_append, crB_end, ← cross_str]
    generalize (endsTo l y k).countP (fun z => decide (z ≤ x)) = C at *
    generalize (endsTo l y k).length = N at *
    generalize parTo l (x, y) k = P at *
    generalize strTo l y k = S at *
    generalize l[k]! = a at *
    generalize edE l k = b at *
    unfold eE
    by_cases hc : crossB y a b = true
    · rw [if_pos hc, hc]
      by_cases hx : a.1 + upI y a b ≤ x
      · rw [decide_eq_false (show ¬ x < a.1 + upI y a b by omega)]
        have : [a.1 + upI y a b].countP (fun z => decide (z ≤ x)) = 1 := by simp [hx]
        rw [this, List.length_singleton]
        cases P <;> cases S <;> simp at * <;> omega
      · rw [decide_eq_true (show x < a.1 + upI y a b by omega)]
        have : [a.1 + upI y a b].countP (fun z => decide (z ≤ x)) = 0 := by simp; omega
        rw [this, List.length_singleton]
        cases P <;> cases S <;> simp at * <;> omega
    · rw [if_neg hc]
      rw [Bool.not_eq_true] at hc
      rw [hc]
      cases P <;> cases S <;> simp at * <;> omega
theorem ins_par {l : List Pt} (h0 : 0 < l.length) (x y : Int) : hasL (insL l y) x = parTo l (x, y) l.length := by
  have hs := ends_par l x y l.length
  rw [strTo_even h0] at hs
  have hp : (srtI (endsTo l y l.length)).Perm (endsTo l y l.length) := srtI_perm _
  rw [Bool.eq_iff_iff]
  unfold insL
  rw [ins_odd (srtI_sorted _) (by rw [srtI_len]; have := hs.2; simp at this; omega), hp.countP_eq, hs.1, Bool.xor_false]
/-- what an edge gives to the boundary lies on it -/
theorem eR_on {a b : Pt} {x y : Int} (h : hasL (eR y a b) x = true) : onB a b (x, y) = true := by
  rw [onB_iff]
  unfold eR at h
  rw [hasL_append, hasL_append, Bool.or_eq_true, Bool.or_eq_true] at h
  rcases h with (h | h) | h
  · unfold eR1 at h
    split at h
    · rename_i hy
      rw [hasL_iff] at h
      obtain ⟨r, hr, h1, h2⟩ := h
      rw [List.mem_singleton] at hr
      subst hr
      dsimp only at h1 h2
      obtain rfl : x = a.1 := by omega
      subst hy
      exact ⟨(tw_self a b).2, by unfold inBx; dsimp only; omega⟩
    · simp [hasL] at h
  · unfold eR2 at h
    split at h
    · rename_i hy
      rw [hasL_iff] at h
      obtain ⟨r, hr, h1, h2⟩ := h
      rw [List.mem_singleton] at hr
      subst hr
      dsimp only at h1 h2
      refine ⟨?_, by unfold inBx; dsimp only; omega⟩
      unfold tw
      dsimp only
      rw [show y - a.2 = 0 by omega, show b.2 - a.2 = 0 by omega]
      simp
    · simp [hasL] at h
  · unfold eR3 at h
    split at h
    · rename_i hy
      rw [hasL_iff] at h
      obtain ⟨r, hr, h1, h2⟩ := h
      rw [List.mem_singleton] at hr
      subst hr
      dsimp only at h1 h2
      obtain ⟨hc, hw⟩ := hy
      rw [cross_iff] at hc
      have hx : x - a.1 = upI y a b := by omega
      rw [← hx] at hw
      have ht : tw a b (x, y) = 0 := by rw [tw_way, ← hw]; grind
      refine ⟨ht, ?_⟩
      unfold wayI at hw
      unfold inBx
      dsimp only
      rcases hc with ⟨c1, c2⟩ | ⟨c1, c2⟩
      · have m := line_mid (u := b.2 - a.2) (v := b.1 - a.1) (s := y - a.2) (t := x - a.1) (by omega) (by rw [Int.mul_comm]; exact hw) (by omega) (by omega)
        omega
      · have m := line_mid (u := -(b.2 - a.2)) (v := b.1 - a.1) (s := -(y - a.2)) (t := x - a.1) (by omega) (by rw [Int.neg_mul, Int.mul_neg, Int.mul_comm (b.2 - a.2), hw]) (by omega) (by omega)
        omega
    · simp [hasL] at h
/-- a whole point of an edge is given by it, or is its end -/
theorem on_eR {a b : Pt} {x y : Int} (h : onB a b (x, y) = true) : hasL (eR y a b) x = true ∨ (x = b.1 ∧ y = b.2) := by
  rw [onB_iff] at h
  obtain ⟨h0, hb⟩ := h
  unfold inBx at hb
  dsimp only at hb
  have hw : (b.2 - a.2) * (x - a.1) = wayI y a b := by have := tw_way a b x y; omega
  by_cases hd : b.2 - a.2 = 0
  · left
    unfold eR
    rw [hasL_append, hasL_append, Bool.or_eq_true, Bool.or_eq_true]
    left; right
    unfold eR2
    rw [if_pos ⟨by omega, by omega⟩, hasL_iff]
    exact ⟨_, List.mem_singleton.2 rfl, by dsimp only; omega, by dsimp only; omega⟩
  · have hl := line_end (u := b.2 - a.2) (v := b.1 - a.1) (s := y - a.2) (t := x - a.1) hd hw
    by_cases h1 : y = b.2
    · right
      have := hl.2 (by omega)
      omega
    · left
      unfold eR
      rw [hasL_append, hasL_append, Bool.or_eq_true, Bool.or_eq_true]
      by_cases h2 : y = a.2
      · left; left
        have := hl.1 (by omega)
        unfold eR1
        rw [if_pos h2.symm, hasL_iff]
        exact ⟨_, List.mem_singleton.2 rfl, by dsimp only; omega, by dsimp only; omega⟩
      · right
        have hu : upI y a b = x - a.1 := by unfold upI; rw [← hw]; exact cei_exact' hd
        unfold eR3
        rw [if_pos ⟨(cross_iff y a b).2 (by omega), by rw [hu, ← hw, Int.mul_comm]⟩, hasL_iff]
        exact ⟨_, List.mem_singleton.2 rfl, by dsimp only; omega, by dsimp only; omega⟩
theorem edges_has (l : List Pt) (x y : Int) : ∀ k, hasL (edgesTo l y k) x = true ↔ ∃ i, i < k ∧ hasL (eR y l[i]! (edE l i)) x = true
  | 0 => by simp [edgesTo, hasL]
  | k + 1 => by
    unfold edgesTo
    rw [hasL_append, Bool.or_eq_true, edges_has l x y k]
    constructor
    · rintro (⟨i, h1, h2⟩ | h)
      · exact ⟨i, by omega, h2⟩
      · exact ⟨k, by omega, h⟩
    · rintro ⟨i, h1, h2⟩
      rcases Nat.lt_succ_iff_lt_or_eq.1 h1 with g | rfl
      · exact .inl ⟨i, g, h2⟩
      · exact .inr h2
theorem edges_on (l : List Pt) (x y : Int) : hasL (edgesTo l y l.length) x = onAny l (x, y) := by
  rw [Bool.eq_iff_iff, edges_has]
  constructor
  · rintro ⟨i, hi, h⟩
    exact onAny_yes hi (eR_on h)
  · intro h
    unfold onAny at h
    rw [List.any_eq_true] at h
    obtain ⟨i, hi, h⟩ := h
    rw [List.mem_range] at hi
    rcases on_eR h with g | ⟨g1, g2⟩
    · exact ⟨i, hi, g⟩
    · refine ⟨nx l.length i, nx_lt hi, ?_⟩
      have e : l[nx l.length i]! = edE l i := rfl
      rw [e]
      unfold eR
      rw [hasL_append, hasL_append, Bool.or_eq_true, Bool.or_eq_true]
      left; left
      unfold eR1
      rw [if_pos g2.symm, hasL_iff]
      exact ⟨_, List.mem_singleton.2 rfl, by dsimp only; omega, by dsimp only; omega⟩
/-- a row's runs hold the points inside -/
theorem row_has {l : List Pt} (h0 : 0 < l.length) (x y : Int) : hasL (rowL l y) x = (parTo l (x, y) l.length && !onAny l (x, y)) := by
  rw [← ins_par h0, ← edges_on]
  unfold rowL
  split
  · rename_i h
    rw [List.eq_nil_of_length_eq_zero h]
    rfl
  · exact minusL_has _ _ _
theorem row_in {l : List Pt} (h : polyE l = 0) {x y : Int} (hp : Vp (x, y)) : hasL (rowL l y) x = true ↔ inN l (x, y) = 1 := by
  have hn := (polyE_zero h).2.1
  rw [row_has (by omega)]
  unfold inN
  rw [if_pos ⟨h, hp⟩]
  cases onAny l (x, y) <;> cases parTo l (x, y) l.length <;> decide
end Go.Proofs
