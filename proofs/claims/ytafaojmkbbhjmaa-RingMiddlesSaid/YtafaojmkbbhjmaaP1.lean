/- Plain: what two segments have in common; the program's test of a polygon is the reference's. -/
import Derived.Test.YtafaojmkbbhjmaaC4
set_option linter.unusedVariables false
set_option linter.unusedSimpArgs false
namespace Go.Proofs
open Go.RowKit Go.Proofs.Mp

/-- a point's place in the order by X, then Y -/
def keyP (p : Pt) : Int := p.1 * 8388608 + p.2
theorem keyP_lt {a b : Pt} (ha : Nr a) (hb : Nr b) : befB a b = true ↔ keyP a < keyP b := by
  obtain ⟨a1, a2⟩ := a
  obtain ⟨b1, b2⟩ := b
  unfold Nr at ha hb
  unfold befB keyP
  rw [decide_eq_true_eq]
  dsimp only at *
  omega
theorem keyP_eq {a b : Pt} (ha : Nr a) (hb : Nr b) : a = b ↔ keyP a = keyP b := by
  obtain ⟨a1, a2⟩ := a
  obtain ⟨b1, b2⟩ := b
  unfold Nr at ha hb
  unfold keyP
  rw [Prod.mk.injEq]
  dsimp only at *
  omega
theorem mul_nonneg_of {u t : Int} (hu : 0 < u) (h : 0 ≤ u * t) : 0 ≤ t := by
  rcases Int.lt_or_le t 0 with g | g
  · have := Int.mul_neg_of_pos_of_neg hu g; omega
  · exact g
theorem line_mid {u v s t : Int} (hu : 0 < u) (h : u * t = v * s) (h0 : 0 ≤ s) (h1 : s ≤ u) : (0 ≤ v → 0 ≤ t ∧ t ≤ v) ∧ (v ≤ 0 → v ≤ t ∧ t ≤ 0) := by
  have e : u * (v - t) = v * (u - s) := by grind
  constructor
  · intro hv
    refine ⟨mul_nonneg_of hu (by rw [h]; exact Int.mul_nonneg hv h0), ?_⟩
    have := mul_nonneg_of (t := v - t) hu (by rw [e]; exact Int.mul_nonneg hv (by omega))
    omega
  · intro hv
    have e2 : u * (-t) = (-v) * s := by grind
    have e3 : u * (t - v) = (-v) * (u - s) := by grind
    have h2 := mul_nonneg_of (t := -t) hu (by rw [e2]; exact Int.mul_nonneg (by omega) h0)
    have h3 := mul_nonneg_of (t := t - v) hu (by rw [e3]; exact Int.mul_nonneg (by omega) (by omega))
    omega
theorem line_end {u v s t : Int} (hu : u ≠ 0) (h : u * t = v * s) : (s = 0 → t = 0) ∧ (s = u → t = v) := by
  constructor
  · intro hs
    subst hs
    rw [Int.mul_zero] at h
    rcases Int.mul_eq_zero.1 h with h | h
    · exact absurd h hu
    · exact h
  · intro hs
    subst hs
    rw [Int.mul_comm v s] at h
    exact Int.eq_of_mul_eq_mul_left hu h
theorem on_key {x y p : Pt} (hx : Nr x) (hy : Nr y) (hp : Nr p) (hne : x ≠ y) (h : tw x y p = 0) :
    inBx x y p ↔ (keyP x ≤ keyP p ∧ keyP p ≤ keyP y) ∨ (keyP y ≤ keyP p ∧ keyP p ≤ keyP x) := by
  obtain ⟨x1, x2⟩ := x
  obtain ⟨y1, y2⟩ := y
  obtain ⟨p1, p2⟩ := p
  unfold Nr at hx hy hp
  unfold tw at h
  unfold inBx keyP
  rw [Ne, Prod.mk.injEq] at hne
  dsimp only at *
  have h' : (y1 - x1) * (p2 - x2) = (y2 - x2) * (p1 - x1) := by omega
  obtain ⟨u, hu⟩ : ∃ u, y1 - x1 = u := ⟨_, rfl⟩
  obtain ⟨v, hv⟩ : ∃ v, y2 - x2 = v := ⟨_, rfl⟩
  obtain ⟨s, hs⟩ : ∃ s, p1 - x1 = s := ⟨_, rfl⟩
  obtain ⟨t, ht⟩ : ∃ t, p2 - x2 = t := ⟨_, rfl⟩
  rw [hu, hv, hs, ht] at h'
  rcases Int.lt_trichotomy u 0 with hu0 | hu0 | hu0
  · have e := line_end (by omega : u ≠ 0) h'
    have m : 0 ≤ -s → -s ≤ -u → _ := fun a b => line_mid (u := -u) (v := -v) (s := -s) (t := -t) (by omega) (by grind) a b
    by_cases c1 : s ≤ 0
    · by_cases c2 : u ≤ s
      · have := m (by omega) (by omega)
        omega
      · omega
    · omega
  · have hv0 : v ≠ 0 := by omega
    subst hu0
    rw [Int.zero_mul] at h'
    have hs0 : s = 0 := by
      rcases Int.mul_eq_zero.1 h'.symm with g | g
      · exact absurd g hv0
      · exact g
    omega
  · have e := line_end (by omega : u ≠ 0) h'
    by_cases c1 : 0 ≤ s
    · by_cases c2 : s ≤ u
      · have := line_mid hu0 h' c1 c2
        omega
      · omega
    · omega
/-- two points of a line -/
theorem line_two {a b c d : Pt} (hab : a ≠ b) (h1 : tw a b c = 0) (h2 : tw a b d = 0) : tw c d a = 0 ∧ tw c d b = 0 := by
  obtain ⟨a1, a2⟩ := a
  obtain ⟨b1, b2⟩ := b
  obtain ⟨c1, c2⟩ := c
  obtain ⟨d1, d2⟩ := d
  unfold tw at *
  rw [Ne, Prod.mk.injEq] at hab
  dsimp only at *
  have k : (c1 - a1) * (d2 - a2) - (c2 - a2) * (d1 - a1) = 0 := by
    have e1 : (b1 - a1) * ((c1 - a1) * (d2 - a2) - (c2 - a2) * (d1 - a1)) = 0 := by grind
    have e2 : (b2 - a2) * ((c1 - a1) * (d2 - a2) - (c2 - a2) * (d1 - a1)) = 0 := by grind
    rcases Int.mul_eq_zero.1 e1 with g | g
    · rcases Int.mul_eq_zero.1 e2 with g2 | g2
      · omega
      · exact g2
    · exact g
  constructor
  · grind
  · grind
theorem mul_nonpos_iff {x y : Int} : x * y ≤ 0 ↔ (x ≤ 0 ∧ 0 ≤ y) ∨ (0 ≤ x ∧ y ≤ 0) := by
  constructor
  · intro h
    rcases Int.lt_trichotomy x 0 with hx | hx | hx
    · rcases Int.lt_or_le y 0 with hy | hy
      · have := Int.mul_pos_of_neg_of_neg hx hy; omega
      · omega
    · omega
    · rcases Int.lt_or_le 0 y with hy | hy
      · have := Int.mul_pos hx hy; omega
      · omega
  · rintro (⟨h1, h2⟩ | ⟨h1, h2⟩)
    · have := Int.mul_nonneg (show 0 ≤ -x by omega) h2
      rw [Int.neg_mul] at this
      omega
    · have := Int.mul_nonneg h1 (show 0 ≤ -y by omega)
      rw [Int.mul_neg] at this
      omega
theorem sq_nonneg (x : Int) : 0 ≤ x * x := by
  rcases Int.lt_or_le x 0 with h | h
  · exact Int.le_of_lt (Int.mul_pos_of_neg_of_neg h h)
  · exact Int.mul_nonneg h h
/-- q u = p v, and what it tells of the products -/
theorem ratio_pos {p q u v : Int} (h : p * v = q * u) (hpq : 0 < p * q) (huv : u * v ≤ 0) : u = 0 ∧ v = 0 := by
  have hq : q ≠ 0 := by rintro rfl; simp at hpq
  have hp : p ≠ 0 := by rintro rfl; simp at hpq
  have e : (p * q) * (u * v) = (q * u) * (q * u) := by grind
  have h1 := sq_nonneg (q * u)
  have h2 : (p * q) * (u * v) ≤ 0 := mul_nonpos_iff.2 (.inr ⟨by omega, huv⟩)
  have h3 : (q * u) * (q * u) = 0 := by omega
  have h4 : q * u = 0 := by rcases Int.mul_eq_zero.1 h3 with g | g <;> exact g
  have h5 : u = 0 := by
    rcases Int.mul_eq_zero.1 h4 with g | g
    · exact absurd g hq
    · exact g
  refine ⟨h5, ?_⟩
  rw [h4] at h
  rcases Int.mul_eq_zero.1 h with g | g
  · exact absurd g hp
  · exact g
theorem ratio_neg {p q u v : Int} (h : p * v = q * u) (hpq : p * q ≤ 0) (hne : ¬ (p = 0 ∧ q = 0)) : u * v ≤ 0 := by
  rcases Int.lt_trichotomy (p * q) 0 with g | g | g
  · have e : (p * q) * (u * v) = (q * u) * (q * u) := by grind
    have h1 := sq_nonneg (q * u)
    rcases Int.lt_or_le 0 (u * v) with k | k
    · have := Int.mul_neg_of_neg_of_pos g k
      omega
    · exact k
  · rcases Int.mul_eq_zero.1 g with g | g
    · subst g
      have hq : q ≠ 0 := fun e => hne ⟨rfl, e⟩
      rw [Int.zero_mul] at h
      rcases Int.mul_eq_zero.1 h.symm with k | k
      · exact absurd k hq
      · subst k; simp
    · subst g
      have hp : p ≠ 0 := fun e => hne ⟨e, rfl⟩
      rw [Int.zero_mul] at h
      rcases Int.mul_eq_zero.1 h with k | k
      · exact absurd k hp
      · subst k; simp
  · omega
/-- c on the line through a and b, d not on it: c lies between a and b exactly if the line through c and d parts them -/
theorem between_iff {a b c d : Pt} (hab : a ≠ b) (h1 : tw a b c = 0) (h2 : tw a b d ≠ 0) : inBx a b c ↔ tw c d a * tw c d b ≤ 0 := by
  obtain ⟨a1, a2⟩ := a
  obtain ⟨b1, b2⟩ := b
  obtain ⟨c1, c2⟩ := c
  obtain ⟨d1, d2⟩ := d
  rw [Ne, Prod.mk.injEq] at hab
  unfold tw at *
  unfold inBx
  dsimp only at *
  obtain ⟨p, hp⟩ : ∃ p, (d1 - c1) * (a2 - c2) - (d2 - c2) * (a1 - c1) = p := ⟨_, rfl⟩
  obtain ⟨q, hq⟩ : ∃ q, (d1 - c1) * (b2 - c2) - (d2 - c2) * (b1 - c1) = q := ⟨_, rfl⟩
  have e1 : p * (b1 - c1) = q * (a1 - c1) := by rw [← hp, ← hq]; grind
  have e2 : p * (b2 - c2) = q * (a2 - c2) := by rw [← hp, ← hq]; grind
  have e3 : ¬ (p = 0 ∧ q = 0) := by
    rintro ⟨g1, g2⟩
    apply h2
    rw [← hp] at g1
    rw [← hq] at g2
    grind
  rw [hp, hq]
  clear hp hq h1 h2
  have m1 := @mul_nonpos_iff (a1 - c1) (b1 - c1)
  have m2 := @mul_nonpos_iff (a2 - c2) (b2 - c2)
  constructor
  · intro h
    rcases Int.lt_or_le 0 (p * q) with g | g
    · have k1 := ratio_pos e1 g (m1.2 (by omega))
      have k2 := ratio_pos e2 g (m2.2 (by omega))
      omega
    · exact g
  · intro h
    have k1 := m1.1 (ratio_neg e1 h e3)
    have k2 := m2.1 (ratio_neg e2 h e3)
    omega
theorem sg_mul (x y : Int) : (sg x * sg y ≤ 0 ↔ x * y ≤ 0) ∧ (sg x * sg y < 0 ↔ x * y < 0) := by
  rcases sg_cases x with ⟨hx, h1⟩ | ⟨hx, h1⟩ | ⟨hx, h1⟩ <;> rcases sg_cases y with ⟨hy, h2⟩ | ⟨hy, h2⟩ | ⟨hy, h2⟩ <;> rw [h1, h2]
  · have := Int.mul_pos hx hy; omega
  · have := Int.mul_neg_of_pos_of_neg hx hy; omega
  · subst hy; simp
  · have := Int.mul_neg_of_neg_of_pos hx hy; omega
  · have := Int.mul_pos_of_neg_of_neg hx hy; omega
  · subst hy; simp
  · subst hx; simp
  · subst hx; simp
  · subst hx; simp
theorem sd_zero (a b c : Pt) : sd a b c = 0 ↔ tw a b c = 0 := by
  unfold sd
  have := sg_cases (tw a b c)
  omega
theorem onB_iff {a b p : Pt} : onB a b p = true ↔ tw a b p = 0 ∧ inBx a b p := by unfold onB; rw [decide_eq_true_eq]
theorem shared_key {a b c d : Pt} (ha : Nr a) (hb : Nr b) (hc : Nr c) (hd : Nr d) :
    sharedN a b c d = if max (min (keyP a) (keyP b)) (min (keyP c) (keyP d)) = min (max (keyP a) (keyP b)) (max (keyP c) (keyP d)) then 1
      else if max (min (keyP a) (keyP b)) (min (keyP c) (keyP d)) < min (max (keyP a) (keyP b)) (max (keyP c) (keyP d)) then 2 else 0 := by
  have L := @keyP_lt
  have hx : ∃ x1 x2, sortP a b = (x1, x2) ∧ keyP x1 = min (keyP a) (keyP b) ∧ keyP x2 = max (keyP a) (keyP b) ∧ Nr x1 ∧ Nr x2 := by
    unfold sortP
    split
    · rename_i h; have := (L hb ha).1 h; exact ⟨b, a, rfl, by omega, by omega, hb, ha⟩
    · rename_i h; have : ¬ keyP b < keyP a := fun g => h ((L hb ha).2 g)
      exact ⟨a, b, rfl, by omega, by omega, ha, hb⟩
  have hy : ∃ y1 y2, sortP c d = (y1, y2) ∧ keyP y1 = min (keyP c) (keyP d) ∧ keyP y2 = max (keyP c) (keyP d) ∧ Nr y1 ∧ Nr y2 := by
    unfold sortP
    split
    · rename_i h; have := (L hd hc).1 h; exact ⟨d, c, rfl, by omega, by omega, hd, hc⟩
    · rename_i h; have : ¬ keyP d < keyP c := fun g => h ((L hd hc).2 g)
      exact ⟨c, d, rfl, by omega, by omega, hc, hd⟩
  obtain ⟨x1, x2, ex, kx1, kx2, nx1, nx2⟩ := hx
  obtain ⟨y1, y2, ey, ky1, ky2, ny1, ny2⟩ := hy
  unfold sharedN
  rw [ex, ey]
  dsimp only
  have hf : ∃ f, (if befB x1 y1 = true then y1 else x1) = f ∧ keyP f = max (keyP x1) (keyP y1) ∧ Nr f := by
    split
    · rename_i h; have := (L nx1 ny1).1 h; exact ⟨y1, rfl, by omega, ny1⟩
    · rename_i h; have : ¬ keyP x1 < keyP y1 := fun g => h ((L nx1 ny1).2 g)
      exact ⟨x1, rfl, by omega, nx1⟩
  have hl : ∃ f, (if befB y2 x2 = true then y2 else x2) = f ∧ keyP f = min (keyP x2) (keyP y2) ∧ Nr f := by
    split
    · rename_i h; have := (L ny2 nx2).1 h; exact ⟨y2, rfl, by omega, ny2⟩
    · rename_i h; have : ¬ keyP y2 < keyP x2 := fun g => h ((L ny2 nx2).2 g)
      exact ⟨x2, rfl, by omega, nx2⟩
  obtain ⟨f, ef, kf, nf⟩ := hf
  obtain ⟨g, eg, kg, ng⟩ := hl
  rw [ef, eg]
  rw [kx1, ky1] at kf
  rw [kx2, ky2] at kg
  rw [← kf, ← kg]
  by_cases h1 : f = g
  · rw [if_pos h1, if_pos ((keyP_eq nf ng).1 h1)]
  · rw [if_neg h1, if_neg (fun h => h1 ((keyP_eq nf ng).2 h))]
    by_cases h2 : befB f g = true
    · rw [if_pos h2, if_pos ((L nf ng).1 h2)]
    · rw [if_neg h2, if_neg (fun h => h2 ((L nf ng).2 h))]
theorem meet_gen {a b c d : Pt} (hab : a ≠ b) (hcd : c ≠ d) (hcol : ¬ (tw a b c = 0 ∧ tw a b d = 0)) :
    meetN a b c d = b2i (decide (tw a b c * tw a b d ≤ 0) && decide (tw c d a * tw c d b ≤ 0)) := by
  unfold meetN
  rw [if_neg hab, if_neg hcd, if_neg (by rw [sd_zero, sd_zero]; exact hcol)]
  unfold sd
  rw [decide_eq_decide.2 (sg_mul _ _).1, decide_eq_decide.2 (sg_mul _ _).1]
theorem meet_col {a b c d : Pt} (hab : a ≠ b) (hcd : c ≠ d) (h1 : tw a b c = 0) (h2 : tw a b d = 0) : meetN a b c d = sharedN a b c d := by
  unfold meetN
  rw [if_neg hab, if_neg hcd, if_pos (by rw [sd_zero, sd_zero]; exact ⟨h1, h2⟩)]
/-- a common point, said of the four places -/
theorem meet_touch {a b c d : Pt} (ha : Nr a) (hb : Nr b) (hc : Nr c) (hd : Nr d) (hab : a ≠ b) (hcd : c ≠ d) : meetN a b c d = 0 ↔ touchB a b c d = false := by
  by_cases hcol : tw a b c = 0 ∧ tw a b d = 0
  · obtain ⟨h1, h2⟩ := hcol
    obtain ⟨h3, h4⟩ := line_two hab h1 h2
    rw [meet_col hab hcd h1 h2, shared_key ha hb hc hd]
    have k1 := on_key ha hb hc hab h1
    have k2 := on_key ha hb hd hab h2
    have k3 := on_key hc hd ha hcd h3
    have k4 := on_key hc hd hb hcd h4
    have kab : keyP a ≠ keyP b := fun h => hab ((keyP_eq ha hb).2 h)
    have kcd : keyP c ≠ keyP d := fun h => hcd ((keyP_eq hc hd).2 h)
    have ht : touchB a b c d = false ↔ ¬ inBx a b c ∧ ¬ inBx a b d ∧ ¬ inBx c d a ∧ ¬ inBx c d b := by
      unfold touchB
      have z : sd a b c = 0 := (sd_zero _ _ _).2 h1
      rw [z]
      simp only [onB, h1, h2, h3, h4, true_and, Int.zero_mul, Int.lt_irrefl, decide_false, Bool.false_and, Bool.or_false, Bool.or_eq_false_iff, decide_eq_false_iff_not]
      constructor
      · rintro ⟨⟨⟨g1, g2⟩, g3⟩, g4⟩; exact ⟨g1, g2, g3, g4⟩
      · rintro ⟨g1, g2, g3, g4⟩; exact ⟨⟨⟨g1, g2⟩, g3⟩, g4⟩
    rw [ht, k1, k2, k3, k4]
    generalize keyP a = ka at *
    generalize keyP b = kb at *
    generalize keyP c = kc at *
    generalize keyP d = kd at *
    clear k1 k2 k3 k4 ht h1 h2 h3 h4
    split
    · constructor
      · intro h; omega
      · intro h; omega
    · split
      · constructor
        · intro h; omega
        · intro h; omega
      · constructor
        · intro _; omega
        · intro _; rfl
  · have hcol2 : ¬ (tw c d a = 0 ∧ tw c d b = 0) := fun h => hcol (line_two hcd h.1 h.2)
    rw [meet_gen hab hcd hcol]
    have n1 : tw a b c = 0 → (inBx a b c ↔ tw c d a * tw c d b ≤ 0) := fun h => between_iff hab h (fun h' => hcol ⟨h, h'⟩)
    have n2 : tw a b d = 0 → (inBx a b d ↔ tw c d a * tw c d b ≤ 0) := fun h => by
      have e1 : tw d c a = -tw c d a := by unfold tw; grind
      have e2 : tw d c b = -tw c d b := by unfold tw; grind
      have := between_iff (c := d) (d := c) hab h (fun h' => hcol ⟨h', h⟩)
      rw [e1, e2, Int.neg_mul_neg] at this
      exact this
    have n3 : tw c d a = 0 → (inBx c d a ↔ tw a b c * tw a b d ≤ 0) := fun h => between_iff hcd h (fun h' => hcol2 ⟨h, h'⟩)
    have n4 : tw c d b = 0 → (inBx c d b ↔ tw a b c * tw a b d ≤ 0) := fun h => by
      have e1 : tw b a c = -tw a b c := by unfold tw; grind
      have e2 : tw b a d = -tw a b d := by unfold tw; grind
      have := between_iff (c := b) (d := a) hcd h (fun h' => hcol2 ⟨h', h⟩)
      rw [e1, e2, Int.neg_mul_neg] at this
      exact this
    have m1 := (sg_mul (tw a b c) (tw a b d)).2
    have m2 := (sg_mul (tw c d a) (tw c d b)).2
    have z1 : tw a b c * tw a b d = 0 ↔ tw a b c = 0 ∨ tw a b d = 0 := Int.mul_eq_zero
    have z2 : tw c d a * tw c d b = 0 ↔ tw c d a = 0 ∨ tw c d b = 0 := Int.mul_eq_zero
    have hb : ∀ x : Bool, b2i x = 0 ↔ x = false := by intro x; cases x <;> decide
    have ht : touchB a b c d = false ↔ ¬ (tw a b c = 0 ∧ inBx a b c) ∧ ¬ (tw a b d = 0 ∧ inBx a b d) ∧ ¬ (tw c d a = 0 ∧ inBx c d a) ∧ ¬ (tw c d b = 0 ∧ inBx c d b) ∧ ¬ (tw a b c * tw a b d < 0 ∧ tw c d a * tw c d b < 0) := by
      have d1 : decide (sg (tw a b c) * sg (tw a b d) < 0) = decide (tw a b c * tw a b d < 0) := decide_eq_decide.2 m1
      have d2 : decide (sg (tw c d a) * sg (tw c d b) < 0) = decide (tw c d a * tw c d b < 0) := decide_eq_decide.2 m2
      unfold touchB onB sd
      rw [d1, d2]
      simp only [Bool.or_eq_false_iff, decide_eq_false_iff_not, Bool.and_eq_false_iff, and_assoc]
      constructor
      · rintro ⟨g1, g2, g3, g4, g5⟩; exact ⟨g1, g2, g3, g4, by omega⟩
      · rintro ⟨g1, g2, g3, g4, g5⟩; exact ⟨g1, g2, g3, g4, by omega⟩
    rw [hb, ht, Bool.and_eq_false_iff, decide_eq_false_iff_not, decide_eq_false_iff_not]
    clear ht hb m1 m2 hab hcd
    generalize tw a b c = p1 at *
    generalize tw a b d = p2 at *
    generalize tw c d a = p3 at *
    generalize tw c d b = p4 at *
    generalize p1 * p2 = M at *
    generalize p3 * p4 = N at *
    generalize inBx a b c = I1 at *
    generalize inBx a b d = I2 at *
    generalize inBx c d a = I3 at *
    generalize inBx c d b = I4 at *
    constructor
    · intro h
      refine ⟨fun g => ?_, fun g => ?_, fun g => ?_, fun g => ?_, fun g => by omega⟩
      · have := (n1 g.1).1 g.2; omega
      · have := (n2 g.1).1 g.2; omega
      · have := (n3 g.1).1 g.2; omega
      · have := (n4 g.1).1 g.2; omega
    · rintro ⟨g1, g2, g3, g4, g5⟩
      rcases Int.lt_trichotomy M 0 with hM | hM | hM
      · right
        intro hN
        rcases Int.lt_or_le N 0 with k | k
        · omega
        · rcases z2.1 (by omega) with q | q
          · exact g3 ⟨q, (n3 q).2 (by omega)⟩
          · exact g4 ⟨q, (n4 q).2 (by omega)⟩
      · right
        intro hN
        rcases z1.1 hM with q | q
        · exact g1 ⟨q, (n1 q).2 hN⟩
        · exact g2 ⟨q, (n2 q).2 hN⟩
      · left; omega
theorem tw_self (a b : Pt) : tw a b b = 0 ∧ tw a b a = 0 := by
  unfold tw
  constructor
  · rw [Int.mul_comm]; omega
  · simp
/-- successive edges: nothing in common but their common end -/
theorem meet_next {a b d : Pt} (ha : Nr a) (hb : Nr b) (hd : Nr d) (hab : a ≠ b) (hbd : b ≠ d) : meetN a b b d = 1 ↔ onB a b d = false ∧ onB b d a = false := by
  have e : tw b d a = tw a b d := by unfold tw; grind
  by_cases h : tw a b d = 0
  · rw [meet_col hab hbd (tw_self a b).1 h, shared_key ha hb hb hd]
    have k1 := on_key ha hb hd hab h
    have k2 := on_key hb hd ha hbd (by rw [e]; exact h)
    have kab : keyP a ≠ keyP b := fun g => hab ((keyP_eq ha hb).2 g)
    have kbd : keyP b ≠ keyP d := fun g => hbd ((keyP_eq hb hd).2 g)
    have o1 : onB a b d = false ↔ ¬ inBx a b d := by unfold onB; rw [decide_eq_false_iff_not]; simp [h]
    have o2 : onB b d a = false ↔ ¬ inBx b d a := by unfold onB; rw [decide_eq_false_iff_not]; simp [e, h]
    rw [o1, o2, k1, k2]
    generalize keyP a = ka at *
    generalize keyP b = kb at *
    generalize keyP d = kd at *
    clear k1 k2 o1 o2
    split
    · constructor
      · intro _; omega
      · intro _; rfl
    · split
      · constructor
        · intro h; omega
        · intro h; omega
      · constructor
        · intro h; omega
        · intro h; omega
  · rw [meet_gen hab hbd (fun g => h g.2), (tw_self a b).1, (tw_self b d).2]
    have o1 : onB a b d = false := by unfold onB; rw [decide_eq_false_iff_not]; exact fun g => h g.1
    have o2 : onB b d a = false := by unfold onB; rw [decide_eq_false_iff_not]; exact fun g => h (e ▸ g.1)
    simp [o1, o2, b2i]
/-- the first and the last edge -/
theorem meet_last {a b c : Pt} (ha : Nr a) (hb : Nr b) (hc : Nr c) (hab : a ≠ b) (hca : c ≠ a) : meetN a b c a = 1 ↔ onB c a b = false ∧ onB a b c = false := by
  have e : tw c a b = tw a b c := by unfold tw; grind
  by_cases h : tw a b c = 0
  · rw [meet_col hab hca h (tw_self a b).2, shared_key ha hb hc ha]
    have k1 := on_key hc ha hb hca (by rw [e]; exact h)
    have k2 := on_key ha hb hc hab h
    have kab : keyP a ≠ keyP b := fun g => hab ((keyP_eq ha hb).2 g)
    have kca : keyP c ≠ keyP a := fun g => hca ((keyP_eq hc ha).2 g)
    have o1 : onB c a b = false ↔ ¬ inBx c a b := by unfold onB; rw [decide_eq_false_iff_not]; simp [e, h]
    have o2 : onB a b c = false ↔ ¬ inBx a b c := by unfold onB; rw [decide_eq_false_iff_not]; simp [h]
    rw [o1, o2, k1, k2]
    generalize keyP a = ka at *
    generalize keyP b = kb at *
    generalize keyP c = kc at *
    clear k1 k2 o1 o2
    split
    · constructor
      · intro _; omega
      · intro _; rfl
    · split
      · constructor
        · intro h; omega
        · intro h; omega
      · constructor
        · intro h; omega
        · intro h; omega
  · rw [meet_gen hab hca (fun g => h g.1), (tw_self a b).2, (tw_self c a).1]
    have o1 : onB c a b = false := by unfold onB; rw [decide_eq_false_iff_not]; exact fun g => h (e ▸ g.1)
    have o2 : onB a b c = false := by unfold onB; rw [decide_eq_false_iff_not]; exact fun g => h g.1
    simp [o1, o2, b2i]
theorem nx_next {n i : Nat} (h : i + 1 < n) : nx n i = i + 1 := Nat.mod_eq_of_lt h
theorem nx_last {n i : Nat} (h : i + 1 = n) : nx n i = 0 := by unfold nx; rw [h]; exact Nat.mod_self n
theorem touch_symm {a b c d : Pt} : touchB a b c d = touchB c d a b := by
  unfold touchB
  generalize onB a b c = A
  generalize onB a b d = B
  generalize onB c d a = C
  generalize onB c d b = D
  generalize decide (sd a b c * sd a b d < 0) = E
  generalize decide (sd c d a * sd c d b < 0) = F
  cases A <;> cases B <;> cases C <;> cases D <;> cases E <;> cases F <;> rfl
/-- one pair of edges, under different points: the program's test is the reference's -/
theorem ok_apart {l : List Pt} (hv : allVp l) (hn : 3 ≤ l.length) (hd : ∀ x y, x < l.length → y < l.length → x ≠ y → l[x]! ≠ l[y]!) {i j : Nat} (hij : i < j) (hj : j < l.length) :
    (meetN l[i]! (edE l i) l[j]! (edE l j) = comN l.length i j) ↔ apartB l j i = true := by
  have hi : i < l.length := by omega
  have va := (hv i hi).nr
  have vb := (edE_vp hv hi).nr
  have vc := (hv j hj).nr
  have vd := (edE_vp hv hj).nr
  have hni : nx l.length i = i + 1 := nx_next (by omega)
  have e1 : edE l i = l[i + 1]! := by unfold edE; rw [hni]
  have hab : l[i]! ≠ edE l i := by rw [e1]; exact hd _ _ hi (by omega) (by omega)
  rcases Nat.lt_or_ge (j + 1) l.length with hj1 | hj1
  · have e2 : edE l j = l[j + 1]! := by unfold edE; rw [nx_next hj1]
    have hcd : l[j]! ≠ edE l j := by rw [e2]; exact hd _ _ hj hj1 (by omega)
    have hda : edE l j ≠ l[i]! := by rw [e2]; exact hd _ _ hj1 hi (by omega)
    unfold apartB
    rw [if_neg hda]
    rcases Nat.lt_or_ge (i + 1) j with h1 | h1
    · have hcom : comN l.length i j = 0 := by unfold comN; rw [if_neg (by omega)]
      have hbc : edE l i ≠ l[j]! := by rw [e1]; exact hd _ _ (by omega) hj (by omega)
      rw [if_neg hbc, hcom, touch_symm, Bool.not_eq_true']
      exact meet_touch va vb vc vd hab hcd
    · obtain rfl : j = i + 1 := by omega
      have hcom : comN l.length i (i + 1) = 1 := by unfold comN; rw [if_pos (.inl rfl)]
      rw [if_pos e1, hcom, Bool.and_eq_true, Bool.not_eq_true', Bool.not_eq_true']
      rw [← e1] at vc hcd ⊢
      rw [meet_next va vb vd hab hcd]
  · have hj2 : j + 1 = l.length := by omega
    have e2 : edE l j = l[0]! := by unfold edE; rw [nx_last hj2]
    have hcd : l[j]! ≠ edE l j := by rw [e2]; exact hd _ _ hj (by omega) (by omega)
    unfold apartB
    rcases Nat.eq_zero_or_pos i with h0 | h0
    · subst h0
      have hcom : comN l.length 0 j = 1 := by unfold comN; rw [if_pos (.inr ⟨rfl, hj2⟩)]
      rw [if_pos e2, hcom, Bool.and_eq_true, Bool.not_eq_true', Bool.not_eq_true']
      rw [e2] at hcd vd ⊢
      rw [meet_last va vb vc hab hcd]
    · have hda : edE l j ≠ l[i]! := by rw [e2]; exact hd _ _ (by omega) hi (by omega)
      rw [if_neg hda]
      rcases Nat.lt_or_ge (i + 1) j with h1 | h1
      · have hcom : comN l.length i j = 0 := by unfold comN; rw [if_neg (by omega)]
        have hbc : edE l i ≠ l[j]! := by rw [e1]; exact hd _ _ (by omega) hj (by omega)
        rw [if_neg hbc, hcom, touch_symm, Bool.not_eq_true']
        exact meet_touch va vb vc vd hab hcd
      · obtain rfl : j = i + 1 := by omega
        have hcom : comN l.length i (i + 1) = 1 := by unfold comN; rw [if_pos (.inl rfl)]
        rw [if_pos e1, hcom, Bool.and_eq_true, Bool.not_eq_true', Bool.not_eq_true']
        rw [← e1] at vc hcd ⊢
        rw [meet_next va vb vd hab hcd]
theorem distinct_of {l : List Pt} (h : ∀ j, j < l.length → ∀ i, i < j → l[i]! ≠ l[j]!) : ∀ x y, x < l.length → y < l.length → x ≠ y → l[x]! ≠ l[y]! := by
  intro x y hx hy hne
  rcases Nat.lt_or_ge x y with g | g
  · exact h y hy x g
  · exact (h x hx y (by omega)).symm
/-- the program's test of a polygon is the reference's -/
theorem simple_ref {l : List Pt} (hv : allVp l) (hn : 3 ≤ l.length) : simpleB l = true ↔ (pairsB (neP l) l.length = true ∧ pairsB (apP l) l.length = true) := by
  rw [simpleB_iff, pairsB_iff, pairsB_iff]
  constructor
  · intro h
    have hne : ∀ j, j < l.length → ∀ i, i < j → l[i]! ≠ l[j]! := by
      intro j hj i hi e
      have := h j hj i hi
      unfold okP at this
      rw [decide_eq_true e] at this
      cases this
    refine ⟨fun j hj i hi => ?_, fun j hj i hi => ?_⟩
    · unfold neP
      rw [decide_eq_false (hne j hj i hi).symm]
      rfl
    · have := h j hj i hi
      unfold okP at this
      rw [Bool.and_eq_true, decide_eq_true_eq] at this
      exact (ok_apart hv hn (distinct_of hne) hi hj).1 this.2
  · rintro ⟨h1, h2⟩ j hj i hi
    have hne : ∀ j, j < l.length → ∀ i, i < j → l[i]! ≠ l[j]! := by
      intro j hj i hi e
      have := h1 j hj i hi
      unfold neP at this
      rw [decide_eq_true e.symm] at this
      cases this
    unfold okP
    rw [decide_eq_false (hne j hj i hi), Bool.not_false, Bool.true_and, decide_eq_true_eq]
    exact (ok_apart hv hn (distinct_of hne) hi hj).2 (h2 j hj i hi)
theorem chk_ref (l : List Pt) : chkE l = rchkE l := by
  unfold chkE rchkE
  split
  · rename_i h
    have hv : allVp l ∧ 3 ≤ l.length := by
      rcases polyE_cases l with ⟨h', _⟩ | ⟨h', _⟩ | ⟨_, h1, h2, h3⟩
      · omega
      · omega
      · exact ⟨h3, h1⟩
    have hs := simple_ref hv.1 hv.2
    by_cases g1 : pairsB (neP l) l.length = true
    · rw [if_pos g1]
      by_cases g2 : pairsB (apP l) l.length = true
      · rw [if_pos g2, if_pos (hs.2 ⟨g1, g2⟩)]
      · rw [if_neg g2, if_neg (fun h => g2 (hs.1 h).2)]
    · rw [if_neg g1, if_neg (fun h => g1 (hs.1 h).1)]
  · rfl
end Go.Proofs
