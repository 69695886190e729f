/- Plain facts for the other span laws: lengths of differences, and totals as numbers of integers. No program is walked here. -/
import Derived.Test.YtaampfdgidndkaaT6
set_option linter.unusedVariables false
set_option linter.unusedSimpArgs false
namespace Go.Proofs
open Go.RowKit Go.Proofs.Mp

theorem dropB_len (lo : Int) : ∀ b : List (Int × Int), (dropB lo b).length ≤ b.length
  | [] => by simp [dropB]
  | s :: bs => by
    simp only [dropB]
    split
    · have := dropB_len lo bs; simp only [List.length_cons]; omega
    · simp
theorem minusF_len : ∀ (a b : List (Int × Int)), (minusF a b).length ≤ a.length * (b.length + 1)
  | [], b => by simp [minusF]
  | r :: rs, b => by
    simp only [minusF]
    have h1 := cutF_len (dropB r.1 b) r.1 r.2
    have h2 := dropB_len r.1 b
    have h3 := minusF_len rs (dropB r.1 b)
    have h4 : rs.length * ((dropB r.1 b).length + 1) ≤ rs.length * (b.length + 1) := Nat.mul_le_mul_left _ (by omega)
    simp only [List.length_append, List.length_cons, Nat.add_mul, Nat.one_mul]
    omega
theorem minusL_len (a b : List (Int × Int)) : (minusL a b).length ≤ a.length * (b.length + 1) := by
  unfold minusL
  exact Nat.le_trans (minusF_len _ _) (Nat.mul_le_mul (normL_len a) (Nat.succ_le_succ (normL_len b)))
theorem minusL_len' (a b : List (Int × Int)) {m n : Nat} (ha : a.length ≤ m) (hb : b.length ≤ n) : (minusL a b).length ≤ m * (n + 1) :=
  Nat.le_trans (minusL_len a b) (Nat.mul_le_mul ha (Nat.succ_le_succ hb))
theorem interL_len (a b : List (Int × Int)) : (interL a b).length ≤ a.length + b.length := by
  unfold interL
  have h1 := interF_len ((normL a).length + (normL b).length) (normL a) (normL b)
  have h2 := normL_len a
  have h3 := normL_len b
  omega

theorem has_norm_app (a b : List (Int × Int)) (x : Int) : hasL (normL (a ++ b)) x = (hasL a x || hasL b x) := by rw [normL_has, hasL_append]

/-- the same normal form: the same integers -/
theorem norm_eq_iff (a b : List (Int × Int)) : normL a = normL b ↔ ∀ x, hasL a x = hasL b x := by
  constructor
  · intro h x; rw [← normL_has a, h, normL_has]
  · intro h; exact Vld.unique (normL_vld a) (normL_vld b) fun x => by rw [normL_has, normL_has, h]
theorem minus_nil_iff (a b : List (Int × Int)) : minusL a b = [] ↔ ∀ x, hasL a x = true → hasL b x = true := by
  constructor
  · intro h x hx
    have e := minusL_has a b x
    rw [h, hx] at e
    simpa [hasL] using e
  · intro h
    refine Vld.unique (minusL_vld a b) Vld.nil fun x => ?_
    rw [minusL_has]
    cases hx : hasL a x
    · rfl
    · rw [h x hx]; rfl
/-- two lists have the same normal form exactly if both differences are empty -/
theorem unique_iff (a b : List (Int × Int)) : normL a = normL b ↔ minusL a b = [] ∧ minusL b a = [] := by
  rw [norm_eq_iff, minus_nil_iff, minus_nil_iff]
  constructor
  · intro h; exact ⟨fun x hx => by rw [← h]; exact hx, fun x hx => by rw [h]; exact hx⟩
  · intro ⟨h1, h2⟩ x
    cases hx : hasL a x
    · cases hy : hasL b x
      · rfl
      · have := h2 x hy; rw [hx] at this; exact this
    · exact (h1 x hx).symm

def bitI : Bool → Int
  | true => 1
  | false => 0
/-- how many of the n integers from lo on meet p -/
def cnt (p : Int → Bool) (lo : Int) : Nat → Int
  | 0 => 0
  | n + 1 => cnt p lo n + bitI (p (lo + n))
theorem cnt_congr {p q : Int → Bool} (lo : Int) (h : ∀ x, p x = q x) : ∀ n, cnt p lo n = cnt q lo n
  | 0 => rfl
  | n + 1 => by simp only [cnt, cnt_congr lo h n, h]
theorem cnt_or_and (p q : Int → Bool) (lo : Int) : ∀ n, cnt (fun x => p x || q x) lo n + cnt (fun x => p x && q x) lo n = cnt p lo n + cnt q lo n
  | 0 => rfl
  | n + 1 => by
    have h := cnt_or_and p q lo n
    simp only [cnt]
    generalize p (lo + n) = x
    generalize q (lo + n) = y
    cases x <;> cases y <;> simp [bitI] <;> omega
theorem cnt_sub (p q : Int → Bool) (lo : Int) : ∀ n, cnt (fun x => p x && !q x) lo n = cnt p lo n - cnt (fun x => p x && q x) lo n
  | 0 => rfl
  | n + 1 => by
    have h := cnt_sub p q lo n
    simp only [cnt]
    generalize p (lo + n) = x
    generalize q (lo + n) = y
    cases x <;> cases y <;> simp [bitI] <;> omega
theorem cnt_bounds (p : Int → Bool) (lo : Int) : ∀ n : Nat, 0 ≤ cnt p lo n ∧ cnt p lo n ≤ n
  | 0 => by simp [cnt]
  | n + 1 => by
    have h := cnt_bounds p lo n
    simp only [cnt]
    generalize p (lo + n) = x
    cases x <;> simp only [bitI] <;> constructor <;> omega
theorem cnt_none {p : Int → Bool} (lo : Int) (h : ∀ x, p x = false) : ∀ n, cnt p lo n = 0
  | 0 => rfl
  | n + 1 => by simp [cnt, cnt_none lo h n, h, bitI]
theorem cnt_range (r : Int × Int) (lo : Int) (h1 : lo ≤ r.1) (h2 : r.1 ≤ r.2) : ∀ n : Nat, cnt (inR · r) lo n = if lo + n ≤ r.1 then 0 else if lo + n ≤ r.2 then lo + n - r.1 else r.2 - r.1
  | 0 => by simp only [cnt]; rw [if_pos (by omega)]
  | n + 1 => by
    rw [cnt, cnt_range r lo h1 h2 n]
    have e : (inR (lo + n) r = true) ↔ r.1 ≤ lo + n ∧ lo + n < r.2 := inR_iff
    by_cases hb : r.1 ≤ lo + n ∧ lo + n < r.2
    · rw [e.2 hb]
      simp only [bitI]
      (repeat' split) <;> omega
    · rw [Bool.eq_false_iff.2 (fun h => hb (e.1 h))]
      simp only [bitI]
      (repeat' split) <;> omega

def widths (zs : List (Int × Int)) : Int := (zs.map fun r => r.2 - r.1).sum
theorem widths_cons (r : Int × Int) (zs : List (Int × Int)) : widths (r :: zs) = (r.2 - r.1) + widths zs := by simp [widths]
def Within (lo hi : Int) (zs : List (Int × Int)) : Prop := ∀ r ∈ zs, lo ≤ r.1 ∧ r.2 ≤ hi
theorem cnt_vld : ∀ (zs : List (Int × Int)) (lo : Int) (n : Nat), Vld zs → Within lo (lo + n) zs → cnt (hasL zs) lo n = widths zs
  | [], lo, n, _, _ => by rw [cnt_none (p := hasL []) lo (fun x => rfl)]; rfl
  | r :: zs, lo, n, hv, hw => by
    have h0 := hw r List.mem_cons_self
    have hh := hv.head
    have ih := cnt_vld zs lo n hv.tail fun s hs => hw s (List.mem_cons_of_mem _ hs)
    have e1 : cnt (hasL (r :: zs)) lo n = cnt (fun x => inR x r || hasL zs x) lo n := cnt_congr lo (fun x => hasL_cons r zs x) n
    have e2 := cnt_or_and (inR · r) (hasL zs) lo n
    have e3 : cnt (fun x => inR x r && hasL zs x) lo n = 0 := cnt_none lo (fun x => by
      cases ha : inR x r
      · rfl
      · cases hb : hasL zs x
        · rfl
        · have h1 := hv.tail_gt hb
          have h2 := inR_iff.1 ha
          omega) n
    have e4 := cnt_range r lo h0.1 (by omega) n
    have e5 : cnt (inR · r) lo n = r.2 - r.1 := by
      rw [e4, if_neg (by omega)]
      split <;> omega
    rw [e1, widths_cons]
    omega

theorem u64w (n : Int) : IntKind.u64.wrap n = n % 18446744073709551616 := by simp [IntKind.wrap, IntKind.signed, IntKind.bits]
theorem tot_fold : ∀ (zs : List (Int × Int)) (k : Int), 0 ≤ k → (∀ r ∈ zs, -1099511627776 ≤ r.1 ∧ r.1 < r.2 ∧ r.2 ≤ 1099511627776) → k + widths zs ≤ 9223372036854775807 → zs.foldl totStep k = k + widths zs ∧ 0 ≤ widths zs
  | [], k, h0, _, _ => by simp [widths]
  | r :: zs, k, h0, hr, hk => by
    obtain ⟨r1, r2, r3⟩ := hr r List.mem_cons_self
    have hz := fun s hs => hr s (List.mem_cons_of_mem _ hs)
    rw [widths_cons] at hk ⊢
    have hpos : ∀ l : List (Int × Int), (∀ s ∈ l, -1099511627776 ≤ s.1 ∧ s.1 < s.2 ∧ s.2 ≤ 1099511627776) → 0 ≤ widths l := by
      intro l
      induction l with
      | nil => intro _; simp [widths]
      | cons s l ih =>
        intro h
        have h1 := h s List.mem_cons_self
        have h2 := ih fun t ht => h t (List.mem_cons_of_mem _ ht)
        rw [widths_cons]; omega
    have hp := hpos zs hz
    have e : totStep k r = k + (r.2 - r.1) := by
      unfold totStep
      rw [u64w, u64w, u64w, u64w]
      omega
    rw [List.foldl_cons, e]
    obtain ⟨i1, i2⟩ := tot_fold zs (k + (r.2 - r.1)) (by omega) hz (by omega)
    exact ⟨by rw [i1]; omega, by omega⟩

theorem tot_cnt {zs : List (Int × Int)} {n : Nat} (hn : (n : Int) = 2199023255552) (hv : Vld zs) (hw : Within (-1099511627776) 1099511627776 zs) : totL zs = cnt (hasL zs) (-1099511627776) n := by
  have e0 : (-1099511627776 : Int) + (n : Int) = 1099511627776 := by omega
  have hc := cnt_vld zs (-1099511627776) n hv (by rw [e0]; exact hw)
  obtain ⟨hb1, hb2⟩ := cnt_bounds (hasL zs) (-1099511627776) n
  rw [hc] at hb1 hb2 ⊢
  obtain ⟨e, _⟩ := tot_fold zs 0 (Int.le_refl _) (fun r hr => ⟨(hw r hr).1, hv.1 r hr, (hw r hr).2⟩) (by omega)
  unfold totL bigM
  rw [e, Int.zero_add, if_neg (by omega)]
  exact IntWalk.wrap64_in _ (by omega)

theorem near_within {zs : List (Int × Int)} (h : nearB zs = true) {x : Int} (hx : hasL zs x = true) : -1099511627776 ≤ x ∧ x < 1099511627776 := by
  obtain ⟨r, hr, h1, h2⟩ := hasL_iff.1 hx
  obtain ⟨k, hk, rfl⟩ := List.mem_iff_getElem.1 hr
  have h3 := (List.all_eq_true.1 h) k (List.mem_range.2 hk)
  unfold nearAt at h3
  rw [decide_eq_true_iff, getElem!_pos zs k hk] at h3
  omega
theorem within_of {zs : List (Int × Int)} (hv : Vld zs) (h : ∀ x, hasL zs x = true → -1099511627776 ≤ x ∧ x < 1099511627776) : Within (-1099511627776) 1099511627776 zs := by
  intro r hr
  have hlt := hv.1 r hr
  have h1 := h r.1 (hasL_iff.2 ⟨r, hr, Int.le_refl _, hlt⟩)
  have h2 := h (r.2 - 1) (hasL_iff.2 ⟨r, hr, by omega, by omega⟩)
  omega

/-- the totals of the union, the intersection and the difference -/
theorem totals {a b : List (Int × Int)} (ha : nearB a = true) (hb : nearB b = true) :
    ∃ u i ta tb m : Int, totL (normL (normL (a ++ b))) = u ∧ totL (normL (interL a b)) = i ∧ totL (normL a) = ta ∧ totL (normL b) = tb ∧ totL (normL (minusL a b)) = m ∧
      u + i = ta + tb ∧ m = ta - i ∧ 0 ≤ u ∧ u ≤ 2199023255552 ∧ 0 ≤ i ∧ i ≤ 2199023255552 ∧ 0 ≤ ta ∧ ta ≤ 2199023255552 ∧ 0 ≤ tb ∧ tb ≤ 2199023255552 := by
  obtain ⟨n, hn⟩ : ∃ n : Nat, (n : Int) = 2199023255552 := ⟨2199023255552, rfl⟩
  have na := fun x => near_within (x := x) ha
  have nb := fun x => near_within (x := x) hb
  rw [normL_of_vld (normL_vld (a ++ b)), normL_of_vld (interL_vld a b), normL_of_vld (minusL_vld a b)]
  rw [tot_cnt hn (normL_vld (a ++ b)) (within_of (normL_vld _) fun x hx => by
      rw [has_norm_app, Bool.or_eq_true] at hx; rcases hx with hx | hx
      · exact na x hx
      · exact nb x hx)]
  rw [tot_cnt hn (interL_vld a b) (within_of (interL_vld _ _) fun x hx => by
      rw [interL_has, Bool.and_eq_true] at hx; exact na x hx.1)]
  rw [tot_cnt hn (minusL_vld a b) (within_of (minusL_vld _ _) fun x hx => by
      rw [minusL_has, Bool.and_eq_true] at hx; exact na x hx.1)]
  rw [tot_cnt hn (normL_vld a) (within_of (normL_vld _) fun x hx => by rw [normL_has] at hx; exact na x hx)]
  rw [tot_cnt hn (normL_vld b) (within_of (normL_vld _) fun x hx => by rw [normL_has] at hx; exact nb x hx)]
  rw [cnt_congr _ (has_norm_app a b), cnt_congr _ (interL_has a b), cnt_congr _ (minusL_has a b), cnt_congr _ (normL_has a), cnt_congr _ (normL_has b)]
  have q1 := cnt_or_and (hasL a) (hasL b) (-1099511627776) n
  have q2 := cnt_sub (hasL a) (hasL b) (-1099511627776) n
  have bd : ∀ p : Int → Bool, 0 ≤ cnt p (-1099511627776) n ∧ cnt p (-1099511627776) n ≤ 2199023255552 := fun p => by
    have := cnt_bounds p (-1099511627776) n
    omega
  exact ⟨_, _, _, _, _, rfl, rfl, rfl, rfl, rfl, q1, q2, (bd _).1, (bd _).2, (bd _).1, (bd _).2, (bd _).1, (bd _).2, (bd _).1, (bd _).2⟩
end Go.Proofs
