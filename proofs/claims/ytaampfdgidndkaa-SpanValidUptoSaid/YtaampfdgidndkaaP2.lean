import Derived.Test.YtaampfdgidndkaaT6
set_option linter.unusedVariables false
set_option linter.unusedSimpArgs false
namespace Go.Proofs
open Go.RowKit Go.Proofs.Mp

def insU (n : Int) : List Int → List Int
  | [] => [n]
  | x :: xs => if n ≤ x then (if n < x then n :: x :: xs else x :: xs) else x :: insU n xs
def finU (n : Int) (s : List Int × Bool) : List Int := if s.2 then s.1 else s.1 ++ [n]
theorem fold_done (n : Int) : ∀ (l acc : List Int), l.foldl (withStep n) (acc, true) = (acc ++ l, true)
  | [], acc => by simp
  | x :: xs, acc => by
    rw [List.foldl_cons, show withStep n (acc, true) x = (acc ++ [x], true) from by simp [withStep], fold_done n xs]
    simp
theorem fold_ins (n : Int) : ∀ (l acc : List Int), finU n (l.foldl (withStep n) (acc, false)) = acc ++ insU n l
  | [], acc => by simp [finU, insU]
  | x :: xs, acc => by
    rw [List.foldl_cons]
    by_cases h : n ≤ x
    · by_cases h2 : n < x
      · rw [show withStep n (acc, false) x = (acc ++ [n] ++ [x], true) from by simp [withStep, h, h2], fold_done]
        simp [finU, insU, h, h2]
      · rw [show withStep n (acc, false) x = (acc ++ [x], true) from by simp [withStep, h, h2], fold_done]
        simp [finU, insU, h, h2]
    · rw [show withStep n (acc, false) x = (acc ++ [x], false) from by simp [withStep, h], fold_ins n xs]
      simp [insU, h]
theorem withL_eq (l : List Int) (n : Int) : withL l n = insU n l := by
  have h := fold_ins n l []
  unfold withL withSt
  rw [List.take_length]
  simpa [finU] using h
theorem insU_mem (n x : Int) : ∀ l : List Int, x ∈ insU n l ↔ x = n ∨ x ∈ l
  | [] => by simp [insU]
  | y :: ys => by
    simp only [insU]
    split
    · split
      · simp
      · have : n = y := by omega
        subst this; simp
    · rw [List.mem_cons, insU_mem n x ys, List.mem_cons]
      constructor
      · rintro (h | h | h) <;> simp [h]
      · rintro (h | h | h) <;> simp [h]
theorem insU_sorted (n : Int) : ∀ l : List Int, l.Pairwise (· < ·) → (insU n l).Pairwise (· < ·)
  | [], _ => by simp [insU]
  | y :: ys, h => by
    have h' := List.pairwise_cons.1 h
    simp only [insU]
    split
    · split
      · rename_i h1 h2
        exact List.pairwise_cons.2 ⟨fun z hz => by
          rcases List.mem_cons.1 hz with rfl | hz
          · exact h2
          · exact Int.lt_trans h2 (h'.1 z hz), h⟩
      · exact h
    · rename_i h1
      refine List.pairwise_cons.2 ⟨fun z hz => ?_, insU_sorted n ys h'.2⟩
      rcases (insU_mem n z ys).1 hz with rfl | hz
      · omega
      · exact h'.1 z hz

theorem bnd_spec : ∀ (zs : List (Int × Int)) (o : List Int), o.Pairwise (· < ·) → (zs.foldl bndStep o).Pairwise (· < ·) ∧ (∀ x ∈ o, x ∈ zs.foldl bndStep o) ∧ ∀ r ∈ zs, r.1 ∈ zs.foldl bndStep o ∧ r.2 ∈ zs.foldl bndStep o
  | [], o, h => ⟨h, fun x hx => hx, by simp⟩
  | z :: zs, o, h => by
    have e : bndStep o z = insU z.2 (insU z.1 o) := by unfold bndStep; rw [withL_eq, withL_eq]
    obtain ⟨h1, h2, h3⟩ := bnd_spec zs (bndStep o z) (by rw [e]; exact insU_sorted _ _ (insU_sorted _ _ h))
    simp only [List.foldl_cons]
    refine ⟨h1, fun x hx => h2 x (by rw [e, insU_mem, insU_mem]; simp [hx]), fun r hr => ?_⟩
    rcases List.mem_cons.1 hr with rfl | hr
    · exact ⟨h2 _ (by rw [e, insU_mem, insU_mem]; simp), h2 _ (by rw [e, insU_mem]; simp)⟩
    · exact h3 r hr
theorem bounds_spec (xs ys : List (Int × Int)) : (boundsL xs ys).Pairwise (· < ·) ∧ (∀ r ∈ xs, r.1 ∈ boundsL xs ys ∧ r.2 ∈ boundsL xs ys) ∧ ∀ r ∈ ys, r.1 ∈ boundsL xs ys ∧ r.2 ∈ boundsL xs ys := by
  obtain ⟨h1, h2, h3⟩ := bnd_spec xs [] List.Pairwise.nil
  obtain ⟨g1, g2, g3⟩ := bnd_spec ys (xs.foldl bndStep []) h1
  exact ⟨g1, fun r hr => ⟨g2 _ (h3 r hr).1, g2 _ (h3 r hr).2⟩, g3⟩

theorem sorted_get {l : List Int} (h : l.Pairwise (· < ·)) {i j : Nat} (hij : i < j) (hj : j < l.length) : l[i]! < l[j]! := by
  have := List.pairwise_iff_getElem.1 h i j (by omega) hj hij
  simpa [hj, show i < l.length by omega] using this
/-- no member lies strictly between two neighbours -/
theorem sorted_gap {l : List Int} (h : l.Pairwise (· < ·)) {k : Nat} (hk : k + 1 < l.length) {x : Int} (hx : x ∈ l) : x ≤ l[k]! ∨ l[k + 1]! ≤ x := by
  obtain ⟨i, hi, rfl⟩ := List.getElem_of_mem hx
  have e : l[i] = l[i]! := by simp [hi]
  rw [e]
  rcases Nat.lt_trichotomy i k with h1 | h1 | h1
  · left; exact Int.le_of_lt (sorted_get h h1 (by omega))
  · left; rw [h1]; exact Int.le_refl _
  · right
    rcases Nat.eq_or_lt_of_le (show k + 1 ≤ i from h1) with h2 | h2
    · rw [h2]; exact Int.le_refl _
    · exact Int.le_of_lt (sorted_get h h2 hi)

theorem has_const {zs : List (Int × Int)} {l : List Int} (h : l.Pairwise (· < ·)) (hm : ∀ r ∈ zs, r.1 ∈ l ∧ r.2 ∈ l) {k : Nat} (hk : k + 1 < l.length) {x : Int} (h1 : l[k]! ≤ x) (h2 : x < l[k + 1]!) : hasL zs x = hasL zs l[k]! := by
  rw [Bool.eq_iff_iff, hasL_iff, hasL_iff]
  constructor
  · rintro ⟨r, hr, g1, g2⟩
    have a1 := sorted_gap h hk (hm r hr).1
    have a2 := sorted_gap h hk (hm r hr).2
    exact ⟨r, hr, by omega, by omega⟩
  · rintro ⟨r, hr, g1, g2⟩
    have a1 := sorted_gap h hk (hm r hr).1
    have a2 := sorted_gap h hk (hm r hr).2
    exact ⟨r, hr, by omega, by omega⟩
theorem has_out {zs : List (Int × Int)} {l : List Int} (h : l.Pairwise (· < ·)) (hm : ∀ r ∈ zs, r.1 ∈ l ∧ r.2 ∈ l) {x : Int} (hx : hasL zs x = true) : 1 < l.length ∧ l[0]! ≤ x ∧ x < l[l.length - 1]! := by
  obtain ⟨r, hr, g1, g2⟩ := hasL_iff.1 hx
  obtain ⟨i, hi, ei⟩ := List.getElem_of_mem (hm r hr).1
  obtain ⟨j, hj, ej⟩ := List.getElem_of_mem (hm r hr).2
  have ei' : l[i]! = r.1 := by simp [hi, ei]
  have ej' : l[j]! = r.2 := by simp [hj, ej]
  have hij : i < j := by
    rcases Nat.lt_trichotomy i j with h1 | h1 | h1
    · exact h1
    · rw [h1] at ei'; omega
    · have := sorted_get h h1 hi; omega
  refine ⟨by omega, ?_, ?_⟩
  · rcases Nat.eq_zero_or_pos i with h0 | h0
    · rw [h0] at ei'; omega
    · have := sorted_get h h0 hi; omega
  · rcases Nat.eq_or_lt_of_le (show j ≤ l.length - 1 by omega) with h0 | h0
    · rw [← h0]; omega
    · have := sorted_get h h0 (by omega); omega

theorem joinR_spec {out : List (Int × Int)} {lo hi : Int} (hv : Vld out) (hlt : lo < hi) (hl : ∀ r ∈ out, r.2 ≤ lo) :
    Vld (joinR out lo hi) ∧ (∀ x, hasL (joinR out lo hi) x = (hasL out x || decide (lo ≤ x ∧ x < hi))) ∧ ∀ r ∈ joinR out lo hi, r.2 ≤ hi := by
  rcases List.eq_nil_or_concat out with rfl | ⟨ys, l, rfl⟩
  · rw [joinR_nil]
    exact ⟨Vld.mk_cons hlt Vld.nil (by simp), fun x => by simp [hasL, inR], by simp⟩
  · rw [List.concat_eq_append] at *
    rw [joinR_snoc]
    have hl0 := hl l (by simp)
    have hlv := hv.1 l (by simp)
    have hp := List.pairwise_append.1 hv.2
    split
    · rename_i he
      refine ⟨Vld.append hv.left (Vld.mk_cons (by dsimp only; omega) Vld.nil (by simp)) (fun o ho s hs => ?_), fun x => ?_, fun r hr => ?_⟩
      · rw [List.mem_singleton] at hs; subst hs
        exact hp.2.2 o ho l (by simp)
      · rw [hasL_last, hasL_last, Bool.or_assoc]
        congr 1
        rw [Bool.eq_iff_iff, Bool.or_eq_true, inR_iff, inR_iff, decide_eq_true_iff]
        dsimp only
        omega
      · rcases List.mem_append.1 hr with hr | hr
        · have := hl r (List.mem_append_left _ hr); omega
        · rw [List.mem_singleton] at hr; subst hr; exact Int.le_refl _
    · rename_i he
      refine ⟨Vld.append hv (Vld.mk_cons hlt Vld.nil (by simp)) (fun o ho s hs => ?_), fun x => ?_, fun r hr => ?_⟩
      · rw [List.mem_singleton] at hs; subst hs
        rcases List.mem_append.1 ho with ho | ho
        · have h1 := hp.2.2 o ho l (by simp)
          dsimp only
          omega
        · rw [List.mem_singleton] at ho; subst ho
          dsimp only
          omega
      · rw [hasL_last]
        congr 1
        rw [Bool.eq_iff_iff, inR_iff, decide_eq_true_iff]
      · rcases List.mem_append.1 hr with hr | hr
        · have := hl r hr; omega
        · rw [List.mem_singleton] at hr; subst hr; exact Int.le_refl _

theorem buildTo_spec (p : Int → Bool) (l : List Int) (h : l.Pairwise (· < ·)) (hp : ∀ k, k + 1 < l.length → ∀ x, l[k]! ≤ x → x < l[k + 1]! → p x = p l[k]!) :
    ∀ k, (k = 0 ∨ k < l.length) → Vld (buildTo p l k) ∧ (∀ x, hasL (buildTo p l k) x = (decide (l[0]! ≤ x ∧ x < l[k]!) && p x)) ∧ ∀ r ∈ buildTo p l k, r.2 ≤ l[k]!
  | 0, _ => ⟨Vld.nil, fun x => by
      have : decide (l[0]! ≤ x ∧ x < l[0]!) = false := by rw [decide_eq_false_iff_not]; omega
      rw [this]; rfl, by simp [buildTo]⟩
  | k + 1, hk => by
    have hk1 : k + 1 < l.length := by omega
    obtain ⟨h1, h2, h3⟩ := buildTo_spec p l h hp k (by omega)
    have hlt : l[k]! < l[k + 1]! := sorted_get h (Nat.lt_succ_self k) hk1
    have h0 : l[0]! ≤ l[k]! := by
      rcases Nat.eq_zero_or_pos k with e | e
      · rw [e]; exact Int.le_refl _
      · exact Int.le_of_lt (sorted_get h e (by omega))
    have key : ∀ x, (decide (l[0]! ≤ x ∧ x < l[k + 1]!) && p x) = ((decide (l[0]! ≤ x ∧ x < l[k]!) && p x) || (decide (l[k]! ≤ x ∧ x < l[k + 1]!) && p l[k]!)) := by
      intro x
      by_cases hx : l[k]! ≤ x ∧ x < l[k + 1]!
      · rw [hp k hk1 x hx.1 hx.2, decide_eq_true hx, decide_eq_true (show l[0]! ≤ x ∧ x < l[k + 1]! by omega), decide_eq_false (show ¬ (l[0]! ≤ x ∧ x < l[k]!) by omega)]
        simp
      · rw [decide_eq_false hx]
        by_cases hy : l[0]! ≤ x ∧ x < l[k]!
        · rw [decide_eq_true hy, decide_eq_true (show l[0]! ≤ x ∧ x < l[k + 1]! by omega)]; simp
        · rw [decide_eq_false hy, decide_eq_false (show ¬ (l[0]! ≤ x ∧ x < l[k + 1]!) by omega)]; simp
    simp only [buildTo]
    cases hpk : p l[k]! with
    | true =>
      simp only [if_true]
      obtain ⟨g1, g2, g3⟩ := joinR_spec (lo := l[k]!) (hi := l[k + 1]!) h1 hlt h3
      refine ⟨g1, fun x => ?_, g3⟩
      rw [g2, h2, key, hpk, Bool.and_true]
    | false =>
      simp only [Bool.false_eq_true, if_false]
      refine ⟨h1, fun x => ?_, fun r hr => by have := h3 r hr; omega⟩
      rw [h2, key, hpk, Bool.and_false, Bool.or_false]

theorem buildL_spec (xs ys : List (Int × Int)) (op : Int) : Vld (buildL xs ys op) ∧ ∀ x, hasL (buildL xs ys op) x = wantedL xs ys op x := by
  obtain ⟨h1, h2, h3⟩ := bounds_spec xs ys
  have hp : ∀ k, k + 1 < (boundsL xs ys).length → ∀ x, (boundsL xs ys)[k]! ≤ x → x < (boundsL xs ys)[k + 1]! → wantedL xs ys op x = wantedL xs ys op (boundsL xs ys)[k]! := by
    intro k hk x g1 g2
    unfold wantedL
    rw [has_const h1 h2 hk g1 g2, has_const h1 h3 hk g1 g2]
  obtain ⟨g1, g2, _⟩ := buildTo_spec (wantedL xs ys op) (boundsL xs ys) h1 hp ((boundsL xs ys).length - 1) (by omega)
  refine ⟨g1, fun x => ?_⟩
  unfold buildL
  rw [g2]
  cases hw : wantedL xs ys op x with
  | false => simp
  | true =>
    have hx : hasL xs x = true ∨ hasL ys x = true := by
      unfold wantedL at hw
      split at hw
      · simpa using hw
      · split at hw
        · rw [Bool.and_eq_true] at hw; exact .inl hw.1
        · rw [Bool.and_eq_true] at hw; exact .inl hw.1
    have hr : (boundsL xs ys)[0]! ≤ x ∧ x < (boundsL xs ys)[(boundsL xs ys).length - 1]! := by
      rcases hx with hx | hx
      · exact (has_out h1 h2 hx).2
      · exact (has_out h1 h3 hx).2
    rw [decide_eq_true hr]; rfl
theorem build_norm (xs : List (Int × Int)) : buildL xs [] 0 = normL xs :=
  Vld.unique (buildL_spec xs [] 0).1 (normL_vld xs) fun x => by
    rw [(buildL_spec xs [] 0).2, normL_has]
    simp [wantedL, hasL]

theorem validB_iff (zs : List (Int × Int)) : validB zs = true ↔ Vld zs := by
  unfold validB
  rw [List.all_eq_true]
  constructor
  · intro h
    have hk : ∀ k, k < zs.length → zs[k]!.1 < zs[k]!.2 ∧ (k = 0 ∨ zs[k - 1]!.2 < zs[k]!.1) := by
      intro k hk
      have := h k (List.mem_range.2 hk)
      unfold validAt at this
      simpa using this
    refine ⟨fun r hr => ?_, ?_⟩
    · obtain ⟨i, hi, rfl⟩ := List.getElem_of_mem hr
      have := (hk i hi).1
      simpa [hi] using this
    · have step : ∀ d i, i + d + 1 < zs.length → zs[i]!.2 < zs[i + d + 1]!.1 := by
        intro d
        induction d with
        | zero =>
          intro i hi
          rcases (hk (i + 1) hi).2 with h0 | h0
          · omega
          · simpa using h0
        | succ d ih =>
          intro i hi
          have h1 := ih i (by omega)
          have h2 := (hk (i + d + 1) (by omega)).1
          rcases (hk (i + d + 1 + 1) hi).2 with h0 | h0
          · omega
          · rw [Nat.add_sub_cancel] at h0
            rw [show i + (d + 1) + 1 = i + d + 1 + 1 from by omega]
            omega
      rw [List.pairwise_iff_getElem]
      intro i j hi hj hij
      have := step (j - i - 1) i (by omega)
      rw [show i + (j - i - 1) + 1 = j from by omega] at this
      simpa [hi, hj] using this
  · intro h k hk
    rw [List.mem_range] at hk
    unfold validAt
    have h1 := h.1 zs[k]! (by simp [hk])
    rcases Nat.eq_zero_or_pos k with h0 | h0
    · subst h0; rw [decide_eq_true h1]; rfl
    · have h2 := List.pairwise_iff_getElem.1 h.2 (k - 1) k (by omega) hk (by omega)
      have e1 : zs[k - 1]! = zs[k - 1] := by simp [show k - 1 < zs.length by omega]
      have e2 : zs[k]! = zs[k] := by simp [hk]
      rw [← e1, ← e2] at h2
      rw [decide_eq_true h1, decide_eq_true h2]; simp
theorem valid_norm (zs : List (Int × Int)) : validB zs = decide (zs = normL zs) := by
  rw [Bool.eq_iff_iff, validB_iff, decide_eq_true_iff]
  constructor
  · intro h; exact (normL_of_vld h).symm
  · intro h; rw [h]; exact normL_vld zs
end Go.Proofs
