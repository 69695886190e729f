/- Plain facts about lists of ranges: the canonical form is unique; merging a sorted list gives it. No program is named here. -/
import Derived.RowKit
namespace Go.Proofs.Mp

def inR (x : Int) (r : Int × Int) : Bool := decide (r.1 ≤ x) && decide (x < r.2)
def hasL (zs : List (Int × Int)) (x : Int) : Bool := zs.any (inR x)
/-- valid: no range is empty, each begins behind the end of those before it -/
def Vld (zs : List (Int × Int)) : Prop := (∀ r ∈ zs, r.1 < r.2) ∧ zs.Pairwise fun r s => r.2 < s.1

theorem inR_iff {x : Int} {r : Int × Int} : inR x r = true ↔ r.1 ≤ x ∧ x < r.2 := by simp [inR]
theorem hasL_iff {zs : List (Int × Int)} {x : Int} : hasL zs x = true ↔ ∃ r ∈ zs, r.1 ≤ x ∧ x < r.2 := by simp [hasL, inR]
theorem hasL_cons (r : Int × Int) (zs : List (Int × Int)) (x : Int) : hasL (r :: zs) x = (inR x r || hasL zs x) := rfl
theorem hasL_append (a b : List (Int × Int)) (x : Int) : hasL (a ++ b) x = (hasL a x || hasL b x) := by simp [hasL]
theorem hasL_perm {a b : List (Int × Int)} (h : a.Perm b) (x : Int) : hasL a x = hasL b x := by
  rw [Bool.eq_iff_iff, hasL_iff, hasL_iff]
  constructor
  · rintro ⟨r, hr, h'⟩; exact ⟨r, h.mem_iff.1 hr, h'⟩
  · rintro ⟨r, hr, h'⟩; exact ⟨r, h.mem_iff.2 hr, h'⟩

theorem Vld.nil : Vld [] := ⟨by simp, List.Pairwise.nil⟩
theorem Vld.tail {r : Int × Int} {zs : List (Int × Int)} (h : Vld (r :: zs)) : Vld zs := ⟨fun s hs => h.1 s (List.mem_cons_of_mem _ hs), (List.pairwise_cons.1 h.2).2⟩
theorem Vld.head {r : Int × Int} {zs : List (Int × Int)} (h : Vld (r :: zs)) : r.1 < r.2 := h.1 r List.mem_cons_self
theorem Vld.later {r : Int × Int} {zs : List (Int × Int)} (h : Vld (r :: zs)) : ∀ s ∈ zs, r.2 < s.1 := (List.pairwise_cons.1 h.2).1
theorem Vld.mk_cons {r : Int × Int} {zs : List (Int × Int)} (h0 : r.1 < r.2) (h : Vld zs) (hl : ∀ s ∈ zs, r.2 < s.1) : Vld (r :: zs) :=
  ⟨fun s hs => by
    rcases List.mem_cons.1 hs with rfl | hs
    · exact h0
    · exact h.1 s hs, List.pairwise_cons.2 ⟨hl, h.2⟩⟩
theorem Vld.append {a b : List (Int × Int)} (ha : Vld a) (hb : Vld b) (hl : ∀ r ∈ a, ∀ s ∈ b, r.2 < s.1) : Vld (a ++ b) :=
  ⟨fun s hs => by
    rcases List.mem_append.1 hs with hs | hs
    · exact ha.1 s hs
    · exact hb.1 s hs, List.pairwise_append.2 ⟨ha.2, hb.2, hl⟩⟩
theorem Vld.left {a b : List (Int × Int)} (h : Vld (a ++ b)) : Vld a := ⟨fun s hs => h.1 s (List.mem_append_left _ hs), (List.pairwise_append.1 h.2).1⟩

theorem Vld.has_ge {r : Int × Int} {zs : List (Int × Int)} (h : Vld (r :: zs)) {x : Int} (hx : hasL (r :: zs) x = true) : r.1 ≤ x := by
  obtain ⟨s, hs, h1, _⟩ := hasL_iff.1 hx
  rcases List.mem_cons.1 hs with rfl | hs
  · exact h1
  · have := h.later s hs; have := h.head; omega
theorem Vld.tail_gt {r : Int × Int} {zs : List (Int × Int)} (h : Vld (r :: zs)) {x : Int} (hx : hasL zs x = true) : r.2 < x := by
  obtain ⟨s, hs, h1, _⟩ := hasL_iff.1 hx
  have := h.later s hs; omega

/-- two valid lists with the same integers are the same list -/
theorem Vld.unique : ∀ {a b : List (Int × Int)}, Vld a → Vld b → (∀ x, hasL a x = hasL b x) → a = b
  | [], [], _, _, _ => rfl
  | [], s :: bs, _, hb, h => by
    have h1 : hasL (s :: bs) s.1 = true := hasL_iff.2 ⟨s, List.mem_cons_self, Int.le_refl _, hb.head⟩
    rw [← h] at h1; cases h1
  | r :: as, [], ha, _, h => by
    have h1 : hasL (r :: as) r.1 = true := hasL_iff.2 ⟨r, List.mem_cons_self, Int.le_refl _, ha.head⟩
    rw [h] at h1; cases h1
  | r :: as, s :: bs, ha, hb, h => by
    have hr := ha.head
    have hs := hb.head
    have m1 : hasL (r :: as) r.1 = true := hasL_iff.2 ⟨r, List.mem_cons_self, Int.le_refl _, hr⟩
    have m2 : hasL (s :: bs) s.1 = true := hasL_iff.2 ⟨s, List.mem_cons_self, Int.le_refl _, hs⟩
    have e1 : r.1 = s.1 := by
      have h1 := hb.has_ge (by rw [← h]; exact m1)
      have h2 := ha.has_ge (by rw [h]; exact m2)
      omega
    have n1 : ¬ hasL (r :: as) r.2 = true := fun hx => by
      rw [hasL_cons, Bool.or_eq_true, inR_iff] at hx
      rcases hx with hx | hx
      · omega
      · have := ha.tail_gt hx; omega
    have n2 : ¬ hasL (s :: bs) s.2 = true := fun hx => by
      rw [hasL_cons, Bool.or_eq_true, inR_iff] at hx
      rcases hx with hx | hx
      · omega
      · have := hb.tail_gt hx; omega
    have e2 : r.2 = s.2 := by
      rcases Int.lt_trichotomy r.2 s.2 with hlt | he | hgt
      · exact absurd (show hasL (r :: as) r.2 = true by rw [h, hasL_cons, Bool.or_eq_true, inR_iff]; left; omega) n1
      · exact he
      · exact absurd (show hasL (s :: bs) s.2 = true by rw [← h, hasL_cons, Bool.or_eq_true, inR_iff]; left; omega) n2
    have et : as = bs := Vld.unique ha.tail hb.tail fun x => by
      by_cases hx : x ≤ r.2
      · have f1 : hasL as x = false := by
          rw [Bool.eq_false_iff]; intro h1; have := ha.tail_gt h1; omega
        have f2 : hasL bs x = false := by
          rw [Bool.eq_false_iff]; intro h1; have := hb.tail_gt h1; omega
        rw [f1, f2]
      · have h1 := h x
        rw [hasL_cons, hasL_cons] at h1
        have f1 : inR x r = false := by rw [Bool.eq_false_iff]; intro hh; rw [inR_iff] at hh; omega
        have f2 : inR x s = false := by rw [Bool.eq_false_iff]; intro hh; rw [inR_iff] at hh; omega
        rw [f1, f2] at h1
        simpa using h1
    rw [show r = s from Prod.ext e1 e2, et]

/-- one more range, of those that begin no earlier than the ones before -/
def mergeStep (out : List (Int × Int)) (r : Int × Int) : List (Int × Int) :=
  if r.2 ≤ r.1 then out else
  match out.getLast? with
  | some l => if r.1 ≤ l.2 then out.dropLast ++ [(l.1, max l.2 r.2)] else out ++ [r]
  | none => out ++ [r]
theorem mergeStep_empty (out : List (Int × Int)) (r : Int × Int) (h : r.2 ≤ r.1) : mergeStep out r = out := by simp [mergeStep, h]
theorem mergeStep_nil (r : Int × Int) (h : ¬ r.2 ≤ r.1) : mergeStep [] r = [r] := by simp [mergeStep, h]
theorem mergeStep_snoc (out : List (Int × Int)) (l r : Int × Int) (h : ¬ r.2 ≤ r.1) : mergeStep (out ++ [l]) r = if r.1 ≤ l.2 then out ++ [(l.1, max l.2 r.2)] else out ++ [l] ++ [r] := by
  simp [mergeStep, h]
theorem mergeStep_len (out : List (Int × Int)) (r : Int × Int) : (mergeStep out r).length ≤ out.length + 1 := by
  by_cases h : r.2 ≤ r.1
  · rw [mergeStep_empty _ _ h]; omega
  · rcases List.eq_nil_or_concat out with rfl | ⟨ys, l, rfl⟩
    · rw [mergeStep_nil _ h]; simp
    · rw [List.concat_eq_append, mergeStep_snoc _ _ _ h]; split <;> simp
def mergeL (zs : List (Int × Int)) : List (Int × Int) := zs.foldl mergeStep []
theorem merge_len (zs : List (Int × Int)) (out : List (Int × Int)) : (zs.foldl mergeStep out).length ≤ out.length + zs.length := by
  induction zs generalizing out with
  | nil => simp
  | cons z zs ih =>
    have h1 := ih (mergeStep out z)
    have h2 := mergeStep_len out z
    simp only [List.foldl_cons, List.length_cons]
    omega
theorem mergeL_len (zs : List (Int × Int)) : (mergeL zs).length ≤ zs.length := by have := merge_len zs []; simpa [mergeL] using this

def SortedLo (zs : List (Int × Int)) : Prop := zs.Pairwise fun r s => r.1 ≤ s.1

theorem hasL_last (a : List (Int × Int)) (l : Int × Int) (x : Int) : hasL (a ++ [l]) x = (hasL a x || inR x l) := by simp [hasL]

theorem mergeStep_spec {out : List (Int × Int)} {r : Int × Int} (hv : Vld out) (hl : ∀ o ∈ out, o.1 ≤ r.1) :
    Vld (mergeStep out r) ∧ (∀ x, hasL (mergeStep out r) x = (hasL out x || inR x r)) ∧ ∀ o ∈ mergeStep out r, o.1 ≤ r.1 := by
  by_cases h : r.2 ≤ r.1
  · rw [mergeStep_empty _ _ h]
    refine ⟨hv, fun x => ?_, hl⟩
    have : inR x r = false := by rw [Bool.eq_false_iff]; intro hh; rw [inR_iff] at hh; omega
    rw [this, Bool.or_false]
  · rcases List.eq_nil_or_concat out with rfl | ⟨ys, l, rfl⟩
    · rw [mergeStep_nil _ h]
      exact ⟨Vld.mk_cons (by omega) Vld.nil (by simp), fun x => by simp [hasL], by simp⟩
    · rw [List.concat_eq_append] at *
      rw [mergeStep_snoc _ _ _ h]
      have hl0 := hl l (by simp)
      have hlv := hv.1 l (by simp)
      have hp := List.pairwise_append.1 hv.2
      split
      · rename_i h1
        refine ⟨Vld.append hv.left (Vld.mk_cons (by dsimp only; omega) Vld.nil (by simp)) (fun o ho s hs => ?_), fun x => ?_, fun o ho => ?_⟩
        · rw [List.mem_singleton] at hs
          subst hs
          exact hp.2.2 o ho l (by simp)
        · rw [hasL_last, hasL_last, Bool.or_assoc]
          congr 1
          rw [Bool.eq_iff_iff, Bool.or_eq_true, inR_iff, inR_iff, inR_iff]
          dsimp only
          omega
        · rcases List.mem_append.1 ho with ho | ho
          · exact hl o (List.mem_append_left _ ho)
          · rw [List.mem_singleton] at ho; subst ho; exact hl0
      · rename_i h1
        refine ⟨Vld.append hv (Vld.mk_cons (by omega) Vld.nil (by simp)) (fun o ho s hs => ?_), fun x => by rw [hasL_last], fun o ho => ?_⟩
        · rw [List.mem_singleton] at hs
          subst hs
          rcases List.mem_append.1 ho with ho | ho
          · have := hp.2.2 o ho l (by simp); omega
          · rw [List.mem_singleton] at ho; subst ho; omega
        · rcases List.mem_append.1 ho with ho | ho
          · exact hl o ho
          · rw [List.mem_singleton] at ho; subst ho; exact Int.le_refl _

theorem merge_spec : ∀ (zs out : List (Int × Int)), Vld out → SortedLo zs → (∀ o ∈ out, ∀ r ∈ zs, o.1 ≤ r.1) →
    Vld (zs.foldl mergeStep out) ∧ ∀ x, hasL (zs.foldl mergeStep out) x = (hasL out x || hasL zs x)
  | [], out, hv, _, _ => ⟨hv, fun x => by simp [hasL]⟩
  | z :: zs, out, hv, hs, hl => by
    obtain ⟨h1, h2, h3⟩ := mergeStep_spec (r := z) hv (fun o ho => hl o ho z List.mem_cons_self)
    have hs' := List.pairwise_cons.1 hs
    obtain ⟨g1, g2⟩ := merge_spec zs (mergeStep out z) h1 hs'.2 (fun o ho r hr => Int.le_trans (h3 o ho) (hs'.1 r hr))
    refine ⟨g1, fun x => ?_⟩
    simp only [List.foldl_cons]
    rw [g2, h2, hasL_cons, Bool.or_assoc]
theorem mergeL_spec {zs : List (Int × Int)} (hs : SortedLo zs) : Vld (mergeL zs) ∧ ∀ x, hasL (mergeL zs) x = hasL zs x := by
  obtain ⟨h1, h2⟩ := merge_spec zs [] Vld.nil hs (by simp)
  exact ⟨h1, fun x => by have := h2 x; simpa [hasL, mergeL] using this⟩

def insR (r : Int × Int) : List (Int × Int) → List (Int × Int)
  | [] => [r]
  | x :: xs => if r.1 ≤ x.1 then r :: x :: xs else x :: insR r xs
def sortL (zs : List (Int × Int)) : List (Int × Int) := zs.foldr insR []
theorem insR_perm (r : Int × Int) : ∀ zs, (insR r zs).Perm (r :: zs)
  | [] => List.Perm.refl _
  | x :: xs => by
    simp only [insR]
    split
    · exact List.Perm.refl _
    · exact ((insR_perm r xs).cons x).trans (List.Perm.swap r x xs)
theorem sortL_perm : ∀ zs, (sortL zs).Perm zs
  | [] => List.Perm.refl _
  | x :: xs => (insR_perm x (sortL xs)).trans ((sortL_perm xs).cons x)
theorem insR_sorted (r : Int × Int) : ∀ zs, SortedLo zs → SortedLo (insR r zs)
  | [], _ => by simp [insR, SortedLo]
  | x :: xs, h => by
    have h' := List.pairwise_cons.1 h
    simp only [insR]
    split
    · rename_i hle
      refine List.pairwise_cons.2 ⟨fun s hs => ?_, h⟩
      rcases List.mem_cons.1 hs with rfl | hs
      · exact hle
      · exact Int.le_trans hle (h'.1 s hs)
    · rename_i hgt
      refine List.pairwise_cons.2 ⟨fun s hs => ?_, insR_sorted r xs h'.2⟩
      rcases List.mem_cons.1 ((insR_perm r xs).mem_iff.1 hs) with rfl | hs
      · omega
      · exact h'.1 s hs
theorem sortL_sorted : ∀ zs, SortedLo (sortL zs)
  | [] => List.Pairwise.nil
  | x :: xs => insR_sorted x _ (sortL_sorted xs)

/-- the canonical list -/
def normL (zs : List (Int × Int)) : List (Int × Int) := mergeL (sortL zs)
theorem normL_vld (zs : List (Int × Int)) : Vld (normL zs) := (mergeL_spec (sortL_sorted zs)).1
theorem normL_has (zs : List (Int × Int)) (x : Int) : hasL (normL zs) x = hasL zs x := by
  unfold normL
  rw [(mergeL_spec (sortL_sorted zs)).2, hasL_perm (sortL_perm zs)]
theorem normL_len (zs : List (Int × Int)) : (normL zs).length ≤ zs.length := by
  have h1 := mergeL_len (sortL zs)
  have h2 := (sortL_perm zs).length_eq
  unfold normL
  omega
/-- whichever sorted arrangement the sort gives, merging it gives the canonical list -/
theorem merge_of_sorted {p zs : List (Int × Int)} (hp : p.Perm zs) (hs : SortedLo p) : mergeL p = normL zs :=
  Vld.unique (mergeL_spec hs).1 (normL_vld zs) fun x => by rw [(mergeL_spec hs).2, normL_has, hasL_perm hp]
theorem normL_of_vld {zs : List (Int × Int)} (h : Vld zs) : normL zs = zs := Vld.unique (normL_vld zs) h (normL_has zs)

/-- the range from lo to hi, if it is not empty -/
def addr (lo hi : Int) : List (Int × Int) := if lo < hi then [(lo, hi)] else []
theorem addr_has (lo hi x : Int) : hasL (addr lo hi) x = decide (lo ≤ x ∧ x < hi) := by
  unfold addr
  split
  · simp [hasL, inR]
  · have : ¬ (lo ≤ x ∧ x < hi) := by omega
    simp [hasL, this]
theorem addr_vld (lo hi : Int) : Vld (addr lo hi) := by
  unfold addr
  split
  · exact Vld.mk_cons (by assumption) Vld.nil (by simp)
  · exact Vld.nil
theorem addr_mem {lo hi : Int} {s : Int × Int} (h : s ∈ addr lo hi) : s = (lo, hi) ∧ lo < hi := by
  unfold addr at h
  split at h
  · rw [List.mem_singleton] at h; exact ⟨h, by assumption⟩
  · cases h
theorem addr_len (lo hi : Int) : (addr lo hi).length ≤ 1 := by unfold addr; split <;> simp

/-- what two valid lists have in common; the number counts the elements that are left -/
def interF : Nat → List (Int × Int) → List (Int × Int) → List (Int × Int)
  | n + 1, r :: as, s :: bs => addr (max r.1 s.1) (min r.2 s.2) ++ if r.2 < s.2 then interF n as (s :: bs) else interF n (r :: as) bs
  | _, _, _ => []
def interL (a b : List (Int × Int)) : List (Int × Int) := interF ((normL a).length + (normL b).length) (normL a) (normL b)
theorem interF_len : ∀ (n : Nat) (a b : List (Int × Int)), (interF n a b).length ≤ n
  | 0, a, b => by cases a <;> cases b <;> simp [interF]
  | n + 1, [], b => by simp [interF]
  | n + 1, r :: as, [] => by simp [interF]
  | n + 1, r :: as, s :: bs => by
    simp only [interF, List.length_append]
    have h1 := addr_len (max r.1 s.1) (min r.2 s.2)
    split
    · have := interF_len n as (s :: bs); omega
    · have := interF_len n (r :: as) bs; omega
theorem interF_nil_left (n : Nat) (b : List (Int × Int)) : interF n [] b = [] := by cases n <;> simp [interF]
theorem interF_nil_right (n : Nat) (a : List (Int × Int)) : interF n a [] = [] := by cases n <;> cases a <;> simp [interF]

theorem interF_spec : ∀ (n : Nat) (a b : List (Int × Int)), n = a.length + b.length → Vld a → Vld b →
    Vld (interF n a b) ∧ ∀ x, hasL (interF n a b) x = (hasL a x && hasL b x)
  | n, [], b, _, _, _ => by rw [interF_nil_left]; exact ⟨Vld.nil, fun x => by simp [hasL]⟩
  | n, r :: as, [], _, _, _ => by rw [interF_nil_right]; exact ⟨Vld.nil, fun x => by simp [hasL]⟩
  | 0, r :: as, s :: bs, hn, _, _ => by simp at hn
  | n + 1, r :: as, s :: bs, hn, ha, hb => by
    have hr := ha.head
    have hs := hb.head
    simp only [interF]
    by_cases hlt : r.2 < s.2
    · rw [if_pos hlt]
      obtain ⟨g1, g2⟩ := interF_spec n as (s :: bs) (by simp at hn ⊢; omega) ha.tail hb
      refine ⟨Vld.append (addr_vld _ _) g1 (fun o ho t ht => ?_), fun x => ?_⟩
      · obtain ⟨rfl, _⟩ := addr_mem ho
        have h1 := g1.1 t ht
        have h2 : hasL (interF n as (s :: bs)) t.1 = true := hasL_iff.2 ⟨t, ht, Int.le_refl _, h1⟩
        rw [g2, Bool.and_eq_true] at h2
        have := ha.tail_gt h2.1
        dsimp only
        omega
      · rw [hasL_append, g2, addr_has, hasL_cons r as]
        cases ht : hasL as x with
        | true =>
          have := ha.tail_gt ht
          have e : decide (max r.1 s.1 ≤ x ∧ x < min r.2 s.2) = false := by rw [decide_eq_false_iff_not]; omega
          rw [e]; simp
        | false =>
          simp only [Bool.false_and, Bool.or_false]
          rw [Bool.eq_iff_iff, decide_eq_true_iff, Bool.and_eq_true, inR_iff]
          constructor
          · rintro ⟨h1, h2⟩
            exact ⟨by omega, hasL_iff.2 ⟨s, List.mem_cons_self, by omega, by omega⟩⟩
          · rintro ⟨h1, h2⟩
            have h3 := hb.has_ge h2
            omega
    · rw [if_neg hlt]
      obtain ⟨g1, g2⟩ := interF_spec n (r :: as) bs (by simp at hn ⊢; omega) ha hb.tail
      refine ⟨Vld.append (addr_vld _ _) g1 (fun o ho t ht => ?_), fun x => ?_⟩
      · obtain ⟨rfl, _⟩ := addr_mem ho
        have h1 := g1.1 t ht
        have h2 : hasL (interF n (r :: as) bs) t.1 = true := hasL_iff.2 ⟨t, ht, Int.le_refl _, h1⟩
        rw [g2, Bool.and_eq_true] at h2
        have := hb.tail_gt h2.2
        dsimp only
        omega
      · rw [hasL_append, g2, addr_has, hasL_cons s bs]
        cases ht : hasL bs x with
        | true =>
          have := hb.tail_gt ht
          have e : decide (max r.1 s.1 ≤ x ∧ x < min r.2 s.2) = false := by rw [decide_eq_false_iff_not]; omega
          rw [e]; simp
        | false =>
          simp only [Bool.and_false, Bool.or_false]
          rw [Bool.eq_iff_iff, decide_eq_true_iff, Bool.and_eq_true, inR_iff]
          constructor
          · rintro ⟨h1, h2⟩
            exact ⟨hasL_iff.2 ⟨r, List.mem_cons_self, by omega, by omega⟩, by omega⟩
          · rintro ⟨h2, h1⟩
            have h3 := ha.has_ge h2
            omega
theorem interL_vld (a b : List (Int × Int)) : Vld (interL a b) := (interF_spec _ _ _ rfl (normL_vld a) (normL_vld b)).1
theorem interL_has (a b : List (Int × Int)) (x : Int) : hasL (interL a b) x = (hasL a x && hasL b x) := by
  unfold interL
  rw [(interF_spec _ _ _ rfl (normL_vld a) (normL_vld b)).2, normL_has, normL_has]

/-- what is left of the range from lo to hi when the ranges b are taken away -/
def cutF (lo : Int) (b : List (Int × Int)) (hi : Int) : List (Int × Int) :=
  match b with
  | [] => addr lo hi
  | s :: bs => if s.1 < hi then addr lo s.1 ++ cutF s.2 bs hi else addr lo hi
def dropB (lo : Int) (b : List (Int × Int)) : List (Int × Int) :=
  match b with
  | [] => []
  | s :: bs => if s.2 ≤ lo then dropB lo bs else s :: bs
def minusF : List (Int × Int) → List (Int × Int) → List (Int × Int)
  | [], _ => []
  | r :: as, b => cutF r.1 (dropB r.1 b) r.2 ++ minusF as (dropB r.1 b)
def minusL (a b : List (Int × Int)) : List (Int × Int) := minusF (normL a) (normL b)

theorem dropB_spec : ∀ (lo : Int) (b : List (Int × Int)), Vld b → Vld (dropB lo b) ∧ (∀ x, lo ≤ x → hasL (dropB lo b) x = hasL b x) ∧ ∀ s ∈ dropB lo b, lo < s.2
  | lo, [], _ => ⟨Vld.nil, fun _ _ => rfl, by simp [dropB]⟩
  | lo, s :: bs, h => by
    simp only [dropB]
    split
    · obtain ⟨h1, h2, h3⟩ := dropB_spec lo bs h.tail
      refine ⟨h1, fun x hx => ?_, h3⟩
      rw [h2 x hx, hasL_cons]
      have : inR x s = false := by rw [Bool.eq_false_iff]; intro hh; rw [inR_iff] at hh; omega
      rw [this, Bool.false_or]
    · refine ⟨h, fun _ _ => rfl, fun t ht => ?_⟩
      rcases List.mem_cons.1 ht with rfl | ht
      · omega
      · have := h.later t ht; have := h.tail.1 t ht; omega

theorem cutF_spec : ∀ (b : List (Int × Int)) (lo hi : Int), Vld b → (∀ s ∈ b, lo < s.2) →
    Vld (cutF lo b hi) ∧ (∀ x, hasL (cutF lo b hi) x = (decide (lo ≤ x ∧ x < hi) && !hasL b x)) ∧ ∀ t ∈ cutF lo b hi, lo ≤ t.1 ∧ t.2 ≤ hi
  | [], lo, hi, _, _ => by
    simp only [cutF]
    refine ⟨addr_vld _ _, fun x => by rw [addr_has]; simp [hasL], fun t ht => ?_⟩
    obtain ⟨rfl, _⟩ := addr_mem ht
    exact ⟨Int.le_refl _, Int.le_refl _⟩
  | s :: bs, lo, hi, h, hl => by
    have hs := h.head
    have hls := hl s List.mem_cons_self
    simp only [cutF]
    by_cases hlt : s.1 < hi
    · rw [if_pos hlt]
      obtain ⟨g1, g2, g3⟩ := cutF_spec bs s.2 hi h.tail (fun t ht => by have := h.later t ht; have := h.tail.1 t ht; omega)
      refine ⟨Vld.append (addr_vld _ _) g1 (fun o ho t ht => ?_), fun x => ?_, fun t ht => ?_⟩
      · obtain ⟨rfl, _⟩ := addr_mem ho
        have := (g3 t ht).1
        dsimp only
        omega
      · rw [hasL_append, g2, addr_has, hasL_cons]
        cases ht : hasL bs x with
        | true =>
          have := h.tail_gt ht
          have e : decide (lo ≤ x ∧ x < s.1) = false := by rw [decide_eq_false_iff_not]; omega
          simp [e]
        | false =>
          rw [Bool.eq_iff_iff]
          simp only [Bool.or_eq_true, Bool.and_eq_true, decide_eq_true_iff, Bool.not_false, and_true, Bool.or_false, Bool.not_eq_true', Bool.eq_false_iff, ne_eq, inR_iff]
          omega
      · rcases List.mem_append.1 ht with ht | ht
        · obtain ⟨rfl, _⟩ := addr_mem ht
          exact ⟨Int.le_refl _, by dsimp only; omega⟩
        · have := g3 t ht; omega
    · rw [if_neg hlt]
      refine ⟨addr_vld _ _, fun x => ?_, fun t ht => ?_⟩
      · rw [addr_has]
        cases hx : hasL (s :: bs) x with
        | true =>
          have := h.has_ge hx
          have e : decide (lo ≤ x ∧ x < hi) = false := by rw [decide_eq_false_iff_not]; omega
          simp [e]
        | false => simp
      · obtain ⟨rfl, _⟩ := addr_mem ht
        exact ⟨Int.le_refl _, Int.le_refl _⟩

theorem minusF_spec : ∀ (a b : List (Int × Int)), Vld a → Vld b → Vld (minusF a b) ∧ ∀ x, hasL (minusF a b) x = (hasL a x && !hasL b x)
  | [], b, _, _ => ⟨Vld.nil, fun x => by simp [minusF, hasL]⟩
  | r :: as, b, ha, hb => by
    have hr := ha.head
    obtain ⟨d1, d2, d3⟩ := dropB_spec r.1 b hb
    obtain ⟨c1, c2, c3⟩ := cutF_spec (dropB r.1 b) r.1 r.2 d1 d3
    obtain ⟨g1, g2⟩ := minusF_spec as (dropB r.1 b) ha.tail d1
    simp only [minusF]
    refine ⟨Vld.append c1 g1 (fun o ho t ht => ?_), fun x => ?_⟩
    · have h1 := g1.1 t ht
      have h2 : hasL (minusF as (dropB r.1 b)) t.1 = true := hasL_iff.2 ⟨t, ht, Int.le_refl _, h1⟩
      rw [g2, Bool.and_eq_true] at h2
      have := ha.tail_gt h2.1
      have := (c3 o ho).2
      omega
    · rw [hasL_append, c2, g2, hasL_cons]
      by_cases hx : r.1 ≤ x
      · rw [d2 x hx]
        have e : decide (r.1 ≤ x ∧ x < r.2) = inR x r := by rw [Bool.eq_iff_iff, decide_eq_true_iff, inR_iff]
        rw [e]
        cases inR x r <;> cases hasL as x <;> cases hasL b x <;> rfl
      · have e1 : decide (r.1 ≤ x ∧ x < r.2) = false := by rw [decide_eq_false_iff_not]; omega
        have e2 : inR x r = false := by rw [Bool.eq_false_iff]; intro hh; rw [inR_iff] at hh; omega
        have e3 : hasL as x = false := by
          rw [Bool.eq_false_iff]; intro hh; have := ha.tail_gt hh; omega
        rw [e1, e2, e3]; rfl
theorem minusL_vld (a b : List (Int × Int)) : Vld (minusL a b) := (minusF_spec _ _ (normL_vld a) (normL_vld b)).1
theorem minusL_has (a b : List (Int × Int)) (x : Int) : hasL (minusL a b) x = (hasL a x && !hasL b x) := by
  unfold minusL
  rw [(minusF_spec _ _ (normL_vld a) (normL_vld b)).2, normL_has, normL_has]

theorem cutF_len : ∀ (b : List (Int × Int)) (lo hi : Int), (cutF lo b hi).length ≤ b.length + 1
  | [], lo, hi => by simp only [cutF]; have := addr_len lo hi; simpa using this
  | s :: bs, lo, hi => by
    simp only [cutF]
    split
    · have h1 := addr_len lo s.1
      have h2 := cutF_len bs s.2 hi
      simp only [List.length_append, List.length_cons]; omega
    · have := addr_len lo hi; simp only [List.length_cons]; omega
end Go.Proofs.Mp
