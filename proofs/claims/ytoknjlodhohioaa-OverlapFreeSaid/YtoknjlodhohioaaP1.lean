/- Plain facts of ascending lists of integers. No program is walked here. -/
import Derived.Test.YtoknjlodhohioaaT6
set_option linter.unusedVariables false
set_option linter.unusedSimpArgs false
namespace Go.Proofs

abbrev Asc (l : List Int) : Prop := l.Pairwise (· < ·)

theorem comp_spec (d : Array Int) (hs : ∀ i j, i < j → j < d.size → d[i]! ≤ d[j]!) : ∀ m, m ≤ d.size → Asc (Lib.compactUpTo d m) ∧ ∀ x, x ∈ Lib.compactUpTo d m ↔ ∃ j, j < m ∧ d[j]! = x
  | 0, _ => ⟨by simp [Lib.compactUpTo], fun x => by simp [Lib.compactUpTo]⟩
  | m + 1, hm => by
    obtain ⟨h1, h2⟩ := comp_spec d hs m (by omega)
    rw [Lib.compactUpTo_succ]
    by_cases h0 : m = 0
    · subst h0
      have hk : Lib.keeps d 0 = true := Lib.keeps_lt_one d 0 (by omega)
      rw [hk, if_pos rfl]
      have he : Lib.compactUpTo d 0 = [] := by simp [Lib.compactUpTo]
      rw [he]
      refine ⟨by simp, fun x => ?_⟩
      simp only [List.nil_append, List.mem_singleton]
      constructor
      · rintro rfl; exact ⟨0, by omega, rfl⟩
      · rintro ⟨j, hj, rfl⟩
        rw [show j = 0 by omega]
    · by_cases he : d[m]! = d[m - 1]!
      · rw [Lib.keeps_neg (by omega) he]
        simp only [Bool.false_eq_true, if_false, List.append_nil]
        refine ⟨h1, fun x => ?_⟩
        rw [h2]
        constructor
        · rintro ⟨j, hj, hx⟩; exact ⟨j, by omega, hx⟩
        · rintro ⟨j, hj, hx⟩
          by_cases hjm : j = m
          · subst hjm; exact ⟨j - 1, by omega, by rw [← he]; exact hx⟩
          · exact ⟨j, by omega, hx⟩
      · rw [Lib.keeps_pos he, if_pos rfl]
        refine ⟨List.pairwise_append.2 ⟨h1, by simp, fun x hx y hy => ?_⟩, fun x => ?_⟩
        · simp only [List.mem_singleton] at hy
          subst hy
          obtain ⟨j, hj, rfl⟩ := (h2 x).1 hx
          have a1 := hs (m - 1) m (by omega) (by omega)
          by_cases hjm : j = m - 1
          · subst hjm; omega
          · have a2 := hs j (m - 1) (by omega) (by omega)
            omega
        · rw [List.mem_append, h2, List.mem_singleton]
          constructor
          · rintro (⟨j, hj, hx⟩ | rfl)
            · exact ⟨j, by omega, hx⟩
            · exact ⟨m, by omega, rfl⟩
          · rintro ⟨j, hj, rfl⟩
            by_cases hjm : j = m
            · right; rw [hjm]
            · left; exact ⟨j, by omega, rfl⟩

theorem merge_sorted (zs : List Int) : (zs.mergeSort fun x y => decide (x ≤ y)).Pairwise (fun x y => x ≤ y) := by
  have := List.pairwise_mergeSort (le := fun x y : Int => decide (x ≤ y)) (by intro a b c h1 h2; simp at *; omega) (by intro a b; simp; omega) zs
  exact this.imp (by simp)

theorem setL_spec (zs : List Int) : Asc (setL zs) ∧ ∀ x, x ∈ setL zs ↔ x ∈ zs := by
  unfold setL Lib.compact
  have hs := merge_sorted zs
  have hm : ∀ x, x ∈ (zs.mergeSort fun x y => decide (x ≤ y)) ↔ x ∈ zs := fun x => List.mem_mergeSort
  generalize (zs.mergeSort fun x y => decide (x ≤ y)) = ms at *
  obtain ⟨h1, h2⟩ := comp_spec ms.toArray (fun i j hij hj => by
    have hj' : j < ms.length := by simpa using hj
    have := (List.pairwise_iff_getElem.1 hs) i j (by omega) hj' hij
    simpa [getElem!_pos, hj', show i < ms.length by omega] using this) ms.length (by simp)
  refine ⟨h1, fun x => ?_⟩
  rw [h2, ← hm x, List.mem_iff_getElem]
  constructor
  · rintro ⟨j, hj, rfl⟩
    exact ⟨j, hj, by simp [getElem!_pos, hj]⟩
  · rintro ⟨j, hj, rfl⟩
    exact ⟨j, hj, by simp [getElem!_pos, hj]⟩
theorem setL_asc (zs : List Int) : Asc (setL zs) := (setL_spec zs).1
theorem setL_mem (zs : List Int) (x : Int) : x ∈ setL zs ↔ x ∈ zs := (setL_spec zs).2 x

/-- two ascending lists with the same members are the same list -/
theorem Asc.unique : ∀ {a b : List Int}, Asc a → Asc b → (∀ x, x ∈ a ↔ x ∈ b) → a = b
  | [], [], _, _, _ => rfl
  | [], s :: bs, _, _, h => absurd ((h s).2 List.mem_cons_self) (by simp)
  | r :: rs, [], _, _, h => absurd ((h r).1 List.mem_cons_self) (by simp)
  | r :: rs, s :: bs, ha, hb, h => by
    obtain ⟨ha1, ha2⟩ := List.pairwise_cons.1 ha
    obtain ⟨hb1, hb2⟩ := List.pairwise_cons.1 hb
    have e : r = s := by
      rcases List.mem_cons.1 ((h r).1 List.mem_cons_self) with e | m1
      · exact e
      · rcases List.mem_cons.1 ((h s).2 List.mem_cons_self) with e | m2
        · exact e.symm
        · have := hb1 r m1; have := ha1 s m2; omega
    subst e
    congr 1
    refine Asc.unique ha2 hb2 fun x => ?_
    constructor
    · intro hx
      rcases List.mem_cons.1 ((h x).1 (List.mem_cons_of_mem _ hx)) with rfl | m
      · exact absurd (ha1 x hx) (by omega)
      · exact m
    · intro hx
      rcases List.mem_cons.1 ((h x).2 (List.mem_cons_of_mem _ hx)) with rfl | m
      · exact absurd (hb1 x hx) (by omega)
      · exact m
theorem setL_of_asc {zs : List Int} (h : Asc zs) : setL zs = zs := Asc.unique (setL_asc zs) h (setL_mem zs)
theorem setL_eq_iff (a b : List Int) : setL a = setL b ↔ ∀ x, x ∈ a ↔ x ∈ b := by
  constructor
  · intro h x; rw [← setL_mem a, h, setL_mem]
  · intro h; exact Asc.unique (setL_asc a) (setL_asc b) fun x => by rw [setL_mem, setL_mem, h]

theorem ascB_iff (zs : List Int) : ascB zs = true ↔ Asc zs := by
  unfold ascB
  rw [List.all_eq_true]
  constructor
  · intro h
    have key : ∀ j, j + 1 < zs.length → zs[j]! < zs[j + 1]! := fun j hj => by
      have := h (j + 1) (List.mem_range.2 hj)
      simpa using this
    have far : ∀ d i, i + d + 1 < zs.length → zs[i]! < zs[i + d + 1]! := by
      intro d
      induction d with
      | zero => intro i hi; exact key i hi
      | succ d ih =>
        intro i hi
        have h1 := ih i (by omega)
        have h2 := key (i + d + 1) hi
        rw [show i + (d + 1) + 1 = i + d + 1 + 1 by omega]
        omega
    refine List.pairwise_iff_getElem.2 fun i j hi hj hij => ?_
    have := far (j - i - 1) i (by omega)
    rw [show i + (j - i - 1) + 1 = j by omega] at this
    simpa [getElem!_pos, hi, hj] using this
  · intro h j hj
    rw [List.mem_range] at hj
    by_cases h0 : j = 0
    · simp [h0]
    · have := (List.pairwise_iff_getElem.1 h) (j - 1) j (by omega) hj (by omega)
      simp only [Bool.or_eq_true, decide_eq_true_eq]
      right
      simpa [getElem!_pos, hj, show j - 1 < zs.length by omega] using this
end Go.Proofs
