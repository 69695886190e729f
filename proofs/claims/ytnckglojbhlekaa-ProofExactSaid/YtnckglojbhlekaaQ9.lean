/- The boxes by a map of the last box with given columns are those by a search. -/
import Derived.Test.YtnckglojbhlekaaM1
set_option linter.unusedVariables false
set_option linter.unusedSimpArgs false
namespace Go.Proofs
open Go.RowKit Go.Proofs.Mp

/-- the box's columns are those of the range -/
def cols (b : Bx) (r : Int × Int) : Prop := b.x0 = r.1 ∧ b.x1 = r.2 - 1
/-- what the map of the last boxes holds, in row y, with the runs todo still to come -/
structure IM (y : Int) (todo : List (Int × Int)) (l : List Bx) (f : Int × Int → Option Int) : Prop where
  last : ∀ r i, f r = some i → ∃ n : Nat, i = (n : Int) ∧ n < l.length ∧ cols l[n]! r ∧ ∀ m, n < m → m < l.length → ¬ cols l[m]! r
  no : ∀ r, f r = none → ∀ m, m < l.length → ¬ cols l[m]! r
  rise : ∀ i j r, i < j → j < l.length → cols l[i]! r → cols l[j]! r → l[i]!.y1 < l[j]!.y1
  low : ∀ m, m < l.length → l[m]!.y1 ≤ y
  new : ∀ m r, m < l.length → r ∈ todo → cols l[m]! r → l[m]!.y1 ≤ y - 1
theorem cols_fun {b : Bx} {r s : Int × Int} (h : cols b r) (g : cols b s) : r = s := Prod.ext (by rw [← h.1, g.1]) (by have h1 := h.2; have h2 := g.2; omega)
theorem match_cols {b : Bx} {r : Int × Int} {y : Int} : bxMatch b (toBx y r) ↔ cols b r ∧ b.y1 = y - 1 := by
  unfold bxMatch cols toBx
  constructor
  · rintro ⟨h1, h2, h3⟩; exact ⟨⟨h1, h2⟩, h3⟩
  · rintro ⟨⟨h1, h2⟩, h3⟩; exact ⟨h1, h2, h3⟩
section
variable {y : Int} {r : Int × Int} {todo : List (Int × Int)} {l : List Bx} {f : Int × Int → Option Int}
theorem IM.start (y : Int) (todo : List (Int × Int)) : IM y todo [] (fun _ => none) :=
  ⟨fun r i h => (by cases h), fun r _ m hm => (by simp at hm), fun i j r _ hj => (by simp at hj), fun m hm => (by simp at hm), fun m r hm => (by simp at hm)⟩
theorem IM.row (h : IM y [] l f) (todo : List (Int × Int)) : IM (y + 1) todo l f :=
  ⟨h.last, h.no, h.rise, fun m hm => (by have := h.low m hm; omega), fun m r hm _ _ => (by have := h.low m hm; omega)⟩
theorem get_set {l : List Bx} {n m : Nat} {b : Bx} (hm : m < l.length) : (l.set n b)[m]! = if n = m then b else l[m]! := by
  rw [getElem!_pos (l.set n b) m (by simpa using hm), List.getElem_set]
  split
  · rfl
  · rw [getElem!_pos l m hm]
theorem get_snoc {l : List Bx} {m : Nat} {b : Bx} (hm : m < (l ++ [b]).length) : (m < l.length ∧ (l ++ [b])[m]! = l[m]!) ∨ (m = l.length ∧ (l ++ [b])[m]! = b) := by
  rw [List.length_append, List.length_singleton] at hm
  by_cases h : m < l.length
  · left
    exact ⟨h, by rw [getElem!_pos (l ++ [b]) m (by simp; omega), getElem!_pos l m h, List.getElem_append_left h]⟩
  · right
    obtain rfl : m = l.length := by omega
    exact ⟨rfl, by simp⟩
/-- the last box with these columns ends in the row before: it grows -/
theorem IM.grow (h : IM y (r :: todo) l f) (hnd : (r :: todo).Nodup) {n : Nat} (hf : f r = some (n : Int)) (hn : n < l.length) (hy : l[n]!.y1 = y - 1) :
    extL l (toBx y r) = l.set n { l[n]! with y1 := y } ∧ IM y todo (extL l (toBx y r)) f := by
  obtain ⟨n', e, _, hc, hlast⟩ := h.last r _ hf
  obtain rfl : n = n' := by omega
  have he : extL l (toBx y r) = l.set n { l[n]! with y1 := y } := extL_at l (toBx y r) n hn (fun j hj hm => by
    obtain ⟨h1, h2⟩ := match_cols.1 hm
    have := h.rise j n r hj hn h1 hc
    omega) (match_cols.2 ⟨hc, hy⟩)
  have hcs : ∀ m s, m < l.length → (cols (l.set n { l[n]! with y1 := y })[m]! s ↔ cols l[m]! s) := fun m s hm => by
    rw [get_set hm]
    split
    · rename_i e; subst e; exact Iff.rfl
    · exact Iff.rfl
  rw [he]
  refine ⟨rfl, ⟨fun s i hs => ?_, fun s hs m hm => ?_, fun i j s hij hj h1 h2 => ?_, fun m hm => ?_, fun m s hm hs hcm => ?_⟩⟩
  · obtain ⟨k, e1, h1, h2, h3⟩ := h.last s i hs
    exact ⟨k, e1, by simpa using h1, (hcs k s h1).2 h2, fun m h4 h5 => by
      have h5' : m < l.length := by simpa using h5
      rw [hcs m s h5']; exact h3 m h4 h5'⟩
  · have hm' : m < l.length := by simpa using hm
    rw [hcs m s hm']; exact h.no s hs m hm'
  · have hj' : j < l.length := by simpa using hj
    rw [hcs i s (by omega)] at h1
    rw [hcs j s hj'] at h2
    have h3 := h.rise i j s hij hj' h1 h2
    rw [get_set (show i < l.length by omega), get_set hj']
    by_cases ei : n = i
    · subst ei
      have := cols_fun hc h1
      subst this
      exact absurd h2 (hlast j hij hj')
    · rw [if_neg ei]
      by_cases ej : n = j
      · rw [if_pos ej]
        subst ej
        show l[i]!.y1 < y
        omega
      · rw [if_neg ej]; exact h3
  · have hm' : m < l.length := by simpa using hm
    rw [get_set hm']
    split
    · exact Int.le_refl _
    · exact h.low m hm'
  · have hm' : m < l.length := by simpa using hm
    rw [hcs m s hm'] at hcm
    rw [get_set hm']
    by_cases e : n = m
    · subst e
      have := cols_fun hc hcm
      subst this
      exact absurd hs (List.nodup_cons.1 hnd).1
    · rw [if_neg e]
      exact h.new m s hm' (List.mem_cons_of_mem _ hs) hcm
/-- there is none that does: a new box -/
theorem IM.add (h : IM y (r :: todo) l f) (hnd : (r :: todo).Nodup) (hno : ∀ n : Nat, f r = some (n : Int) → l[n]!.y1 ≠ y - 1) :
    extL l (toBx y r) = l ++ [toBx y r] ∧ IM y todo (extL l (toBx y r)) (setR f r l.length) := by
  have he : extL l (toBx y r) = l ++ [toBx y r] := extL_none l (toBx y r) fun j hj hm => by
    obtain ⟨h1, h2⟩ := match_cols.1 hm
    rcases hf : f r with _ | i
    · exact h.no r hf j hj h1
    · obtain ⟨n, rfl, hn, hc, hlast⟩ := h.last r i hf
      have h3 := hno n hf
      have h4 := h.new n r hn (List.mem_cons_self ..) hc
      rcases Nat.lt_trichotomy j n with h5 | h5 | h5
      · have := h.rise j n r h5 hn h1 hc; omega
      · subst h5; exact h3 h2
      · exact hlast j h5 hj h1
  have hcr : cols (toBx y r) r := ⟨rfl, rfl⟩
  rw [he]
  refine ⟨rfl, ⟨fun s i hs => ?_, fun s hs m hm => ?_, fun i j s hij hj h1 h2 => ?_, fun m hm => ?_, fun m s hm hs hcm => ?_⟩⟩
  · unfold setR at hs
    split at hs
    · rename_i e
      subst e
      injection hs with hs
      refine ⟨l.length, hs.symm, by simp, by simpa using hcr, fun m h1 h2 => ?_⟩
      rw [List.length_append, List.length_singleton] at h2
      omega
    · rename_i e
      obtain ⟨n, e1, h1, h2, h3⟩ := h.last s i hs
      refine ⟨n, e1, by simp; omega, ?_, fun m h4 h5 h6 => ?_⟩
      · rw [getElem!_pos (l ++ [toBx y r]) n (by simp; omega), List.getElem_append_left h1, ← getElem!_pos l n h1]
        exact h2
      · rcases get_snoc h5 with ⟨h7, h8⟩ | ⟨h7, h8⟩
        · rw [h8] at h6; exact h3 m h4 h7 h6
        · rw [h8] at h6; exact e (cols_fun h6 hcr)
  · unfold setR at hs
    split at hs
    · cases hs
    · rename_i e
      intro h6
      rcases get_snoc hm with ⟨h7, h8⟩ | ⟨h7, h8⟩
      · rw [h8] at h6; exact h.no s hs m h7 h6
      · rw [h8] at h6; exact e (cols_fun h6 hcr)
  · rcases get_snoc hj with ⟨h7, h8⟩ | ⟨h7, h8⟩
    · rcases get_snoc (show i < (l ++ [toBx y r]).length by omega) with ⟨h9, h10⟩ | ⟨h9, h10⟩
      · rw [h8] at h2 ⊢
        rw [h10] at h1 ⊢
        exact h.rise i j s hij h7 h1 h2
      · omega
    · rcases get_snoc (show i < (l ++ [toBx y r]).length by omega) with ⟨h9, h10⟩ | ⟨h9, h10⟩
      · rw [h8] at h2 ⊢
        rw [h10] at h1 ⊢
        have := cols_fun h2 hcr
        subst this
        have := h.new i _ h9 (List.mem_cons_self ..) h1
        show l[i]!.y1 < y
        omega
      · omega
  · rcases get_snoc hm with ⟨h7, h8⟩ | ⟨h7, h8⟩
    · rw [h8]; exact h.low m h7
    · rw [h8]; exact Int.le_refl _
  · rcases get_snoc hm with ⟨h7, h8⟩ | ⟨h7, h8⟩
    · rw [h8] at hcm ⊢
      exact h.new m s h7 (List.mem_cons_of_mem _ hs) hcm
    · rw [h8] at hcm
      have := cols_fun hcm hcr
      subst this
      exact absurd hs (List.nodup_cons.1 hnd).1
end
theorem vld_nodup {zs : List (Int × Int)} (h : Vld zs) : zs.Nodup := by
  refine List.Pairwise.imp_of_mem ?_ h.2
  intro a b ha hb hab e
  subst e
  have := h.1 a ha
  omega
end Go.Proofs
