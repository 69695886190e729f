import Derived.Test.YtoknjlodhohioaaT24
set_option linter.unusedVariables false
set_option linter.unusedSimpArgs false
namespace Go.Proofs
open Go.RowKit Go.Proofs.Mp Go.Proofs.Uf

abbrev Sl3 : Type := Option Addr × Nat × List Int
/-- the blocks in which the lists lie -/
def blk (ls : List Sl3) : Nat → Prop := fun j => ∃ s ∈ ls, ∃ a, s.1 = some a ∧ a.block = j
/-- lists that are read, each in a block that is there -/
def AllRd (w : World) (ls : List Sl3) : Prop := ∀ s ∈ ls, RdI w s.1 s.2.2 ∧ ∀ a, s.1 = some a → a.block < w.heap.size

theorem rdI_kept {w w' : World} {A : Option Addr} {xs : List Int} (h : RdI w A xs) {row : Option Nat} (hg : w.grownBy w' row) (hne : ∀ a, A = some a → some a.block ≠ row) : RdI w' A xs := by
  rcases h with rfl | ⟨b, off, rfl, hb, hc⟩
  · exact .inl rfl
  · refine .inr ⟨b, off, rfl, Nat.lt_of_lt_of_le hb hg.size, fun j hj i u hu => hg.cell (hc j hj i u hu) (hne ⟨b, off, none⟩ rfl)⟩
theorem AllRd.kept {w w' : World} {ls : List Sl3} (h : AllRd w ls) {row : Option Nat} (hg : w.grownBy w' row) (hne : ∀ j, row = some j → ¬ blk ls j) : AllRd w' ls := by
  intro s hs
  obtain ⟨h1, h2⟩ := h s hs
  refine ⟨rdI_kept h1 hg fun a ha e => hne _ e.symm ⟨s, hs, a, ha, rfl⟩, fun a ha => Nat.lt_of_lt_of_le (h2 a ha) hg.size⟩
theorem AllRd.lt {w : World} {ls : List Sl3} (h : AllRd w ls) : ∀ j, blk ls j → j < w.heap.size := by
  rintro j ⟨s, hs, a, ha, rfl⟩
  exact (h s hs).2 a ha
theorem AllRd.none {w w' : World} {ls : List Sl3} (h : AllRd w ls) (hg : w.grownBy w' Option.none) : AllRd w' ls := h.kept hg (fun j e => by cases e)

/-- the groups of the first k features that are the least of their groups -/
noncomputable def clTo (E : Int → Int → Prop) (all : List Int) (k : Nat) : List (List Int) := ((all.take k).filter fun x => dec (∀ y ∈ all, Conn E x y → x ≤ y)).map fun r => all.filter fun x => dec (Conn E r x)
theorem clTo_all (E : Int → Int → Prop) (all : List Int) : clTo E all all.length = clS E all := by unfold clTo clS; rw [List.take_length]
theorem clTo_yes {E : Int → Int → Prop} {all : List Int} {k : Nat} (hk : k < all.length) (h : ∀ y ∈ all, Conn E all[k]! y → all[k]! ≤ y) : clTo E all (k + 1) = clTo E all k ++ [all.filter fun x => dec (Conn E all[k]! x)] := by
  unfold clTo
  rw [take_snoc hk, List.filter_append, List.map_append, List.filter_cons, if_pos ((dec_iff _).2 h)]
  rfl
theorem clTo_no {E : Int → Int → Prop} {all : List Int} {k : Nat} (hk : k < all.length) (h : ¬ ∀ y ∈ all, Conn E all[k]! y → all[k]! ≤ y) : clTo E all (k + 1) = clTo E all k := by
  unfold clTo
  have e : dec (∀ y ∈ all, Conn E all[k]! y → all[k]! ≤ y) = false := dec_eq (by simpa using h)
  rw [take_snoc hk, List.filter_append, List.map_append, List.filter_cons, if_neg (by rw [e]; simp)]
  simp
/-- the first of the members of an ascending list that are linked to f is f exactly if f is the least of them -/
theorem head_iff {E : Int → Int → Prop} {all : List Int} (hasc : Asc all) {f : Int} (hf : f ∈ all) : ∃ h t, (all.filter fun x => dec (Conn E f x)) = h :: t ∧ (h = f ↔ ∀ y ∈ all, Conn E f y → f ≤ y) := by
  have hm : f ∈ all.filter fun x => dec (Conn E f x) := List.mem_filter.2 ⟨hf, (dec_iff _).2 (.refl _)⟩
  have hs : Asc (all.filter fun x => dec (Conn E f x)) := List.Pairwise.filter _ hasc
  have hmem : ∀ y, y ∈ (all.filter fun x => dec (Conn E f x)) ↔ y ∈ all ∧ Conn E f y := fun y => by rw [List.mem_filter, dec_iff]
  rcases hl : (all.filter fun x => dec (Conn E f x)) with _ | ⟨h, t⟩
  · rw [hl] at hm; cases hm
  · rw [hl] at hm hs hmem
    refine ⟨h, t, rfl, ?_⟩
    have hle : ∀ y, y ∈ h :: t → h ≤ y := fun y hy => by
      rcases List.mem_cons.1 hy with rfl | hy
      · exact Int.le_refl _
      · exact Int.le_of_lt ((List.pairwise_cons.1 hs).1 y hy)
    constructor
    · rintro rfl y hy hc
      exact hle y ((hmem y).2 ⟨hy, hc⟩)
    · intro hmin
      have h1 := hle f hm
      obtain ⟨h2, h3⟩ := (hmem h).1 List.mem_cons_self
      have := hmin h h2 h3
      omega
end Go.Proofs
