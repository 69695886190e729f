/- What a row hands to a walk: a slice of integers, opened to a list. -/
import Derived.Test.YtpcpffljcadnkaaT12
import Derived.Test.YtpcpffljcadnkaaRows
import Derived.ProofKit
import Derived.OpenShut
import Derived.ChangeOld
import Derived.ChangeSlices
import Derived.Below
namespace Go.Proofs
open Go.ChangeShapes Go.WideShapes Go.ChangeAt Go.RowKit Go.Proofs.Mp

section
variable {H : Type} {enc : TypeId × Value → H} {P : Program} {w : World} {base : Nat} {spare : Nat → Bool} {held : Bool}
theorem Mp.open_sl {t e : TypeId} (ht : P.underlying t = some (.slice e)) (he : P.underlying e = some (.int .i64)) (hC : P.cellsOf e = 1) {A : Option Addr} {len cap : Nat} {d : DataW H} {p : List MemPlace}
    (h : DataW.Trod enc P w base spare held t (.slice A len cap) d p) :
    ∃ zs : List Int, zs.length = len ∧ cap ≤ maxLen ∧ SlI w (.slice A len cap) zs := by
  obtain ⟨fuel, hf⟩ := h
  rcases open_ints ht he hC hf with ⟨hcs, hx⟩ | ⟨a, l, c, zs, hcs, hb, hl, hm, hz, hx, hcell, hwz⟩
  · simp [Value.cells] at hcs
    obtain ⟨rfl, rfl, rfl⟩ := hcs
    exact ⟨[], rfl, Nat.zero_le _, none, 0, rfl, Nat.le_refl _, Rd.nil _⟩
  · simp [Value.cells] at hcs
    obtain ⟨rfl, rfl, rfl⟩ := hcs
    have hlz : len ≤ zs.length := by rw [hz]; split <;> omega
    refine ⟨zs.take len, by simp; omega, hm, some a, cap, ?_, by simp; omega, ?_⟩
    · rw [List.length_take, Nat.min_eq_left hlz]
    · by_cases h0 : len = 0
      · subst h0; exact .inl (by simp)
      · obtain ⟨b, off, spot⟩ := a
        have hc := hcell 0 (by omega)
        have hspot : spot = none := by simpa [Addr.add] using World.cell?_spot hc
        subst hspot
        have hbl : b < w.heap.size := World.block_lt_of_cell? w _ (show w.cell? ⟨b, off, none⟩ = some _ by simpa [Addr.add] using hc)
        refine .inr ⟨b, off, rfl, hbl, fun j hj i u hu => ?_⟩
        have hj' : j < len := by simp only [List.length_take] at hj; omega
        match i with
        | 0 =>
          simp only [Mp.encI, List.getElem?_cons_zero, Option.some.injEq] at hu
          subst hu
          have := hcell j (by omega)
          have e : (⟨b, off, none⟩ : Addr).add j = ⟨b, off + j, none⟩ := by
            unfold Addr.add
            split
            · rename_i h0; simp [h0]
            · rfl
          rw [e] at this
          rw [Nat.mul_one, Nat.add_zero, this]
          congr 2
          have hjz : j < zs.length := by omega
          simp [getElem!_def, hj', hjz, List.getD]
        | i + 1 => simp [Mp.encI] at hu
end
end Go.Proofs
