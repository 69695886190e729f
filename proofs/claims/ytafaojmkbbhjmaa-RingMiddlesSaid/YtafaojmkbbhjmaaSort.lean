import Derived.Test.YtafaojmkbbhjmaaA3
import Derived.Test.YtafaojmkbbhjmaaShelf
import Derived.Lib.RowBridge
set_option linter.unusedVariables false
set_option linter.unusedSimpArgs false
namespace Go.Proofs
open Go.RowKit Go.Proofs.Mp

/-- a row of the call's own that the sort may turn -/
def HeldI (w : World) (base : Nat) (v : Value) (xs : List Int) : Prop :=
  (∃ A c, v = .slice A 0 c ∧ xs = []) ∨ ∃ g c, v = .slice (some ⟨g, 0, none⟩) xs.length c ∧ base ≤ g ∧ g < w.heap.size ∧ xs.length ≤ c ∧ Go.Sort.Holds (Value.int .i64) w g 0 xs.toArray

theorem own_held {w : World} {base : Nat} {v : Value} {xs : List Int} (h : OwnI 3 w base v xs) : HeldI w base v xs := by
  have h0 := h
  rcases h.2 with ⟨rfl, hn⟩ | ⟨g, cap, cur, rfl, hb, hh, hnc, hm, hcs, htake⟩
  · exact .inl ⟨none, 0, rfl, List.eq_nil_of_length_eq_zero hn⟩
  · refine .inr ⟨g, cap, rfl, hb, (Array.getElem?_eq_some_iff.1 hh).1, hnc, fun j hj => ?_⟩
    have hj' : j < xs.length := by simpa using hj
    refine ⟨?_, frozen_of_row w g _ cur 3 hh⟩
    have hR : RdI w (some ⟨g, 0, none⟩) xs := Own.rd encI_len h0
    obtain ⟨b, off, he, _, hc⟩ := RdI.getAll hR (Below.refl _ _) hj'
    injection he with he
    injection he with h1 h2 h3
    subst h1; subst h2
    rw [hc j hj']
    simp

theorem held_rd {w : World} {base n c : Nat} {A : Option Addr} {xs : List Int} (h : HeldI w base (.slice A n c) xs) : n = xs.length ∧ RdI w A xs := by
  rcases h with ⟨A', c', he, rfl⟩ | ⟨g, c', he, _, hg, _, hH⟩
  · injection he with h1 h2 h3
    exact ⟨h2, Rd.nil _⟩
  · injection he with h1 h2 h3
    subst h1
    refine ⟨h2, .inr ⟨g, 0, rfl, hg, fun j hj i u hu => ?_⟩⟩
    have h4 := (hH j (by simpa using hj)).1
    match i with
    | 0 =>
      simp [Mp.encI] at hu
      subst hu
      simpa using h4
    | i + 1 => simp [Mp.encI] at hu

theorem putRow_size {w : World} {g off q : Nat} {d : Array Int} : (Go.Sort.putRow (Value.int .i64) (Go.Sort.ahead w q) g off d).heap.size = w.heap.size := by
  simp [Go.Sort.putRow, Go.Sort.mapBlock, Go.Sort.ahead]

theorem below_putRow {w : World} {g off q : Nat} {d : Array Int} (h : g < w.heap.size) : Below g w (Go.Sort.putRow (Value.int .i64) (Go.Sort.ahead w q) g off d) := by
  refine ⟨rfl, rfl, rfl, by rw [putRow_size]; exact Nat.le_refl _, fun k hk => ?_⟩
  simp only [Go.Sort.putRow, Go.Sort.mapBlock, Array.getElem?_modify]
  rw [if_neg (by omega)]
  rfl

theorem sort_held {w : World} {base : Nat} {v : Value} {xs : List Int} (h : HeldI w base v xs) (hs : xs.length ≤ 1000000000000) :
    Calls Try.prog 50 #[v] w fun e w' => e = .returned (.tuple #[]) ∧ HeldI w' base v (xs.mergeSort fun x y => decide (x ≤ y)) ∧ (base ≤ w.heap.size → Below base w w') := by
  rcases h with ⟨A, c, rfl, rfl⟩ | ⟨g, c, rfl, hb, hg, hc, hH⟩
  · exact (Try.slices_Sort_int_none A c w).mono fun e w' ⟨he, hw⟩ => by
      subst hw
      exact ⟨he, .inl ⟨A, c, rfl, by simp⟩, fun _ => Below.refl _ _⟩
  · refine (Try.slices_Sort_int g 0 c xs w hH hg (by omega)).mono fun e w' ⟨he, n, os, hw⟩ => ?_
    subst hw
    have hp : (Go.Sort.putRow (Value.int .i64) (Go.Sort.ahead w n) g 0 (xs.mergeSort fun x y => decide (x ≤ y)).toArray).heap.size = w.heap.size := putRow_size
    have hP := Go.Sort.holds_putRow (Value.int .i64) (Go.Sort.ahead w n) g 0 xs.toArray (xs.mergeSort fun x y => decide (x ≤ y)).toArray (Go.Sort.holds_ahead _ _ _ _ _ _ hH) (by simp)
    refine ⟨he, .inr ⟨g, c, by simp, hb, ?_, by simpa using hc, Go.Sort.holds_grow _ _ _ _ _ _ (by rw [hp]; exact hg) hP⟩, fun hbs => ?_⟩
    · show g < (_ ++ _ : Array Obj).size
      rw [Array.size_append, hp]; omega
    · have h1 := (below_putRow (off := 0) (q := n) (d := (xs.mergeSort fun x y => decide (x ≤ y)).toArray) hg).mono hb
      refine ⟨rfl, rfl, rfl, ?_, fun k hk => ?_⟩
      · show _ ≤ (_ ++ _ : Array Obj).size
        rw [Array.size_append, hp]; omega
      · rw [Go.Sort.heap_grow_old _ _ (by rw [hp]; omega)]
        exact h1.block k hk

end Go.Proofs
