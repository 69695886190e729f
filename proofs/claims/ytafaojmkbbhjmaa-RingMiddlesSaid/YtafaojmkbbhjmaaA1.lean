import Derived.Test.YtafaojmkbbhjmaaProg
import Derived.Test.YtafaojmkbbhjmaaBase
import Derived.BigQuiet
import Derived.Deep.QuietTactic
set_option linter.unusedVariables false
set_option linter.unusedSimpArgs false
namespace Go.Proofs
open Go.RowKit Go.Proofs.Mp

theorem call_i {f : FuncId} {args : Array Value} {w : World} {x y : Int} (h : Calls Try.prog f args w (RetV w (.int .i64 x))) (e : x = y) : Calls Try.prog f args w (RetV w (.int .i64 y)) := e ▸ h
theorem call_b {f : FuncId} {args : Array Value} {w : World} {x y : Bool} (h : Calls Try.prog f args w (RetV w (.bool x))) (e : x = y) : Calls Try.prog f args w (RetV w (.bool y)) := e ▸ h

/-- lists that agree so far -/
def agree (xs ys : List Int) (k : Nat) : Prop := ∀ j, j < k → xs[j]! = ys[j]!
theorem agree_succ {xs ys : List Int} {k : Nat} (h : agree xs ys k) (hk : xs[k]! = ys[k]!) : agree xs ys (k + 1) := by
  intro j hj
  rcases Nat.lt_succ_iff_lt_or_eq.1 hj with h1 | rfl
  · exact h j h1
  · exact hk
theorem agree_all {xs ys : List Int} (hl : xs.length = ys.length) (h : agree xs ys xs.length) : xs = ys := by
  apply List.ext_getElem hl
  intro i h1 h2
  have := h i h1
  simpa [h1, h2] using this


def noneTo (zs : List Int) (x : Int) (k : Nat) : Prop := ∀ j, j < k → zs[j]! ≠ x
theorem has_yes {zs : List Int} {x : Int} {k : Nat} (hk : k < zs.length) (h : zs[k]! = x) : decide (x ∈ zs) = true := by
  rw [decide_eq_true_iff, ← h]
  simp [hk]
theorem has_no {zs : List Int} {x : Int} (h : noneTo zs x zs.length) : decide (x ∈ zs) = false := by
  rw [decide_eq_false_iff_not]
  intro hc
  obtain ⟨i, hi, rfl⟩ := List.getElem_of_mem hc
  have := h i hi
  simp [hi] at this
theorem noneTo_succ {zs : List Int} {x : Int} {k : Nat} (h : noneTo zs x k) (hk : zs[k]! ≠ x) : noneTo zs x (k + 1) := by
  intro j hj
  rcases Nat.lt_succ_iff_lt_or_eq.1 hj with h1 | rfl
  · exact h j h1
  · exact hk

set_option maxHeartbeats 400000 in
theorem ref_has (A : Option Addr) (c : Nat) (x : Int) (zs : List Int) (w : World) (hmax : zs.length ≤ 1000000000000) (hR : RdI w A zs) :
    Calls Try.prog 81 #[.slice A zs.length c, .int .i64 x] w (RetV w (.bool (decide (x ∈ zs)))) := by
  go_enter Try.func81, Try.ntmps81
  go_wp2
  go_loop [5] (fun i => ∃ k : Nat, k ≤ zs.length ∧ i = .int .i64 k ∧ noneTo zs x k) (fun i => zs.length - (intOf i).toNat)
  case atStart => exact ⟨0, by omega, rfl, fun j hj => by omega⟩
  case round =>
    obtain ⟨k, hk, rfl, hno⟩ := hrel
    by_cases hlt : k < zs.length
    · obtain ⟨b, off, rfl, hb, g1⟩ := RdI.get hR (Below.refl _ _) hlt
      obtain ⟨y, hy⟩ : ∃ y, zs[k]! = y := ⟨_, rfl⟩
      rw [hy] at g1
      have HY := Lib.hid hy
      clear hy
      by_cases he : y = x
      · have hE : (y == x) = true := by simp [he]
        have HE := Lib.hid he
        clear he
        go_wp2
        go_ret
        exact RetV.bool (has_yes hlt (by rw [HY.out, HE.out])).symm (Below.refl _ _)
      · have hE : (y == x) = false := by simp [he]
        have HE := Lib.hid he
        clear he
        go_wp2
        go_roundw
        case rel => exact ⟨k + 1, by omega, by go_num, noneTo_succ hno (by rw [HY.out]; exact HE.out)⟩
        case measure => simp [intOf]; omega
    · go_wp2
      go_ret
      exact RetV.bool (has_no (by rwa [show zs.length = k by omega])).symm (Below.refl _ _)

def ascAt (zs : List Int) (k : Nat) : Bool := decide (zs[k-1]! < zs[k]!)
/-- ascending from place 1 to place k -/
def ascTo (zs : List Int) (k : Nat) : Prop := ∀ j, 1 ≤ j → j < k → zs[j-1]! < zs[j]!
def ascB (zs : List Int) : Bool := (List.range zs.length).all fun j => decide (j = 0) || decide (zs[j-1]! < zs[j]!)
theorem ascTo_succ {zs : List Int} {k : Nat} (h : ascTo zs k) (hk : zs[k-1]! < zs[k]!) : ascTo zs (k + 1) := by
  intro j h1 hj
  rcases Nat.lt_succ_iff_lt_or_eq.1 hj with h2 | rfl
  · exact h j h1 h2
  · exact hk
theorem asc_yes {zs : List Int} {k : Nat} (hk : zs.length ≤ k) (h : ascTo zs k) : ascB zs = true := by
  unfold ascB
  rw [List.all_eq_true]
  intro j hj
  rw [List.mem_range] at hj
  rcases j with _ | j
  · rfl
  · simp only [Bool.or_eq_true, decide_eq_true_eq]; right; exact h (j + 1) (by omega) (by omega)
theorem asc_no {zs : List Int} {k : Nat} (h0 : 1 ≤ k) (hk : k < zs.length) (h : ¬ zs[k-1]! < zs[k]!) : ascB zs = false := by
  unfold ascB
  rw [List.all_eq_false]
  refine ⟨k, List.mem_range.2 hk, ?_⟩
  simp only [Bool.or_eq_true, decide_eq_true_eq]
  omega
end Go.Proofs
