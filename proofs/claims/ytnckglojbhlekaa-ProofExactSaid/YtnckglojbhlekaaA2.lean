import Derived.Test.YtnckglojbhlekaaA1
set_option linter.unusedVariables false
set_option linter.unusedSimpArgs false
namespace Go.Proofs
open Go.RowKit Go.Proofs.Mp

set_option maxHeartbeats 400000 in
theorem ref_valid (A : Option Addr) (c : Nat) (zs : List Int) (w : World) (hmax : zs.length ≤ 1000000000000) (hR : RdI w A zs) :
    Calls Try.prog 34 #[.slice A zs.length c] w (RetV w (.bool (ascB zs))) := by
  go_enter Try.func34, Try.ntmps34
  go_wp2
  go_loopw [3] (fun i wr => ∃ k : Nat, 1 ≤ k ∧ k ≤ 1000000000001 ∧ i = .int .i64 k ∧ ascTo zs k ∧ Below w.heap.size w wr) (fun i _ => zs.length - (intOf i).toNat)
  case atStart => exact ⟨1, by omega, by omega, rfl, fun j h1 hj => by omega, Below.refl _ _⟩
  case round =>
    obtain ⟨k, hk1, hk2, rfl, has, hbw⟩ := hrel
    by_cases hlt : k < zs.length
    · obtain ⟨b, off, rfl, hb, hc⟩ := RdI.getAll hR hbw hlt
      have g1 := hc k hlt
      have g0 := hc (k - 1) (by omega)
      obtain ⟨x, hx⟩ : ∃ x, zs[k-1]! = x := ⟨_, rfl⟩
      obtain ⟨y, hy⟩ : ∃ y, zs[k]! = y := ⟨_, rfl⟩
      rw [hx] at g0
      rw [hy] at g1
      have HX := Lib.hid hx
      have HY := Lib.hid hy
      have e1 : IntKind.i64.wrap ((k : Int) - 1) = ((k - 1 : Nat) : Int) := by rw [IntWalk.i64_in _ (by omega)]; omega
      clear hx hy hc
      by_cases he : x < y
      · have hN : decide (y ≤ x) = false := decide_eq_false (by omega)
        have HE := Lib.hid he
        clear he
        go_wp2
        go_quiet (fail)
        go_wp2
        go_roundw
        case rel => exact ⟨k + 1, by omega, by omega, by go_num, ascTo_succ has (by rw [HX.out, HY.out]; exact HE.out), hbw.trans (below_drewN (Below.refl _ _) _)⟩
        case measure => simp [intOf]; omega
      · have hN : decide (y ≤ x) = true := decide_eq_true (by omega)
        have HE := Lib.hid he
        clear he
        go_wp2
        go_quiet (fail)
        go_wp2
        go_ret
        exact RetV.bool (asc_no hk1 hlt (by rw [HX.out, HY.out]; have := HE.out; omega)).symm (hbw.trans (below_drewN (Below.refl _ _) _))
    · go_wp2
      go_ret
      exact RetV.bool (asc_yes (by omega) has).symm hbw
end Go.Proofs
