import Derived.Test.YtoknjlodhohioaaT19
import Derived.ChangeKeysEq
set_option linter.unusedVariables false
set_option linter.unusedSimpArgs false
namespace Go.Proofs
open Go.RowKit Go.Proofs.Mp Go.Proofs.Uf

theorem Try.neq48 (x1 x2 y1 y2 : Int) (W : World) : (binOp .neq 48 (.agg #[.int .i64 x1, .int .i64 x2]) (.agg #[.int .i64 y1, .int .i64 y2])).run Try.prog W = .ok (.bool (decide (x1 = y1 → x2 ≠ y2))) W := by
  obtain ⟨i0, hi, hz0, hz1, hz2⟩ := Mp.info_parts Try.infoI
  have u3 := Try.underlying3
  have a3 := Try.isAgg3
  have z3 := Try.sizeOf3
  have c3 : Try.prog.cellsOf 3 = 1 := by kernel_rfl
  rw [run_neq_struct, show (10000 : Nat) = 9999 + 1 from rfl, run_equalIn_array W 9999 _ _ Try.underlying48 hi, c3]
  simp only [show List.range 2 = [0, 1] from rfl, Op.eqItems]
  go_simp
  by_cases h1 : x1 = y1 <;> by_cases h2 : x2 = y2 <;> simp [h1, h2]
theorem Try.guard48 : Try.prog.eqGuardType Try.prog.depth 48 = false := by kernel_rfl
theorem Try.guard27 : Try.prog.eqGuardType Try.prog.depth 27 = false := by kernel_rfl

theorem Try.neq27 (x y : Cand) (W : World) : (binOp .neq 27 (aggC x) (aggC y)).run Try.prog W = .ok (.bool (decide (x ≠ y))) W := by
  obtain ⟨a0, a1, a2, a3, a4, a5, a6, a7⟩ := x
  obtain ⟨b0, b1, b2, b3, b4, b5, b6, b7⟩ := y
  unfold aggC
  dsimp only
  have u3 := Try.underlying3
  have ag3 := Try.isAgg3
  have z3 := Try.sizeOf3
  have ag23 := Try.isAgg23
  have ag25 := Try.isAgg25
  have z23 := Try.sizeOf23
  have z25 := Try.sizeOf25
  have u23 := Try.underlying23
  have u25 := Try.underlying25
  have hS23 : Try.prog.underlying 23 = some (.struct (Try.prog.fieldsOf 23)) := by kernel_rfl
  have hp23 : Try.prog.stoodInHeld 23 = false := by kernel_rfl
  have hS25 : Try.prog.underlying 25 = some (.struct (Try.prog.fieldsOf 25)) := by kernel_rfl
  have hp25 : Try.prog.stoodInHeld 25 = false := by kernel_rfl
  have hS27 : Try.prog.underlying 27 = some (.struct (Try.prog.fieldsOf 27)) := by kernel_rfl
  have hp27 : Try.prog.stoodInHeld 27 = false := by kernel_rfl
  rw [run_neq_struct, show (10000 : Nat) = 9999 + 1 from rfl, run_equalIn_agg W 9999 27 _ _ hS27 hp27]
  simp only [Program.fieldsOf, Try.underlying27]
  go_simp
  repeat' split
  all_goals simp [*]

section
variable {α : Type} [Inhabited α]
def agreeG (xs ys : List α) (k : Nat) : Prop := ∀ j, j < k → xs[j]! = ys[j]!
theorem agreeG_succ {xs ys : List α} {k : Nat} (h : agreeG xs ys k) (hk : xs[k]! = ys[k]!) : agreeG xs ys (k + 1) := by
  intro j hj
  rcases Nat.lt_succ_iff_lt_or_eq.1 hj with h1 | rfl
  · exact h j h1
  · exact hk
theorem agreeG_all {xs ys : List α} (hl : xs.length = ys.length) (h : agreeG xs ys xs.length) : xs = ys := by
  apply List.ext_getElem hl
  intro i h1 h2
  have := h i h1
  simpa [h1, h2] using this
end

set_option maxHeartbeats 1000000 in
theorem same_pairs (A B : Option Addr) (c d : Nat) (xs ys : List (Int × Int)) (w : World) (h1 : xs.length ≤ 1000000000) (h2 : ys.length ≤ 1000000000) (hA : Rd 2 encR w A xs) (hB : Rd 2 encR w B ys) :
    Calls Try.prog 12 #[.slice A xs.length c, .slice B ys.length d] w (RetV w (.bool (decide (xs = ys)))) := by
  by_cases hl : xs.length = ys.length
  · have hlb : ((xs.length : Int) != (ys.length : Int)) = false := by simp [hl]
    have HL := Lib.hid hl
    clear hl
    go_enter Try.func12, Try.ntmps12
    go_wp2
    go_loopw [5] (fun i wr => ∃ k : Nat, k ≤ xs.length ∧ i = .int .i64 k ∧ agreeG xs ys k ∧ Below w.heap.size w wr) (fun i _ => xs.length - (intOf i).toNat)
    case atStart => exact ⟨0, by omega, rfl, fun j hj => by omega, Below.refl _ _⟩
    case round =>
      obtain ⟨k, hk, rfl, hag, hbw⟩ := hrel
      by_cases hlt : k < xs.length
      · have hly : k < ys.length := by have := HL.out; omega
        obtain ⟨b, off, rfl, hb, a1, a2⟩ := RdR.get hA hbw hlt
        obtain ⟨b', off', rfl, hb', e1, e2⟩ := RdR.get hB hbw hly
        obtain ⟨⟨x1, x2⟩, hx⟩ : ∃ x, xs[k]! = x := ⟨_, rfl⟩
        obtain ⟨⟨y1, y2⟩, hy⟩ : ∃ y, ys[k]! = y := ⟨_, rfl⟩
        rw [hx] at a1 a2
        rw [hy] at e1 e2
        dsimp only at a1 a2 e1 e2
        have HX := Lib.hid hx
        have HY := Lib.hid hy
        clear hx hy
        have hG := Try.guard48
        by_cases he : (x1, x2) = (y1, y2)
        · have hN := fun W => Try.neq48 x1 x2 y1 y2 W
          simp only [Prod.mk.injEq] at he
          obtain ⟨rfl, rfl⟩ := he
          simp only [ne_eq, not_true_eq_false, imp_false, decide_false] at hN
          go_wp2
          go_quiet (fail)
          go_wp2
          go_roundw
          case rel => exact ⟨k + 1, by omega, by go_num, agreeG_succ hag (by rw [HX.out, HY.out]), hbw.trans (below_drewN (Below.refl _ _) _)⟩
          case measure => simp [intOf]; omega
        · have hN := fun W => Try.neq48 x1 x2 y1 y2 W
          have hd : decide (x1 = y1 → x2 ≠ y2) = true := decide_eq_true fun h h' => he (by rw [h, h'])
          rw [hd] at hN
          clear hd
          have HE := Lib.hid he
          clear he
          go_wp2
          go_quiet (fail)
          go_wp2
          go_ret
          exact RetV.bool (by symm; rw [decide_eq_false_iff_not]; intro e; exact HE.out (by rw [← HX.out, ← HY.out, e])) (hbw.trans (below_drewN (Below.refl _ _) _))
      · go_wp2
        go_ret
        exact RetV.bool (by symm; rw [decide_eq_true_iff]; exact agreeG_all HL.out (by rwa [show xs.length = k by omega])) hbw
  · have hlb : ((xs.length : Int) != (ys.length : Int)) = true := by simp; omega
    have hne : xs ≠ ys := fun e => hl (by rw [e])
    clear hl
    go_enter Try.func12, Try.ntmps12
    go_wp2
    go_ret
    exact RetV.bool (by simp [hne]) (Below.refl _ _)

set_option maxHeartbeats 1000000 in
theorem same_cands (A B : Option Addr) (c d : Nat) (xs ys : List Cand) (w : World) (h1 : xs.length ≤ 1000000000) (h2 : ys.length ≤ 1000000000) (hA : Rd 8 encC w A xs) (hB : Rd 8 encC w B ys) :
    Calls Try.prog 21 #[.slice A xs.length c, .slice B ys.length d] w (RetV w (.bool (decide (xs = ys)))) := by
  by_cases hl : xs.length = ys.length
  · have hlb : ((xs.length : Int) != (ys.length : Int)) = false := by simp [hl]
    have HL := Lib.hid hl
    clear hl
    go_enter Try.func21, Try.ntmps21
    go_wp2
    go_loopw [5] (fun i wr => ∃ k : Nat, k ≤ xs.length ∧ i = .int .i64 k ∧ agreeG xs ys k ∧ Below w.heap.size w wr) (fun i _ => xs.length - (intOf i).toNat)
    case atStart => exact ⟨0, by omega, rfl, fun j hj => by omega, Below.refl _ _⟩
    case round =>
      obtain ⟨k, hk, rfl, hag, hbw⟩ := hrel
      by_cases hlt : k < xs.length
      · have hly : k < ys.length := by have := HL.out; omega
        obtain ⟨b, off, rfl, hb, a0, a1, a2, a3, a4, a5, a6, a7⟩ := RdC.get hA hbw hlt
        obtain ⟨b', off', rfl, hb', e0, e1, e2, e3, e4, e5, e6, e7⟩ := RdC.get hB hbw hly
        obtain ⟨x, hx⟩ : ∃ x, xs[k]! = x := ⟨_, rfl⟩
        obtain ⟨y, hy⟩ : ∃ y, ys[k]! = y := ⟨_, rfl⟩
        rw [hx] at a0 a1 a2 a3 a4 a5 a6 a7
        rw [hy] at e0 e1 e2 e3 e4 e5 e6 e7
        have HX := Lib.hid hx
        have HY := Lib.hid hy
        clear hx hy
        have hG := Try.guard27
        have hN := fun W => Try.neq27 x y W
        unfold aggC at hN
        by_cases he : x = y
        · rw [decide_eq_false (by simpa using he)] at hN
          have HE := Lib.hid he
          clear he
          go_wp2
          go_quiet (fail)
          go_wp2
          go_roundw
          case rel => exact ⟨k + 1, by omega, by go_num, agreeG_succ hag (by rw [HX.out, HY.out, HE.out]), hbw.trans (below_drewN (Below.refl _ _) _)⟩
          case measure => simp [intOf]; omega
        · rw [decide_eq_true (by simpa using he)] at hN
          have HE := Lib.hid he
          clear he
          go_wp2
          go_quiet (fail)
          go_wp2
          go_ret
          exact RetV.bool (by symm; rw [decide_eq_false_iff_not]; intro e; exact HE.out (by rw [← HX.out, ← HY.out, e])) (hbw.trans (below_drewN (Below.refl _ _) _))
      · go_wp2
        go_ret
        exact RetV.bool (by symm; rw [decide_eq_true_iff]; exact agreeG_all HL.out (by rwa [show xs.length = k by omega])) hbw
  · have hlb : ((xs.length : Int) != (ys.length : Int)) = true := by simp; omega
    have hne : xs ≠ ys := fun e => hl (by rw [e])
    clear hl
    go_enter Try.func21, Try.ntmps21
    go_wp2
    go_ret
    exact RetV.bool (by simp [hne]) (Below.refl _ _)
end Go.Proofs
