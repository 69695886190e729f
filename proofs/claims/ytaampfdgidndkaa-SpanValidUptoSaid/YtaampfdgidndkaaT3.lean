import Derived.Test.YtaampfdgidndkaaProg
import Derived.Test.YtaampfdgidndkaaBase
import Derived.Test.YtaampfdgidndkaaPlain
import Derived.BigQuiet
import Derived.Deep.QuietTactic
set_option linter.unusedVariables false
set_option linter.unusedSimpArgs false
namespace Go.Proofs
open Go.RowKit Go.Proofs.Mp

theorem few_any (A B C : Option Addr) (a b c : Nat) (la lb lc : Nat) (w : World) (ha : la ≤ 9223372036854775807) (hb : lb ≤ 9223372036854775807) (hc : lc ≤ 9223372036854775807) :
    Calls Try.prog 8 #[.slice A la a, .slice B lb b, .slice C lc c] w (RetV w (.bool (decide (la ≤ 60 ∧ lb ≤ 60 ∧ lc ≤ 60)))) := by
  by_cases h1 : la ≤ 60
  · by_cases h2 : lb ≤ 60
    · by_cases h3 : lc ≤ 60
      all_goals
        go_enter Try.func8, Try.ntmps8
        go_wp2
        all_goals go_ret
        all_goals exact RetV.bool (by simp [h1, h2, h3]; omega) (Below.refl _ _)
    · go_enter Try.func8, Try.ntmps8
      go_wp2
      all_goals go_ret
      all_goals exact RetV.bool (by first | rfl | (symm; rw [decide_eq_false_iff_not]; omega)) (Below.refl _ _)
  · go_enter Try.func8, Try.ntmps8
    go_wp2
    all_goals go_ret
    all_goals exact RetV.bool (by first | rfl | (symm; rw [decide_eq_false_iff_not]; omega)) (Below.refl _ _)

theorem Try.neq33 (x1 x2 y1 y2 : Int) (W : World) : (binOp .neq 33 (.agg #[.int .i64 x1, .int .i64 x2]) (.agg #[.int .i64 y1, .int .i64 y2])).run Try.prog W = .ok (.bool (decide (x1 = y1 → x2 ≠ y2))) W := by
  have u3 := Try.underlying3
  have a3 := Try.isAgg3
  have z3 := Try.sizeOf3
  have hS : Try.prog.underlying 33 = some (.struct (Try.prog.fieldsOf 33)) := by kernel_rfl
  have hp : Try.prog.stoodInHeld 33 = false := by kernel_rfl
  rw [run_neq_struct, show (10000 : Nat) = 9999 + 1 from rfl, run_equalIn_agg W 9999 33 _ _ hS hp]
  simp only [Program.fieldsOf, Try.underlying33]
  go_simp
  by_cases h1 : x1 = y1 <;> by_cases h2 : x2 = y2 <;> simp [h1, h2]
theorem Try.guard33 : Try.prog.eqGuardType Try.prog.depth 33 = false := by kernel_rfl

/-- lists that agree so far -/
def agree (xs ys : List (Int × Int)) (k : Nat) : Prop := ∀ j, j < k → xs[j]! = ys[j]!
theorem agree_succ {xs ys : List (Int × Int)} {k : Nat} (h : agree xs ys k) (hk : xs[k]! = ys[k]!) : agree xs ys (k + 1) := by
  intro j hj
  rcases Nat.lt_succ_iff_lt_or_eq.1 hj with h1 | rfl
  · exact h j h1
  · exact hk
theorem agree_all {xs ys : List (Int × Int)} (hl : xs.length = ys.length) (h : agree xs ys xs.length) : xs = ys := by
  apply List.ext_getElem hl
  intro i h1 h2
  have := h i h1
  simpa [h1, h2] using this

set_option maxHeartbeats 400000 in
theorem ref_same (A B : Option Addr) (c d : Nat) (xs ys : List (Int × Int)) (w : World) (h1 : xs.length ≤ 1000000000000) (h2 : ys.length ≤ 1000000000000) (hA : RdR w A xs) (hB : RdR w B ys) :
    Calls Try.prog 12 #[.slice A xs.length c, .slice B ys.length d] w (RetV w (.bool (decide (xs = ys)))) := by
  by_cases hl : xs.length = ys.length
  · have hlb : ((xs.length : Int) != (ys.length : Int)) = false := by simp [hl]
    have HL := Lib.hid hl
    clear hl
    go_enter Try.func12, Try.ntmps12
    go_wp2
    go_loopw [5] (fun i wr => ∃ k : Nat, k ≤ xs.length ∧ i = .int .i64 k ∧ agree xs ys k ∧ Below w.heap.size w wr) (fun i _ => xs.length - (intOf i).toNat)
    case atStart => exact ⟨0, by omega, rfl, fun j hj => by omega, Below.refl _ _⟩
    case round =>
      obtain ⟨k, hk, rfl, hag, hbw⟩ := hrel
      by_cases hlt : k < xs.length
      · have hly : k < ys.length := by have := HL.out; omega
        obtain ⟨b, off, rfl, hb, g1, g2⟩ := RdR.get hA hbw hlt
        obtain ⟨b', off', rfl, hb', g3, g4⟩ := RdR.get hB hbw hly
        rcases hx : xs[k]! with ⟨x1, x2⟩
        rcases hy : ys[k]! with ⟨y1, y2⟩
        rw [hx] at g1 g2
        rw [hy] at g3 g4
        have HX := Lib.hid hx
        have HY := Lib.hid hy
        clear hx hy
        have hG := Try.guard33
        by_cases he : (x1, x2) = (y1, y2)
        · have hN := fun W => Try.neq33 x1 x2 y1 y2 W
          simp only [Prod.mk.injEq] at he
          obtain ⟨rfl, rfl⟩ := he
          simp only [ne_eq, not_true_eq_false, imp_false, decide_false] at hN
          go_wp2
          go_quiet (fail)
          go_wp2
          go_roundw
          case rel => exact ⟨k + 1, by omega, by go_num, agree_succ hag (by rw [HX.out, HY.out]), hbw.trans (below_drewN (Below.refl _ _) _)⟩
          case measure => simp [intOf]; omega
        · have hN := fun W => Try.neq33 x1 x2 y1 y2 W
          have hd : decide (x1 = y1 → x2 ≠ y2) = true := decide_eq_true fun h h' => he (by rw [h, h'])
          rw [hd] at hN
          clear hd
          have HE := Lib.hid he
          clear he
          go_wp2
          go_quiet (fail)
          go_wp2
          go_ret
          exact RetV.bool (by symm; rw [decide_eq_false_iff_not]; intro e; exact HE.out (by rw [← HX.out, ← HY.out, e])) (hbw.trans (below_drewN (Below.refl _ _) _))
      · go_wp2
        go_ret
        exact RetV.bool (by symm; rw [decide_eq_true_iff]; exact agree_all HL.out (by rwa [show xs.length = k by omega])) hbw
  · have hlb : ((xs.length : Int) != (ys.length : Int)) = true := by simp; omega
    have hne : xs ≠ ys := fun e => hl (by rw [e])
    clear hl
    go_enter Try.func12, Try.ntmps12
    go_wp2
    go_ret
    exact RetV.bool (by simp [hne]) (Below.refl _ _)

def noneTo (zs : List (Int × Int)) (x : Int) (k : Nat) : Prop := ∀ j, j < k → inR x zs[j]! = false
theorem hasL_yes {zs : List (Int × Int)} {x : Int} {k : Nat} (hk : k < zs.length) (h : inR x zs[k]! = true) : hasL zs x = true := by
  unfold hasL
  rw [List.any_eq_true]
  exact ⟨zs[k]!, by simp [hk], h⟩
theorem hasL_no {zs : List (Int × Int)} {x : Int} (h : noneTo zs x zs.length) : hasL zs x = false := by
  unfold hasL
  rw [List.any_eq_false]
  intro r hr
  obtain ⟨i, hi, rfl⟩ := List.getElem_of_mem hr
  have := h i hi
  simpa [hi] using this
theorem noneTo_succ {zs : List (Int × Int)} {x : Int} {k : Nat} (h : noneTo zs x k) (hk : inR x zs[k]! = false) : noneTo zs x (k + 1) := by
  intro j hj
  rcases Nat.lt_succ_iff_lt_or_eq.1 hj with h1 | rfl
  · exact h j h1
  · exact hk

set_option maxHeartbeats 400000 in
theorem ref_has (A : Option Addr) (c : Nat) (x : Int) (zs : List (Int × Int)) (w : World) (hmax : zs.length ≤ 1000000000000) (hR : RdR w A zs) :
    Calls Try.prog 16 #[.slice A zs.length c, .int .i64 x] w (RetV w (.bool (hasL zs x))) := by
  go_enter Try.func16, Try.ntmps16
  go_wp2
  go_loop [5] (fun i => ∃ k : Nat, k ≤ zs.length ∧ i = .int .i64 k ∧ noneTo zs x k) (fun i => zs.length - (intOf i).toNat)
  case atStart => exact ⟨0, by omega, rfl, fun j hj => by omega⟩
  case round =>
    obtain ⟨k, hk, rfl, hno⟩ := hrel
    by_cases hlt : k < zs.length
    · obtain ⟨b, off, rfl, hb, h1, h2⟩ := RdR.get hR (Below.refl _ _) hlt
      rcases hz : zs[k]! with ⟨lo, hi⟩
      rw [hz] at h1 h2
      have HZ := Lib.hid hz
      clear hz
      by_cases g1 : lo ≤ x
      · by_cases g2 : x < hi
        · go_wp2
          go_ret
          exact RetV.bool (hasL_yes hlt (by rw [HZ.out]; simp [inR, g1, g2])).symm (Below.refl _ _)
        · go_wp2
          go_round
          case rel => exact ⟨k + 1, by omega, by go_num, noneTo_succ hno (by rw [HZ.out]; simp [inR, g2])⟩
          case measure => simp [intOf]; omega
      · go_wp2
        go_round
        case rel => exact ⟨k + 1, by omega, by go_num, noneTo_succ hno (by rw [HZ.out]; simp [inR, g1])⟩
        case measure => simp [intOf]; omega
    · go_wp2
      go_ret
      exact RetV.bool (hasL_no (by rwa [show zs.length = k by omega])).symm (Below.refl _ _)

theorem bool_or {a b : Bool} (h : a = true) : (a || b) = true := by simp [h]

set_option maxHeartbeats 400000 in
theorem ref_wanted (A B : Option Addr) (c d : Nat) (x op : Int) (xs ys : List (Int × Int)) (w : World) (h1 : xs.length ≤ 1000000000000) (h2 : ys.length ≤ 1000000000000) (hA : RdR w A xs) (hB : RdR w B ys) :
    Calls Try.prog 35 #[.slice A xs.length c, .slice B ys.length d, .int .i64 x, .int .i64 op] w
      (RetV w (.bool (if op = 0 then hasL xs x || hasL ys x else if op = 1 then hasL xs x && hasL ys x else hasL xs x && !hasL ys x))) := by
  have c1 := fun W (hb : Below w.heap.size w W) => ref_has A c x xs W h1 (hA.below hb)
  have c2 := fun W (hb : Below w.heap.size w W) => ref_has B d x ys W h2 (hB.below hb)
  have b0 : Below w.heap.size w w := Below.refl _ _
  generalize hasL xs x = p at *
  generalize hasL ys x = q at *
  have C1 := Lib.hid c1
  have C2 := Lib.hid c2
  clear c1 c2 hA hB
  by_cases o0 : op = 0
  · subst o0
    cases p
    · go_enter Try.func35, Try.ntmps35
      go_wp2_with fail
      refine (C1.out _ b0).mono ?_
      rintro e w1 ⟨rfl, hb1⟩
      go_wp2_with fail
      refine (C2.out _ hb1).mono ?_
      rintro e w2 ⟨rfl, hb2⟩
      go_wp2
      go_ret
      exact RetV.bool (by simp) (hb1.trans (hb2.mono hb1.size))
    · go_enter Try.func35, Try.ntmps35
      go_wp2_with fail
      refine (C1.out _ b0).mono ?_
      rintro e w1 ⟨rfl, hb1⟩
      go_wp2
      go_ret
      exact RetV.bool (by simp) hb1
  · by_cases o1 : op = 1
    · subst o1
      cases p
      · go_enter Try.func35, Try.ntmps35
        go_wp2_with fail
        refine (C1.out _ b0).mono ?_
        rintro e w1 ⟨rfl, hb1⟩
        go_wp2
        go_ret
        exact RetV.bool (by simp) hb1
      · go_enter Try.func35, Try.ntmps35
        go_wp2_with fail
        refine (C1.out _ b0).mono ?_
        rintro e w1 ⟨rfl, hb1⟩
        go_wp2_with fail
        refine (C2.out _ hb1).mono ?_
        rintro e w2 ⟨rfl, hb2⟩
        go_wp2
        go_ret
        exact RetV.bool (by simp) (hb1.trans (hb2.mono hb1.size))
    · cases p
      · go_enter Try.func35, Try.ntmps35
        go_wp2_with fail
        refine (C1.out _ b0).mono ?_
        rintro e w1 ⟨rfl, hb1⟩
        go_wp2
        go_ret
        exact RetV.bool (by simp [o0, o1]) hb1
      · go_enter Try.func35, Try.ntmps35
        go_wp2_with fail
        refine (C1.out _ b0).mono ?_
        rintro e w1 ⟨rfl, hb1⟩
        go_wp2_with fail
        refine (C2.out _ hb1).mono ?_
        rintro e w2 ⟨rfl, hb2⟩
        go_wp2
        go_ret
        exact RetV.bool (by simp [o0, o1]) (hb1.trans (hb2.mono hb1.size))
end Go.Proofs
