/- The walk of SpanUnique: true for lists of at most 349525 ranges. -/
import Derived.Test.YtaampfdgidndkaaT13
import Derived.Test.YtaampfdgidndkaaP4
set_option linter.unusedVariables false
set_option linter.unusedSimpArgs false
namespace Go.Proofs
open Go.RowKit Go.Proofs.Mp

set_option maxHeartbeats 2000000 in
theorem law_unique (A B : Option Addr) (c d : Nat) (xs ys : List (Int × Int)) (w : World) (h1 : xs.length ≤ 349525) (h2 : ys.length ≤ 349525) (hA : RdR w A xs) (hB : RdR w B ys) :
    Calls Try.prog 6 #[.slice A xs.length c, .slice B ys.length d] w (RetV w (.bool true)) := by
  have eU := unique_iff xs ys
  have lX := normL_len xs
  have lY := normL_len ys
  have k0 : Below w.heap.size w w := Below.refl _ _
  have CM := Lib.hid (span_minus A B c d xs ys w (by omega) (by omega) hA hB)
  have CM2 := Lib.hid (fun (W : World) (h : Below w.heap.size w W) => span_minus B A d c ys xs W (by omega) (by omega) (hB.below h) (hA.below h))
  have CN := Lib.hid (fun (W : World) (h : Below w.heap.size w W) => span_normal A c xs W (by omega) (hA.below h))
  have CN2 := Lib.hid (fun (W : World) (h : Below w.heap.size w W) => span_normal B d ys W (by omega) (hB.below h))
  clear hA hB
  generalize normL xs = nx at *
  generalize normL ys = ny at *
  generalize minusL xs ys = m1 at *
  generalize minusL ys xs = m2 at *
  have tail : ∀ (W1 : World) (A5 A6 : Option Addr) (c5 c6 : Nat) (b : Bool), RdR W1 A5 nx → RdR W1 A6 ny → decide (nx = ny) = b → Calls Try.prog 12 #[.slice A5 nx.length c5, .slice A6 ny.length c6] W1 (RetV W1 (.bool b)) :=
    fun W1 A5 A6 c5 c6 b r5 r6 e => call_b (ref_same A5 A6 c5 c6 nx ny W1 (by omega) (by omega) r5 r6) e
  by_cases hm1 : m1 = []
  · by_cases hm2 : m2 = []
    · have hd : decide (nx = ny) = true := decide_eq_true (eU.2 ⟨hm1, hm2⟩)
      have HD := Lib.hid hd
      have TL := Lib.hid tail
      have q1 : ((m1.length : Int) == 0) = true := by simp [hm1]
      have q2 : ((m2.length : Int) == 0) = true := by simp [hm2]
      clear eU hm1 hm2 hd tail
      go_enter Try.func6, Try.ntmps6
      go_wp2_with fail
      refine CM.out.mono ?_
      rintro e w1 ⟨A1, c1, rfl, hR1, hb1⟩
      have k1 := k0.trans hb1
      go_wp2_with fail
      refine (CM2.out w1 k1).mono ?_
      rintro e w2 ⟨A2, c2, rfl, hR2, hb2⟩
      have k2 := k1.trans (hb2.mono k1.size)
      go_wp2_with fail
      refine (CN.out w2 k2).mono ?_
      rintro e w3 ⟨A3, c3, rfl, hR3, hb3⟩
      have k3 := k2.trans (hb3.mono k2.size)
      go_wp2_with fail
      refine (CN2.out w3 k3).mono ?_
      rintro e w4 ⟨A4, c4, rfl, hR4, hb4⟩
      have k4 := k3.trans (hb4.mono k3.size)
      go_wp2_with fail
      refine (TL.out w4 A3 A4 c3 c4 _ (hR3.below hb4) hR4 HD.out).mono ?_
      rintro e w5 ⟨rfl, hb5⟩
      have k5 := k4.trans (hb5.mono k4.size)
      go_wp2_with fail
      refine (law_awake w5).mono ?_
      rintro e w6 ⟨rfl, hb6⟩
      have k6 := k5.trans (hb6.mono k5.size)
      go_wp2
      go_ret
      exact RetV.bool rfl k6
    · have hd : decide (nx = ny) = false := decide_eq_false fun h => hm2 (eU.1 h).2
      have HD := Lib.hid hd
      have TL := Lib.hid tail
      have q1 : ((m1.length : Int) == 0) = true := by simp [hm1]
      have q2 : ((m2.length : Int) == 0) = false := by
        have := List.length_pos_iff.2 hm2
        simp only [beq_eq_false_iff_ne, ne_eq]; omega
      clear eU hm1 hm2 hd tail
      go_enter Try.func6, Try.ntmps6
      go_wp2_with fail
      refine CM.out.mono ?_
      rintro e w1 ⟨A1, c1, rfl, hR1, hb1⟩
      have k1 := k0.trans hb1
      go_wp2_with fail
      refine (CM2.out w1 k1).mono ?_
      rintro e w2 ⟨A2, c2, rfl, hR2, hb2⟩
      have k2 := k1.trans (hb2.mono k1.size)
      go_wp2_with fail
      refine (CN.out w2 k2).mono ?_
      rintro e w3 ⟨A3, c3, rfl, hR3, hb3⟩
      have k3 := k2.trans (hb3.mono k2.size)
      go_wp2_with fail
      refine (CN2.out w3 k3).mono ?_
      rintro e w4 ⟨A4, c4, rfl, hR4, hb4⟩
      have k4 := k3.trans (hb4.mono k3.size)
      go_wp2_with fail
      refine (TL.out w4 A3 A4 c3 c4 _ (hR3.below hb4) hR4 HD.out).mono ?_
      rintro e w5 ⟨rfl, hb5⟩
      have k5 := k4.trans (hb5.mono k4.size)
      go_wp2_with fail
      refine (law_awake w5).mono ?_
      rintro e w6 ⟨rfl, hb6⟩
      have k6 := k5.trans (hb6.mono k5.size)
      go_wp2
      go_ret
      exact RetV.bool rfl k6
  · have hd : decide (nx = ny) = false := decide_eq_false fun h => hm1 (eU.1 h).1
    have HD := Lib.hid hd
    have TL := Lib.hid tail
    have q1 : ((m1.length : Int) == 0) = false := by
      have := List.length_pos_iff.2 hm1
      simp only [beq_eq_false_iff_ne, ne_eq]; omega
    clear eU hm1 hd tail
    go_enter Try.func6, Try.ntmps6
    go_wp2_with fail
    refine CM.out.mono ?_
    rintro e w2 ⟨A1, c1, rfl, hR1, hb1⟩
    have k2 := k0.trans hb1
    go_wp2_with fail
    refine (CN.out w2 k2).mono ?_
    rintro e w3 ⟨A3, c3, rfl, hR3, hb3⟩
    have k3 := k2.trans (hb3.mono k2.size)
    go_wp2_with fail
    refine (CN2.out w3 k3).mono ?_
    rintro e w4 ⟨A4, c4, rfl, hR4, hb4⟩
    have k4 := k3.trans (hb4.mono k3.size)
    go_wp2_with fail
    refine (TL.out w4 A3 A4 c3 c4 _ (hR3.below hb4) hR4 HD.out).mono ?_
    rintro e w5 ⟨rfl, hb5⟩
    have k5 := k4.trans (hb5.mono k4.size)
    go_wp2_with fail
    refine (law_awake w5).mono ?_
    rintro e w6 ⟨rfl, hb6⟩
    have k6 := k5.trans (hb6.mono k5.size)
    go_wp2
    go_ret
    exact RetV.bool rfl k6
end Go.Proofs
