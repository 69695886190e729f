/- The walk of SpanMembers: true for lists of at most 349525 ranges. -/
import Derived.Test.YtaampfdgidndkaaT13
import Derived.Test.YtaampfdgidndkaaP4
set_option linter.unusedVariables false
set_option linter.unusedSimpArgs false
namespace Go.Proofs
open Go.RowKit Go.Proofs.Mp

set_option maxHeartbeats 2000000 in
theorem law_members (A B : Option Addr) (c d : Nat) (xs ys : List (Int × Int)) (n : Int) (w : World) (h1 : xs.length ≤ 349525) (h2 : ys.length ≤ 349525) (hA : RdR w A xs) (hB : RdR w B ys) :
    Calls Try.prog 4 #[.slice A xs.length c, .slice B ys.length d, .int .i64 n] w (RetV w (.bool true)) := by
  have eU := has_norm_app xs ys n
  have eI := interL_has xs ys n
  have eM := minusL_has xs ys n
  have eN := normL_has xs n
  have lU := normL_len (xs ++ ys)
  have lI := interL_len xs ys
  have lM := minusL_len' xs ys h1 h2
  have lN := normL_len xs
  rw [List.length_append] at lU
  have k0 : Below w.heap.size w w := Below.refl _ _
  have CX := Lib.hid (fun (W : World) (h : Below w.heap.size w W) => span_has A c n xs W (by omega) (hA.below h))
  have CY := Lib.hid (fun (W : World) (h : Below w.heap.size w W) => span_has B d n ys W (by omega) (hB.below h))
  have CU := Lib.hid (fun (W : World) (h : Below w.heap.size w W) => span_union A B c d xs ys W (by omega) (by omega) (hA.below h) (hB.below h))
  have CI := Lib.hid (fun (W : World) (h : Below w.heap.size w W) => span_inter A B c d xs ys W (by omega) (by omega) (hA.below h) (hB.below h))
  have CM := Lib.hid (fun (W : World) (h : Below w.heap.size w W) => span_minus A B c d xs ys W (by omega) (by omega) (hA.below h) (hB.below h))
  have CN := Lib.hid (fun (W : World) (h : Below w.heap.size w W) => span_normal A c xs W (by omega) (hA.below h))
  clear hA hB
  generalize normL (xs ++ ys) = nu at *
  generalize interL xs ys = ni at *
  generalize minusL xs ys = nm at *
  generalize normL xs = nx at *
  generalize hasL xs n = x at *
  generalize hasL ys n = y at *
  have HU := Lib.hid eU
  have HI := Lib.hid eI
  have HM := Lib.hid eM
  have HN := Lib.hid eN
  clear eU eI eM eN
  cases x <;> cases y <;> (
    go_enter Try.func4, Try.ntmps4
    go_wp2_with fail
    refine (CX.out w k0).mono ?_
    rintro e w1 ⟨rfl, hb1⟩
    have k1 := k0.trans hb1
    go_wp2_with fail
    refine (CY.out w1 k1).mono ?_
    rintro e w2 ⟨rfl, hb2⟩
    have k2 := k1.trans (hb2.mono k1.size)
    go_wp2_with fail
    refine (CU.out w2 k2).mono ?_
    rintro e w3 ⟨A3, c3, rfl, hR3, hb3⟩
    have k3 := k2.trans (hb3.mono k2.size)
    go_wp2_with fail
    refine (call_b (span_has A3 c3 n nu w3 (by omega) hR3) HU.out).mono ?_
    rintro e w4 ⟨rfl, hb4⟩
    have k4 := k3.trans (hb4.mono k3.size)
    go_wp2_with fail
    refine (CI.out w4 k4).mono ?_
    rintro e w5 ⟨A5, c5, rfl, hR5, hb5⟩
    have k5 := k4.trans (hb5.mono k4.size)
    go_wp2_with fail
    refine (call_b (span_has A5 c5 n ni w5 (by omega) hR5) HI.out).mono ?_
    rintro e w6 ⟨rfl, hb6⟩
    have k6 := k5.trans (hb6.mono k5.size)
    go_wp2_with fail
    refine (CM.out w6 k6).mono ?_
    rintro e w7 ⟨A7, c7, rfl, hR7, hb7⟩
    have k7 := k6.trans (hb7.mono k6.size)
    go_wp2_with fail
    refine (call_b (span_has A7 c7 n nm w7 (by omega) hR7) HM.out).mono ?_
    rintro e w8 ⟨rfl, hb8⟩
    have k8 := k7.trans (hb8.mono k7.size)
    go_wp2_with fail
    refine (CN.out w8 k8).mono ?_
    rintro e w9 ⟨A9, c9, rfl, hR9, hb9⟩
    have k9 := k8.trans (hb9.mono k8.size)
    go_wp2_with fail
    refine (call_b (span_has A9 c9 n nx w9 (by omega) hR9) HN.out).mono ?_
    rintro e w10 ⟨rfl, hb10⟩
    have k10 := k9.trans (hb10.mono k9.size)
    go_wp2_with fail
    refine (law_awake w10).mono ?_
    rintro e w11 ⟨rfl, hb11⟩
    have k11 := k10.trans (hb11.mono k10.size)
    go_wp2
    go_ret
    exact RetV.bool rfl k11)
end Go.Proofs
