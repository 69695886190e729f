/- The walk of SpanTotals: true for all lists. -/
import Derived.Test.YtaampfdgidndkaaT13
import Derived.Test.YtaampfdgidndkaaP4
set_option linter.unusedVariables false
set_option linter.unusedSimpArgs false
namespace Go.Proofs
open Go.RowKit Go.Proofs.Mp

set_option maxHeartbeats 2000000 in
theorem law_totals (A B : Option Addr) (c d : Nat) (xs ys : List (Int × Int)) (w : World) (h1 : xs.length ≤ 9223372036854775807) (h2 : ys.length ≤ 9223372036854775807) (hA : RdR w A xs) (hB : RdR w B ys) :
    Calls Try.prog 7 #[.slice A xs.length c, .slice B ys.length d] w (RetV w (.bool true)) := by
  have k0 : Below w.heap.size w w := Below.refl _ _
  by_cases hf : xs.length ≤ 60 ∧ ys.length ≤ 60
  · have CF := Lib.hid (call_b (y := true) (few_any A B none c d 0 xs.length ys.length 0 w h1 h2 (by simp)) (decide_eq_true ⟨hf.1, hf.2, by simp⟩))
    obtain ⟨hfx, hfy⟩ := hf
    have CX := Lib.hid (fun (W : World) (h : Below w.heap.size w W) => law_near A c xs W (by omega) (hA.below h))
    have CY := Lib.hid (fun (W : World) (h : Below w.heap.size w W) => law_near B d ys W (by omega) (hB.below h))
    cases hx : nearB xs with
    | false =>
      rw [hx] at CX
      clear hA hB CY hx
      go_enter Try.func7, Try.ntmps7
      go_wp2_with fail
      refine CF.out.mono ?_
      rintro e w1 ⟨rfl, hb1⟩
      have k1 := k0.trans hb1
      go_wp2_with fail
      refine (CX.out w1 k1).mono ?_
      rintro e w2 ⟨rfl, hb2⟩
      have k2 := k1.trans (hb2.mono k1.size)
      go_wp2_with fail
      refine (law_awake w2).mono ?_
      rintro e w6 ⟨rfl, hb6⟩
      have k6 := k2.trans (hb6.mono k2.size)
      go_wp2
      go_ret
      exact RetV.bool rfl k6
    | true =>
      cases hy : nearB ys with
      | false =>
        rw [hx] at CX
        rw [hy] at CY
        clear hA hB hx hy
        go_enter Try.func7, Try.ntmps7
        go_wp2_with fail
        refine CF.out.mono ?_
        rintro e w1 ⟨rfl, hb1⟩
        have k1 := k0.trans hb1
        go_wp2_with fail
        refine (CX.out w1 k1).mono ?_
        rintro e w2 ⟨rfl, hb2⟩
        have k2 := k1.trans (hb2.mono k1.size)
        go_wp2_with fail
        refine (CY.out w2 k2).mono ?_
        rintro e w3 ⟨rfl, hb3⟩
        have k3 := k2.trans (hb3.mono k2.size)
        go_wp2_with fail
        refine (law_awake w3).mono ?_
        rintro e w6 ⟨rfl, hb6⟩
        have k6 := k3.trans (hb6.mono k3.size)
        go_wp2
        go_ret
        exact RetV.bool rfl k6
      | true =>
        obtain ⟨u, i, ta, tb, m, eu, ei, ea, eb, em, s1, s2, u0, u1, i0, i1, a0, a1, b0, b1⟩ := totals hx hy
        have lU := normL_len (xs ++ ys)
        have lI := interL_len xs ys
        have lM := minusL_len' xs ys hfx hfy
        rw [List.length_append] at lU
        rw [hx] at CX
        rw [hy] at CY
        have CU := Lib.hid (fun (W : World) (h : Below w.heap.size w W) => span_union A B c d xs ys W (by omega) (by omega) (hA.below h) (hB.below h))
        have CI := Lib.hid (fun (W : World) (h : Below w.heap.size w W) => span_inter A B c d xs ys W (by omega) (by omega) (hA.below h) (hB.below h))
        have CM := Lib.hid (fun (W : World) (h : Below w.heap.size w W) => span_minus A B c d xs ys W (by omega) (by omega) (hA.below h) (hB.below h))
        have TX := Lib.hid (fun (W : World) (h : Below w.heap.size w W) => call_i (span_total A c xs W (by omega) (hA.below h)) ea)
        have TY := Lib.hid (fun (W : World) (h : Below w.heap.size w W) => call_i (span_total B d ys W (by omega) (hB.below h)) eb)
        have TU := Lib.hid (fun (W : World) (A' : Option Addr) (c' : Nat) (h : RdR W A' (normL (xs ++ ys))) => call_i (span_total A' c' _ W (by omega) h) eu)
        have TI := Lib.hid (fun (W : World) (A' : Option Addr) (c' : Nat) (h : RdR W A' (interL xs ys)) => call_i (span_total A' c' _ W (by omega) h) ei)
        have TM := Lib.hid (fun (W : World) (A' : Option Addr) (c' : Nat) (h : RdR W A' (minusL xs ys)) => call_i (span_total A' c' _ W (by omega) h) em)
        have w1 : IntKind.i64.wrap (u + i) = u + i := IntWalk.i64_in _ (by omega)
        have w2 : IntKind.i64.wrap (ta + tb) = ta + tb := IntWalk.i64_in _ (by omega)
        have w3 : IntKind.i64.wrap (ta - i) = ta - i := IntWalk.i64_in _ (by omega)
        have q1 : (u + i == ta + tb) = true := by rw [beq_iff_eq]; exact s1
        have q2 : (m == ta - i) = true := by rw [beq_iff_eq]; exact s2
        clear hA hB hx hy eu ei ea eb em s1 s2 u0 u1 i0 i1 a0 a1 b0 b1 lU lI lM
        generalize normL (xs ++ ys) = nu at *
        generalize interL xs ys = ni at *
        generalize minusL xs ys = nm at *
        go_enter Try.func7, Try.ntmps7
        go_wp2_with fail
        refine CF.out.mono ?_
        rintro e v1 ⟨rfl, hb1⟩
        have k1 := k0.trans hb1
        go_wp2_with fail
        refine (CX.out v1 k1).mono ?_
        rintro e v2 ⟨rfl, hb2⟩
        have k2 := k1.trans (hb2.mono k1.size)
        go_wp2_with fail
        refine (CY.out v2 k2).mono ?_
        rintro e v3 ⟨rfl, hb3⟩
        have k3 := k2.trans (hb3.mono k2.size)
        go_wp2_with fail
        refine (CU.out v3 k3).mono ?_
        rintro e v4 ⟨A4, c4, rfl, hR4, hb4⟩
        have k4 := k3.trans (hb4.mono k3.size)
        go_wp2_with fail
        refine (TU.out v4 A4 c4 hR4).mono ?_
        rintro e v5 ⟨rfl, hb5⟩
        have k5 := k4.trans (hb5.mono k4.size)
        go_wp2_with fail
        refine (CI.out v5 k5).mono ?_
        rintro e v6 ⟨A6, c6, rfl, hR6, hb6⟩
        have k6 := k5.trans (hb6.mono k5.size)
        go_wp2_with fail
        refine (TI.out v6 A6 c6 hR6).mono ?_
        rintro e v7 ⟨rfl, hb7⟩
        have k7 := k6.trans (hb7.mono k6.size)
        go_wp2_with fail
        refine (TX.out v7 k7).mono ?_
        rintro e v8 ⟨rfl, hb8⟩
        have k8 := k7.trans (hb8.mono k7.size)
        go_wp2_with fail
        refine (TY.out v8 k8).mono ?_
        rintro e v9 ⟨rfl, hb9⟩
        have k9 := k8.trans (hb9.mono k8.size)
        go_wp2_with fail
        refine (CM.out v9 k9).mono ?_
        rintro e v10 ⟨A10, c10, rfl, hR10, hb10⟩
        have k10 := k9.trans (hb10.mono k9.size)
        go_wp2_with fail
        refine (TM.out v10 A10 c10 hR10).mono ?_
        rintro e v11 ⟨rfl, hb11⟩
        have k11 := k10.trans (hb11.mono k10.size)
        go_wp2_with fail
        refine (TX.out v11 k11).mono ?_
        rintro e v12 ⟨rfl, hb12⟩
        have k12 := k11.trans (hb12.mono k11.size)
        go_wp2_with fail
        refine (law_awake v12).mono ?_
        rintro e v13 ⟨rfl, hb13⟩
        have k13 := k12.trans (hb13.mono k12.size)
        go_wp2
        go_ret
        exact RetV.bool rfl k13
  · have CF := Lib.hid (call_b (y := false) (few_any A B none c d 0 xs.length ys.length 0 w h1 h2 (by simp)) (decide_eq_false (by omega)))
    clear hA hB hf
    go_enter Try.func7, Try.ntmps7
    go_wp2_with fail
    refine CF.out.mono ?_
    rintro e w1 ⟨rfl, hb1⟩
    have k1 := k0.trans hb1
    go_wp2_with fail
    refine (law_awake w1).mono ?_
    rintro e w6 ⟨rfl, hb6⟩
    have k6 := k1.trans (hb6.mono k1.size)
    go_wp2
    go_ret
    exact RetV.bool rfl k6
end Go.Proofs
