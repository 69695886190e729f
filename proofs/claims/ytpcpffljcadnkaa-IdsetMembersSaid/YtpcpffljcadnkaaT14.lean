import Derived.Test.YtpcpffljcadnkaaT13
set_option linter.unusedVariables false
set_option linter.unusedSimpArgs false
namespace Go.Proofs
open Go.RowKit Go.Proofs.Mp

theorem SlI.none (w : World) : SlI w (.slice .none 0 0) [] := ⟨_, _, rfl, Nat.le_refl _, Rd.nil _⟩
theorem k_few {w : World} {u v t : Value} {xs ys zs : List Int} {b : Bool} (h : SlI w u xs) (g : SlI w v ys) (i : SlI w t zs) (h1 : xs.length ≤ 9223372036854775807) (h2 : ys.length ≤ 9223372036854775807) (h3 : zs.length ≤ 9223372036854775807)
    (hb : decide (xs.length ≤ 100 ∧ ys.length ≤ 100 ∧ zs.length ≤ 100) = b) : Calls Try.prog 9 #[u, v, t] w (RetV w (.bool b)) := by
  subst hb
  obtain ⟨A, c, rfl, hc, hR⟩ := h
  obtain ⟨B, d, rfl, hd, hS⟩ := g
  obtain ⟨C, e, rfl, he, hT⟩ := i
  exact few_any A B C c d e _ _ _ w h1 h2 h3
set_option maxHeartbeats 4000000 in
theorem law_valid (u : Value) (xs : List Int) (x : Int) (w : World) (hu : SlI w u xs) (mu : xs.length ≤ 9223372036854775807) :
    Calls Try.prog 3 #[u, .int .i64 x] w (RetV w (.bool true)) := by
  have hz := SlI.none w
  have k0 : Below w.heap.size w w := Below.refl _ _
  by_cases hf : xs.length ≤ 100
  · have hf' := hf
    have fu := hf
    clear hf'
    by_cases ha : ascB xs = true
    · by_cases hx : x ∈ xs
      · go_enter Try.func3, Try.ntmps3
        go_wp2_with fail
        refine (k_few (b := true) hu hz hz (by first | decide | omega) (by first | decide | omega) (by first | decide | omega) (by simp; omega)).mono ?_
        rintro e w1 ⟨rfl, hb1⟩
        have k1 := k0.trans (hb1.mono k0.size)
        replace hu := hu.below hb1
        replace hz := hz.below hb1
        clear k0 hb1
        clear hz
        go_wp2_with fail
        refine (law_awake w1  ).mono ?_
        rintro e w2 ⟨rfl, hb2⟩
        have k2 := k1.trans (hb2.mono k1.size)
        replace hu := hu.below hb2
        clear k1 hb2
        go_wp2_with fail
        refine (k_valid (b := true) hu (by first | decide | omega) ha).mono ?_
        rintro e w3 ⟨rfl, hb3⟩
        have k3 := k2.trans (hb3.mono k2.size)
        replace hu := hu.below hb3
        clear k2 hb3
        go_wp2_with fail
        refine (k_rvalid (b := true) hu (by first | decide | omega) ha).mono ?_
        rintro e w4 ⟨rfl, hb4⟩
        have k4 := k3.trans (hb4.mono k3.size)
        replace hu := hu.below hb4
        clear k3 hb4
        go_wp2_with fail
        refine (k_has (b := true) (x := x) hu (by first | decide | omega) (decide_eq_true hx)).mono ?_
        rintro e w5 ⟨rfl, hb5⟩
        have k5 := k4.trans (hb5.mono k4.size)
        replace hu := hu.below hb5
        clear k4 hb5
        go_wp2_with fail
        refine (k_rhas (b := true) (x := x) hu (by first | decide | omega) (decide_eq_true hx)).mono ?_
        rintro e w6 ⟨rfl, hb6⟩
        have k6 := k5.trans (hb6.mono k5.size)
        replace hu := hu.below hb6
        clear k5 hb6
        go_wp2
        go_ret
        exact RetV.bool rfl k6
      · go_enter Try.func3, Try.ntmps3
        go_wp2_with fail
        refine (k_few (b := true) hu hz hz (by first | decide | omega) (by first | decide | omega) (by first | decide | omega) (by simp; omega)).mono ?_
        rintro e w1 ⟨rfl, hb1⟩
        have k1 := k0.trans (hb1.mono k0.size)
        replace hu := hu.below hb1
        replace hz := hz.below hb1
        clear k0 hb1
        clear hz
        go_wp2_with fail
        refine (law_awake w1  ).mono ?_
        rintro e w2 ⟨rfl, hb2⟩
        have k2 := k1.trans (hb2.mono k1.size)
        replace hu := hu.below hb2
        clear k1 hb2
        go_wp2_with fail
        refine (k_valid (b := true) hu (by first | decide | omega) ha).mono ?_
        rintro e w3 ⟨rfl, hb3⟩
        have k3 := k2.trans (hb3.mono k2.size)
        replace hu := hu.below hb3
        clear k2 hb3
        go_wp2_with fail
        refine (k_rvalid (b := true) hu (by first | decide | omega) ha).mono ?_
        rintro e w4 ⟨rfl, hb4⟩
        have k4 := k3.trans (hb4.mono k3.size)
        replace hu := hu.below hb4
        clear k3 hb4
        go_wp2_with fail
        refine (k_has (b := false) (x := x) hu (by first | decide | omega) (decide_eq_false hx)).mono ?_
        rintro e w5 ⟨rfl, hb5⟩
        have k5 := k4.trans (hb5.mono k4.size)
        replace hu := hu.below hb5
        clear k4 hb5
        go_wp2_with fail
        refine (k_rhas (b := false) (x := x) hu (by first | decide | omega) (decide_eq_false hx)).mono ?_
        rintro e w6 ⟨rfl, hb6⟩
        have k6 := k5.trans (hb6.mono k5.size)
        replace hu := hu.below hb6
        clear k5 hb6
        go_wp2
        go_ret
        exact RetV.bool rfl k6
    · by_cases hx : x ∈ xs
      · go_enter Try.func3, Try.ntmps3
        go_wp2_with fail
        refine (k_few (b := true) hu hz hz (by first | decide | omega) (by first | decide | omega) (by first | decide | omega) (by simp; omega)).mono ?_
        rintro e w1 ⟨rfl, hb1⟩
        have k1 := k0.trans (hb1.mono k0.size)
        replace hu := hu.below hb1
        replace hz := hz.below hb1
        clear k0 hb1
        clear hz
        go_wp2_with fail
        refine (law_awake w1  ).mono ?_
        rintro e w2 ⟨rfl, hb2⟩
        have k2 := k1.trans (hb2.mono k1.size)
        replace hu := hu.below hb2
        clear k1 hb2
        go_wp2_with fail
        refine (k_valid (b := false) hu (by first | decide | omega) (by simpa using ha)).mono ?_
        rintro e w3 ⟨rfl, hb3⟩
        have k3 := k2.trans (hb3.mono k2.size)
        replace hu := hu.below hb3
        clear k2 hb3
        go_wp2_with fail
        refine (k_rvalid (b := false) hu (by first | decide | omega) (by simpa using ha)).mono ?_
        rintro e w4 ⟨rfl, hb4⟩
        have k4 := k3.trans (hb4.mono k3.size)
        replace hu := hu.below hb4
        clear k3 hb4
        go_wp2_with fail
        refine (k_has (b := true) (x := x) hu (by first | decide | omega) (decide_eq_true hx)).mono ?_
        rintro e w5 ⟨rfl, hb5⟩
        have k5 := k4.trans (hb5.mono k4.size)
        replace hu := hu.below hb5
        clear k4 hb5
        go_wp2_with fail
        refine (k_rhas (b := true) (x := x) hu (by first | decide | omega) (decide_eq_true hx)).mono ?_
        rintro e w6 ⟨rfl, hb6⟩
        have k6 := k5.trans (hb6.mono k5.size)
        replace hu := hu.below hb6
        clear k5 hb6
        go_wp2
        go_ret
        exact RetV.bool rfl k6
      · go_enter Try.func3, Try.ntmps3
        go_wp2_with fail
        refine (k_few (b := true) hu hz hz (by first | decide | omega) (by first | decide | omega) (by first | decide | omega) (by simp; omega)).mono ?_
        rintro e w1 ⟨rfl, hb1⟩
        have k1 := k0.trans (hb1.mono k0.size)
        replace hu := hu.below hb1
        replace hz := hz.below hb1
        clear k0 hb1
        clear hz
        go_wp2_with fail
        refine (law_awake w1  ).mono ?_
        rintro e w2 ⟨rfl, hb2⟩
        have k2 := k1.trans (hb2.mono k1.size)
        replace hu := hu.below hb2
        clear k1 hb2
        go_wp2_with fail
        refine (k_valid (b := false) hu (by first | decide | omega) (by simpa using ha)).mono ?_
        rintro e w3 ⟨rfl, hb3⟩
        have k3 := k2.trans (hb3.mono k2.size)
        replace hu := hu.below hb3
        clear k2 hb3
        go_wp2_with fail
        refine (k_rvalid (b := false) hu (by first | decide | omega) (by simpa using ha)).mono ?_
        rintro e w4 ⟨rfl, hb4⟩
        have k4 := k3.trans (hb4.mono k3.size)
        replace hu := hu.below hb4
        clear k3 hb4
        go_wp2_with fail
        refine (k_has (b := false) (x := x) hu (by first | decide | omega) (decide_eq_false hx)).mono ?_
        rintro e w5 ⟨rfl, hb5⟩
        have k5 := k4.trans (hb5.mono k4.size)
        replace hu := hu.below hb5
        clear k4 hb5
        go_wp2_with fail
        refine (k_rhas (b := false) (x := x) hu (by first | decide | omega) (decide_eq_false hx)).mono ?_
        rintro e w6 ⟨rfl, hb6⟩
        have k6 := k5.trans (hb6.mono k5.size)
        replace hu := hu.below hb6
        clear k5 hb6
        go_wp2
        go_ret
        exact RetV.bool rfl k6
  · go_enter Try.func3, Try.ntmps3
    go_wp2_with fail
    refine (k_few (b := false) hu hz hz (by first | decide | omega) (by first | decide | omega) (by first | decide | omega) (by simp; omega)).mono ?_
    rintro e w1 ⟨rfl, hb1⟩
    have k1 := k0.trans (hb1.mono k0.size)
    replace hu := hu.below hb1
    replace hz := hz.below hb1
    clear k0 hb1
    clear hz
    go_wp2_with fail
    refine (law_awake w1  ).mono ?_
    rintro e w2 ⟨rfl, hb2⟩
    have k2 := k1.trans (hb2.mono k1.size)
    replace hu := hu.below hb2
    clear k1 hb2
    go_wp2
    go_ret
    exact RetV.bool rfl k2

set_option maxHeartbeats 4000000 in
theorem law_combines (u v : Value) (xs ys : List Int)  (w : World) (hu : SlI w u xs) (hv : SlI w v ys) (mu : xs.length ≤ 9223372036854775807) (mv : ys.length ≤ 9223372036854775807) :
    Calls Try.prog 5 #[u, v] w (RetV w (.bool true)) := by
  have hz := SlI.none w
  have k0 : Below w.heap.size w w := Below.refl _ _
  by_cases hf : xs.length ≤ 100 ∧ ys.length ≤ 100
  · have hf' := hf
    obtain ⟨fu, fv⟩ := hf
    clear hf'
    have l1 := unionS_len xs ys
    have l2 := interS_len xs ys
    have l3 := minusS_len xs ys
    go_enter Try.func5, Try.ntmps5
    go_wp2_with fail
    refine (k_few (b := true) hu hv hz (by first | decide | omega) (by first | decide | omega) (by first | decide | omega) (by simp; omega)).mono ?_
    rintro e w1 ⟨rfl, hb1⟩
    have k1 := k0.trans (hb1.mono k0.size)
    replace hu := hu.below hb1
    replace hv := hv.below hb1
    replace hz := hz.below hb1
    clear k0 hb1
    clear hz
    go_wp2_with fail
    refine (law_awake w1  ).mono ?_
    rintro e w2 ⟨rfl, hb2⟩
    have k2 := k1.trans (hb2.mono k1.size)
    replace hu := hu.below hb2
    replace hv := hv.below hb2
    clear k1 hb2
    go_wp2_with fail
    refine (k_union hu hv (by first | decide | omega) (by first | decide | omega)).mono ?_
    rintro e w3 ⟨v3, rfl, h1, hb3⟩
    have k3 := k2.trans (hb3.mono k2.size)
    replace hu := hu.below hb3
    replace hv := hv.below hb3
    clear k2 hb3
    go_wp2_with fail
    refine (k_runion hu hv (by first | decide | omega) (by first | decide | omega)).mono ?_
    rintro e w4 ⟨v4, rfl, h2, hb4⟩
    have k4 := k3.trans (hb4.mono k3.size)
    replace hu := hu.below hb4
    replace hv := hv.below hb4
    replace h1 := h1.below hb4
    clear k3 hb4
    go_wp2_with fail
    refine (k_same (b := true) h1 h2 (by first | decide | omega) (by first | decide | omega) (by simp)).mono ?_
    rintro e w5 ⟨rfl, hb5⟩
    have k5 := k4.trans (hb5.mono k4.size)
    replace hu := hu.below hb5
    replace hv := hv.below hb5
    replace h1 := h1.below hb5
    replace h2 := h2.below hb5
    clear k4 hb5
    clear h1
    clear h2
    go_wp2_with fail
    refine (k_inter hu hv (by first | decide | omega) (by first | decide | omega)).mono ?_
    rintro e w6 ⟨v6, rfl, h1, hb6⟩
    have k6 := k5.trans (hb6.mono k5.size)
    replace hu := hu.below hb6
    replace hv := hv.below hb6
    clear k5 hb6
    go_wp2_with fail
    refine (k_rinter hu hv (by first | decide | omega) (by first | decide | omega)).mono ?_
    rintro e w7 ⟨v7, rfl, h2, hb7⟩
    have k7 := k6.trans (hb7.mono k6.size)
    replace hu := hu.below hb7
    replace hv := hv.below hb7
    replace h1 := h1.below hb7
    clear k6 hb7
    go_wp2_with fail
    refine (k_same (b := true) h1 h2 (by first | decide | omega) (by first | decide | omega) (by simp)).mono ?_
    rintro e w8 ⟨rfl, hb8⟩
    have k8 := k7.trans (hb8.mono k7.size)
    replace hu := hu.below hb8
    replace hv := hv.below hb8
    replace h1 := h1.below hb8
    replace h2 := h2.below hb8
    clear k7 hb8
    clear h1
    clear h2
    go_wp2_with fail
    refine (k_minus hu hv (by first | decide | omega) (by first | decide | omega)).mono ?_
    rintro e w9 ⟨v9, rfl, h1, hb9⟩
    have k9 := k8.trans (hb9.mono k8.size)
    replace hu := hu.below hb9
    replace hv := hv.below hb9
    clear k8 hb9
    go_wp2_with fail
    refine (k_rminus hu hv (by first | decide | omega) (by first | decide | omega)).mono ?_
    rintro e w10 ⟨v10, rfl, h2, hb10⟩
    have k10 := k9.trans (hb10.mono k9.size)
    replace hu := hu.below hb10
    replace hv := hv.below hb10
    replace h1 := h1.below hb10
    clear k9 hb10
    go_wp2_with fail
    refine (k_same (b := true) h1 h2 (by first | decide | omega) (by first | decide | omega) (by simp)).mono ?_
    rintro e w11 ⟨rfl, hb11⟩
    have k11 := k10.trans (hb11.mono k10.size)
    replace hu := hu.below hb11
    replace hv := hv.below hb11
    replace h1 := h1.below hb11
    replace h2 := h2.below hb11
    clear k10 hb11
    clear h1
    clear h2
    go_wp2
    go_ret
    exact RetV.bool rfl k11
  · go_enter Try.func5, Try.ntmps5
    go_wp2_with fail
    refine (k_few (b := false) hu hv hz (by first | decide | omega) (by first | decide | omega) (by first | decide | omega) (by simp; omega)).mono ?_
    rintro e w1 ⟨rfl, hb1⟩
    have k1 := k0.trans (hb1.mono k0.size)
    replace hu := hu.below hb1
    replace hv := hv.below hb1
    replace hz := hz.below hb1
    clear k0 hb1
    clear hz
    go_wp2_with fail
    refine (law_awake w1  ).mono ?_
    rintro e w2 ⟨rfl, hb2⟩
    have k2 := k1.trans (hb2.mono k1.size)
    replace hu := hu.below hb2
    replace hv := hv.below hb2
    clear k1 hb2
    go_wp2
    go_ret
    exact RetV.bool rfl k2

set_option maxHeartbeats 4000000 in
theorem law_members (u v : Value) (xs ys : List Int) (x : Int) (w : World) (hu : SlI w u xs) (hv : SlI w v ys) (mu : xs.length ≤ 9223372036854775807) (mv : ys.length ≤ 9223372036854775807) :
    Calls Try.prog 6 #[u, v, .int .i64 x] w (RetV w (.bool true)) := by
  have hz := SlI.none w
  have k0 : Below w.heap.size w w := Below.refl _ _
  by_cases hf : xs.length ≤ 100 ∧ ys.length ≤ 100
  · have hf' := hf
    obtain ⟨fu, fv⟩ := hf
    clear hf'
    have l1 := unionS_len xs ys
    have l2 := interS_len xs ys
    have l3 := minusS_len xs ys
    by_cases hx : x ∈ xs
    · by_cases hy : x ∈ ys
      · go_enter Try.func6, Try.ntmps6
        go_wp2_with fail
        refine (k_few (b := true) hu hv hz (by first | decide | omega) (by first | decide | omega) (by first | decide | omega) (by simp; omega)).mono ?_
        rintro e w1 ⟨rfl, hb1⟩
        have k1 := k0.trans (hb1.mono k0.size)
        replace hu := hu.below hb1
        replace hv := hv.below hb1
        replace hz := hz.below hb1
        clear k0 hb1
        clear hz
        go_wp2_with fail
        refine (k_has (b := true) (x := x) hu (by first | decide | omega) (decide_eq_true hx)).mono ?_
        rintro e w2 ⟨rfl, hb2⟩
        have k2 := k1.trans (hb2.mono k1.size)
        replace hu := hu.below hb2
        replace hv := hv.below hb2
        clear k1 hb2
        go_wp2_with fail
        refine (k_has (b := true) (x := x) hv (by first | decide | omega) (decide_eq_true hy)).mono ?_
        rintro e w3 ⟨rfl, hb3⟩
        have k3 := k2.trans (hb3.mono k2.size)
        replace hu := hu.below hb3
        replace hv := hv.below hb3
        clear k2 hb3
        go_wp2_with fail
        refine (law_awake w3  ).mono ?_
        rintro e w4 ⟨rfl, hb4⟩
        have k4 := k3.trans (hb4.mono k3.size)
        replace hu := hu.below hb4
        replace hv := hv.below hb4
        clear k3 hb4
        go_wp2_with fail
        refine (k_union hu hv (by first | decide | omega) (by first | decide | omega)).mono ?_
        rintro e w5 ⟨v5, rfl, h1, hb5⟩
        have k5 := k4.trans (hb5.mono k4.size)
        replace hu := hu.below hb5
        replace hv := hv.below hb5
        clear k4 hb5
        go_wp2_with fail
        refine (k_has (b := true) (x := x) h1 (by first | decide | omega) (by simp [unionS_mem, hx, hy])).mono ?_
        rintro e w6 ⟨rfl, hb6⟩
        have k6 := k5.trans (hb6.mono k5.size)
        replace hu := hu.below hb6
        replace hv := hv.below hb6
        replace h1 := h1.below hb6
        clear k5 hb6
        clear h1
        go_wp2_with fail
        refine (k_inter hu hv (by first | decide | omega) (by first | decide | omega)).mono ?_
        rintro e w7 ⟨v7, rfl, h1, hb7⟩
        have k7 := k6.trans (hb7.mono k6.size)
        replace hu := hu.below hb7
        replace hv := hv.below hb7
        clear k6 hb7
        go_wp2_with fail
        refine (k_has (b := true) (x := x) h1 (by first | decide | omega) (by simp [interS_mem, hx, hy])).mono ?_
        rintro e w8 ⟨rfl, hb8⟩
        have k8 := k7.trans (hb8.mono k7.size)
        replace hu := hu.below hb8
        replace hv := hv.below hb8
        replace h1 := h1.below hb8
        clear k7 hb8
        clear h1
        go_wp2_with fail
        refine (k_minus hu hv (by first | decide | omega) (by first | decide | omega)).mono ?_
        rintro e w9 ⟨v9, rfl, h1, hb9⟩
        have k9 := k8.trans (hb9.mono k8.size)
        replace hu := hu.below hb9
        replace hv := hv.below hb9
        clear k8 hb9
        go_wp2_with fail
        refine (k_has (b := false) (x := x) h1 (by first | decide | omega) (by simp [minusS_mem, hx, hy])).mono ?_
        rintro e w10 ⟨rfl, hb10⟩
        have k10 := k9.trans (hb10.mono k9.size)
        replace hu := hu.below hb10
        replace hv := hv.below hb10
        replace h1 := h1.below hb10
        clear k9 hb10
        clear h1
        go_wp2
        go_ret
        exact RetV.bool rfl k10
      · go_enter Try.func6, Try.ntmps6
        go_wp2_with fail
        refine (k_few (b := true) hu hv hz (by first | decide | omega) (by first | decide | omega) (by first | decide | omega) (by simp; omega)).mono ?_
        rintro e w1 ⟨rfl, hb1⟩
        have k1 := k0.trans (hb1.mono k0.size)
        replace hu := hu.below hb1
        replace hv := hv.below hb1
        replace hz := hz.below hb1
        clear k0 hb1
        clear hz
        go_wp2_with fail
        refine (k_has (b := true) (x := x) hu (by first | decide | omega) (decide_eq_true hx)).mono ?_
        rintro e w2 ⟨rfl, hb2⟩
        have k2 := k1.trans (hb2.mono k1.size)
        replace hu := hu.below hb2
        replace hv := hv.below hb2
        clear k1 hb2
        go_wp2_with fail
        refine (k_has (b := false) (x := x) hv (by first | decide | omega) (decide_eq_false hy)).mono ?_
        rintro e w3 ⟨rfl, hb3⟩
        have k3 := k2.trans (hb3.mono k2.size)
        replace hu := hu.below hb3
        replace hv := hv.below hb3
        clear k2 hb3
        go_wp2_with fail
        refine (law_awake w3  ).mono ?_
        rintro e w4 ⟨rfl, hb4⟩
        have k4 := k3.trans (hb4.mono k3.size)
        replace hu := hu.below hb4
        replace hv := hv.below hb4
        clear k3 hb4
        go_wp2_with fail
        refine (k_union hu hv (by first | decide | omega) (by first | decide | omega)).mono ?_
        rintro e w5 ⟨v5, rfl, h1, hb5⟩
        have k5 := k4.trans (hb5.mono k4.size)
        replace hu := hu.below hb5
        replace hv := hv.below hb5
        clear k4 hb5
        go_wp2_with fail
        refine (k_has (b := true) (x := x) h1 (by first | decide | omega) (by simp [unionS_mem, hx, hy])).mono ?_
        rintro e w6 ⟨rfl, hb6⟩
        have k6 := k5.trans (hb6.mono k5.size)
        replace hu := hu.below hb6
        replace hv := hv.below hb6
        replace h1 := h1.below hb6
        clear k5 hb6
        clear h1
        go_wp2_with fail
        refine (k_inter hu hv (by first | decide | omega) (by first | decide | omega)).mono ?_
        rintro e w7 ⟨v7, rfl, h1, hb7⟩
        have k7 := k6.trans (hb7.mono k6.size)
        replace hu := hu.below hb7
        replace hv := hv.below hb7
        clear k6 hb7
        go_wp2_with fail
        refine (k_has (b := false) (x := x) h1 (by first | decide | omega) (by simp [interS_mem, hx, hy])).mono ?_
        rintro e w8 ⟨rfl, hb8⟩
        have k8 := k7.trans (hb8.mono k7.size)
        replace hu := hu.below hb8
        replace hv := hv.below hb8
        replace h1 := h1.below hb8
        clear k7 hb8
        clear h1
        go_wp2_with fail
        refine (k_minus hu hv (by first | decide | omega) (by first | decide | omega)).mono ?_
        rintro e w9 ⟨v9, rfl, h1, hb9⟩
        have k9 := k8.trans (hb9.mono k8.size)
        replace hu := hu.below hb9
        replace hv := hv.below hb9
        clear k8 hb9
        go_wp2_with fail
        refine (k_has (b := true) (x := x) h1 (by first | decide | omega) (by simp [minusS_mem, hx, hy])).mono ?_
        rintro e w10 ⟨rfl, hb10⟩
        have k10 := k9.trans (hb10.mono k9.size)
        replace hu := hu.below hb10
        replace hv := hv.below hb10
        replace h1 := h1.below hb10
        clear k9 hb10
        clear h1
        go_wp2
        go_ret
        exact RetV.bool rfl k10
    · by_cases hy : x ∈ ys
      · go_enter Try.func6, Try.ntmps6
        go_wp2_with fail
        refine (k_few (b := true) hu hv hz (by first | decide | omega) (by first | decide | omega) (by first | decide | omega) (by simp; omega)).mono ?_
        rintro e w1 ⟨rfl, hb1⟩
        have k1 := k0.trans (hb1.mono k0.size)
        replace hu := hu.below hb1
        replace hv := hv.below hb1
        replace hz := hz.below hb1
        clear k0 hb1
        clear hz
        go_wp2_with fail
        refine (k_has (b := false) (x := x) hu (by first | decide | omega) (decide_eq_false hx)).mono ?_
        rintro e w2 ⟨rfl, hb2⟩
        have k2 := k1.trans (hb2.mono k1.size)
        replace hu := hu.below hb2
        replace hv := hv.below hb2
        clear k1 hb2
        go_wp2_with fail
        refine (k_has (b := true) (x := x) hv (by first | decide | omega) (decide_eq_true hy)).mono ?_
        rintro e w3 ⟨rfl, hb3⟩
        have k3 := k2.trans (hb3.mono k2.size)
        replace hu := hu.below hb3
        replace hv := hv.below hb3
        clear k2 hb3
        go_wp2_with fail
        refine (law_awake w3  ).mono ?_
        rintro e w4 ⟨rfl, hb4⟩
        have k4 := k3.trans (hb4.mono k3.size)
        replace hu := hu.below hb4
        replace hv := hv.below hb4
        clear k3 hb4
        go_wp2_with fail
        refine (k_union hu hv (by first | decide | omega) (by first | decide | omega)).mono ?_
        rintro e w5 ⟨v5, rfl, h1, hb5⟩
        have k5 := k4.trans (hb5.mono k4.size)
        replace hu := hu.below hb5
        replace hv := hv.below hb5
        clear k4 hb5
        go_wp2_with fail
        refine (k_has (b := true) (x := x) h1 (by first | decide | omega) (by simp [unionS_mem, hx, hy])).mono ?_
        rintro e w6 ⟨rfl, hb6⟩
        have k6 := k5.trans (hb6.mono k5.size)
        replace hu := hu.below hb6
        replace hv := hv.below hb6
        replace h1 := h1.below hb6
        clear k5 hb6
        clear h1
        go_wp2_with fail
        refine (k_inter hu hv (by first | decide | omega) (by first | decide | omega)).mono ?_
        rintro e w7 ⟨v7, rfl, h1, hb7⟩
        have k7 := k6.trans (hb7.mono k6.size)
        replace hu := hu.below hb7
        replace hv := hv.below hb7
        clear k6 hb7
        go_wp2_with fail
        refine (k_has (b := false) (x := x) h1 (by first | decide | omega) (by simp [interS_mem, hx, hy])).mono ?_
        rintro e w8 ⟨rfl, hb8⟩
        have k8 := k7.trans (hb8.mono k7.size)
        replace hu := hu.below hb8
        replace hv := hv.below hb8
        replace h1 := h1.below hb8
        clear k7 hb8
        clear h1
        go_wp2_with fail
        refine (k_minus hu hv (by first | decide | omega) (by first | decide | omega)).mono ?_
        rintro e w9 ⟨v9, rfl, h1, hb9⟩
        have k9 := k8.trans (hb9.mono k8.size)
        replace hu := hu.below hb9
        replace hv := hv.below hb9
        clear k8 hb9
        go_wp2_with fail
        refine (k_has (b := false) (x := x) h1 (by first | decide | omega) (by simp [minusS_mem, hx, hy])).mono ?_
        rintro e w10 ⟨rfl, hb10⟩
        have k10 := k9.trans (hb10.mono k9.size)
        replace hu := hu.below hb10
        replace hv := hv.below hb10
        replace h1 := h1.below hb10
        clear k9 hb10
        clear h1
        go_wp2
        go_ret
        exact RetV.bool rfl k10
      · go_enter Try.func6, Try.ntmps6
        go_wp2_with fail
        refine (k_few (b := true) hu hv hz (by first | decide | omega) (by first | decide | omega) (by first | decide | omega) (by simp; omega)).mono ?_
        rintro e w1 ⟨rfl, hb1⟩
        have k1 := k0.trans (hb1.mono k0.size)
        replace hu := hu.below hb1
        replace hv := hv.below hb1
        replace hz := hz.below hb1
        clear k0 hb1
        clear hz
        go_wp2_with fail
        refine (k_has (b := false) (x := x) hu (by first | decide | omega) (decide_eq_false hx)).mono ?_
        rintro e w2 ⟨rfl, hb2⟩
        have k2 := k1.trans (hb2.mono k1.size)
        replace hu := hu.below hb2
        replace hv := hv.below hb2
        clear k1 hb2
        go_wp2_with fail
        refine (k_has (b := false) (x := x) hv (by first | decide | omega) (decide_eq_false hy)).mono ?_
        rintro e w3 ⟨rfl, hb3⟩
        have k3 := k2.trans (hb3.mono k2.size)
        replace hu := hu.below hb3
        replace hv := hv.below hb3
        clear k2 hb3
        go_wp2_with fail
        refine (law_awake w3  ).mono ?_
        rintro e w4 ⟨rfl, hb4⟩
        have k4 := k3.trans (hb4.mono k3.size)
        replace hu := hu.below hb4
        replace hv := hv.below hb4
        clear k3 hb4
        go_wp2_with fail
        refine (k_union hu hv (by first | decide | omega) (by first | decide | omega)).mono ?_
        rintro e w5 ⟨v5, rfl, h1, hb5⟩
        have k5 := k4.trans (hb5.mono k4.size)
        replace hu := hu.below hb5
        replace hv := hv.below hb5
        clear k4 hb5
        go_wp2_with fail
        refine (k_has (b := false) (x := x) h1 (by first | decide | omega) (by simp [unionS_mem, hx, hy])).mono ?_
        rintro e w6 ⟨rfl, hb6⟩
        have k6 := k5.trans (hb6.mono k5.size)
        replace hu := hu.below hb6
        replace hv := hv.below hb6
        replace h1 := h1.below hb6
        clear k5 hb6
        clear h1
        go_wp2_with fail
        refine (k_inter hu hv (by first | decide | omega) (by first | decide | omega)).mono ?_
        rintro e w7 ⟨v7, rfl, h1, hb7⟩
        have k7 := k6.trans (hb7.mono k6.size)
        replace hu := hu.below hb7
        replace hv := hv.below hb7
        clear k6 hb7
        go_wp2_with fail
        refine (k_has (b := false) (x := x) h1 (by first | decide | omega) (by simp [interS_mem, hx, hy])).mono ?_
        rintro e w8 ⟨rfl, hb8⟩
        have k8 := k7.trans (hb8.mono k7.size)
        replace hu := hu.below hb8
        replace hv := hv.below hb8
        replace h1 := h1.below hb8
        clear k7 hb8
        clear h1
        go_wp2_with fail
        refine (k_minus hu hv (by first | decide | omega) (by first | decide | omega)).mono ?_
        rintro e w9 ⟨v9, rfl, h1, hb9⟩
        have k9 := k8.trans (hb9.mono k8.size)
        replace hu := hu.below hb9
        replace hv := hv.below hb9
        clear k8 hb9
        go_wp2_with fail
        refine (k_has (b := false) (x := x) h1 (by first | decide | omega) (by simp [minusS_mem, hx, hy])).mono ?_
        rintro e w10 ⟨rfl, hb10⟩
        have k10 := k9.trans (hb10.mono k9.size)
        replace hu := hu.below hb10
        replace hv := hv.below hb10
        replace h1 := h1.below hb10
        clear k9 hb10
        clear h1
        go_wp2
        go_ret
        exact RetV.bool rfl k10
  · go_enter Try.func6, Try.ntmps6
    go_wp2_with fail
    refine (k_few (b := false) hu hv hz (by first | decide | omega) (by first | decide | omega) (by first | decide | omega) (by simp; omega)).mono ?_
    rintro e w1 ⟨rfl, hb1⟩
    have k1 := k0.trans (hb1.mono k0.size)
    replace hu := hu.below hb1
    replace hv := hv.below hb1
    replace hz := hz.below hb1
    clear k0 hb1
    clear hz
    go_wp2_with fail
    refine (law_awake w1  ).mono ?_
    rintro e w2 ⟨rfl, hb2⟩
    have k2 := k1.trans (hb2.mono k1.size)
    replace hu := hu.below hb2
    replace hv := hv.below hb2
    clear k1 hb2
    go_wp2
    go_ret
    exact RetV.bool rfl k2

end Go.Proofs
