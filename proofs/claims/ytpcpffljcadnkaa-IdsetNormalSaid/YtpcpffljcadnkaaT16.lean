import Derived.Test.YtpcpffljcadnkaaT15
set_option linter.unusedVariables false
set_option linter.unusedSimpArgs false
namespace Go.Proofs
open Go.RowKit Go.Proofs.Mp
theorem Mp.Own.sl {w : World} {base : Nat} {v : Value} {xs : List Int} (h : OwnI 3 w base v xs) : SlI w v xs := by
  have h0 := own_held h
  have h1 := h0
  rcases h0 with ⟨A, c, rfl, rfl⟩ | ⟨g, c, rfl, _, _, hc, _⟩
  · exact ⟨A, c, rfl, Nat.zero_le _, Rd.nil _⟩
  · exact ⟨_, c, rfl, hc, (held_rd h1).2⟩

set_option maxHeartbeats 4000000 in
theorem law_normal (u : Value) (xs : List Int)  (w : World) (hu : SlI w u xs) (mu : xs.length ≤ 9223372036854775807) :
    Calls Try.prog 4 #[u] w (RetV w (.bool true)) := by
  have hz := SlI.none w
  have k0 : Below w.heap.size w w := Below.refl _ _
  by_cases hf : xs.length ≤ 100
  · have hf' := hf
    have fu := hf
    clear hf'
    have l1 := setL_len xs
    go_enter Try.func4, Try.ntmps4
    go_wp2_with fail
    refine (k_few (b := true) hu hz hz (by first | decide | omega) (by first | decide | omega) (by first | decide | omega) (by simp; omega)).mono ?_
    rintro e w1 ⟨rfl, hb1⟩
    have k1 := k0.trans (hb1.mono k0.size)
    replace hu := hu.below hb1
    replace hz := hz.below hb1
    clear k0 hb1
    clear hz
    go_wp2_with fail
    refine (k_normal hu (by first | decide | omega)).mono ?_
    rintro e w2 ⟨v2, rfl, hN, hb2⟩
    have k2 := k1.trans (hb2.mono k1.size)
    replace hu := hu.below hb2
    clear k1 hb2
    have hu0 := hu
    obtain ⟨A0, c0, rfl, -, hR⟩ := hu0
    have e0 : IntKind.i64.wrap ((xs.length : Int) - 1) = (xs.length : Int) - 1 := IntWalk.i64_in _ (by omega)
    go_wp2_with fail
    go_loopw [4, 5] (fun v i wr => ∃ n : Nat, n ≤ xs.length ∧ i = .int .i64 ((n : Int) - 1) ∧ OwnI 3 wr w2.heap.size v (xs.drop n).reverse ∧ Below w2.heap.size w2 wr) (fun _ i _ => (intOf i + 1).toNat)
    case atStart => exact ⟨xs.length, Nat.le_refl _, rfl, by rw [List.drop_length]; exact own_made w2, (Below.refl _ _).alloc (Nat.le_refl _) _⟩
    case round =>
      obtain ⟨n, hn, rfl, hown, hbw⟩ := hrel
      have hbs := hbw.size
      rcases n with _ | n
      · have e1 : ((0 : Nat) : Int) - 1 = -1 := rfl
        rw [e1]
        rw [List.drop_zero] at hown
        have hk := own_held hown
        have hB : SlI wr _ xs.reverse := hown.sl
        replace hu := hu.below hbw
        replace hN := hN.below hbw
        have kr := k2.trans (hbw.mono k2.size)
        clear k2 hbw hbs hown hR hk
        have hrl : xs.reverse.length ≤ 100 := by simp; omega
        go_wp2_with fail
        refine (law_awake wr  ).mono ?_
        rintro e w3 ⟨rfl, hb3⟩
        have k3 := kr.trans (hb3.mono kr.size)
        replace hu := hu.below hb3
        replace hN := hN.below hb3
        replace hB := hB.below hb3
        clear kr hb3
        go_wp2_with fail
        refine (k_rnormal hu (by first | decide | omega)).mono ?_
        rintro e w4 ⟨v4, rfl, h1, hb4⟩
        have k4 := k3.trans (hb4.mono k3.size)
        replace hu := hu.below hb4
        replace hN := hN.below hb4
        replace hB := hB.below hb4
        clear k3 hb4
        go_wp2_with fail
        refine (k_same (b := true) hN h1 (by first | decide | omega) (by first | decide | omega) (by simp)).mono ?_
        rintro e w5 ⟨rfl, hb5⟩
        have k5 := k4.trans (hb5.mono k4.size)
        replace hu := hu.below hb5
        replace hN := hN.below hb5
        replace hB := hB.below hb5
        replace h1 := h1.below hb5
        clear k4 hb5
        clear h1
        go_wp2_with fail
        refine (k_valid (b := true) hN (by first | decide | omega) ((ascB_iff _).2 (setL_asc _))).mono ?_
        rintro e w6 ⟨rfl, hb6⟩
        have k6 := k5.trans (hb6.mono k5.size)
        replace hu := hu.below hb6
        replace hN := hN.below hb6
        replace hB := hB.below hb6
        clear k5 hb6
        go_wp2_with fail
        refine (k_normal hN (by first | decide | omega)).mono ?_
        rintro e w7 ⟨v7, rfl, h1, hb7⟩
        have k7 := k6.trans (hb7.mono k6.size)
        replace hu := hu.below hb7
        replace hN := hN.below hb7
        replace hB := hB.below hb7
        clear k6 hb7
        rw [setL_of_asc (setL_asc xs)] at h1
        go_wp2_with fail
        refine (k_same (b := true) h1 hN (by first | decide | omega) (by first | decide | omega) (by simp)).mono ?_
        rintro e w8 ⟨rfl, hb8⟩
        have k8 := k7.trans (hb8.mono k7.size)
        replace hu := hu.below hb8
        replace hN := hN.below hb8
        replace hB := hB.below hb8
        replace h1 := h1.below hb8
        clear k7 hb8
        clear h1
        go_wp2_with fail
        refine (k_normal hB (by first | decide | omega)).mono ?_
        rintro e w9 ⟨v9, rfl, h1, hb9⟩
        have k9 := k8.trans (hb9.mono k8.size)
        replace hu := hu.below hb9
        replace hN := hN.below hb9
        replace hB := hB.below hb9
        clear k8 hb9
        rw [setL_lit xs.reverse (setL xs) (setL_asc xs) (fun x => by rw [setL_mem]; simp)] at h1
        go_wp2_with fail
        refine (k_same (b := true) h1 hN (by first | decide | omega) (by first | decide | omega) (by simp)).mono ?_
        rintro e w10 ⟨rfl, hb10⟩
        have k10 := k9.trans (hb10.mono k9.size)
        replace hu := hu.below hb10
        replace hN := hN.below hb10
        replace hB := hB.below hb10
        replace h1 := h1.below hb10
        clear k9 hb10
        clear h1
        go_wp2
        go_ret
        exact RetV.bool rfl k10
      · have e1 : ((n + 1 : Nat) : Int) - 1 = (n : Int) := by omega
        rw [e1]
        obtain ⟨b, off, rfl, hb, g1⟩ := RdI.get hR hbw (show n < xs.length by omega)
        have HX := Lib.hid (show (xs.drop n).reverse = (xs.drop (n + 1)).reverse ++ [xs[n]!] by
          rw [List.drop_eq_getElem_cons (show n < xs.length by omega)]; simp [show n < xs.length by omega])
        have hll : (xs.drop (n + 1)).reverse.length ≤ 100 := by simp; omega
        generalize xs[n]! = x at *
        generalize (xs.drop (n + 1)).reverse = os at *
        have e2 : IntKind.i64.wrap ((n : Int) - 1) = (n : Int) - 1 := IntWalk.i64_in _ (by omega)
        go_wp2_with (at_builtin; refine Try.appI hown x rfl _ _ rfl rfl rfl (by omega) hbs ?_; clear hown; intro v3 w3 hown3 hb3)
        go_roundw
        case rel => exact ⟨n, by omega, rfl, by rw [HX.out]; exact hown3, hbw.trans hb3⟩
        case measure => simp [intOf]
  · go_enter Try.func4, Try.ntmps4
    go_wp2_with fail
    refine (k_few (b := false) hu hz hz (by first | decide | omega) (by first | decide | omega) (by first | decide | omega) (by simp; omega)).mono ?_
    rintro e w1 ⟨rfl, hb1⟩
    have k1 := k0.trans (hb1.mono k0.size)
    replace hu := hu.below hb1
    replace hz := hz.below hb1
    clear k0 hb1
    clear hz
    go_wp2_with fail
    refine (law_awake w1  ).mono ?_
    rintro e w2 ⟨rfl, hb2⟩
    have k2 := k1.trans (hb2.mono k1.size)
    replace hu := hu.below hb2
    clear k1 hb2
    go_wp2
    go_ret
    exact RetV.bool rfl k2

end Go.Proofs
