import Derived.Test.YtoknjlodhohioaaT31
set_option linter.unusedVariables false
set_option linter.unusedSimpArgs false
namespace Go.Proofs
open Go.RowKit Go.Proofs.Mp Go.Proofs.Uf

set_option maxHeartbeats 4000000 in
theorem law_pairs (v : Value) (l : List Cand) (w : World) (hl : SlC w v l) (hm : l.length ≤ 9223372036854775807) :
    Calls Try.prog 4 #[v] w (RetV w (.bool true)) := by
  have hl0 := hl
  obtain ⟨A, c, rfl, hc, _⟩ := hl0
  have HL : Hid (l.length ≤ 100 → (prs l).length ≤ 1000000000) := Lib.hid (fun h => by have := prsTo_len l l.length; have : l.length * l.length ≤ 100 * 100 := Nat.mul_le_mul h h; unfold prs; omega)
  have k0 : Below w.heap.size w w := Below.refl _ _
  by_cases q0 : l.length ≤ 100
  · go_enter Try.func4, Try.ntmps4
    go_wp2_with fail
    refine (k_pairs hl (by omega)  ).mono ?_
    rintro e w1 ⟨v1, rfl, h1, hb1⟩
    have k1 := k0.trans (hb1.mono k0.size)
    replace hl := hl.below hb1
    clear k0 hb1
    go_wp2_with fail
    refine (k_rpairs hl (by omega)  ).mono ?_
    rintro e w2 ⟨v2, rfl, h2, hb2⟩
    have k2 := k1.trans (hb2.mono k1.size)
    replace hl := hl.below hb2
    replace h1 := h1.below hb2
    clear k1 hb2
    go_wp2_with fail
    refine (k_samep (b := true) h1 h2 (HL.out q0) (HL.out q0) (by simp)  ).mono ?_
    rintro e w3 ⟨rfl, hb3⟩
    have k3 := k2.trans (hb3.mono k2.size)
    replace hl := hl.below hb3
    replace h1 := h1.below hb3
    replace h2 := h2.below hb3
    clear k2 hb3
    clear h1
    clear h2
    go_wp2_with fail
    refine (law_awake w3  ).mono ?_
    rintro e w4 ⟨rfl, hb4⟩
    have k4 := k3.trans (hb4.mono k3.size)
    replace hl := hl.below hb4
    clear k3 hb4
    go_wp2
    go_ret
    exact RetV.bool rfl k4
  · go_enter Try.func4, Try.ntmps4
    go_wp2_with fail
    refine (law_awake w  ).mono ?_
    rintro e w1 ⟨rfl, hb1⟩
    have k1 := k0.trans (hb1.mono k0.size)
    clear k0 hb1
    go_wp2
    go_ret
    exact RetV.bool rfl k1

set_option maxHeartbeats 4000000 in
theorem law_free (v u : Value) (l bs : List Cand) (w : World) (hl : SlC w v l) (ht : SlB w u bs) (hm : l.length ≤ 9223372036854775807) (hn : bs.length ≤ 9223372036854775807) :
    Calls Try.prog 7 #[v, u] w (RetV w (.bool true)) := by
  have hl0 := hl
  obtain ⟨A, c, rfl, hc, _⟩ := hl0
  have ht0 := ht
  obtain ⟨B, d, rfl, _⟩ := ht0
  have HL : Hid (l.length ≤ 300 → (freeS l bs).length ≤ 1000000000) := Lib.hid (fun h => by have := List.length_filter_le (freeB bs) l; unfold freeS; omega)
  have k0 : Below w.heap.size w w := Below.refl _ _
  by_cases q0 : l.length ≤ 300
  · by_cases q1 : bs.length ≤ 300
    · go_enter Try.func7, Try.ntmps7
      go_wp2_with fail
      refine (k_free hl ht (by omega) (by omega)  ).mono ?_
      rintro e w1 ⟨v1, rfl, h1, hb1⟩
      have k1 := k0.trans (hb1.mono k0.size)
      replace hl := hl.below hb1
      replace ht := ht.below hb1
      clear k0 hb1
      go_wp2_with fail
      refine (k_rfree hl ht (by omega) (by omega)  ).mono ?_
      rintro e w2 ⟨v2, rfl, h2, hb2⟩
      have k2 := k1.trans (hb2.mono k1.size)
      replace hl := hl.below hb2
      replace ht := ht.below hb2
      replace h1 := h1.below hb2
      clear k1 hb2
      go_wp2_with fail
      refine (k_samec (b := true) h1 h2 (HL.out q0) (HL.out q0) (by simp)  ).mono ?_
      rintro e w3 ⟨rfl, hb3⟩
      have k3 := k2.trans (hb3.mono k2.size)
      replace hl := hl.below hb3
      replace ht := ht.below hb3
      replace h1 := h1.below hb3
      replace h2 := h2.below hb3
      clear k2 hb3
      clear h1
      clear h2
      go_wp2_with fail
      refine (law_awake w3  ).mono ?_
      rintro e w4 ⟨rfl, hb4⟩
      have k4 := k3.trans (hb4.mono k3.size)
      replace hl := hl.below hb4
      replace ht := ht.below hb4
      clear k3 hb4
      go_wp2
      go_ret
      exact RetV.bool rfl k4
    · go_enter Try.func7, Try.ntmps7
      go_wp2_with fail
      refine (law_awake w  ).mono ?_
      rintro e w1 ⟨rfl, hb1⟩
      have k1 := k0.trans (hb1.mono k0.size)
      clear k0 hb1
      go_wp2
      go_ret
      exact RetV.bool rfl k1
  · go_enter Try.func7, Try.ntmps7
    go_wp2_with fail
    refine (law_awake w  ).mono ?_
    rintro e w1 ⟨rfl, hb1⟩
    have k1 := k0.trans (hb1.mono k0.size)
    clear k0 hb1
    go_wp2
    go_ret
    exact RetV.bool rfl k1

end Go.Proofs
