import Derived.Test.YtpcpffljcadnkaaT12
set_option linter.unusedVariables false
set_option linter.unusedSimpArgs false
namespace Go.Proofs
open Go.RowKit Go.Proofs.Mp

theorem SlI.litAt (w : World) (a : Nat) (cs : Array Value) (xs : List Int) (n : Nat) (ha : a = w.heap.size) (hn : n = xs.length) (h : cs = (xs.flatMap Mp.encI).toArray) : SlI (w.alloc (.cells cs 3)) (.slice (some ⟨a, 0, none⟩) n n) xs := by
  subst ha
  exact SlI.lit w cs xs n hn h
theorem aw1 : setL [3, 1, 3, 2] = [1, 2, 3] := setL_lit _ _ (by decide) (fun x => by simp; omega)
theorem aw2 : unionS [1, 2, 3] [2, 4] = [1, 2, 3, 4] := setL_lit _ _ (by decide) (fun x => by simp; omega)
theorem aw3 : interS [1, 2, 3] [2, 4] = [2] := Asc.unique (interS_asc _ _) (by decide) (fun x => by rw [interS_mem]; simp; omega)
theorem aw4 : minusS [1, 2, 3] [2, 4] = [1, 3] := Asc.unique (minusS_asc _ _) (by decide) (fun x => by rw [minusS_mem]; simp; omega)

set_option maxHeartbeats 2000000 in
theorem law_awake (w : World) : Calls Try.prog 10 #[] w (RetV w (.bool true)) := by
  have ha := ((SlI.lit w #[.int .i64 1, .int .i64 2, .int .i64 3] [1, 2, 3] 3 rfl rfl).alloc (.cells #[.int .i64 2, .int .i64 4] 3)).alloc (.cells #[.int .i64 3, .int .i64 1, .int .i64 3, .int .i64 2] 3)
  have hb := (SlI.litAt (w.alloc (.cells #[.int .i64 1, .int .i64 2, .int .i64 3] 3)) (w.heap.size + 1) #[.int .i64 2, .int .i64 4] [2, 4] 2 (by simp) rfl rfl).alloc (.cells #[.int .i64 3, .int .i64 1, .int .i64 3, .int .i64 2] 3)
  have hl := SlI.litAt ((w.alloc (.cells #[.int .i64 1, .int .i64 2, .int .i64 3] 3)).alloc (.cells #[.int .i64 2, .int .i64 4] 3)) (w.heap.size + 1 + 1) #[.int .i64 3, .int .i64 1, .int .i64 3, .int .i64 2] [3, 1, 3, 2] 4 (by simp) rfl rfl
  have k0 : Below w.heap.size w (((w.alloc (.cells #[.int .i64 1, .int .i64 2, .int .i64 3] 3)).alloc (.cells #[.int .i64 2, .int .i64 4] 3)).alloc (.cells #[.int .i64 3, .int .i64 1, .int .i64 3, .int .i64 2] 3)) := (((Below.refl _ _).alloc (Nat.le_refl _) _).alloc (by simp) _).alloc (by simp; omega) _
  go_enter Try.func10, Try.ntmps10
  go_wp2_with fail
  generalize (((w.alloc (.cells #[.int .i64 1, .int .i64 2, .int .i64 3] 3)).alloc (.cells #[.int .i64 2, .int .i64 4] 3)).alloc (.cells #[.int .i64 3, .int .i64 1, .int .i64 3, .int .i64 2] 3)) = w0 at *
  refine (k_normal hl (by first | decide | omega)).mono ?_
  rintro e w1 ⟨v1, rfl, hn, hb1⟩
  have k1 := k0.trans (hb1.mono k0.size)
  replace ha := ha.below hb1
  replace hb := hb.below hb1
  replace hl := hl.below hb1
  clear k0 hb1
  clear hl
  rw [aw1] at hn
  go_wp2_with fail
  refine (k_same (b := true) hn ha (by first | decide | omega) (by first | decide | omega) (by decide)).mono ?_
  rintro e w2 ⟨rfl, hb2⟩
  have k2 := k1.trans (hb2.mono k1.size)
  replace ha := ha.below hb2
  replace hb := hb.below hb2
  replace hn := hn.below hb2
  clear k1 hb2
  clear hn
  have h2 := SlI.lit w2 #[.int .i64 1, .int .i64 1] [1, 1] 2 rfl rfl
  replace ha := ha.alloc (.cells #[.int .i64 1, .int .i64 1] 3)
  replace hb := hb.alloc (.cells #[.int .i64 1, .int .i64 1] 3)
  replace k2 := k2.alloc k2.size (.cells #[.int .i64 1, .int .i64 1] 3)
  go_wp2_with fail
  generalize (w2.alloc (.cells #[.int .i64 1, .int .i64 1] 3)) = w3 at *
  refine (k_valid (b := false) h2 (by first | decide | omega) (by decide)).mono ?_
  rintro e w4 ⟨rfl, hb4⟩
  have k4 := k2.trans (hb4.mono k2.size)
  replace ha := ha.below hb4
  replace hb := hb.below hb4
  replace h2 := h2.below hb4
  clear k2 hb4
  clear h2
  go_wp2_with fail
  refine (k_valid (b := true) hb (by first | decide | omega) (by decide)).mono ?_
  rintro e w5 ⟨rfl, hb5⟩
  have k5 := k4.trans (hb5.mono k4.size)
  replace ha := ha.below hb5
  replace hb := hb.below hb5
  clear k4 hb5
  go_wp2_with fail
  refine (k_union ha hb (by first | decide | omega) (by first | decide | omega)).mono ?_
  rintro e w6 ⟨v6, rfl, hn, hb6⟩
  have k6 := k5.trans (hb6.mono k5.size)
  replace ha := ha.below hb6
  replace hb := hb.below hb6
  clear k5 hb6
  rw [aw2] at hn
  have h4 := SlI.lit w6 #[.int .i64 1, .int .i64 2, .int .i64 3, .int .i64 4] [1, 2, 3, 4] 4 rfl rfl
  replace ha := ha.alloc (.cells #[.int .i64 1, .int .i64 2, .int .i64 3, .int .i64 4] 3)
  replace hb := hb.alloc (.cells #[.int .i64 1, .int .i64 2, .int .i64 3, .int .i64 4] 3)
  replace hn := hn.alloc (.cells #[.int .i64 1, .int .i64 2, .int .i64 3, .int .i64 4] 3)
  replace k6 := k6.alloc k6.size (.cells #[.int .i64 1, .int .i64 2, .int .i64 3, .int .i64 4] 3)
  go_wp2_with fail
  generalize (w6.alloc (.cells #[.int .i64 1, .int .i64 2, .int .i64 3, .int .i64 4] 3)) = w7 at *
  refine (k_same (b := true) hn h4 (by first | decide | omega) (by first | decide | omega) (by decide)).mono ?_
  rintro e w8 ⟨rfl, hb8⟩
  have k8 := k6.trans (hb8.mono k6.size)
  replace ha := ha.below hb8
  replace hb := hb.below hb8
  replace hn := hn.below hb8
  replace h4 := h4.below hb8
  clear k6 hb8
  clear hn
  clear h4
  go_wp2_with fail
  refine (k_inter ha hb (by first | decide | omega) (by first | decide | omega)).mono ?_
  rintro e w9 ⟨v9, rfl, hn, hb9⟩
  have k9 := k8.trans (hb9.mono k8.size)
  replace ha := ha.below hb9
  replace hb := hb.below hb9
  clear k8 hb9
  rw [aw3] at hn
  have h4 := SlI.lit w9 #[.int .i64 2] [2] 1 rfl rfl
  replace ha := ha.alloc (.cells #[.int .i64 2] 3)
  replace hb := hb.alloc (.cells #[.int .i64 2] 3)
  replace hn := hn.alloc (.cells #[.int .i64 2] 3)
  replace k9 := k9.alloc k9.size (.cells #[.int .i64 2] 3)
  go_wp2_with fail
  generalize (w9.alloc (.cells #[.int .i64 2] 3)) = w10 at *
  refine (k_same (b := true) hn h4 (by first | decide | omega) (by first | decide | omega) (by decide)).mono ?_
  rintro e w11 ⟨rfl, hb11⟩
  have k11 := k9.trans (hb11.mono k9.size)
  replace ha := ha.below hb11
  replace hb := hb.below hb11
  replace hn := hn.below hb11
  replace h4 := h4.below hb11
  clear k9 hb11
  clear hn
  clear h4
  go_wp2_with fail
  refine (k_minus ha hb (by first | decide | omega) (by first | decide | omega)).mono ?_
  rintro e w12 ⟨v12, rfl, hn, hb12⟩
  have k12 := k11.trans (hb12.mono k11.size)
  replace ha := ha.below hb12
  replace hb := hb.below hb12
  clear k11 hb12
  rw [aw4] at hn
  have h4 := SlI.lit w12 #[.int .i64 1, .int .i64 3] [1, 3] 2 rfl rfl
  replace ha := ha.alloc (.cells #[.int .i64 1, .int .i64 3] 3)
  replace hb := hb.alloc (.cells #[.int .i64 1, .int .i64 3] 3)
  replace hn := hn.alloc (.cells #[.int .i64 1, .int .i64 3] 3)
  replace k12 := k12.alloc k12.size (.cells #[.int .i64 1, .int .i64 3] 3)
  go_wp2_with fail
  generalize (w12.alloc (.cells #[.int .i64 1, .int .i64 3] 3)) = w13 at *
  refine (k_same (b := true) hn h4 (by first | decide | omega) (by first | decide | omega) (by decide)).mono ?_
  rintro e w14 ⟨rfl, hb14⟩
  have k14 := k12.trans (hb14.mono k12.size)
  replace ha := ha.below hb14
  replace hb := hb.below hb14
  replace hn := hn.below hb14
  replace h4 := h4.below hb14
  clear k12 hb14
  clear hn
  clear h4
  have h4 := SlI.lit w14 #[.int .i64 3, .int .i64 1] [3, 1] 2 rfl rfl
  replace ha := ha.alloc (.cells #[.int .i64 3, .int .i64 1] 3)
  replace hb := hb.alloc (.cells #[.int .i64 3, .int .i64 1] 3)
  replace k14 := k14.alloc k14.size (.cells #[.int .i64 3, .int .i64 1] 3)
  go_wp2_with fail
  generalize (w14.alloc (.cells #[.int .i64 3, .int .i64 1] 3)) = w15 at *
  refine (k_has (b := true) h4 (by first | decide | omega) (by decide)).mono ?_
  rintro e w16 ⟨rfl, hb16⟩
  have k16 := k14.trans (hb16.mono k14.size)
  replace ha := ha.below hb16
  replace hb := hb.below hb16
  replace h4 := h4.below hb16
  clear k14 hb16
  clear h4
  go_wp2_with fail
  refine (k_has (b := false) ha (by first | decide | omega) (by decide)).mono ?_
  rintro e w17 ⟨rfl, hb17⟩
  have k17 := k16.trans (hb17.mono k16.size)
  replace ha := ha.below hb17
  replace hb := hb.below hb17
  clear k16 hb17
  go_wp2
  go_ret
  exact RetV.bool rfl k17
end Go.Proofs
