import Derived.Test.YtpcpffljcadnkaaT14
set_option linter.unusedVariables false
set_option linter.unusedSimpArgs false
namespace Go.Proofs
open Go.RowKit Go.Proofs.Mp

theorem alg1 (a b : List Int) : unionS a b = unionS b a := Asc.unique (unionS_asc _ _) (unionS_asc _ _) fun x => by simp only [unionS_mem, interS_mem, minusS_mem]; exact Or.comm
theorem alg2 (a b : List Int) : interS a b = interS b a := Asc.unique (interS_asc _ _) (interS_asc _ _) fun x => by simp only [unionS_mem, interS_mem, minusS_mem]; exact And.comm
theorem alg3 (a b c : List Int) : unionS (unionS a b) c = unionS a (unionS b c) := Asc.unique (unionS_asc _ _) (unionS_asc _ _) fun x => by simp only [unionS_mem, interS_mem, minusS_mem]; exact or_assoc
theorem alg4 (a b c : List Int) : interS (interS a b) c = interS a (interS b c) := Asc.unique (interS_asc _ _) (interS_asc _ _) fun x => by simp only [unionS_mem, interS_mem, minusS_mem]; exact and_assoc
theorem alg5 (a b c : List Int) : interS (unionS a b) c = unionS (interS a c) (interS b c) := Asc.unique (interS_asc _ _) (unionS_asc _ _) fun x => by
  simp only [unionS_mem, interS_mem, minusS_mem]
  by_cases h1 : x ∈ a <;> by_cases h2 : x ∈ b <;> by_cases h3 : x ∈ c <;> simp [h1, h2, h3]
theorem alg6 (a b c : List Int) : unionS (interS a b) c = interS (unionS a c) (unionS b c) := Asc.unique (unionS_asc _ _) (interS_asc _ _) fun x => by
  simp only [unionS_mem, interS_mem, minusS_mem]
  by_cases h1 : x ∈ a <;> by_cases h2 : x ∈ b <;> by_cases h3 : x ∈ c <;> simp [h1, h2, h3]
theorem alg7 (a b : List Int) : unionS a (interS a b) = setL a := Asc.unique (unionS_asc _ _) (setL_asc _) fun x => by
  simp only [unionS_mem, interS_mem, minusS_mem, setL_mem]
  by_cases h1 : x ∈ a <;> by_cases h2 : x ∈ b <;> simp [h1, h2]
theorem alg8 (a b : List Int) : interS a (unionS a b) = setL a := Asc.unique (interS_asc _ _) (setL_asc _) fun x => by
  simp only [unionS_mem, interS_mem, minusS_mem, setL_mem]
  by_cases h1 : x ∈ a <;> by_cases h2 : x ∈ b <;> simp [h1, h2]
theorem div1 (a b : List Int) : unionS (interS a b) (minusS a b) = setL a := Asc.unique (unionS_asc _ _) (setL_asc _) fun x => by
  simp only [unionS_mem, interS_mem, minusS_mem, setL_mem]
  by_cases h1 : x ∈ a <;> by_cases h2 : x ∈ b <;> simp [h1, h2]
theorem div2 (a b : List Int) : interS (minusS a b) b = [] := by
  refine List.eq_nil_iff_forall_not_mem.2 fun x hx => ?_
  rw [interS_mem, minusS_mem] at hx
  exact hx.1.2 hx.2
theorem filter_two (p : Int → Bool) : ∀ l : List Int, (l.filter p).length + (l.filter fun x => !p x).length = l.length
  | [] => rfl
  | x :: xs => by
    have := filter_two p xs
    rcases h : p x with _ | _ <;> simp [List.filter_cons, h] <;> omega
theorem div3 (a b : List Int) : (interS a b).length + (minusS a b).length = (setL a).length := filter_two _ _
theorem div4 (a b : List Int) : (unionS a b).length + (interS a b).length = (setL a).length + (setL b).length := by
  have h1 := filter_two (fun x => decide (x ∈ setL a)) (unionS a b)
  have e1 : (unionS a b).filter (fun x => decide (x ∈ setL a)) = setL a := Asc.unique (List.Pairwise.filter _ (unionS_asc a b)) (setL_asc a) fun x => by
    simp only [List.mem_filter, unionS_mem, setL_mem, decide_eq_true_eq]
    by_cases h1 : x ∈ a <;> simp [h1]
  have e2 : (unionS a b).filter (fun x => !decide (x ∈ setL a)) = minusS b a := Asc.unique (List.Pairwise.filter _ (unionS_asc a b)) (minusS_asc b a) fun x => by
    simp only [List.mem_filter, unionS_mem, setL_mem, minusS_mem]
    by_cases h1 : x ∈ a <;> by_cases h2 : x ∈ b <;> simp [h1, h2]
  rw [e1, e2] at h1
  have h2 := div3 b a
  rw [alg2 b a] at h2
  omega

set_option maxHeartbeats 4000000 in
theorem law_algebra (u v t : Value) (xs ys zs : List Int)  (w : World) (hu : SlI w u xs) (hv : SlI w v ys) (ht : SlI w t zs) (mu : xs.length ≤ 9223372036854775807) (mv : ys.length ≤ 9223372036854775807) (mt : zs.length ≤ 9223372036854775807) :
    Calls Try.prog 7 #[u, v, t] w (RetV w (.bool true)) := by
  have hz := SlI.none w
  have k0 : Below w.heap.size w w := Below.refl _ _
  by_cases hf : xs.length ≤ 100 ∧ ys.length ≤ 100 ∧ zs.length ≤ 100
  · have hf' := hf
    obtain ⟨fu, fv, ft⟩ := hf
    clear hf'
    have l1 := unionS_len xs ys
    have l2 := interS_len xs ys
    have l3 := unionS_len ys xs
    have l4 := interS_len ys xs
    have l5 := unionS_len (unionS xs ys) zs
    have l6 := unionS_len ys zs
    have l7 := unionS_len xs (unionS ys zs)
    have l8 := interS_len (interS xs ys) zs
    have l9 := interS_len ys zs
    have l10 := interS_len xs (interS ys zs)
    have l11 := interS_len (unionS xs ys) zs
    have l12 := interS_len xs zs
    have l13 := unionS_len (interS xs zs) (interS ys zs)
    have l14 := unionS_len (interS xs ys) zs
    have l15 := unionS_len xs zs
    have l16 := interS_len (unionS xs zs) (unionS ys zs)
    have l17 := unionS_len xs (interS xs ys)
    have l18 := interS_len xs (unionS xs ys)
    have l19 := setL_len xs
    go_enter Try.func7, Try.ntmps7
    go_wp2_with fail
    refine (k_few (b := true) hu hv ht (by first | decide | omega) (by first | decide | omega) (by first | decide | omega) (by simp; omega)).mono ?_
    rintro e w1 ⟨rfl, hb1⟩
    have k1 := k0.trans (hb1.mono k0.size)
    replace hu := hu.below hb1
    replace hv := hv.below hb1
    replace ht := ht.below hb1
    replace hz := hz.below hb1
    clear k0 hb1
    clear hz
    go_wp2_with fail
    refine (k_union hu hv (by first | decide | omega) (by first | decide | omega)).mono ?_
    rintro e w2 ⟨v2, rfl, hU, hb2⟩
    have k2 := k1.trans (hb2.mono k1.size)
    replace hu := hu.below hb2
    replace hv := hv.below hb2
    replace ht := ht.below hb2
    clear k1 hb2
    go_wp2_with fail
    refine (k_inter hu hv (by first | decide | omega) (by first | decide | omega)).mono ?_
    rintro e w3 ⟨v3, rfl, hI, hb3⟩
    have k3 := k2.trans (hb3.mono k2.size)
    replace hu := hu.below hb3
    replace hv := hv.below hb3
    replace ht := ht.below hb3
    replace hU := hU.below hb3
    clear k2 hb3
    go_wp2_with fail
    refine (k_union hv hu (by first | decide | omega) (by first | decide | omega)).mono ?_
    rintro e w4 ⟨v4, rfl, h1, hb4⟩
    have k4 := k3.trans (hb4.mono k3.size)
    replace hu := hu.below hb4
    replace hv := hv.below hb4
    replace ht := ht.below hb4
    replace hU := hU.below hb4
    replace hI := hI.below hb4
    clear k3 hb4
    go_wp2_with fail
    refine (k_same (b := true) hU h1 (by first | decide | omega) (by first | decide | omega) (decide_eq_true (alg1 _ _))).mono ?_
    rintro e w5 ⟨rfl, hb5⟩
    have k5 := k4.trans (hb5.mono k4.size)
    replace hu := hu.below hb5
    replace hv := hv.below hb5
    replace ht := ht.below hb5
    replace hU := hU.below hb5
    replace hI := hI.below hb5
    replace h1 := h1.below hb5
    clear k4 hb5
    clear h1
    go_wp2_with fail
    refine (k_inter hv hu (by first | decide | omega) (by first | decide | omega)).mono ?_
    rintro e w6 ⟨v6, rfl, h1, hb6⟩
    have k6 := k5.trans (hb6.mono k5.size)
    replace hu := hu.below hb6
    replace hv := hv.below hb6
    replace ht := ht.below hb6
    replace hU := hU.below hb6
    replace hI := hI.below hb6
    clear k5 hb6
    go_wp2_with fail
    refine (k_same (b := true) hI h1 (by first | decide | omega) (by first | decide | omega) (decide_eq_true (alg2 _ _))).mono ?_
    rintro e w7 ⟨rfl, hb7⟩
    have k7 := k6.trans (hb7.mono k6.size)
    replace hu := hu.below hb7
    replace hv := hv.below hb7
    replace ht := ht.below hb7
    replace hU := hU.below hb7
    replace hI := hI.below hb7
    replace h1 := h1.below hb7
    clear k6 hb7
    clear h1
    go_wp2_with fail
    refine (k_union hU ht (by first | decide | omega) (by first | decide | omega)).mono ?_
    rintro e w8 ⟨v8, rfl, h1, hb8⟩
    have k8 := k7.trans (hb8.mono k7.size)
    replace hu := hu.below hb8
    replace hv := hv.below hb8
    replace ht := ht.below hb8
    replace hU := hU.below hb8
    replace hI := hI.below hb8
    clear k7 hb8
    go_wp2_with fail
    refine (k_union hv ht (by first | decide | omega) (by first | decide | omega)).mono ?_
    rintro e w9 ⟨v9, rfl, h2, hb9⟩
    have k9 := k8.trans (hb9.mono k8.size)
    replace hu := hu.below hb9
    replace hv := hv.below hb9
    replace ht := ht.below hb9
    replace hU := hU.below hb9
    replace hI := hI.below hb9
    replace h1 := h1.below hb9
    clear k8 hb9
    go_wp2_with fail
    refine (k_union hu h2 (by first | decide | omega) (by first | decide | omega)).mono ?_
    rintro e w10 ⟨v10, rfl, h3, hb10⟩
    have k10 := k9.trans (hb10.mono k9.size)
    replace hu := hu.below hb10
    replace hv := hv.below hb10
    replace ht := ht.below hb10
    replace hU := hU.below hb10
    replace hI := hI.below hb10
    replace h1 := h1.below hb10
    replace h2 := h2.below hb10
    clear k9 hb10
    go_wp2_with fail
    refine (k_same (b := true) h1 h3 (by first | decide | omega) (by first | decide | omega) (decide_eq_true (alg3 _ _ _))).mono ?_
    rintro e w11 ⟨rfl, hb11⟩
    have k11 := k10.trans (hb11.mono k10.size)
    replace hu := hu.below hb11
    replace hv := hv.below hb11
    replace ht := ht.below hb11
    replace hU := hU.below hb11
    replace hI := hI.below hb11
    replace h1 := h1.below hb11
    replace h2 := h2.below hb11
    replace h3 := h3.below hb11
    clear k10 hb11
    clear h1
    clear h2
    clear h3
    go_wp2_with fail
    refine (k_inter hI ht (by first | decide | omega) (by first | decide | omega)).mono ?_
    rintro e w12 ⟨v12, rfl, h1, hb12⟩
    have k12 := k11.trans (hb12.mono k11.size)
    replace hu := hu.below hb12
    replace hv := hv.below hb12
    replace ht := ht.below hb12
    replace hU := hU.below hb12
    replace hI := hI.below hb12
    clear k11 hb12
    go_wp2_with fail
    refine (k_inter hv ht (by first | decide | omega) (by first | decide | omega)).mono ?_
    rintro e w13 ⟨v13, rfl, h2, hb13⟩
    have k13 := k12.trans (hb13.mono k12.size)
    replace hu := hu.below hb13
    replace hv := hv.below hb13
    replace ht := ht.below hb13
    replace hU := hU.below hb13
    replace hI := hI.below hb13
    replace h1 := h1.below hb13
    clear k12 hb13
    go_wp2_with fail
    refine (k_inter hu h2 (by first | decide | omega) (by first | decide | omega)).mono ?_
    rintro e w14 ⟨v14, rfl, h3, hb14⟩
    have k14 := k13.trans (hb14.mono k13.size)
    replace hu := hu.below hb14
    replace hv := hv.below hb14
    replace ht := ht.below hb14
    replace hU := hU.below hb14
    replace hI := hI.below hb14
    replace h1 := h1.below hb14
    replace h2 := h2.below hb14
    clear k13 hb14
    go_wp2_with fail
    refine (k_same (b := true) h1 h3 (by first | decide | omega) (by first | decide | omega) (decide_eq_true (alg4 _ _ _))).mono ?_
    rintro e w15 ⟨rfl, hb15⟩
    have k15 := k14.trans (hb15.mono k14.size)
    replace hu := hu.below hb15
    replace hv := hv.below hb15
    replace ht := ht.below hb15
    replace hU := hU.below hb15
    replace hI := hI.below hb15
    replace h1 := h1.below hb15
    replace h2 := h2.below hb15
    replace h3 := h3.below hb15
    clear k14 hb15
    clear h1
    clear h2
    clear h3
    go_wp2_with fail
    refine (k_inter hU ht (by first | decide | omega) (by first | decide | omega)).mono ?_
    rintro e w16 ⟨v16, rfl, h1, hb16⟩
    have k16 := k15.trans (hb16.mono k15.size)
    replace hu := hu.below hb16
    replace hv := hv.below hb16
    replace ht := ht.below hb16
    replace hU := hU.below hb16
    replace hI := hI.below hb16
    clear k15 hb16
    go_wp2_with fail
    refine (k_inter hu ht (by first | decide | omega) (by first | decide | omega)).mono ?_
    rintro e w17 ⟨v17, rfl, h2, hb17⟩
    have k17 := k16.trans (hb17.mono k16.size)
    replace hu := hu.below hb17
    replace hv := hv.below hb17
    replace ht := ht.below hb17
    replace hU := hU.below hb17
    replace hI := hI.below hb17
    replace h1 := h1.below hb17
    clear k16 hb17
    go_wp2_with fail
    refine (k_inter hv ht (by first | decide | omega) (by first | decide | omega)).mono ?_
    rintro e w18 ⟨v18, rfl, h3, hb18⟩
    have k18 := k17.trans (hb18.mono k17.size)
    replace hu := hu.below hb18
    replace hv := hv.below hb18
    replace ht := ht.below hb18
    replace hU := hU.below hb18
    replace hI := hI.below hb18
    replace h1 := h1.below hb18
    replace h2 := h2.below hb18
    clear k17 hb18
    go_wp2_with fail
    refine (k_union h2 h3 (by first | decide | omega) (by first | decide | omega)).mono ?_
    rintro e w19 ⟨v19, rfl, h4, hb19⟩
    have k19 := k18.trans (hb19.mono k18.size)
    replace hu := hu.below hb19
    replace hv := hv.below hb19
    replace ht := ht.below hb19
    replace hU := hU.below hb19
    replace hI := hI.below hb19
    replace h1 := h1.below hb19
    replace h2 := h2.below hb19
    replace h3 := h3.below hb19
    clear k18 hb19
    go_wp2_with fail
    refine (k_same (b := true) h1 h4 (by first | decide | omega) (by first | decide | omega) (decide_eq_true (alg5 _ _ _))).mono ?_
    rintro e w20 ⟨rfl, hb20⟩
    have k20 := k19.trans (hb20.mono k19.size)
    replace hu := hu.below hb20
    replace hv := hv.below hb20
    replace ht := ht.below hb20
    replace hU := hU.below hb20
    replace hI := hI.below hb20
    replace h1 := h1.below hb20
    replace h2 := h2.below hb20
    replace h3 := h3.below hb20
    replace h4 := h4.below hb20
    clear k19 hb20
    clear h1
    clear h2
    clear h3
    clear h4
    go_wp2_with fail
    refine (k_union hI ht (by first | decide | omega) (by first | decide | omega)).mono ?_
    rintro e w21 ⟨v21, rfl, h1, hb21⟩
    have k21 := k20.trans (hb21.mono k20.size)
    replace hu := hu.below hb21
    replace hv := hv.below hb21
    replace ht := ht.below hb21
    replace hU := hU.below hb21
    replace hI := hI.below hb21
    clear k20 hb21
    go_wp2_with fail
    refine (k_union hu ht (by first | decide | omega) (by first | decide | omega)).mono ?_
    rintro e w22 ⟨v22, rfl, h2, hb22⟩
    have k22 := k21.trans (hb22.mono k21.size)
    replace hu := hu.below hb22
    replace hv := hv.below hb22
    replace ht := ht.below hb22
    replace hU := hU.below hb22
    replace hI := hI.below hb22
    replace h1 := h1.below hb22
    clear k21 hb22
    go_wp2_with fail
    refine (k_union hv ht (by first | decide | omega) (by first | decide | omega)).mono ?_
    rintro e w23 ⟨v23, rfl, h3, hb23⟩
    have k23 := k22.trans (hb23.mono k22.size)
    replace hu := hu.below hb23
    replace hv := hv.below hb23
    replace ht := ht.below hb23
    replace hU := hU.below hb23
    replace hI := hI.below hb23
    replace h1 := h1.below hb23
    replace h2 := h2.below hb23
    clear k22 hb23
    go_wp2_with fail
    refine (k_inter h2 h3 (by first | decide | omega) (by first | decide | omega)).mono ?_
    rintro e w24 ⟨v24, rfl, h4, hb24⟩
    have k24 := k23.trans (hb24.mono k23.size)
    replace hu := hu.below hb24
    replace hv := hv.below hb24
    replace ht := ht.below hb24
    replace hU := hU.below hb24
    replace hI := hI.below hb24
    replace h1 := h1.below hb24
    replace h2 := h2.below hb24
    replace h3 := h3.below hb24
    clear k23 hb24
    go_wp2_with fail
    refine (k_same (b := true) h1 h4 (by first | decide | omega) (by first | decide | omega) (decide_eq_true (alg6 _ _ _))).mono ?_
    rintro e w25 ⟨rfl, hb25⟩
    have k25 := k24.trans (hb25.mono k24.size)
    replace hu := hu.below hb25
    replace hv := hv.below hb25
    replace ht := ht.below hb25
    replace hU := hU.below hb25
    replace hI := hI.below hb25
    replace h1 := h1.below hb25
    replace h2 := h2.below hb25
    replace h3 := h3.below hb25
    replace h4 := h4.below hb25
    clear k24 hb25
    clear h1
    clear h2
    clear h3
    clear h4
    go_wp2_with fail
    refine (law_awake w25  ).mono ?_
    rintro e w26 ⟨rfl, hb26⟩
    have k26 := k25.trans (hb26.mono k25.size)
    replace hu := hu.below hb26
    replace hv := hv.below hb26
    replace ht := ht.below hb26
    replace hU := hU.below hb26
    replace hI := hI.below hb26
    clear k25 hb26
    go_wp2_with fail
    refine (k_union hu hI (by first | decide | omega) (by first | decide | omega)).mono ?_
    rintro e w27 ⟨v27, rfl, h1, hb27⟩
    have k27 := k26.trans (hb27.mono k26.size)
    replace hu := hu.below hb27
    replace hv := hv.below hb27
    replace ht := ht.below hb27
    replace hU := hU.below hb27
    replace hI := hI.below hb27
    clear k26 hb27
    go_wp2_with fail
    refine (k_normal hu (by first | decide | omega)).mono ?_
    rintro e w28 ⟨v28, rfl, h2, hb28⟩
    have k28 := k27.trans (hb28.mono k27.size)
    replace hu := hu.below hb28
    replace hv := hv.below hb28
    replace ht := ht.below hb28
    replace hU := hU.below hb28
    replace hI := hI.below hb28
    replace h1 := h1.below hb28
    clear k27 hb28
    go_wp2_with fail
    refine (k_same (b := true) h1 h2 (by first | decide | omega) (by first | decide | omega) (decide_eq_true (alg7 _ _))).mono ?_
    rintro e w29 ⟨rfl, hb29⟩
    have k29 := k28.trans (hb29.mono k28.size)
    replace hu := hu.below hb29
    replace hv := hv.below hb29
    replace ht := ht.below hb29
    replace hU := hU.below hb29
    replace hI := hI.below hb29
    replace h1 := h1.below hb29
    replace h2 := h2.below hb29
    clear k28 hb29
    clear h1
    clear h2
    go_wp2_with fail
    refine (k_inter hu hU (by first | decide | omega) (by first | decide | omega)).mono ?_
    rintro e w30 ⟨v30, rfl, h1, hb30⟩
    have k30 := k29.trans (hb30.mono k29.size)
    replace hu := hu.below hb30
    replace hv := hv.below hb30
    replace ht := ht.below hb30
    replace hU := hU.below hb30
    replace hI := hI.below hb30
    clear k29 hb30
    go_wp2_with fail
    refine (k_normal hu (by first | decide | omega)).mono ?_
    rintro e w31 ⟨v31, rfl, h2, hb31⟩
    have k31 := k30.trans (hb31.mono k30.size)
    replace hu := hu.below hb31
    replace hv := hv.below hb31
    replace ht := ht.below hb31
    replace hU := hU.below hb31
    replace hI := hI.below hb31
    replace h1 := h1.below hb31
    clear k30 hb31
    go_wp2_with fail
    refine (k_same (b := true) h1 h2 (by first | decide | omega) (by first | decide | omega) (decide_eq_true (alg8 _ _))).mono ?_
    rintro e w32 ⟨rfl, hb32⟩
    have k32 := k31.trans (hb32.mono k31.size)
    replace hu := hu.below hb32
    replace hv := hv.below hb32
    replace ht := ht.below hb32
    replace hU := hU.below hb32
    replace hI := hI.below hb32
    replace h1 := h1.below hb32
    replace h2 := h2.below hb32
    clear k31 hb32
    clear h1
    clear h2
    go_wp2
    go_ret
    exact RetV.bool rfl k32
  · go_enter Try.func7, Try.ntmps7
    go_wp2_with fail
    refine (k_few (b := false) hu hv ht (by first | decide | omega) (by first | decide | omega) (by first | decide | omega) (by simp; omega)).mono ?_
    rintro e w1 ⟨rfl, hb1⟩
    have k1 := k0.trans (hb1.mono k0.size)
    replace hu := hu.below hb1
    replace hv := hv.below hb1
    replace ht := ht.below hb1
    replace hz := hz.below hb1
    clear k0 hb1
    clear hz
    go_wp2_with fail
    refine (law_awake w1  ).mono ?_
    rintro e w2 ⟨rfl, hb2⟩
    have k2 := k1.trans (hb2.mono k1.size)
    replace hu := hu.below hb2
    replace hv := hv.below hb2
    replace ht := ht.below hb2
    clear k1 hb2
    go_wp2
    go_ret
    exact RetV.bool rfl k2

set_option maxHeartbeats 4000000 in
theorem law_divides (u v : Value) (xs ys : List Int)  (w : World) (hu : SlI w u xs) (hv : SlI w v ys) (mu : xs.length ≤ 9223372036854775807) (mv : ys.length ≤ 9223372036854775807) :
    Calls Try.prog 8 #[u, v] w (RetV w (.bool true)) := by
  have hz := SlI.none w
  have k0 : Below w.heap.size w w := Below.refl _ _
  by_cases hf : xs.length ≤ 100 ∧ ys.length ≤ 100
  · have hf' := hf
    obtain ⟨fu, fv⟩ := hf
    clear hf'
    have l1 := unionS_len xs ys
    have l2 := interS_len xs ys
    have l3 := minusS_len xs ys
    have l4 := unionS_len (interS xs ys) (minusS xs ys)
    have l5 := interS_len (minusS xs ys) ys
    have l6 := setL_len xs
    have l7 := setL_len ys
    have d1 := div3 xs ys
    have d2 := div4 xs ys
    have w1 : IntKind.i64.wrap (((interS xs ys).length : Int) + ((minusS xs ys).length : Int)) = ((setL xs).length : Int) := by rw [IntWalk.i64_in _ (by omega)]; omega
    have w2 : IntKind.i64.wrap (((unionS xs ys).length : Int) + ((interS xs ys).length : Int)) = (((unionS xs ys).length + (interS xs ys).length : Nat) : Int) := by rw [IntWalk.i64_in _ (by omega)]; omega
    have w3 : IntKind.i64.wrap (((setL xs).length : Int) + ((setL ys).length : Int)) = (((unionS xs ys).length + (interS xs ys).length : Nat) : Int) := by rw [IntWalk.i64_in _ (by omega)]; omega
    clear d1 d2
    go_enter Try.func8, Try.ntmps8
    go_wp2_with fail
    refine (k_few (b := true) hu hv hz (by first | decide | omega) (by first | decide | omega) (by first | decide | omega) (by simp; omega)).mono ?_
    rintro e w1 ⟨rfl, hb1⟩
    have k1 := k0.trans (hb1.mono k0.size)
    replace hu := hu.below hb1
    replace hv := hv.below hb1
    replace hz := hz.below hb1
    clear k0 hb1
    clear hz
    go_wp2_with fail
    refine (k_inter hu hv (by first | decide | omega) (by first | decide | omega)).mono ?_
    rintro e w2 ⟨v2, rfl, hI, hb2⟩
    have k2 := k1.trans (hb2.mono k1.size)
    replace hu := hu.below hb2
    replace hv := hv.below hb2
    clear k1 hb2
    have o := hI
    obtain ⟨A3, c3, rfl, -, -⟩ := o
    go_wp2_with fail
    refine (k_minus hu hv (by first | decide | omega) (by first | decide | omega)).mono ?_
    rintro e w4 ⟨v4, rfl, hM, hb4⟩
    have k4 := k2.trans (hb4.mono k2.size)
    replace hu := hu.below hb4
    replace hv := hv.below hb4
    replace hI := hI.below hb4
    clear k2 hb4
    have o := hM
    obtain ⟨A5, c5, rfl, -, -⟩ := o
    go_wp2_with fail
    refine (law_awake w4  ).mono ?_
    rintro e w6 ⟨rfl, hb6⟩
    have k6 := k4.trans (hb6.mono k4.size)
    replace hu := hu.below hb6
    replace hv := hv.below hb6
    replace hI := hI.below hb6
    replace hM := hM.below hb6
    clear k4 hb6
    go_wp2_with fail
    refine (k_union hI hM (by first | decide | omega) (by first | decide | omega)).mono ?_
    rintro e w7 ⟨v7, rfl, h1, hb7⟩
    have k7 := k6.trans (hb7.mono k6.size)
    replace hu := hu.below hb7
    replace hv := hv.below hb7
    replace hI := hI.below hb7
    replace hM := hM.below hb7
    clear k6 hb7
    go_wp2_with fail
    refine (k_normal hu (by first | decide | omega)).mono ?_
    rintro e w8 ⟨v8, rfl, h2, hb8⟩
    have k8 := k7.trans (hb8.mono k7.size)
    replace hu := hu.below hb8
    replace hv := hv.below hb8
    replace hI := hI.below hb8
    replace hM := hM.below hb8
    replace h1 := h1.below hb8
    clear k7 hb8
    go_wp2_with fail
    refine (k_same (b := true) h1 h2 (by first | decide | omega) (by first | decide | omega) (decide_eq_true (div1 _ _))).mono ?_
    rintro e w9 ⟨rfl, hb9⟩
    have k9 := k8.trans (hb9.mono k8.size)
    replace hu := hu.below hb9
    replace hv := hv.below hb9
    replace hI := hI.below hb9
    replace hM := hM.below hb9
    replace h1 := h1.below hb9
    replace h2 := h2.below hb9
    clear k8 hb9
    clear h1
    clear h2
    go_wp2_with fail
    refine (k_inter hM hv (by first | decide | omega) (by first | decide | omega)).mono ?_
    rintro e w10 ⟨v10, rfl, h1, hb10⟩
    have k10 := k9.trans (hb10.mono k9.size)
    replace hu := hu.below hb10
    replace hv := hv.below hb10
    replace hI := hI.below hb10
    replace hM := hM.below hb10
    clear k9 hb10
    rw [div2] at h1
    have o := h1
    obtain ⟨A11, c11, rfl, -, -⟩ := o
    clear h1
    go_wp2_with fail
    refine (k_normal hu (by first | decide | omega)).mono ?_
    rintro e w12 ⟨v12, rfl, h2, hb12⟩
    have k12 := k10.trans (hb12.mono k10.size)
    replace hu := hu.below hb12
    replace hv := hv.below hb12
    replace hI := hI.below hb12
    replace hM := hM.below hb12
    clear k10 hb12
    have o := h2
    obtain ⟨A13, c13, rfl, -, -⟩ := o
    clear h2
    go_wp2_with fail
    refine (k_union hu hv (by first | decide | omega) (by first | decide | omega)).mono ?_
    rintro e w14 ⟨v14, rfl, h1, hb14⟩
    have k14 := k12.trans (hb14.mono k12.size)
    replace hu := hu.below hb14
    replace hv := hv.below hb14
    replace hI := hI.below hb14
    replace hM := hM.below hb14
    clear k12 hb14
    have o := h1
    obtain ⟨A15, c15, rfl, -, -⟩ := o
    clear h1
    go_wp2_with fail
    refine (k_normal hu (by first | decide | omega)).mono ?_
    rintro e w16 ⟨v16, rfl, h2, hb16⟩
    have k16 := k14.trans (hb16.mono k14.size)
    replace hu := hu.below hb16
    replace hv := hv.below hb16
    replace hI := hI.below hb16
    replace hM := hM.below hb16
    clear k14 hb16
    have o := h2
    obtain ⟨A17, c17, rfl, -, -⟩ := o
    clear h2
    go_wp2_with fail
    refine (k_normal hv (by first | decide | omega)).mono ?_
    rintro e w18 ⟨v18, rfl, h2, hb18⟩
    have k18 := k16.trans (hb18.mono k16.size)
    replace hu := hu.below hb18
    replace hv := hv.below hb18
    replace hI := hI.below hb18
    replace hM := hM.below hb18
    clear k16 hb18
    have o := h2
    obtain ⟨A19, c19, rfl, -, -⟩ := o
    clear h2
    go_wp2
    go_ret
    exact RetV.bool rfl k18
  · go_enter Try.func8, Try.ntmps8
    go_wp2_with fail
    refine (k_few (b := false) hu hv hz (by first | decide | omega) (by first | decide | omega) (by first | decide | omega) (by simp; omega)).mono ?_
    rintro e w1 ⟨rfl, hb1⟩
    have k1 := k0.trans (hb1.mono k0.size)
    replace hu := hu.below hb1
    replace hv := hv.below hb1
    replace hz := hz.below hb1
    clear k0 hb1
    clear hz
    go_wp2_with fail
    refine (law_awake w1  ).mono ?_
    rintro e w2 ⟨rfl, hb2⟩
    have k2 := k1.trans (hb2.mono k1.size)
    replace hu := hu.below hb2
    replace hv := hv.below hb2
    clear k1 hb2
    go_wp2
    go_ret
    exact RetV.bool rfl k2

end Go.Proofs
