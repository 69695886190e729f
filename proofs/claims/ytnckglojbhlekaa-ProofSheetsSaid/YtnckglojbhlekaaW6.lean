/- The laws Turns and Sheets, walked. -/
import Derived.Test.YtnckglojbhlekaaW4
import Derived.Test.YtnckglojbhlekaaE2
set_option linter.unusedVariables false
set_option linter.unusedSimpArgs false
namespace Go.Proofs
open Go.RowKit Go.Proofs.Mp

theorem c_errata (u v : Value) (xs ys : List Pd) (W : World) (hx : SlP W u xs) (hy : SlP W v ys) : Calls Try.prog 19 #[.agg #[.int .i64 0, u, .slice none 0 0], .agg #[.int .i64 0, v, .slice none 0 0]] W (DifPost (erE xs ys) (erL xs ys) W) := proof_errata u v xs ys W hx hy
theorem c_rerrata (u v : Value) (xs ys : List Pd) (W : World) (hx : SlP W u xs) (hy : SlP W v ys) : Calls Try.prog 20 #[.agg #[.int .i64 0, u, .slice none 0 0], .agg #[.int .i64 0, v, .slice none 0 0]] W (DifPost (erE xs ys) (erL xs ys) W) := ref_errata u v xs ys W hx hy
theorem three_one {u : Value} (h : u.oneCell' = true) : ∀ v ∈ [Value.int .i64 0, u, .slice none 0 0], v.oneCell' = true := by
  intro z hz
  simp only [List.mem_cons, List.not_mem_nil, or_false] at hz
  rcases hz with e | e | e <;> rw [e] <;> first | exact h | rfl
theorem SlP.one {w : World} {v : Value} {xs : List Pd} (h : SlP w v xs) : v.oneCell' = true := by obtain ⟨A, c, rfl, _⟩ := h; rfl
theorem SlC.len {w : World} {v : Value} {xs : List Pd} (h : SlC w v xs) : ∃ A c, v = .slice A xs.length c := by obtain ⟨A, c, rfl, _⟩ := h; exact ⟨A, c, rfl⟩
set_option maxRecDepth 100000 in
set_option maxHeartbeats 6000000 in
theorem law_turns (u v : Value) (xs ys : List Pd) (w : World) (hmx : xs.length ≤ 9223372036854775807) (hmy : ys.length ≤ 9223372036854775807) (hx0 : SlC w u xs) (hy0 : SlC w v ys) : Calls Try.prog 7 #[u, v] w (RetV w (.bool true)) := by
  have k0 : Below w.heap.size w w := Below.refl _ _
  go_enter Try.func7, Try.ntmps7
  go_wp2_with fail
  refine (few_any u xs _ hmx hx0).mono ?_
  rintro e w1 ⟨rfl, hb1⟩
  have k1 := k0.trans (hb1.mono k0.size)
  replace hx0 := hx0.below hb1
  replace hy0 := hy0.below hb1
  clear k0 hb1
  obtain ⟨px, hpx⟩ : ∃ p, fewB xs = p := ⟨_, rfl⟩
  rw [hpx]
  have HPx := Lib.hid hpx
  clear hpx
  cases px
  · go_wp2_with fail
    refine (awake_any _).mono ?_
    rintro e w102 ⟨rfl, hb102⟩
    have k102 := k1.trans (hb102.mono k1.size)
    replace hx0 := hx0.below hb102
    replace hy0 := hy0.below hb102
    clear k1 hb102
    go_wp2
    go_ret
    exact RetV.bool rfl k102
  have hlx := (fewB_len HPx.out).1
  have HFx := Lib.hid (fun q (hq : q ∈ xs) => light_few ((fewB_len HPx.out).2 q hq))
  go_wp2_with fail
  refine (few_any v ys _ hmy hy0).mono ?_
  rintro e w2 ⟨rfl, hb2⟩
  have k2 := k1.trans (hb2.mono k1.size)
  replace hx0 := hx0.below hb2
  replace hy0 := hy0.below hb2
  clear k1 hb2
  obtain ⟨py, hpy⟩ : ∃ p, fewB ys = p := ⟨_, rfl⟩
  rw [hpy]
  have HPy := Lib.hid hpy
  clear hpy
  cases py
  · go_wp2_with fail
    refine (awake_any _).mono ?_
    rintro e w103 ⟨rfl, hb103⟩
    have k103 := k2.trans (hb103.mono k2.size)
    replace hx0 := hx0.below hb103
    replace hy0 := hy0.below hb103
    clear k2 hb103
    go_wp2
    go_ret
    exact RetV.bool rfl k103
  have hly := (fewB_len HPy.out).1
  have HFy := Lib.hid (fun q (hq : q ∈ ys) => light_few ((fewB_len HPy.out).2 q hq))
  go_wp2_with fail
  refine (edition_any u xs _ hlx HFx.out hx0).mono ?_
  rintro e w3 ⟨u1, rfl, hu1, hb3⟩
  have k3 := k2.trans (hb3.mono k2.size)
  replace hx0 := hx0.below hb3
  replace hy0 := hy0.below hb3
  clear k2 hb3
  go_wp2_with fail
  refine (edition_any v ys _ hly HFy.out hy0).mono ?_
  rintro e w4 ⟨v1, rfl, hv1, hb4⟩
  have k4 := k3.trans (hb4.mono k3.size)
  replace hx0 := hx0.below hb4
  replace hy0 := hy0.below hb4
  replace hu1 := hu1.below hb4
  clear k3 hb4
  unfold aggE
  have RU0 : Mp.Row ((w4.alloc (.cells #[.int .i64 0, .slice none 0 0, .slice none 0 0] 44)).alloc (.cells #[.int .i64 0, .slice none 0 0, .slice none 0 0] 44)) w4.heap.size 44 [.int .i64 0, .slice none 0 0, .slice none 0 0] := (Row.newAt rfl rfl).alloc _
  have RV0 : Mp.Row (((w4.alloc (.cells #[.int .i64 0, .slice none 0 0, .slice none 0 0] 44)).alloc (.cells #[.int .i64 0, .slice none 0 0, .slice none 0 0] 44)).setRow w4.heap.size #[.int .i64 0, u1, .slice none 0 0]) (w4.heap.size + 1) 44 [.int .i64 0, .slice none 0 0, .slice none 0 0] := (Row.newAt (by simp) rfl).setOther (by omega) _
  have hbA : Below w4.heap.size w4 ((((w4.alloc (.cells #[.int .i64 0, .slice none 0 0, .slice none 0 0] 44)).alloc (.cells #[.int .i64 0, .slice none 0 0, .slice none 0 0] 44)).setRow w4.heap.size #[.int .i64 0, u1, .slice none 0 0]).setRow (w4.heap.size + 1) #[.int .i64 0, v1, .slice none 0 0]) := below_setRow (below_setRow ((bw1 _ _).alloc (by simp) _) (Nat.le_refl _) _) (by omega) _
  have RU : Mp.Row ((((w4.alloc (.cells #[.int .i64 0, .slice none 0 0, .slice none 0 0] 44)).alloc (.cells #[.int .i64 0, .slice none 0 0, .slice none 0 0] 44)).setRow w4.heap.size #[.int .i64 0, u1, .slice none 0 0]).setRow (w4.heap.size + 1) #[.int .i64 0, v1, .slice none 0 0]) w4.heap.size 44 [.int .i64 0, u1, .slice none 0 0] := (RU0.setSame [.int .i64 0, u1, .slice none 0 0]).setOther (by omega) _
  have RV : Mp.Row ((((w4.alloc (.cells #[.int .i64 0, .slice none 0 0, .slice none 0 0] 44)).alloc (.cells #[.int .i64 0, .slice none 0 0, .slice none 0 0] 44)).setRow w4.heap.size #[.int .i64 0, u1, .slice none 0 0]).setRow (w4.heap.size + 1) #[.int .i64 0, v1, .slice none 0 0]) (w4.heap.size + 1) 44 [.int .i64 0, v1, .slice none 0 0] := RV0.setSame [.int .i64 0, v1, .slice none 0 0]
  have ou := three_one hu1.one
  have ov := three_one hv1.one
  go_upto_region 4 with first
    | (refine wpList_storeRow 44 [.int .i64 0, u1, .slice none 0 0] rfl (.tmp 5) _ rfl w4.heap.size rfl rfl RU0 Try.size44 rfl ou ?_)
    | (refine wpList_storeRow 44 [.int .i64 0, v1, .slice none 0 0] rfl (.tmp 6) _ rfl (w4.heap.size + 1) rfl rfl RV0 Try.size44 rfl ov ?_)
  try simp only [Act.put]
  clear RU0 RV0 ou ov
  have k5 := k4.trans (hbA.mono k4.size)
  replace hx0 := hx0.below hbA
  replace hy0 := hy0.below hbA
  replace hu1 := hu1.below hbA
  replace hv1 := hv1.below hbA
  clear k4 hbA
  generalize ((((w4.alloc (.cells #[.int .i64 0, .slice none 0 0, .slice none 0 0] 44)).alloc (.cells #[.int .i64 0, .slice none 0 0, .slice none 0 0] 44)).setRow w4.heap.size #[.int .i64 0, u1, .slice none 0 0]).setRow (w4.heap.size + 1) #[.int .i64 0, v1, .slice none 0 0]) = w6 at *
  generalize w4.heap.size = B at *
  go_wp2_with first
    | (refine wpList_load_mid rfl 44 (.tmp 5) rfl B 0 rfl [.int .i64 0, u1, .slice none 0 0] _ RU.range Try.underlying44 rfl Try.size44 ?_)
    | (refine wpList_load_mid rfl 44 (.tmp 6) rfl (B + 1) 0 rfl [.int .i64 0, v1, .slice none 0 0] _ RV.range Try.underlying44 rfl Try.size44 ?_)
  refine (c_errata u1 v1 xs ys _ hu1 hv1).mono ?_
  rintro e w7 ⟨q1, rfl, hq1, hb7⟩
  have k7 := k5.trans (hb7.mono k5.size)
  replace hx0 := hx0.below hb7
  replace hy0 := hy0.below hb7
  replace hu1 := hu1.below hb7
  replace hv1 := hv1.below hb7
  replace RU := RU.below hb7 (by have := k5.size; first | exact RU.lt | omega)
  replace RV := RV.below hb7 (by have := k5.size; first | exact RV.lt | omega)
  clear k5 hb7
  go_wp2_with first
    | (refine wpList_load_mid rfl 44 (.tmp 5) rfl B 0 rfl [.int .i64 0, u1, .slice none 0 0] _ RU.range Try.underlying44 rfl Try.size44 ?_)
    | (refine wpList_load_mid rfl 44 (.tmp 6) rfl (B + 1) 0 rfl [.int .i64 0, v1, .slice none 0 0] _ RV.range Try.underlying44 rfl Try.size44 ?_)
  refine (c_errata v1 u1 ys xs _ hv1 hu1).mono ?_
  rintro e w8 ⟨q2, rfl, hq2, hb8⟩
  have k8 := k7.trans (hb8.mono k7.size)
  replace hx0 := hx0.below hb8
  replace hy0 := hy0.below hb8
  replace hu1 := hu1.below hb8
  replace hv1 := hv1.below hb8
  replace RU := RU.below hb8 (by have := k7.size; first | exact RU.lt | omega)
  replace RV := RV.below hb8 (by have := k7.size; first | exact RV.lt | omega)
  replace hq1 := hq1.below hb8
  clear k7 hb8
  go_wp2_with first
    | (refine wpList_load_mid rfl 44 (.tmp 5) rfl B 0 rfl [.int .i64 0, u1, .slice none 0 0] _ RU.range Try.underlying44 rfl Try.size44 ?_)
    | (refine wpList_load_mid rfl 44 (.tmp 6) rfl (B + 1) 0 rfl [.int .i64 0, v1, .slice none 0 0] _ RV.range Try.underlying44 rfl Try.size44 ?_)
  refine (c_errata u1 u1 xs xs _ hu1 hu1).mono ?_
  rintro e w9 ⟨q3, rfl, hq3, hb9⟩
  have k9 := k8.trans (hb9.mono k8.size)
  replace hx0 := hx0.below hb9
  replace hy0 := hy0.below hb9
  replace hu1 := hu1.below hb9
  replace hv1 := hv1.below hb9
  replace RU := RU.below hb9 (by have := k8.size; first | exact RU.lt | omega)
  replace RV := RV.below hb9 (by have := k8.size; first | exact RV.lt | omega)
  replace hq1 := hq1.below hb9
  replace hq2 := hq2.below hb9
  clear k8 hb9
  rw [← (er_sym xs ys).2] at hq2
  rw [er_self] at hq3
  obtain ⟨A3, c3, rfl, _, _⟩ := hq3
  have hll := erL_len xs ys
  have HS := Lib.hid (er_sym xs ys).1
  have HO := Lib.hid (fun h => er_own (a := xs) (b := ys) h)
  generalize erL xs ys = Ld at *
  obtain ⟨r1, hr1⟩ : ∃ r, erE xs ys = r := ⟨_, rfl⟩
  obtain ⟨r2, hr2⟩ : ∃ r, erE ys xs = r := ⟨_, rfl⟩
  obtain ⟨r3, hr3⟩ : ∃ r, erE xs xs = r := ⟨_, rfl⟩
  rw [hr1, hr2] at HS
  rw [hr1, hr3] at HO
  rw [hr1, hr2, hr3]
  clear hr1 hr2 hr3
  clear hx0 hy0 hu1 hv1 RU RV
  simp only [List.length_nil]
  by_cases hz : r1 = 0
  · have hz2 : r2 = 0 := HS.out.1 hz
    have hz3 : r3 = 0 := HO.out hz
    subst hz hz2 hz3
    clear HS HO
    go_wp2_with fail
    refine (c_sameD hq1 hq2 (by omega) (by omega)).mono ?_
    rintro e w110 ⟨rfl, hb110⟩
    have k110 := k9.trans (hb110.mono k9.size)
    replace hq1 := hq1.below hb110
    replace hq2 := hq2.below hb110
    clear k9 hb110
    rw [show decide (Ld = Ld) = true from decide_eq_true rfl]
    clear hq1 hq2
    go_wp2_with fail
    refine (awake_any _).mono ?_
    rintro e w111 ⟨rfl, hb111⟩
    have k111 := k110.trans (hb111.mono k110.size)
    clear k110 hb111
    go_wp2
    go_ret
    exact RetV.bool rfl k111
  · have hz2 : ¬ r2 = 0 := fun h => hz (HS.out.2 h)
    have e1 : (r1 == 0) = false := by simp [hz]
    have e2 : (r2 == 0) = false := by simp [hz2]
    have e3 : (r1 != 0) = true := by simp [hz]
    clear HS HO hz hz2
    go_wp2_with fail
    refine (c_sameD hq1 hq2 (by omega) (by omega)).mono ?_
    rintro e w301 ⟨rfl, hb301⟩
    have k301 := k9.trans (hb301.mono k9.size)
    replace hq1 := hq1.below hb301
    replace hq2 := hq2.below hb301
    clear k9 hb301
    rw [show decide (Ld = Ld) = true from decide_eq_true rfl]
    clear hq1 hq2
    go_wp2_with fail
    refine (awake_any _).mono ?_
    rintro e w302 ⟨rfl, hb302⟩
    have k302 := k301.trans (hb302.mono k301.size)
    clear k301 hb302
    go_wp2
    go_ret
    exact RetV.bool rfl k302
set_option maxRecDepth 100000 in
set_option maxHeartbeats 6000000 in
theorem law_sheets (u v : Value) (xs ys : List Pd) (w : World) (hmx : xs.length ≤ 9223372036854775807) (hmy : ys.length ≤ 9223372036854775807) (hx0 : SlC w u xs) (hy0 : SlC w v ys) : Calls Try.prog 6 #[u, v] w (RetV w (.bool true)) := by
  have k0 : Below w.heap.size w w := Below.refl _ _
  go_enter Try.func6, Try.ntmps6
  go_wp2_with fail
  refine (few_any u xs _ hmx hx0).mono ?_
  rintro e w1 ⟨rfl, hb1⟩
  have k1 := k0.trans (hb1.mono k0.size)
  replace hx0 := hx0.below hb1
  replace hy0 := hy0.below hb1
  clear k0 hb1
  obtain ⟨px, hpx⟩ : ∃ p, fewB xs = p := ⟨_, rfl⟩
  rw [hpx]
  have HPx := Lib.hid hpx
  clear hpx
  cases px
  · go_wp2_with fail
    refine (awake_any _).mono ?_
    rintro e w102 ⟨rfl, hb102⟩
    have k102 := k1.trans (hb102.mono k1.size)
    replace hx0 := hx0.below hb102
    replace hy0 := hy0.below hb102
    clear k1 hb102
    go_wp2
    go_ret
    exact RetV.bool rfl k102
  have hlx := (fewB_len HPx.out).1
  have HFx := Lib.hid (fun q (hq : q ∈ xs) => light_few ((fewB_len HPx.out).2 q hq))
  go_wp2_with fail
  refine (few_any v ys _ hmy hy0).mono ?_
  rintro e w2 ⟨rfl, hb2⟩
  have k2 := k1.trans (hb2.mono k1.size)
  replace hx0 := hx0.below hb2
  replace hy0 := hy0.below hb2
  clear k1 hb2
  obtain ⟨py, hpy⟩ : ∃ p, fewB ys = p := ⟨_, rfl⟩
  rw [hpy]
  have HPy := Lib.hid hpy
  clear hpy
  cases py
  · go_wp2_with fail
    refine (awake_any _).mono ?_
    rintro e w103 ⟨rfl, hb103⟩
    have k103 := k2.trans (hb103.mono k2.size)
    replace hx0 := hx0.below hb103
    replace hy0 := hy0.below hb103
    clear k2 hb103
    go_wp2
    go_ret
    exact RetV.bool rfl k103
  have hly := (fewB_len HPy.out).1
  have HFy := Lib.hid (fun q (hq : q ∈ ys) => light_few ((fewB_len HPy.out).2 q hq))
  go_wp2_with fail
  refine (edition_any u xs _ hlx HFx.out hx0).mono ?_
  rintro e w3 ⟨u1, rfl, hu1, hb3⟩
  have k3 := k2.trans (hb3.mono k2.size)
  replace hx0 := hx0.below hb3
  replace hy0 := hy0.below hb3
  clear k2 hb3
  go_wp2_with fail
  refine (edition_any v ys _ hly HFy.out hy0).mono ?_
  rintro e w4 ⟨v1, rfl, hv1, hb4⟩
  have k4 := k3.trans (hb4.mono k3.size)
  replace hx0 := hx0.below hb4
  replace hy0 := hy0.below hb4
  replace hu1 := hu1.below hb4
  clear k3 hb4
  unfold aggE
  have RU0 : Mp.Row ((w4.alloc (.cells #[.int .i64 0, .slice none 0 0, .slice none 0 0] 44)).alloc (.cells #[.int .i64 0, .slice none 0 0, .slice none 0 0] 44)) w4.heap.size 44 [.int .i64 0, .slice none 0 0, .slice none 0 0] := (Row.newAt rfl rfl).alloc _
  have RV0 : Mp.Row (((w4.alloc (.cells #[.int .i64 0, .slice none 0 0, .slice none 0 0] 44)).alloc (.cells #[.int .i64 0, .slice none 0 0, .slice none 0 0] 44)).setRow w4.heap.size #[.int .i64 0, u1, .slice none 0 0]) (w4.heap.size + 1) 44 [.int .i64 0, .slice none 0 0, .slice none 0 0] := (Row.newAt (by simp) rfl).setOther (by omega) _
  have hbA : Below w4.heap.size w4 ((((w4.alloc (.cells #[.int .i64 0, .slice none 0 0, .slice none 0 0] 44)).alloc (.cells #[.int .i64 0, .slice none 0 0, .slice none 0 0] 44)).setRow w4.heap.size #[.int .i64 0, u1, .slice none 0 0]).setRow (w4.heap.size + 1) #[.int .i64 0, v1, .slice none 0 0]) := below_setRow (below_setRow ((bw1 _ _).alloc (by simp) _) (Nat.le_refl _) _) (by omega) _
  have RU : Mp.Row ((((w4.alloc (.cells #[.int .i64 0, .slice none 0 0, .slice none 0 0] 44)).alloc (.cells #[.int .i64 0, .slice none 0 0, .slice none 0 0] 44)).setRow w4.heap.size #[.int .i64 0, u1, .slice none 0 0]).setRow (w4.heap.size + 1) #[.int .i64 0, v1, .slice none 0 0]) w4.heap.size 44 [.int .i64 0, u1, .slice none 0 0] := (RU0.setSame [.int .i64 0, u1, .slice none 0 0]).setOther (by omega) _
  have RV : Mp.Row ((((w4.alloc (.cells #[.int .i64 0, .slice none 0 0, .slice none 0 0] 44)).alloc (.cells #[.int .i64 0, .slice none 0 0, .slice none 0 0] 44)).setRow w4.heap.size #[.int .i64 0, u1, .slice none 0 0]).setRow (w4.heap.size + 1) #[.int .i64 0, v1, .slice none 0 0]) (w4.heap.size + 1) 44 [.int .i64 0, v1, .slice none 0 0] := RV0.setSame [.int .i64 0, v1, .slice none 0 0]
  have ou := three_one hu1.one
  have ov := three_one hv1.one
  go_upto_region 4 with first
    | (refine wpList_storeRow 44 [.int .i64 0, u1, .slice none 0 0] rfl (.tmp 5) _ rfl w4.heap.size rfl rfl RU0 Try.size44 rfl ou ?_)
    | (refine wpList_storeRow 44 [.int .i64 0, v1, .slice none 0 0] rfl (.tmp 6) _ rfl (w4.heap.size + 1) rfl rfl RV0 Try.size44 rfl ov ?_)
  try simp only [Act.put]
  clear RU0 RV0 ou ov
  have k5 := k4.trans (hbA.mono k4.size)
  replace hx0 := hx0.below hbA
  replace hy0 := hy0.below hbA
  replace hu1 := hu1.below hbA
  replace hv1 := hv1.below hbA
  clear k4 hbA
  generalize ((((w4.alloc (.cells #[.int .i64 0, .slice none 0 0, .slice none 0 0] 44)).alloc (.cells #[.int .i64 0, .slice none 0 0, .slice none 0 0] 44)).setRow w4.heap.size #[.int .i64 0, u1, .slice none 0 0]).setRow (w4.heap.size + 1) #[.int .i64 0, v1, .slice none 0 0]) = w6 at *
  generalize w4.heap.size = B at *
  go_wp2_with first
    | (refine wpList_load_mid rfl 44 (.tmp 5) rfl B 0 rfl [.int .i64 0, u1, .slice none 0 0] _ RU.range Try.underlying44 rfl Try.size44 ?_)
    | (refine wpList_load_mid rfl 44 (.tmp 6) rfl (B + 1) 0 rfl [.int .i64 0, v1, .slice none 0 0] _ RV.range Try.underlying44 rfl Try.size44 ?_)
  refine (c_errata u1 v1 xs ys _ hu1 hv1).mono ?_
  rintro e w7 ⟨q1, rfl, hq1, hb7⟩
  have k7 := k5.trans (hb7.mono k5.size)
  replace hx0 := hx0.below hb7
  replace hy0 := hy0.below hb7
  replace hu1 := hu1.below hb7
  replace hv1 := hv1.below hb7
  replace RU := RU.below hb7 (by have := k5.size; first | exact RU.lt | omega)
  replace RV := RV.below hb7 (by have := k5.size; first | exact RV.lt | omega)
  clear k5 hb7
  go_wp2_with first
    | (refine wpList_load_mid rfl 44 (.tmp 5) rfl B 0 rfl [.int .i64 0, u1, .slice none 0 0] _ RU.range Try.underlying44 rfl Try.size44 ?_)
    | (refine wpList_load_mid rfl 44 (.tmp 6) rfl (B + 1) 0 rfl [.int .i64 0, v1, .slice none 0 0] _ RV.range Try.underlying44 rfl Try.size44 ?_)
  refine (c_rerrata u1 v1 xs ys _ hu1 hv1).mono ?_
  rintro e w8 ⟨q2, rfl, hq2, hb8⟩
  have k8 := k7.trans (hb8.mono k7.size)
  replace hx0 := hx0.below hb8
  replace hy0 := hy0.below hb8
  replace hu1 := hu1.below hb8
  replace hv1 := hv1.below hb8
  replace RU := RU.below hb8 (by have := k7.size; first | exact RU.lt | omega)
  replace RV := RV.below hb8 (by have := k7.size; first | exact RV.lt | omega)
  replace hq1 := hq1.below hb8
  clear k7 hb8
  have hll := erL_len xs ys
  generalize erL xs ys = Ld at *
  generalize erE xs ys = r1 at *
  have hrr : (r1 != r1) = false := by simp
  go_wp2_with fail
  refine (c_sameD hq1 hq2 (by omega) (by omega)).mono ?_
  rintro e w9 ⟨rfl, hb9⟩
  have k9 := k8.trans (hb9.mono k8.size)
  replace hx0 := hx0.below hb9
  replace hy0 := hy0.below hb9
  replace hu1 := hu1.below hb9
  replace hv1 := hv1.below hb9
  replace RU := RU.below hb9 (by have := k8.size; first | exact RU.lt | omega)
  replace RV := RV.below hb9 (by have := k8.size; first | exact RV.lt | omega)
  replace hq1 := hq1.below hb9
  replace hq2 := hq2.below hb9
  clear k8 hb9
  rw [show decide (Ld = Ld) = true from decide_eq_true rfl]
  clear hq1
  clear hq2
  clear hrr hll
  obtain ⟨Ax, cx, rfl⟩ := hx0.len
  obtain ⟨Ay, cy, rfl⟩ := hy0.len
  have HFX := Lib.hid hx0
  have HFY := Lib.hid hy0
  clear hx0 hy0
  rcases xs with _ | ⟨x, X1⟩
  · clear HFX HFY hu1 hv1 RU RV
    simp only [List.length_nil]
    go_wp2_with fail
    refine (awake_any _).mono ?_
    rintro e w201 ⟨rfl, hb201⟩
    have k201 := k9.trans (hb201.mono k9.size)
    clear k9 hb201
    go_wp2
    go_ret
    exact RetV.bool rfl k201
  rcases ys with _ | ⟨y, Y1⟩
  · clear HFX HFY hu1 hv1 RU RV
    simp only [List.length_nil, List.length_cons]
    have e1 : ((X1.length : Int) + 1 == 0) = false := by rw [beq_eq_false_iff_ne]; omega
    go_wp2_with fail
    refine (awake_any _).mono ?_
    rintro e w301 ⟨rfl, hb301⟩
    have k301 := k9.trans (hb301.mono k9.size)
    clear k9 hb301
    go_wp2
    go_ret
    exact RetV.bool rfl k301
  clear HFX HFY
  obtain ⟨bx, offx, c1, _, rfl, _, _, hrax, hfx, hrdx, _, _⟩ := hu1.head
  obtain ⟨by_, offy, c2, _, rfl, _, _, hray, hfy, hrdy, _, _⟩ := hv1.head
  have gu := RU.cell 1
  have gv := RV.cell 1
  simp only [List.getElem?_cons_succ, List.getElem?_cons_zero] at gu gv
  have HB := Lib.hid (fun (W : World) (hb : Below w9.heap.size w9 W) => And.intro ((hb.cell (p := ⟨B, 1, none⟩) RU.lt).trans gu) (And.intro ((hb.cell (p := ⟨B + 1, 1, none⟩) RV.lt).trans gv) (And.intro (hrax W hb) (hray W hb))))
  clear gu gv hrax hray RU RV hu1 hv1
  simp only [List.length_cons]
  have e1 : ((X1.length : Int) + 1 == 0) = false := by rw [beq_eq_false_iff_ne]; omega
  have e2 : ((Y1.length : Int) + 1 == 0) = false := by rw [beq_eq_false_iff_ne]; omega
  go_wp2_with fail
  have hS0 : (fun W : World => Below w9.heap.size w9 W) w9.drew := (Below.refl _ _).drew
  refine wp_region_held_drew (S := (fun W : World => Below w9.heap.size w9 W)) (by kernel_rfl) hS0 (fun hHeld => ?_)
  clear hHeld
  generalize w9.drew = wz at *
  refine wpAnyH_take (i := 0) (oi := ⟨some 59, _, _, _, _, _⟩) (v := ?vra1) rfl (by kernel_rfl) (by kernel_rfl) (by kernel_rfl) (fun _ _ _ h => h) (Or.inl ⟨by kernel_rfl, ?hyra1⟩) (by assumption) ?restra1
  case hyra1 => (intro W hSw; (try dsimp only at hSw); go_simp; try with_reducible rfl)
  case' restra1 => try simp only [Act.put, List.setIfInBounds_toArray, List.set_cons_zero, List.set_cons_succ]
  refine wpAnyH_take (i := 1) (oi := ⟨some 60, _, _, _, _, _⟩) (v := ?vra2) rfl (by kernel_rfl) (by kernel_rfl) (by kernel_rfl) (fun _ _ _ h => h) (Or.inl ⟨by kernel_rfl, ?hyra2⟩) (by assumption) ?restra2
  case hyra2 => (intro W hSw; have hg := (HB.out W hSw).1; (try dsimp only at hSw); go_simp; try with_reducible rfl)
  case' restra2 => try simp only [Act.put, List.setIfInBounds_toArray, List.set_cons_zero, List.set_cons_succ]
  refine wpAnyH_take (i := 2) (oi := ⟨some 61, _, _, _, _, _⟩) (v := ?vra3) rfl (by kernel_rfl) (by kernel_rfl) (by kernel_rfl) (fun _ _ _ h => h) (Or.inl ⟨by kernel_rfl, ?hyra3⟩) (by assumption) ?restra3
  case hyra3 => (intro W hSw; (try dsimp only at hSw); go_simp; try with_reducible rfl)
  case' restra3 => try simp only [Act.put, List.setIfInBounds_toArray, List.set_cons_zero, List.set_cons_succ]
  refine wpAnyH_take (i := 3) (oi := ⟨some 62, _, _, _, _, _⟩) (v := ?vra4) rfl (by kernel_rfl) (by kernel_rfl) (by kernel_rfl) (fun _ _ _ h => h) (Or.inl ⟨by kernel_rfl, ?hyra4⟩) (by assumption) ?restra4
  case hyra4 => (intro W hSw; refine Try.exec59 x (.tmp 61) ?_ bx offx ?_ (HB.out W hSw).2.2.1 <;> rfl)
  case' restra4 => try simp only [Act.put, List.setIfInBounds_toArray, List.set_cons_zero, List.set_cons_succ]
  refine wpAnyH_take (i := 4) (oi := ⟨some 63, _, _, _, _, _⟩) (v := ?vra5) rfl (by kernel_rfl) (by kernel_rfl) (by kernel_rfl) (fun _ _ _ h => h) (Or.inl ⟨by kernel_rfl, ?hyra5⟩) (by assumption) ?restra5
  case hyra5 => (intro W hSw; (try dsimp only at hSw); go_simp; try with_reducible rfl)
  case' restra5 => try simp only [Act.put, List.setIfInBounds_toArray, List.set_cons_zero, List.set_cons_succ]
  refine wpAnyH_take (i := 5) (oi := ⟨some 64, _, _, _, _, _⟩) (v := ?vra6) rfl (by kernel_rfl) (by kernel_rfl) (by kernel_rfl) (fun _ _ _ h => h) (Or.inl ⟨by kernel_rfl, ?hyra6⟩) (by assumption) ?restra6
  case hyra6 => (intro W hSw; have hg := (HB.out W hSw).2.1; (try dsimp only at hSw); go_simp; try with_reducible rfl)
  case' restra6 => try simp only [Act.put, List.setIfInBounds_toArray, List.set_cons_zero, List.set_cons_succ]
  refine wpAnyH_take (i := 6) (oi := ⟨some 65, _, _, _, _, _⟩) (v := ?vra7) rfl (by kernel_rfl) (by kernel_rfl) (by kernel_rfl) (fun _ _ _ h => h) (Or.inl ⟨by kernel_rfl, ?hyra7⟩) (by assumption) ?restra7
  case hyra7 => (intro W hSw; (try dsimp only at hSw); go_simp; try with_reducible rfl)
  case' restra7 => try simp only [Act.put, List.setIfInBounds_toArray, List.set_cons_zero, List.set_cons_succ]
  refine wpAnyH_take (i := 7) (oi := ⟨some 66, _, _, _, _, _⟩) (v := ?vra8) rfl (by kernel_rfl) (by kernel_rfl) (by kernel_rfl) (fun _ _ _ h => h) (Or.inl ⟨by kernel_rfl, ?hyra8⟩) (by assumption) ?restra8
  case hyra8 => (intro W hSw; refine Try.exec59 y (.tmp 65) ?_ by_ offy ?_ (HB.out W hSw).2.2.2 <;> rfl)
  case' restra8 => try simp only [Act.put, List.setIfInBounds_toArray, List.set_cons_zero, List.set_cons_succ]
  refine wpAnyH_ready (rs := [8]) (by kernel_rfl) (by simp) ?_
  refine AllReadyH.cons (o := ⟨some 67, _, _, _, _, _⟩) rfl (fun K hK => ?_) AllReadyH.nil
  go_simp
  go_at_call 22
  refine (proof_sheet x.s y.s x.p y.p wz hfx hfy (hrdx.below hS0) (hrdy.below hS0)).mono ?_
  rintro e Wra1 ⟨q3, rfl, hq3, hbWra1⟩
  have hSWra1 := hS0.trans (hbWra1.mono hS0.size)
  try clear hS0
  clear hbWra1
  go_wp2_with fail
  refine hK.out _ _ hSWra1 (fun hHeld => ?_)
  clear hK hHeld K
  try simp only [Act.put, List.setIfInBounds_toArray, List.set_cons_zero, List.set_cons_succ]
  refine wpAnyH_take (i := 9) (oi := ⟨some 58, _, _, _, _, _⟩) (v := ?vra9) rfl (by kernel_rfl) (by kernel_rfl) (by kernel_rfl) (fun _ _ _ h => h) (Or.inl ⟨by kernel_rfl, ?hyra9⟩) (by assumption) ?restra9
  case hyra9 => (intro W hSw; (try dsimp only at hSw); go_simp; try with_reducible rfl)
  case' restra9 => try simp only [Act.put, List.setIfInBounds_toArray, List.set_cons_zero, List.set_cons_succ]
  refine wpAnyH_take (i := 10) (oi := ⟨some 68, _, _, _, _, _⟩) (v := ?vra10) rfl (by kernel_rfl) (by kernel_rfl) (by kernel_rfl) (fun _ _ _ h => h) (Or.inl ⟨by kernel_rfl, ?hyra10⟩) (by assumption) ?restra10
  case hyra10 => (intro W hSw; (try dsimp only at hSw); go_simp; try with_reducible rfl)
  case' restra10 => try simp only [Act.put, List.setIfInBounds_toArray, List.set_cons_zero, List.set_cons_succ]
  refine wpAnyH_take (i := 11) (oi := ⟨some 69, _, _, _, _, _⟩) (v := ?vra11) rfl (by kernel_rfl) (by kernel_rfl) (by kernel_rfl) (fun _ _ _ h => h) (Or.inl ⟨by kernel_rfl, ?hyra11⟩) (by assumption) ?restra11
  case hyra11 => (intro W hSw; (try dsimp only at hSw); go_simp; try with_reducible rfl)
  case' restra11 => try simp only [Act.put, List.setIfInBounds_toArray, List.set_cons_zero, List.set_cons_succ]
  refine wpAnyH_take (i := 12) (oi := ⟨some 11, _, _, _, _, _⟩) (v := ?vra12) rfl (by kernel_rfl) (by kernel_rfl) (by kernel_rfl) (fun _ _ _ h => h) (Or.inl ⟨by kernel_rfl, ?hyra12⟩) (by assumption) ?restra12
  case hyra12 => (intro W hSw; (try dsimp only at hSw); go_simp; try with_reducible rfl)
  case' restra12 => try simp only [Act.put, List.setIfInBounds_toArray, List.set_cons_zero, List.set_cons_succ]
  refine wpAnyH_take (i := 13) (oi := ⟨some 12, _, _, _, _, _⟩) (v := ?vra13) rfl (by kernel_rfl) (by kernel_rfl) (by kernel_rfl) (fun _ _ _ h => h) (Or.inl ⟨by kernel_rfl, ?hyra13⟩) (by assumption) ?restra13
  case hyra13 => (intro W hSw; (try dsimp only at hSw); go_simp; try with_reducible rfl)
  case' restra13 => try simp only [Act.put, List.setIfInBounds_toArray, List.set_cons_zero, List.set_cons_succ]
  refine wpAnyH_done (by kernel_rfl) ?_ _
  skip
  go_wp2_with fail
  have hS1 : (fun W : World => Below w9.heap.size w9 W) Wra1.drew := Below.drew hSWra1
  replace hq3 := hq3.below (Below.refl _ _).drew
  refine wp_region_held_drew (S := (fun W : World => Below w9.heap.size w9 W)) (by kernel_rfl) hS1 (fun hHeld => ?_)
  clear hHeld
  generalize Wra1.drew = wy at *
  refine wpAnyH_take (i := 0) (oi := ⟨some 71, _, _, _, _, _⟩) (v := ?vrb1) rfl (by kernel_rfl) (by kernel_rfl) (by kernel_rfl) (fun _ _ _ h => h) (Or.inl ⟨by kernel_rfl, ?hyrb1⟩) (by assumption) ?restrb1
  case hyrb1 => (intro W hSw; (try dsimp only at hSw); go_simp; try with_reducible rfl)
  case' restrb1 => try simp only [Act.put, List.setIfInBounds_toArray, List.set_cons_zero, List.set_cons_succ]
  refine wpAnyH_take (i := 1) (oi := ⟨some 72, _, _, _, _, _⟩) (v := ?vrb2) rfl (by kernel_rfl) (by kernel_rfl) (by kernel_rfl) (fun _ _ _ h => h) (Or.inl ⟨by kernel_rfl, ?hyrb2⟩) (by assumption) ?restrb2
  case hyrb2 => (intro W hSw; have hg := (HB.out W hSw).1; (try dsimp only at hSw); go_simp; try with_reducible rfl)
  case' restrb2 => try simp only [Act.put, List.setIfInBounds_toArray, List.set_cons_zero, List.set_cons_succ]
  refine wpAnyH_take (i := 2) (oi := ⟨some 73, _, _, _, _, _⟩) (v := ?vrb3) rfl (by kernel_rfl) (by kernel_rfl) (by kernel_rfl) (fun _ _ _ h => h) (Or.inl ⟨by kernel_rfl, ?hyrb3⟩) (by assumption) ?restrb3
  case hyrb3 => (intro W hSw; (try dsimp only at hSw); go_simp; try with_reducible rfl)
  case' restrb3 => try simp only [Act.put, List.setIfInBounds_toArray, List.set_cons_zero, List.set_cons_succ]
  refine wpAnyH_take (i := 3) (oi := ⟨some 74, _, _, _, _, _⟩) (v := ?vrb4) rfl (by kernel_rfl) (by kernel_rfl) (by kernel_rfl) (fun _ _ _ h => h) (Or.inl ⟨by kernel_rfl, ?hyrb4⟩) (by assumption) ?restrb4
  case hyrb4 => (intro W hSw; refine Try.exec59 x (.tmp 73) ?_ bx offx ?_ (HB.out W hSw).2.2.1 <;> rfl)
  case' restrb4 => try simp only [Act.put, List.setIfInBounds_toArray, List.set_cons_zero, List.set_cons_succ]
  refine wpAnyH_take (i := 4) (oi := ⟨some 75, _, _, _, _, _⟩) (v := ?vrb5) rfl (by kernel_rfl) (by kernel_rfl) (by kernel_rfl) (fun _ _ _ h => h) (Or.inl ⟨by kernel_rfl, ?hyrb5⟩) (by assumption) ?restrb5
  case hyrb5 => (intro W hSw; (try dsimp only at hSw); go_simp; try with_reducible rfl)
  case' restrb5 => try simp only [Act.put, List.setIfInBounds_toArray, List.set_cons_zero, List.set_cons_succ]
  refine wpAnyH_take (i := 5) (oi := ⟨some 76, _, _, _, _, _⟩) (v := ?vrb6) rfl (by kernel_rfl) (by kernel_rfl) (by kernel_rfl) (fun _ _ _ h => h) (Or.inl ⟨by kernel_rfl, ?hyrb6⟩) (by assumption) ?restrb6
  case hyrb6 => (intro W hSw; have hg := (HB.out W hSw).2.1; (try dsimp only at hSw); go_simp; try with_reducible rfl)
  case' restrb6 => try simp only [Act.put, List.setIfInBounds_toArray, List.set_cons_zero, List.set_cons_succ]
  refine wpAnyH_take (i := 6) (oi := ⟨some 77, _, _, _, _, _⟩) (v := ?vrb7) rfl (by kernel_rfl) (by kernel_rfl) (by kernel_rfl) (fun _ _ _ h => h) (Or.inl ⟨by kernel_rfl, ?hyrb7⟩) (by assumption) ?restrb7
  case hyrb7 => (intro W hSw; (try dsimp only at hSw); go_simp; try with_reducible rfl)
  case' restrb7 => try simp only [Act.put, List.setIfInBounds_toArray, List.set_cons_zero, List.set_cons_succ]
  refine wpAnyH_take (i := 7) (oi := ⟨some 78, _, _, _, _, _⟩) (v := ?vrb8) rfl (by kernel_rfl) (by kernel_rfl) (by kernel_rfl) (fun _ _ _ h => h) (Or.inl ⟨by kernel_rfl, ?hyrb8⟩) (by assumption) ?restrb8
  case hyrb8 => (intro W hSw; refine Try.exec59 y (.tmp 77) ?_ by_ offy ?_ (HB.out W hSw).2.2.2 <;> rfl)
  case' restrb8 => try simp only [Act.put, List.setIfInBounds_toArray, List.set_cons_zero, List.set_cons_succ]
  refine wpAnyH_ready (rs := [8]) (by kernel_rfl) (by simp) ?_
  refine AllReadyH.cons (o := ⟨some 79, _, _, _, _, _⟩) rfl (fun K hK => ?_) AllReadyH.nil
  go_simp
  go_at_call 23
  refine (ref_sheet x.s y.s x.p y.p wy hfx hfy (hrdx.below hS1) (hrdy.below hS1)).mono ?_
  rintro e Wrb1 ⟨q4, rfl, hq4, hbWrb1⟩
  replace hq3 := hq3.below hbWrb1
  have hSWrb1 := hS1.trans (hbWrb1.mono hS1.size)
  try clear hS1
  clear hbWrb1
  go_wp2_with fail
  refine hK.out _ _ hSWrb1 (fun hHeld => ?_)
  clear hK hHeld K
  try simp only [Act.put, List.setIfInBounds_toArray, List.set_cons_zero, List.set_cons_succ]
  refine wpAnyH_take (i := 9) (oi := ⟨some 70, _, _, _, _, _⟩) (v := ?vrb9) rfl (by kernel_rfl) (by kernel_rfl) (by kernel_rfl) (fun _ _ _ h => h) (Or.inl ⟨by kernel_rfl, ?hyrb9⟩) (by assumption) ?restrb9
  case hyrb9 => (intro W hSw; (try dsimp only at hSw); go_simp; try with_reducible rfl)
  case' restrb9 => try simp only [Act.put, List.setIfInBounds_toArray, List.set_cons_zero, List.set_cons_succ]
  refine wpAnyH_take (i := 10) (oi := ⟨some 80, _, _, _, _, _⟩) (v := ?vrb10) rfl (by kernel_rfl) (by kernel_rfl) (by kernel_rfl) (fun _ _ _ h => h) (Or.inl ⟨by kernel_rfl, ?hyrb10⟩) (by assumption) ?restrb10
  case hyrb10 => (intro W hSw; (try dsimp only at hSw); go_simp; try with_reducible rfl)
  case' restrb10 => try simp only [Act.put, List.setIfInBounds_toArray, List.set_cons_zero, List.set_cons_succ]
  refine wpAnyH_take (i := 11) (oi := ⟨some 81, _, _, _, _, _⟩) (v := ?vrb11) rfl (by kernel_rfl) (by kernel_rfl) (by kernel_rfl) (fun _ _ _ h => h) (Or.inl ⟨by kernel_rfl, ?hyrb11⟩) (by assumption) ?restrb11
  case hyrb11 => (intro W hSw; (try dsimp only at hSw); go_simp; try with_reducible rfl)
  case' restrb11 => try simp only [Act.put, List.setIfInBounds_toArray, List.set_cons_zero, List.set_cons_succ]
  refine wpAnyH_take (i := 12) (oi := ⟨some 13, _, _, _, _, _⟩) (v := ?vrb12) rfl (by kernel_rfl) (by kernel_rfl) (by kernel_rfl) (fun _ _ _ h => h) (Or.inl ⟨by kernel_rfl, ?hyrb12⟩) (by assumption) ?restrb12
  case hyrb12 => (intro W hSw; (try dsimp only at hSw); go_simp; try with_reducible rfl)
  case' restrb12 => try simp only [Act.put, List.setIfInBounds_toArray, List.set_cons_zero, List.set_cons_succ]
  refine wpAnyH_take (i := 13) (oi := ⟨some 14, _, _, _, _, _⟩) (v := ?vrb13) rfl (by kernel_rfl) (by kernel_rfl) (by kernel_rfl) (fun _ _ _ h => h) (Or.inl ⟨by kernel_rfl, ?hyrb13⟩) (by assumption) ?restrb13
  case hyrb13 => (intro W hSw; (try dsimp only at hSw); go_simp; try with_reducible rfl)
  case' restrb13 => try simp only [Act.put, List.setIfInBounds_toArray, List.set_cons_zero, List.set_cons_succ]
  refine wpAnyH_done (by kernel_rfl) ?_ _
  skip
  have kz := k9.trans (hSWrb1.mono k9.size)
  have hsl : (shL x.s y.s x.p y.p).length ≤ 65536 := stD_len (.two x y)
  generalize shL x.s y.s x.p y.p = Lz at *
  generalize shE x.s y.s x.p y.p = rz at *
  clear k9 hSWrb1 HB
  go_wp2_with fail
  refine (awake_any _).mono ?_
  rintro e w10 ⟨rfl, hb10⟩
  have k10 := kz.trans (hb10.mono kz.size)
  replace hq3 := hq3.below hb10
  replace hq4 := hq4.below hb10
  clear kz hb10
  go_wp2_with fail
  refine (c_sameD hq3 hq4 (by omega) (by omega)).mono ?_
  rintro e w11 ⟨rfl, hb11⟩
  have k11 := k10.trans (hb11.mono k10.size)
  replace hq3 := hq3.below hb11
  replace hq4 := hq4.below hb11
  clear k10 hb11
  rw [show decide (Lz = Lz) = true from decide_eq_true rfl]
  go_wp2
  go_ret
  exact RetV.bool (by simp) k11
end Go.Proofs
