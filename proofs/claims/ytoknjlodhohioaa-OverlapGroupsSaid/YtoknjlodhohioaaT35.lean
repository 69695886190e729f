import Derived.Test.YtoknjlodhohioaaT34
set_option linter.unusedVariables false
set_option linter.unusedSimpArgs false
namespace Go.Proofs
open Go.RowKit Go.Proofs.Mp Go.Proofs.Uf

theorem encB_one (x : Cand) : ∀ u ∈ encB x, u.oneCell' = true := by
  intro u hu
  simp only [encB, List.mem_cons, List.not_mem_nil, or_false] at hu
  rcases hu with rfl | rfl | rfl | rfl <;> rfl
theorem Try.infoB : (Try.prog.info? 23).map (fun i => (i.zero, i.size, i.bytes)) = some (some (.agg #[.int .i64 0, .int .i64 0, .int .i64 0, .int .i64 0]), 4, 32) := by kernel_rfl
theorem Try.appAllB {w : World} {base : Nat} {v : Value} {xs ys : List Cand} {ops : Array Oper} {rest : List Oper} {o : Oper} {a : Act} {Q : Exit → Act → World → Prop}
    (hown : Own 23 4 encB w base v xs) {A : Option Addr} {c : Nat} (hR : Rd 4 encB w A ys) (hgd : o.guard = none) (s x : Operand)
    (ho : o.op = .call { callee := .builtin .append, args := #[s, x], argTypes := #[42, 42] }) (hs : a.eval s = v) (hx : a.eval x = .slice A ys.length c)
    (hN : xs.length + ys.length ≤ 1000000000) (hbase : base ≤ w.heap.size)
    (h : ∀ v' w', Own 23 4 encB w' base v' (xs ++ ys) → Below base w w' → wpList Try.prog ops Q rest (a.put o.dst v') w') :
    wpList Try.prog ops Q (o :: rest) a w := by
  obtain ⟨i0, hi, hz0, hz1, hz2⟩ := Mp.info_parts Try.infoB
  exact wpList_plain hgd fun _ hK => Own.wpAll 42 i0 (.agg #[.int .i64 0, .int .i64 0, .int .i64 0, .int .i64 0]) 32 Try.underlying42 hi hz0 hz1 hz2 rfl (by decide) (by decide) encB_len encB_one s x ho hown hs hR hx (by omega) hbase fun v' w' h2 h3 => hK _ _ (h v' w' h2 h3)
theorem SlB.of_own {w : World} {base : Nat} {v : Value} {xs : List Cand} (h : Own 23 4 encB w base v xs) : SlB w v xs := by
  obtain ⟨A, c, rfl⟩ := Own.slice h
  exact ⟨A, c, rfl, Own.rd encB_len h⟩
theorem SlB.none (w : World) : SlB w (.slice .none 0 0) [] := ⟨_, _, rfl, Rd.nil _⟩
theorem free_two (l a b : List Cand) : freeS (freeS l a) b = freeS l (a ++ b) := by
  unfold freeS
  rw [List.filter_filter]
  refine List.filter_congr fun x _ => ?_
  unfold freeB
  rw [List.any_append, Bool.not_or, Bool.and_comm]
theorem free_none (l : List Cand) : freeS l [] = l := by unfold freeS freeB; simp
theorem free_len (l bs : List Cand) : (freeS l bs).length ≤ l.length := List.length_filter_le _ _

set_option maxHeartbeats 4000000 in
theorem law_steps (v u t : Value) (l aa bs : List Cand) (w : World) (hl : SlC w v l) (ha : SlB w u aa) (hb : SlB w t bs) (hm : l.length ≤ 9223372036854775807) (hn : aa.length ≤ 9223372036854775807) (ho : bs.length ≤ 9223372036854775807) :
    Calls Try.prog 8 #[v, u, t] w (RetV w (.bool true)) := by
  have hl0 := hl
  obtain ⟨A, c, rfl, hc, hR⟩ := hl0
  have ha0 := ha
  obtain ⟨B, d, rfl, hRa⟩ := ha0
  have hb0 := hb
  obtain ⟨C, e, rfl, hRb⟩ := hb0
  have k0 : Below w.heap.size w w := Below.refl _ _
  by_cases q0 : l.length ≤ 300
  · by_cases q1 : aa.length ≤ 300
    · by_cases q2 : bs.length ≤ 300
      · go_enter Try.func8, Try.ntmps8
        have hO : Own 23 4 encB w w.heap.size (.slice none 0 0) [] := Own.nil w _
        go_wp2_with (at_builtin; first
          | (refine Try.appAllB hO hRa rfl _ _ rfl rfl rfl (by simp; omega) (Nat.le_refl _) ?_; clear hO; intro v2 w2 hown2 hb2)
          | (refine Try.appAllB hown2 (hRb.below hb2) rfl _ _ rfl rfl rfl (by simp; omega) hb2.size ?_; clear hown2; intro v3 w3 hown3 hb3))
        rw [List.nil_append] at hown3
        have k3 := hb2.trans hb3
        replace hl := hl.below k3
        replace ha := ha.below k3
        replace hb := hb.below k3
        have h3 : SlB w3 v3 (aa ++ bs) := SlB.of_own hown3
        have HN : Hid ((aa ++ bs).length ≤ 1000000) := Lib.hid (by rw [List.length_append]; omega)
        have HA := Lib.hid (free_len l aa)
        have HS := Lib.hid (free_len l (aa ++ bs))
        have HT := Lib.hid (free_two l aa bs)
        have HO := Lib.hid (free_none l)
        have hz : SlB w3 (.slice none 0 0) [] := SlB.none w3
        clear hown3 hb2 hb3 k0 hRa hRb hR
        go_wp2_with fail
        refine (k_free hl h3 (by omega) HN.out  ).mono ?_
        rintro e w4 ⟨v4, rfl, h5, hb4⟩
        have k4 := k3.trans (hb4.mono k3.size)
        replace hl := hl.below hb4
        replace ha := ha.below hb4
        replace hb := hb.below hb4
        replace h3 := h3.below hb4
        replace hz := hz.below hb4
        clear k3 hb4
        go_wp2_with fail
        refine (k_free hl ha (by omega) (by omega)  ).mono ?_
        rintro e w5 ⟨v5, rfl, h6, hb5⟩
        have k5 := k4.trans (hb5.mono k4.size)
        replace hl := hl.below hb5
        replace ha := ha.below hb5
        replace hb := hb.below hb5
        replace h3 := h3.below hb5
        replace hz := hz.below hb5
        replace h5 := h5.below hb5
        clear k4 hb5
        go_wp2_with fail
        refine (k_free h6 hb (by have := HA.out; omega) (by omega)  ).mono ?_
        rintro e w6 ⟨v6, rfl, h7, hb6⟩
        have k6 := k5.trans (hb6.mono k5.size)
        replace hl := hl.below hb6
        replace ha := ha.below hb6
        replace hb := hb.below hb6
        replace h3 := h3.below hb6
        replace hz := hz.below hb6
        replace h5 := h5.below hb6
        replace h6 := h6.below hb6
        clear k5 hb6
        rw [HT.out] at h7
        go_wp2_with fail
        refine (k_samec (b := true) h5 h7 (by have := HS.out; omega) (by have := HS.out; omega) (by simp)  ).mono ?_
        rintro e w7 ⟨rfl, hb7⟩
        have k7 := k6.trans (hb7.mono k6.size)
        replace hl := hl.below hb7
        replace ha := ha.below hb7
        replace hb := hb.below hb7
        replace h3 := h3.below hb7
        replace hz := hz.below hb7
        replace h5 := h5.below hb7
        replace h6 := h6.below hb7
        replace h7 := h7.below hb7
        clear k6 hb7
        clear h5
        clear h6
        clear h7
        go_wp2_with fail
        refine (k_free hl hz (by omega) (by simp)  ).mono ?_
        rintro e w8 ⟨v8, rfl, h8, hb8⟩
        have k8 := k7.trans (hb8.mono k7.size)
        replace hl := hl.below hb8
        replace ha := ha.below hb8
        replace hb := hb.below hb8
        replace h3 := h3.below hb8
        replace hz := hz.below hb8
        clear k7 hb8
        rw [HO.out] at h8
        go_wp2_with fail
        refine (k_samec (b := true) h8 hl (by omega) (by omega) (by simp)  ).mono ?_
        rintro e w9 ⟨rfl, hb9⟩
        have k9 := k8.trans (hb9.mono k8.size)
        replace hl := hl.below hb9
        replace ha := ha.below hb9
        replace hb := hb.below hb9
        replace h3 := h3.below hb9
        replace hz := hz.below hb9
        replace h8 := h8.below hb9
        clear k8 hb9
        clear h8
        go_wp2_with fail
        refine (law_awake w9  ).mono ?_
        rintro e w10 ⟨rfl, hb10⟩
        have k10 := k9.trans (hb10.mono k9.size)
        replace hl := hl.below hb10
        replace ha := ha.below hb10
        replace hb := hb.below hb10
        replace h3 := h3.below hb10
        replace hz := hz.below hb10
        clear k9 hb10
        go_wp2
        go_ret
        exact RetV.bool rfl k10
      · go_enter Try.func8, Try.ntmps8
        go_wp2_with fail
        refine (law_awake w  ).mono ?_
        rintro e w1 ⟨rfl, hb1⟩
        have k1 := k0.trans (hb1.mono k0.size)
        clear k0 hb1
        go_wp2
        go_ret
        exact RetV.bool rfl k1
    · go_enter Try.func8, Try.ntmps8
      go_wp2_with fail
      refine (law_awake w  ).mono ?_
      rintro e w1 ⟨rfl, hb1⟩
      have k1 := k0.trans (hb1.mono k0.size)
      clear k0 hb1
      go_wp2
      go_ret
      exact RetV.bool rfl k1
  · go_enter Try.func8, Try.ntmps8
    go_wp2_with fail
    refine (law_awake w  ).mono ?_
    rintro e w1 ⟨rfl, hb1⟩
    have k1 := k0.trans (hb1.mono k0.size)
    clear k0 hb1
    go_wp2
    go_ret
    exact RetV.bool rfl k1

end Go.Proofs
