import Derived.Test.YtoknjlodhohioaaT33
set_option linter.unusedVariables false
set_option linter.unusedSimpArgs false
namespace Go.Proofs
open Go.RowKit Go.Proofs.Mp Go.Proofs.Uf

theorem rev_get {l : List Cand} {i : Nat} (h : i < l.length) : l.reverse[i]! = l[l.length - 1 - i]! := by
  rw [getElem!_pos l.reverse i (by simpa using h), getElem!_pos l (l.length - 1 - i) (by omega), List.getElem_reverse]
theorem ed_rev1 {l : List Cand} {x y : Int} (h : Ed l.reverse x y) : Ed l x y := by
  obtain ⟨i, j, hi, hj, hh, rfl, rfl⟩ := h
  rw [List.length_reverse] at hi hj
  rw [rev_get hi, rev_get hj] at hh ⊢
  exact ⟨l.length - 1 - i, l.length - 1 - j, by omega, by omega, hh, rfl, rfl⟩
theorem ed_rev (l : List Cand) : Ed l.reverse = Ed l := by
  funext x y
  refine propext ⟨ed_rev1, fun h => ed_rev1 (l := l.reverse) (by rwa [List.reverse_reverse])⟩
theorem feats_rev (l : List Cand) : setL (feats l.reverse) = setL (feats l) := by
  rw [setL_eq_iff]
  intro x
  unfold feats
  simp
theorem wfs_rev {l : List Cand} (h : wfs (feats l)) : wfs (feats l.reverse) := fun x hx => h x (by unfold feats at *; simpa using hx)
theorem cl_len (l : List Cand) : (clS (Ed l) (setL (feats l))).length ≤ l.length := by
  unfold clS
  rw [List.length_map]
  have := List.length_filter_le (fun x => dec (∀ y ∈ setL (feats l), Conn (Ed l) x y → x ≤ y)) (setL (feats l))
  have := setL_len (feats l)
  rw [feats_len] at this
  omega
theorem cl_each (l : List Cand) : ∀ g ∈ clS (Ed l) (setL (feats l)), g.length ≤ l.length := by
  intro g hg
  unfold clS at hg
  obtain ⟨r, _, rfl⟩ := List.mem_map.1 hg
  have := List.length_filter_le (fun x => dec (Conn (Ed l) r x)) (setL (feats l))
  have := setL_len (feats l)
  rw [feats_len] at this
  omega
theorem drop_rev {l : List Cand} {k : Nat} (h : k < l.length) : (l.drop k).reverse = (l.drop (k + 1)).reverse ++ [l[k]!] := by
  rw [List.drop_eq_getElem_cons h, List.reverse_cons, getElem!_pos l k h]

set_option maxHeartbeats 4000000 in
theorem law_clusters (v : Value) (l : List Cand) (w : World) (hl : SlC w v l) (hm : l.length ≤ 9223372036854775807) (hwf : wfs (feats l)) :
    Calls Try.prog 5 #[v] w (RetV w (.bool true)) := by
  have hl0 := hl
  obtain ⟨A, c, rfl, hc, hR⟩ := hl0
  obtain ⟨i0, hi, hz0, hz1, hz2⟩ := Mp.info_parts Try.infoC
  have k0 : Below w.heap.size w w := Below.refl _ _
  by_cases q0 : l.length ≤ 40
  · go_enter Try.func5, Try.ntmps5
    go_wp2_with fail
    go_loopw [3, 4] (fun m i wr => ∃ k : Nat, k ≤ l.length ∧ i = .int .i64 ((k : Int) - 1) ∧ OwnA 27 8 encC wr w.heap.size (fun _ => False) m (l.drop k).reverse ∧ Below w.heap.size w wr) (fun _ i _ => (intOf i + 1).toNat)
    case atStart => exact ⟨l.length, by omega, by go_num, by rw [List.drop_length]; exact OwnA.nil w _ _, Below.refl _ _⟩
    case round =>
      obtain ⟨k, hk, rfl, hown, hbw⟩ := hrel
      rcases k with _ | j
      · have e0 : (((0 : Nat) : Int) - 1) = -1 := by omega
        rw [e0]
        clear e0
        rw [List.drop_zero] at hown
        have hl1 : SlC wr (.slice A l.length c) l := hl.below hbw
        have hm1 : SlC wr u3 l.reverse := slC_of hown.1
        have HC := Lib.hid (cl_len l)
        have HE := Lib.hid (cl_each l)
        have HW := Lib.hid hwf
        have HR := Lib.hid (wfs_rev hwf)
        have HL : Hid (l.reverse.length ≤ 1000) := Lib.hid (by rw [List.length_reverse]; omega)
        clear hwf hown hi hz0 hz1 hz2
        go_wp2_with fail
        refine (k_rclusters hl1 (by omega)  ).mono ?_
        rintro e w1 ⟨v1, rfl, h1, hb1⟩
        have k1 := hbw.trans (hb1.mono hbw.size)
        replace hl1 := hl1.below hb1
        replace hm1 := hm1.below hb1
        clear hbw hb1
        go_wp2_with fail
        refine (k_clusters hl1 (by omega) HW.out  ).mono ?_
        rintro e w2 ⟨v2, rfl, h2, hb2⟩
        have k2 := k1.trans (hb2.mono k1.size)
        replace hl1 := hl1.below hb2
        replace hm1 := hm1.below hb2
        replace h1 := h1.below hb2
        clear k1 hb2
        go_wp2_with fail
        refine (k_sameg (b := true) h2 h1 (by have := HC.out; omega) (by have := HC.out; omega) (fun q hq => by have := HE.out q hq; omega) (fun q hq => by have := HE.out q hq; omega) (by simp)  ).mono ?_
        rintro e w3 ⟨rfl, hb3⟩
        have k3 := k2.trans (hb3.mono k2.size)
        replace hl1 := hl1.below hb3
        replace hm1 := hm1.below hb3
        replace h1 := h1.below hb3
        replace h2 := h2.below hb3
        clear k2 hb3
        clear h2
        go_wp2_with fail
        refine (k_clusters hm1 HL.out HR.out  ).mono ?_
        rintro e w4 ⟨v4, rfl, h3, hb4⟩
        have k4 := k3.trans (hb4.mono k3.size)
        replace hl1 := hl1.below hb4
        replace hm1 := hm1.below hb4
        replace h1 := h1.below hb4
        clear k3 hb4
        rw [ed_rev, feats_rev] at h3
        go_wp2_with fail
        refine (k_sameg (b := true) h3 h1 (by have := HC.out; omega) (by have := HC.out; omega) (fun q hq => by have := HE.out q hq; omega) (fun q hq => by have := HE.out q hq; omega) (by simp)  ).mono ?_
        rintro e w5 ⟨rfl, hb5⟩
        have k5 := k4.trans (hb5.mono k4.size)
        replace hl1 := hl1.below hb5
        replace hm1 := hm1.below hb5
        replace h1 := h1.below hb5
        replace h3 := h3.below hb5
        clear k4 hb5
        clear h1
        clear h3
        go_wp2_with fail
        refine (law_awake w5  ).mono ?_
        rintro e w6 ⟨rfl, hb6⟩
        have k6 := k5.trans (hb6.mono k5.size)
        replace hl1 := hl1.below hb6
        replace hm1 := hm1.below hb6
        clear k5 hb6
        go_wp2
        go_ret
        exact RetV.bool rfl k6
      · have e1 : (((j + 1 : Nat) : Int) - 1) = (j : Int) := by omega
        rw [e1]
        clear e1
        have hlt : j < l.length := by omega
        have HD := Lib.hid (drop_rev hlt)
        obtain ⟨b, off, rfl, hb, c0, c1, c2, c3, c4, c5, c6, c7⟩ := RdC.get hR hbw hlt
        obtain ⟨x, hx⟩ : ∃ x, l[j]! = x := ⟨_, rfl⟩
        rw [hx] at c0 c1 c2 c3 c4 c5 c6 c7
        have HX := Lib.hid hx
        clear hx
        have hbs := hbw.size
        have hln : (l.drop (j + 1)).reverse.length ≤ 40 := by simp; omega
        have hownb := fun j hj => (hown.lt (j := j) hj).1
        go_wp2_with (at_builtin; refine Mp.OwnA.append1 (enc := encC) 30 i0 (.agg #[.int .i64 0, .int .i64 0, .int .i64 0, .int .i64 0, .int .i64 0, .int .i64 0, .int .i64 0, .int .i64 0]) 64 Try.underlying30 hi hz0 hz1 hz2 rfl (by decide) (by decide) encC_len x (encC_one _) rfl _ _ rfl hown (fun j hj => hj.elim) rfl rfl (by omega) hbs ?_; clear hown; intro v2 w2 hown2 hg2 hloc2)
        go_roundw
        case rel => exact ⟨j, by omega, by go_num, by rw [HD.out, HX.out]; exact hown2, hbw.grown hg2 hbs hownb⟩
        case measure => simp [intOf]
  · go_enter Try.func5, Try.ntmps5
    go_wp2_with fail
    refine (law_awake w  ).mono ?_
    rintro e w1 ⟨rfl, hb1⟩
    have k1 := k0.trans (hb1.mono k0.size)
    clear k0 hb1
    go_wp2
    go_ret
    exact RetV.bool rfl k1

end Go.Proofs
