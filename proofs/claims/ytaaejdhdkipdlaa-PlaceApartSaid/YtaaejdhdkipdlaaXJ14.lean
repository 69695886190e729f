/- The laws on Exact. -/
import Derived.Test.YtaaejdhdkipdlaaXJ13
set_option linter.unusedVariables false
set_option linter.unusedSimpArgs false
namespace Go.Proofs
open Go.RowKit Go.Proofs.Mp Go.Proofs.Uf Go.Maps

set_option maxRecDepth 100000 in
set_option maxHeartbeats 4000000 in
theorem law_exact (u v : Value) (l : List Cand) (order : List Int) (steps : Int) (w : World) (hl : SlC w u l) (ho : SlI w v order) (hwf : wfs (feats l)) (hwo : wfs order) :
    Calls Try.prog 5 #[u, v, .int .i64 steps] w (RetV w (.bool true)) := by
  have k0 : Below w.heap.size w w := Below.refl _ _
  have hn := SlI.nil0 w
  rcases hq : (decide (l.length ≤ 20) && decide (order.length ≤ 20) && decide (([] : List Int).length ≤ 20) && decide (([] : List Int).length ≤ 20)) with _ | _
  · have hq0 := hq
    clear hq0
    go_enter Try.func5, Try.ntmps5
    go_wp2_with fail
    refine (k_light (r := false) hl ho hn hn hq).mono ?_
    rintro e w1 ⟨rfl, hb1⟩
    have k1 := k0.trans (hb1.mono k0.size)
    replace hl := hl.below hb1
    replace ho := ho.below hb1
    replace hn := hn.below hb1
    clear k0 hb1
    go_wp2_with fail
    refine (law_awake w1).mono ?_
    rintro e w2 ⟨rfl, hb2⟩
    have k2 := k1.trans (hb2.mono k1.size)
    replace hl := hl.below hb2
    replace ho := ho.below hb2
    replace hn := hn.below hb2
    clear k1 hb2
    go_wp2
    go_ret
    exact RetV.bool rfl k2
  · have hq1 := hq
    simp only [Bool.and_eq_true, decide_eq_true_iff] at hq1
    obtain ⟨⟨⟨q1, q2⟩, q3⟩, q4⟩ := hq1
    go_enter Try.func5, Try.ntmps5
    go_wp2_with fail
    refine (k_light (r := true) hl ho hn hn hq).mono ?_
    rintro e w1 ⟨rfl, hb1⟩
    have k1 := k0.trans (hb1.mono k0.size)
    replace hl := hl.below hb1
    replace ho := ho.below hb1
    replace hn := hn.below hb1
    clear k0 hb1
    clear hq
    by_cases hs : steps ≤ 3000
    · have ds : decide ((3000 : Int) < steps) = false := decide_eq_false (by omega)
      have is : ¬ (3000 : Int) < steps := by omega
      rcases hx : exactL l order steps with _ | b
      · go_wp2_with fail
        refine (k_exact hl ho (by omega) (by omega) hwf hwo hx).mono ?_
        rintro e w2 ⟨v2, rfl, ha, hb2⟩
        rw [show errN none = 24 from rfl]
        have k2 := k1.trans (hb2.mono k1.size)
        replace hl := hl.below hb2
        replace ho := ho.below hb2
        replace hn := hn.below hb2
        clear k1 hb2
        replace ha : SlI _ _ [] := ha
        go_wp2_with fail
        refine (k_rexact hl ho (by omega) (by omega) hx).mono ?_
        rintro e w3 ⟨v3, rfl, hc, hb3⟩
        rw [show errN none = 24 from rfl]
        have k3 := k2.trans (hb3.mono k2.size)
        replace hl := hl.below hb3
        replace ho := ho.below hb3
        replace hn := hn.below hb3
        replace ha := ha.below hb3
        clear k2 hb3
        replace hc : SlI _ _ [] := hc
        clear hx
        go_wp2_with fail
        refine (law_awake w3).mono ?_
        rintro e w4 ⟨rfl, hb4⟩
        have k4 := k3.trans (hb4.mono k3.size)
        replace hl := hl.below hb4
        replace ho := ho.below hb4
        replace hn := hn.below hb4
        replace ha := ha.below hb4
        replace hc := hc.below hb4
        clear k3 hb4
        go_wp2_with fail
        refine (k_same (b := true) ha hc (by first | simp | omega) (by first | simp | omega) (by simp)).mono ?_
        rintro e w5 ⟨rfl, hb5⟩
        have k5 := k4.trans (hb5.mono k4.size)
        replace hl := hl.below hb5
        replace ho := ho.below hb5
        replace hn := hn.below hb5
        replace ha := ha.below hb5
        replace hc := hc.below hb5
        clear k4 hb5
        go_wp2
        go_ret
        exact RetV.bool rfl k5
      · have hbl := (exactL_some hx).2.2
        go_wp2_with fail
        refine (k_exact hl ho (by omega) (by omega) hwf hwo hx).mono ?_
        rintro e w2 ⟨v2, rfl, ha, hb2⟩
        rw [show errN (some b) = 0 from rfl]
        have k2 := k1.trans (hb2.mono k1.size)
        replace hl := hl.below hb2
        replace ho := ho.below hb2
        replace hn := hn.below hb2
        clear k1 hb2
        replace ha : SlI _ _ b := ha
        go_wp2_with fail
        refine (k_rexact hl ho (by omega) (by omega) hx).mono ?_
        rintro e w3 ⟨v3, rfl, hc, hb3⟩
        rw [show errN (some b) = 0 from rfl]
        have k3 := k2.trans (hb3.mono k2.size)
        replace hl := hl.below hb3
        replace ho := ho.below hb3
        replace hn := hn.below hb3
        replace ha := ha.below hb3
        clear k2 hb3
        replace hc : SlI _ _ b := hc
        clear hx
        go_wp2_with fail
        refine (law_awake w3).mono ?_
        rintro e w4 ⟨rfl, hb4⟩
        have k4 := k3.trans (hb4.mono k3.size)
        replace hl := hl.below hb4
        replace ho := ho.below hb4
        replace hn := hn.below hb4
        replace ha := ha.below hb4
        replace hc := hc.below hb4
        clear k3 hb4
        go_wp2_with fail
        refine (k_same (b := true) ha hc (by first | simp | omega) (by first | simp | omega) (by simp)).mono ?_
        rintro e w5 ⟨rfl, hb5⟩
        have k5 := k4.trans (hb5.mono k4.size)
        replace hl := hl.below hb5
        replace ho := ho.below hb5
        replace hn := hn.below hb5
        replace ha := ha.below hb5
        replace hc := hc.below hb5
        clear k4 hb5
        go_wp2
        go_ret
        exact RetV.bool rfl k5
    · have ds : decide ((3000 : Int) < steps) = true := decide_eq_true (by omega)
      have is : (3000 : Int) < steps := by omega
      go_wp2_with fail
      refine (law_awake w1).mono ?_
      rintro e w2 ⟨rfl, hb2⟩
      have k2 := k1.trans (hb2.mono k1.size)
      replace hl := hl.below hb2
      replace ho := ho.below hb2
      replace hn := hn.below hb2
      clear k1 hb2
      go_wp2
      go_ret
      exact RetV.bool rfl k2
set_option maxRecDepth 100000 in
set_option maxHeartbeats 4000000 in
theorem law_best (u v x : Value) (l : List Cand) (order other : List Int) (steps : Int) (w : World) (hl : SlC w u l) (ho : SlI w v order) (hp : SlI w x other) (hwf : wfs (feats l)) (hwo : wfs order) :
    Calls Try.prog 7 #[u, v, x, .int .i64 steps] w (RetV w (.bool true)) := by
  have k0 : Below w.heap.size w w := Below.refl _ _
  have hn := SlI.nil0 w
  rcases hq : (decide (l.length ≤ 20) && decide (order.length ≤ 20) && decide (other.length ≤ 20) && decide (([] : List Int).length ≤ 20)) with _ | _
  · have hq0 := hq
    clear hq0
    go_enter Try.func7, Try.ntmps7
    go_wp2_with fail
    refine (k_light (r := false) hl ho hp hn hq).mono ?_
    rintro e w1 ⟨rfl, hb1⟩
    have k1 := k0.trans (hb1.mono k0.size)
    replace hl := hl.below hb1
    replace ho := ho.below hb1
    replace hp := hp.below hb1
    replace hn := hn.below hb1
    clear k0 hb1
    go_wp2_with fail
    refine (law_awake w1).mono ?_
    rintro e w2 ⟨rfl, hb2⟩
    have k2 := k1.trans (hb2.mono k1.size)
    replace hl := hl.below hb2
    replace ho := ho.below hb2
    replace hp := hp.below hb2
    replace hn := hn.below hb2
    clear k1 hb2
    go_wp2
    go_ret
    exact RetV.bool rfl k2
  · have hq1 := hq
    simp only [Bool.and_eq_true, decide_eq_true_iff] at hq1
    obtain ⟨⟨⟨q1, q2⟩, q3⟩, q4⟩ := hq1
    go_enter Try.func7, Try.ntmps7
    go_wp2_with fail
    refine (k_light (r := true) hl ho hp hn hq).mono ?_
    rintro e w1 ⟨rfl, hb1⟩
    have k1 := k0.trans (hb1.mono k0.size)
    replace hl := hl.below hb1
    replace ho := ho.below hb1
    replace hp := hp.below hb1
    replace hn := hn.below hb1
    clear k0 hb1
    clear hq
    by_cases hs : steps ≤ 3000
    · have ds : decide ((3000 : Int) < steps) = false := decide_eq_false (by omega)
      have is : ¬ (3000 : Int) < steps := by omega
      rcases hx : exactL l order steps with _ | b
      · go_wp2_with fail
        refine (k_exact hl ho (by omega) (by omega) hwf hwo hx).mono ?_
        rintro e w2 ⟨v2, rfl, hv, hb2⟩
        rw [show errN none = 24 from rfl]
        have k2 := k1.trans (hb2.mono k1.size)
        replace hl := hl.below hb2
        replace ho := ho.below hb2
        replace hp := hp.below hb2
        replace hn := hn.below hb2
        clear k1 hb2
        replace hv : SlI _ _ [] := hv
        clear hx
        obtain ⟨A9, c9, rfl, _⟩ := hv
        simp only [List.length_nil]
        go_wp2_with fail
        refine (law_awake w2).mono ?_
        rintro e w3 ⟨rfl, hb3⟩
        have k3 := k2.trans (hb3.mono k2.size)
        replace hl := hl.below hb3
        replace ho := ho.below hb3
        replace hp := hp.below hb3
        replace hn := hn.below hb3
        clear k2 hb3
        go_wp2
        go_ret
        exact RetV.bool rfl k3
      · obtain ⟨x1, x2, hbl⟩ := exactL_some hx
        have HX2 := Lib.hid (x2 (greedyL l order) (greedyL_valid l order))
        have HX3 := Lib.hid (x2 other)
        have HX1 := Lib.hid x1
        clear x1 x2
        go_wp2_with fail
        refine (k_exact hl ho (by omega) (by omega) hwf hwo hx).mono ?_
        rintro e w2 ⟨v2, rfl, hv, hb2⟩
        rw [show errN (some b) = 0 from rfl]
        have k2 := k1.trans (hb2.mono k1.size)
        replace hl := hl.below hb2
        replace ho := ho.below hb2
        replace hp := hp.below hb2
        replace hn := hn.below hb2
        clear k1 hb2
        replace hv : SlI _ _ b := hv
        clear hx
        go_wp2_with fail
        refine (k_val hl hv (by omega) (by omega) HX1.out).mono ?_
        rintro e w3 ⟨rfl, hb3⟩
        have k3 := k2.trans (hb3.mono k2.size)
        replace hl := hl.below hb3
        replace ho := ho.below hb3
        replace hp := hp.below hb3
        replace hn := hn.below hb3
        replace hv := hv.below hb3
        clear k2 hb3
        have hgl := greedyL_len l order
        obtain ⟨gr, hgr⟩ : ∃ gr, greedyL l order = gr := ⟨_, rfl⟩
        rw [hgr] at HX2 hgl
        go_wp2_with fail
        refine (k_greedy hl ho (by omega) (by omega) hwf hwo hgr).mono ?_
        rintro e w4 ⟨v4, rfl, hg, hb4⟩
        have k4 := k3.trans (hb4.mono k3.size)
        replace hl := hl.below hb4
        replace ho := ho.below hb4
        replace hp := hp.below hb4
        replace hn := hn.below hb4
        replace hv := hv.below hb4
        clear k3 hb4
        clear hgr
        go_wp2_with fail
        refine (k_better hl ho hg hv (by omega) (by omega) (by omega) (by omega) hwf hwo HX2.out).mono ?_
        rintro e w5 ⟨rfl, hb5⟩
        have k5 := k4.trans (hb5.mono k4.size)
        replace hl := hl.below hb5
        replace ho := ho.below hb5
        replace hp := hp.below hb5
        replace hn := hn.below hb5
        replace hv := hv.below hb5
        replace hg := hg.below hb5
        clear k4 hb5
        clear hg
        go_wp2_with fail
        refine (law_awake w5).mono ?_
        rintro e w6 ⟨rfl, hb6⟩
        have k6 := k5.trans (hb6.mono k5.size)
        replace hl := hl.below hb6
        replace ho := ho.below hb6
        replace hp := hp.below hb6
        replace hn := hn.below hb6
        replace hv := hv.below hb6
        clear k5 hb6
        rcases hvo : validB l other with _ | _
        · go_wp2_with fail
          refine (k_val hl hp (by omega) (by omega) hvo).mono ?_
          rintro e w7 ⟨rfl, hb7⟩
          have k7 := k6.trans (hb7.mono k6.size)
          replace hl := hl.below hb7
          replace ho := ho.below hb7
          replace hp := hp.below hb7
          replace hn := hn.below hb7
          replace hv := hv.below hb7
          clear k6 hb7
          clear hvo
          go_wp2
          go_ret
          exact RetV.bool rfl k7
        · go_wp2_with fail
          refine (k_val hl hp (by omega) (by omega) hvo).mono ?_
          rintro e w7 ⟨rfl, hb7⟩
          have k7 := k6.trans (hb7.mono k6.size)
          replace hl := hl.below hb7
          replace ho := ho.below hb7
          replace hp := hp.below hb7
          replace hn := hn.below hb7
          replace hv := hv.below hb7
          clear k6 hb7
          have HX4 := Lib.hid (HX3.out hvo)
          clear hvo
          go_wp2_with fail
          refine (k_better hl ho hp hv (by omega) (by omega) (by omega) (by omega) hwf hwo HX4.out).mono ?_
          rintro e w8 ⟨rfl, hb8⟩
          have k8 := k7.trans (hb8.mono k7.size)
          replace hl := hl.below hb8
          replace ho := ho.below hb8
          replace hp := hp.below hb8
          replace hn := hn.below hb8
          replace hv := hv.below hb8
          clear k7 hb8
          go_wp2
          go_ret
          exact RetV.bool rfl k8
    · have ds : decide ((3000 : Int) < steps) = true := decide_eq_true (by omega)
      have is : (3000 : Int) < steps := by omega
      go_wp2_with fail
      refine (law_awake w1).mono ?_
      rintro e w2 ⟨rfl, hb2⟩
      have k2 := k1.trans (hb2.mono k1.size)
      replace hl := hl.below hb2
      replace ho := ho.below hb2
      replace hp := hp.below hb2
      replace hn := hn.below hb2
      clear k1 hb2
      go_wp2
      go_ret
      exact RetV.bool rfl k2
set_option maxRecDepth 100000 in
set_option maxHeartbeats 4000000 in
theorem law_steps (u v x y : Value) (l : List Cand) (order a b : List Int) (st : Int) (w : World) (hl : SlC w u l) (ho : SlI w v order) (ha : SlI w x a) (hb : SlI w y b) (hwf : wfs (feats l)) (hwo : wfs order) (hst : (Lit.int .u16 st).wf = true) :
    Calls Try.prog 9 #[u, v, x, y, .int .u16 st] w (RetV w (.bool true)) := by
  have k0 : Below w.heap.size w w := Below.refl _ _
  have hn := SlI.nil0 w
  rcases hq : (decide (l.length ≤ 20) && decide (order.length ≤ 20) && decide (a.length ≤ 20) && decide (b.length ≤ 20)) with _ | _
  · have hq0 := hq
    clear hq0
    go_enter Try.func9, Try.ntmps9
    go_wp2_with fail
    refine (k_light (r := false) hl ho ha hb hq).mono ?_
    rintro e w1 ⟨rfl, hb1⟩
    have k1 := k0.trans (hb1.mono k0.size)
    replace hl := hl.below hb1
    replace ho := ho.below hb1
    replace ha := ha.below hb1
    replace hb := hb.below hb1
    clear k0 hb1
    go_wp2_with fail
    refine (law_awake w1).mono ?_
    rintro e w2 ⟨rfl, hb2⟩
    have k2 := k1.trans (hb2.mono k1.size)
    replace hl := hl.below hb2
    replace ho := ho.below hb2
    replace ha := ha.below hb2
    replace hb := hb.below hb2
    clear k1 hb2
    go_wp2
    go_ret
    exact RetV.bool rfl k2
  · have hq1 := hq
    simp only [Bool.and_eq_true, decide_eq_true_iff] at hq1
    obtain ⟨⟨⟨q1, q2⟩, q3⟩, q4⟩ := hq1
    go_enter Try.func9, Try.ntmps9
    go_wp2_with fail
    refine (k_light (r := true) hl ho ha hb hq).mono ?_
    rintro e w1 ⟨rfl, hb1⟩
    have k1 := k0.trans (hb1.mono k0.size)
    replace hl := hl.below hb1
    replace ho := ho.below hb1
    replace ha := ha.below hb1
    replace hb := hb.below hb1
    clear k0 hb1
    clear hq
    have hm1 := Int.tmod_lt_of_pos (wrap64 st) (show (0 : Int) < 3000 by decide)
    have hm2 := Int.lt_tmod_of_pos (wrap64 st) (show (0 : Int) < 3000 by decide)
    go_wp2_with fail
    generalize (wrap64 st).tmod 3000 = n at *
    rcases hx : exactL l order n with _ | p
    · refine (k_exact hl ho (by omega) (by omega) hwf hwo hx).mono ?_
      rintro e w2 ⟨v2, rfl, hc, hb2⟩
      rw [show errN none = 24 from rfl]
      have k2 := k1.trans (hb2.mono k1.size)
      replace hl := hl.below hb2
      replace ho := ho.below hb2
      replace ha := ha.below hb2
      replace hb := hb.below hb2
      clear k1 hb2
      replace hc : SlI _ _ [] := hc
      clear hx
      obtain ⟨ey, hy⟩ : ∃ ey, exactL l order (n + 1) = ey := ⟨_, rfl⟩
      go_wp2_with fail
      refine (k_exact hl ho (by omega) (by omega) hwf hwo hy).mono ?_
      rintro e w3 ⟨v3, rfl, hd, hb3⟩
      have k3 := k2.trans (hb3.mono k2.size)
      replace hl := hl.below hb3
      replace ho := ho.below hb3
      replace ha := ha.below hb3
      replace hb := hb.below hb3
      replace hc := hc.below hb3
      clear k2 hb3
      clear hy
      clear hd
      generalize errN ey = er at *
      go_wp2_with fail
      refine (law_awake w3).mono ?_
      rintro e w4 ⟨rfl, hb4⟩
      have k4 := k3.trans (hb4.mono k3.size)
      replace hl := hl.below hb4
      replace ho := ho.below hb4
      replace ha := ha.below hb4
      replace hb := hb.below hb4
      replace hc := hc.below hb4
      clear k3 hb4
      go_wp2_with fail
      refine (k_better hl ho ha ha (by omega) (by omega) (by omega) (by omega) hwf hwo (betterB_self l order a)).mono ?_
      rintro e w5 ⟨rfl, hb5⟩
      have k5 := k4.trans (hb5.mono k4.size)
      replace hl := hl.below hb5
      replace ho := ho.below hb5
      replace ha := ha.below hb5
      replace hb := hb.below hb5
      replace hc := hc.below hb5
      clear k4 hb5
      rcases hr : betterB l order a b with _ | _
      · go_wp2_with fail
        refine (k_better hl ho ha hb (by omega) (by omega) (by omega) (by omega) hwf hwo hr).mono ?_
        rintro e w6 ⟨rfl, hb6⟩
        have k6 := k5.trans (hb6.mono k5.size)
        replace hl := hl.below hb6
        replace ho := ho.below hb6
        replace ha := ha.below hb6
        replace hb := hb.below hb6
        replace hc := hc.below hb6
        clear k5 hb6
        clear hr
        go_wp2
        go_ret
        exact RetV.bool rfl k6
      · go_wp2_with fail
        refine (k_better hl ho ha hb (by omega) (by omega) (by omega) (by omega) hwf hwo hr).mono ?_
        rintro e w6 ⟨rfl, hb6⟩
        have k6 := k5.trans (hb6.mono k5.size)
        replace hl := hl.below hb6
        replace ho := ho.below hb6
        replace ha := ha.below hb6
        replace hb := hb.below hb6
        replace hc := hc.below hb6
        clear k5 hb6
        have HR := Lib.hid (betterB_asym hr)
        clear hr
        go_wp2_with fail
        refine (k_better hl ho hb ha (by omega) (by omega) (by omega) (by omega) hwf hwo HR.out).mono ?_
        rintro e w7 ⟨rfl, hb7⟩
        have k7 := k6.trans (hb7.mono k6.size)
        replace hl := hl.below hb7
        replace ho := ho.below hb7
        replace ha := ha.below hb7
        replace hb := hb.below hb7
        replace hc := hc.below hb7
        clear k6 hb7
        go_wp2
        go_ret
        exact RetV.bool rfl k7
    · have hy : exactL l order (n + 1) = some p := exactL_more (by unfold limN; omega) hx
      have hbl := (exactL_some hx).2.2
      refine (k_exact hl ho (by omega) (by omega) hwf hwo hx).mono ?_
      rintro e w3 ⟨v3, rfl, hc, hb3⟩
      rw [show errN (some p) = 0 from rfl]
      have k3 := k1.trans (hb3.mono k1.size)
      replace hl := hl.below hb3
      replace ho := ho.below hb3
      replace ha := ha.below hb3
      replace hb := hb.below hb3
      clear k1 hb3
      replace hc : SlI _ _ p := hc
      go_wp2_with fail
      refine (k_exact hl ho (by omega) (by omega) hwf hwo hy).mono ?_
      rintro e w4 ⟨v4, rfl, hd, hb4⟩
      rw [show errN (some p) = 0 from rfl]
      have k4 := k3.trans (hb4.mono k3.size)
      replace hl := hl.below hb4
      replace ho := ho.below hb4
      replace ha := ha.below hb4
      replace hb := hb.below hb4
      replace hc := hc.below hb4
      clear k3 hb4
      replace hd : SlI _ _ p := hd
      clear hx hy
      go_wp2_with fail
      refine (k_same (b := true) hc hd (by omega) (by omega) (by simp)).mono ?_
      rintro e w5 ⟨rfl, hb5⟩
      have k5 := k4.trans (hb5.mono k4.size)
      replace hl := hl.below hb5
      replace ho := ho.below hb5
      replace ha := ha.below hb5
      replace hb := hb.below hb5
      replace hc := hc.below hb5
      replace hd := hd.below hb5
      clear k4 hb5
      go_wp2_with fail
      refine (law_awake w5).mono ?_
      rintro e w6 ⟨rfl, hb6⟩
      have k6 := k5.trans (hb6.mono k5.size)
      replace hl := hl.below hb6
      replace ho := ho.below hb6
      replace ha := ha.below hb6
      replace hb := hb.below hb6
      replace hc := hc.below hb6
      replace hd := hd.below hb6
      clear k5 hb6
      go_wp2_with fail
      refine (k_better hl ho ha ha (by omega) (by omega) (by omega) (by omega) hwf hwo (betterB_self l order a)).mono ?_
      rintro e w7 ⟨rfl, hb7⟩
      have k7 := k6.trans (hb7.mono k6.size)
      replace hl := hl.below hb7
      replace ho := ho.below hb7
      replace ha := ha.below hb7
      replace hb := hb.below hb7
      replace hc := hc.below hb7
      replace hd := hd.below hb7
      clear k6 hb7
      rcases hr : betterB l order a b with _ | _
      · go_wp2_with fail
        refine (k_better hl ho ha hb (by omega) (by omega) (by omega) (by omega) hwf hwo hr).mono ?_
        rintro e w8 ⟨rfl, hb8⟩
        have k8 := k7.trans (hb8.mono k7.size)
        replace hl := hl.below hb8
        replace ho := ho.below hb8
        replace ha := ha.below hb8
        replace hb := hb.below hb8
        replace hc := hc.below hb8
        replace hd := hd.below hb8
        clear k7 hb8
        clear hr
        go_wp2
        go_ret
        exact RetV.bool rfl k8
      · go_wp2_with fail
        refine (k_better hl ho ha hb (by omega) (by omega) (by omega) (by omega) hwf hwo hr).mono ?_
        rintro e w8 ⟨rfl, hb8⟩
        have k8 := k7.trans (hb8.mono k7.size)
        replace hl := hl.below hb8
        replace ho := ho.below hb8
        replace ha := ha.below hb8
        replace hb := hb.below hb8
        replace hc := hc.below hb8
        replace hd := hd.below hb8
        clear k7 hb8
        have HR := Lib.hid (betterB_asym hr)
        clear hr
        go_wp2_with fail
        refine (k_better hl ho hb ha (by omega) (by omega) (by omega) (by omega) hwf hwo HR.out).mono ?_
        rintro e w9 ⟨rfl, hb9⟩
        have k9 := k8.trans (hb9.mono k8.size)
        replace hl := hl.below hb9
        replace ho := ho.below hb9
        replace ha := ha.below hb9
        replace hb := hb.below hb9
        replace hc := hc.below hb9
        replace hd := hd.below hb9
        clear k8 hb9
        go_wp2
        go_ret
        exact RetV.bool rfl k9
end Go.Proofs
/- Plain: Best's choice is valid; where the whole search is possible it is as good. -/
set_option linter.unusedVariables false
set_option linter.unusedSimpArgs false
namespace Go.Proofs
open Go.RowKit Go.Proofs.Mp Go.Proofs.Uf

theorem partL_valid (l : List Cand) (steps : Int) (ids : List Int) : validB l (partL l steps ids) = true := by
  unfold partL
  split
  · split
    · rename_i b hb
      exact (exactL_some hb).1
    · exact greedyL_valid l ids
  · exact greedyL_valid l ids
theorem ownR_len (l : List Cand) (order : List Int) : (ownR l order).length = (cls l).length := by simp [ownR]
theorem ownR_mem {l : List Cand} {order : List Int} {n : Nat} (hn : n < (cls l).length) {f : Int} : f ∈ (ownR l order)[n]! ↔ f ∈ order ∧ f ∈ (cls l)[n]! := by
  rw [ownR_get hn, List.mem_filter, decide_eq_true_iff, distL_mem]
theorem bestR_mem {l : List Cand} {order : List Int} {steps x : Int} : x ∈ bestR l order steps ↔ ∃ n, n < (cls l).length ∧ x ∈ partL l steps (ownR l order)[n]! := by
  unfold bestR
  rw [List.mem_flatMap]
  constructor
  · rintro ⟨ids, h1, h2⟩
    obtain ⟨n, hn, rfl⟩ := List.mem_iff_getElem.1 h1
    exact ⟨n, by rw [ownR_len] at hn; exact hn, by rw [getElem!_pos _ n hn]; exact h2⟩
  · rintro ⟨n, hn, h2⟩
    have hn' : n < (ownR l order).length := by rw [ownR_len]; exact hn
    exact ⟨_, by rw [getElem!_pos _ n hn']; exact List.getElem_mem hn', h2⟩
/-- features of hitting candidates are in one cluster -/
theorem hit_conn {l : List Cand} {x y f g : Int} (hx : okI l f x) (hy : okI l g y) (h : hitI l x y = true) : Conn (Ed l) f g := by
  obtain ⟨n, rfl, hn⟩ := inB_nat hx.1
  obtain ⟨m, rfl, hm⟩ := inB_nat hy.1
  exact .edge ⟨n, m, hn, hm, by simpa [hitI] using h, by simpa using hx.2.symm, by simpa using hy.2.symm⟩ (.refl _)
theorem cls_conn {l : List Cand} {n m : Nat} (hn : n < (cls l).length) (hm : m < (cls l).length) {f g : Int} (hf : f ∈ (cls l)[n]!) (hg : g ∈ (cls l)[m]!) (h : Conn (Ed l) f g) : n = m := by
  have hn' : n < (reps l).length := by rw [← cls_len]; exact hn
  rw [cls_get hn', mem_grp] at hf
  have hm' : m < (reps l).length := by rw [← cls_len]; exact hm
  have hg0 := hg
  rw [cls_get hm', mem_grp] at hg0
  refine cls_disj l n m g hn hm ?_ hg
  rw [cls_get hn', mem_grp]
  exact ⟨hg0.1, hf.2.trans h⟩
theorem bestR_free {l : List Cand} {order : List Int} {steps x y : Int} (hx : x ∈ bestR l order steps) (hy : y ∈ bestR l order steps) (hne : x ≠ y) : hitI l x y = false := by
  obtain ⟨n, hn, hx⟩ := bestR_mem.1 hx
  obtain ⟨m, hm, hy⟩ := bestR_mem.1 hy
  by_cases e : n = m
  · subst e
    exact free_ne (valid_free (partL_valid l steps _)) hx hy hne
  · obtain ⟨f, hf, hfx⟩ := partL_feat l steps _ x hx
    obtain ⟨g, hg, hgy⟩ := partL_feat l steps _ y hy
    rcases hh : hitI l x y with _ | _
    · rfl
    · exact absurd (cls_conn hn hm ((ownR_mem hn).1 hf).2 ((ownR_mem hm).1 hg).2 (hit_conn hfx hgy hh)) e
theorem asc_ne {xs : List Int} (h : Asc xs) {n m : Nat} (hn : n < xs.length) (hm : m < n) : xs[n]! ≠ xs[m]! := by
  have := (List.pairwise_iff_getElem.1 h) m n (by omega) hn hm
  rw [getElem!_pos xs n hn, getElem!_pos xs m (by omega)]
  omega
theorem bestL_valid (l : List Cand) (order : List Int) (steps : Int) : validB l (bestL l order steps) = true := by
  refine validB_yes ((ascB_iff _).2 (setL_asc _)) (fun j hj => ?_) (fun n hn m hm => ?_)
  · obtain ⟨n, hn, hx⟩ := bestR_mem.1 ((setL_mem _ _).1 (getMem hj))
    obtain ⟨f, _, h⟩ := partL_feat l steps _ _ hx
    exact h.1
  · exact bestR_free ((setL_mem _ _).1 (getMem hn)) ((setL_mem _ _).1 (getMem (Nat.lt_trans hm hn))) (asc_ne (setL_asc _) hn hm)
theorem bestL_len (l : List Cand) (order : List Int) (steps : Int) : (bestL l order steps).length ≤ l.length := asc_len (setL_asc _) fun x hx => by
  obtain ⟨n, hn, hx⟩ := bestR_mem.1 ((setL_mem _ _).1 hx)
  obtain ⟨f, _, h⟩ := partL_feat l steps _ _ hx
  exact h.1

/-- how many steps the search takes at most -/
def cn : List Nat → Nat
  | [] => 0
  | c :: cs => (c + 1) * (1 + cn cs)
def lens (l : List Cand) (fs : List Int) : List Nat := fs.map fun f => (ordL l f).length
theorem foldTry_steps {l : List Cand} {lim k n : Nat} {g : List Int → XS → Option XS} {now : List Int} (hg : ∀ c x, x.made + k ≤ lim → ∃ y, g c x = some y ∧ y.made ≤ x.made + k) :
    ∀ (O : List Int) (x : XS), x.made + O.length * (1 + k) ≤ lim → ∃ y, O.foldl (tryS l lim g n now) (some x) = some y ∧ y.made ≤ x.made + O.length * (1 + k)
  | [], x, h => ⟨x, rfl, by simp⟩
  | i :: O, x, h => by
    rw [List.length_cons, Nat.succ_mul] at h
    rw [List.foldl_cons]
    have key : ∃ z, tryS l lim g n now (some x) i = some z ∧ z.made ≤ x.made + (1 + k) := by
      by_cases hf : fitsB l now i = true ∧ roomB x (now.length + 1 + n) = true
      · have hm : x.made < lim := by omega
        rw [try_go hf.1 hf.2 hm]
        obtain ⟨z, h1, h2⟩ := hg (now ++ [i]) ⟨x.made + 1, x.best⟩ (by show x.made + 1 + k ≤ lim; omega)
        exact ⟨z, h1, by have h2 : z.made ≤ x.made + 1 + k := h2; omega⟩
      · refine ⟨x, ?_, by omega⟩
        unfold tryS
        rw [Option.bind_some, if_neg hf]
    obtain ⟨z, h1, h2⟩ := key
    rw [h1]
    obtain ⟨y, h3, h4⟩ := foldTry_steps hg O z (by omega)
    exact ⟨y, h3, by rw [List.length_cons, Nat.succ_mul]; omega⟩
theorem srch_steps (l : List Cand) (lim : Nat) : ∀ (fs now : List Int) (x : XS), x.made + cn (lens l fs) ≤ lim → ∃ y, srch l lim fs now x = some y ∧ y.made ≤ x.made + cn (lens l fs)
  | [], now, x, h => ⟨_, rfl, by simp⟩
  | f :: fs, now, x, h => by
    have e : cn (lens l (f :: fs)) = (ordL l f).length * (1 + cn (lens l fs)) + (1 + cn (lens l fs)) := by
      show ((ordL l f).length + 1) * (1 + cn (lens l fs)) = _
      rw [Nat.succ_mul]
    rw [e] at h
    obtain ⟨z, h1, h2⟩ := foldTry_steps (l := l) (n := fs.length) (now := now) (fun c x hx => srch_steps l lim fs c x hx) (ordL l f) x (by omega)
    rw [fold_all h1, e]
    by_cases hr : roomB z (now.length + fs.length) = true
    · have hm : z.made < lim := by omega
      rw [last_go hr hm]
      obtain ⟨y, h3, h4⟩ := srch_steps l lim fs now ⟨z.made + 1, z.best⟩ (by show z.made + 1 + _ ≤ lim; omega)
      exact ⟨y, h3, by have h4 : y.made ≤ z.made + 1 + cn (lens l fs) := h4; omega⟩
    · rw [last_no (by simpa using hr)]
      exact ⟨z, rfl, by omega⟩
def tabL : List (List Nat) := [[0, 0, 0, 0, 0, 0, 0, 0, 0, 0, 0, 0, 0, 0, 0, 0, 0, 0, 0, 0, 0], [1, 2, 3, 4, 5, 6, 7, 8, 9, 10, 11, 12, 13, 14, 15, 16, 17, 18, 19, 20, 21], [2, 4, 6, 9, 12, 16, 20, 25, 30, 36, 42, 49, 56, 64, 72, 81, 90, 100, 110, 121, 132], [3, 6, 10, 15, 21, 30, 40, 52, 68, 85, 105, 130, 156, 186, 222, 259, 301, 350, 400, 456, 520], [4, 8, 14, 22, 33, 48, 66, 93, 124, 164, 212, 276, 345, 430, 530, 655, 786, 942, 1122, 1338, 1561], [5, 10, 18, 30, 46, 69, 102, 147, 201, 282, 376, 500, 660, 852, 1108, 1385, 1730, 2155, 2655, 3280, 3936], [6, 12, 22, 38, 62, 94, 141, 210, 309, 444, 606, 849, 1132, 1508, 2004, 2644, 3412, 4436, 5545, 6930, 8655], [7, 14, 26, 46, 78, 126, 190, 285, 426, 633, 930, 1335, 1821, 2550, 3400, 4532, 6036, 8020, 10580, 13652, 17748], [8, 16, 30, 54, 94, 158, 254, 382, 573, 858, 1281, 1902, 2793, 4008, 5466, 7653, 10204, 13604, 18132, 24148, 32084], [9, 18, 34, 62, 110, 190, 318, 510, 766, 1149, 1722, 2577, 3846, 5709, 8382, 12027, 16401, 22962, 30616, 40820, 54420], [10, 20, 38, 70, 126, 222, 382, 638, 1022, 1534, 2301, 3450, 5169, 7734, 11541, 17130, 25149, 36084, 49206, 68889, 91852]]
def tab (k m : Nat) : Nat := (tabL.getD k []).getD m 0
theorem tab_step : ∀ k, k < 10 → ∀ m, m < 21 → ∀ c, c < 21 → c ≤ m → (c + 1) * (1 + tab k (m - c)) ≤ tab (k + 1) m := by decide +kernel
theorem tab_top : ∀ k, k < 11 → ∀ m, m < 21 → tab k m ≤ 100000 := by decide +kernel
theorem cn_tab : ∀ cs : List Nat, cs.length ≤ 10 → cs.sum ≤ 20 → cn cs ≤ tab cs.length cs.sum
  | [], _, _ => by show 0 ≤ _; omega
  | c :: cs, h1, h2 => by
    rw [List.length_cons] at h1 ⊢
    rw [List.sum_cons] at h2 ⊢
    have ih := cn_tab cs (by omega) (by omega)
    have h3 := tab_step cs.length (by omega) (c + cs.sum) (by omega) c (by omega) (by omega)
    rw [show c + cs.sum - c = cs.sum by omega] at h3
    have h4 : (c + 1) * (1 + cn cs) ≤ (c + 1) * (1 + tab cs.length cs.sum) := Nat.mul_le_mul_left _ (by omega)
    exact Nat.le_trans h4 h3
theorem nodup_len {xs : List Int} {n : Nat} (h : xs.Nodup) (hi : ∀ x ∈ xs, inB n x = true) : xs.length ≤ n := by
  have hs : xs.length = (xs.map Int.toNat).length := by simp
  rw [hs]
  have hnd : (xs.map Int.toNat).Nodup := by
    unfold List.Nodup
    rw [List.pairwise_map]
    refine h.imp_of_mem ?_
    intro a b ha hb hab
    have h1 := inB_iff.1 (hi a ha)
    have h2 := inB_iff.1 (hi b hb)
    omega
  have hsub : ∀ x ∈ xs.map Int.toNat, x ∈ List.range n := by
    intro x hx
    obtain ⟨y, hy, rfl⟩ := List.mem_map.1 hx
    have := inB_iff.1 (hi y hy)
    exact List.mem_range.2 (by omega)
  have := List.Nodup.length_le_of_subset hnd hsub
  simpa using this
theorem lens_sum (l : List Cand) {fs : List Int} (h : fs.Nodup) : (lens l fs).sum ≤ l.length := by
  have e : (lens l fs).sum = (fs.flatMap (ordL l)).length := by
    unfold lens
    rw [List.length_flatMap]
  rw [e]
  refine nodup_len ?_ fun x hx => ?_
  · unfold List.Nodup
    rw [List.pairwise_flatMap]
    constructor
    · intro f _
      exact (ordK_sorted l f _).imp fun {a b} h => by
        rintro rfl
        exact srt_irrefl l _ h
    · refine h.imp ?_
      intro f g hne x hx y hy e
      subst e
      exact hne (ok_inj (ordL_mem hx) (ordL_mem hy))
  · obtain ⟨f, _, hx⟩ := List.mem_flatMap.1 hx
    exact (ordL_mem hx).1
theorem distL_nd {l : List Int} (h : l.Nodup) : distL l = l := by
  have key : ∀ (l acc : List Int), (acc ++ l).Nodup → l.foldl addL acc = acc ++ l := by
    intro l
    induction l with
    | nil => intro acc _; simp
    | cons x l ih =>
      intro acc h
      rw [List.foldl_cons]
      have hx : x ∉ acc := fun hx => (List.nodup_append.1 h).2.2 x hx x List.mem_cons_self rfl
      rw [show addL acc x = acc ++ [x] from if_neg hx, ih (acc ++ [x]) (by simpa using h)]
      simp
  exact key l [] h
theorem ownR_nodup {l : List Cand} {order ids : List Int} (h : ids ∈ ownR l order) : ids.Nodup := by
  unfold ownR at h
  obtain ⟨g, _, rfl⟩ := List.mem_map.1 h
  exact (distL_nodup order).filter _
theorem exactL_few {l : List Cand} {ids : List Int} (hnd : ids.Nodup) (h1 : l.length ≤ 20) (h2 : ids.length ≤ 10) : ∃ b, exactL l ids 100000 = some b := by
  have hs := lens_sum l hnd
  have hl : (lens l ids).length = ids.length := by simp [lens]
  have hc := cn_tab (lens l ids) (by omega) (by omega)
  have ht := tab_top (lens l ids).length (by omega) (lens l ids).sum (by omega)
  obtain ⟨y, hy, _⟩ := srch_steps l 100000 ids [] ⟨0, none⟩ (by show 0 + cn (lens l ids) ≤ 100000; omega)
  unfold exactL
  rw [distL_nd hnd, show limN 100000 = 100000 by decide, hy]
  exact ⟨_, rfl⟩
/-- the choice of a feature of the cluster n -/
theorem best_choice {l : List Cand} {order : List Int} {steps f : Int} {n : Nat} (hn : n < (cls l).length) (hf : f ∈ (cls l)[n]!) : choiceO l (bestL l order steps) f = choiceO l (partL l steps (ownR l order)[n]!) f := by
  refine choiceO_congr fun z hz => ?_
  rw [show bestL l order steps = setL (bestR l order steps) from rfl, setL_mem, bestR_mem]
  constructor
  · rintro ⟨m, hm, hzm⟩
    obtain ⟨g, hg, hgz⟩ := partL_feat l steps _ z hzm
    have e := ok_inj hz hgz
    subst e
    have := cls_disj l n m f hn hm hf ((ownR_mem hm).1 hg).2
    subst this
    exact hzm
  · exact fun h => ⟨n, hn, h⟩
theorem choice_feat {l : List Cand} {c : List Int} {f j : Int} (h : choiceO l c f = some j) : f ∈ feats l := by
  obtain ⟨h1, h2⟩ := choiceO_in h
  obtain ⟨n, rfl, hn⟩ := inB_nat h1
  rw [← h2]
  exact feats_get (by simpa using hn)
theorem feat_cls {l : List Cand} {f : Int} (h : f ∈ feats l) : ∃ n, n < (cls l).length ∧ f ∈ (cls l)[n]! := by
  obtain ⟨r, hr, hc⟩ := rep_of ((setL_mem (feats l) f).2 h)
  obtain ⟨n, hn, rfl⟩ := List.mem_iff_getElem.1 hr
  refine ⟨n, by rw [cls_len]; exact hn, ?_⟩
  rw [cls_get hn, mem_grp, getElem!_pos _ n hn]
  exact ⟨(setL_mem (feats l) f).2 h, hc⟩
theorem sum_add {gs : List (List Int)} (h : List Int → Nat) (p : List Int → Bool) : (gs.map fun g => (if p g = true then 1 else 0) + h g).sum = (gs.filter p).length + (gs.map h).sum := by
  induction gs with
  | nil => rfl
  | cons g gs ih =>
    rw [List.map_cons, List.sum_cons, ih, List.map_cons, List.sum_cons, List.filter_cons]
    split
    · rw [List.length_cons]; omega
    · omega
theorem one_cls {l : List Cand} {f : Int} (h : f ∈ feats l) : ((cls l).filter fun g => decide (f ∈ g)).length = 1 := by
  have e : ((cls l).filter fun g => decide (f ∈ g)).length = ((reps l).filter fun r => decide (f ∈ grpOf l r)).length := by
    rw [cls_eq, List.filter_map, List.length_map]; rfl
  rw [e]
  obtain ⟨r, hr, hc⟩ := rep_of ((setL_mem (feats l) f).2 h)
  have : ((reps l).filter fun r => decide (f ∈ grpOf l r)) = [r] := Asc.unique (asc_filter (reps_asc l) _) (by simp [Asc]) fun y => by
    rw [List.mem_filter, decide_eq_true_iff, List.mem_singleton, mem_grp]
    exact ⟨fun ⟨h1, h2⟩ => rep_unique h1 hr h2.2 hc, fun e => e ▸ ⟨hr, (setL_mem (feats l) f).2 h, hc⟩⟩
  rw [this]; rfl
theorem placed_sum (l : List Cand) (c : List Int) : ∀ F : List Int, placedN l F c = ((cls l).map fun g => placedN l (F.filter fun z => decide (z ∈ g)) c).sum
  | [] => by
    have : ∀ gs : List (List Int), (gs.map fun g => placedN l (([] : List Int).filter fun z => decide (z ∈ g)) c).sum = 0 := by
      intro gs
      induction gs with
      | nil => rfl
      | cons g gs ih => rw [List.map_cons, List.sum_cons, ih]; rfl
    rw [this]; rfl
  | f :: F => by
    rw [placedN_cons, placed_sum l c F]
    rcases hc : choiceO l c f with _ | j
    · have e : ∀ g : List Int, placedN l ((f :: F).filter fun z => decide (z ∈ g)) c = placedN l (F.filter fun z => decide (z ∈ g)) c := fun g => by
        rw [List.filter_cons]
        split
        · rw [placedN_cons, hc]; simp
        · rfl
      simp only [e, Option.isSome_none, Bool.false_eq_true, if_false, Nat.zero_add]
    · have e : ∀ g : List Int, placedN l ((f :: F).filter fun z => decide (z ∈ g)) c = (if decide (f ∈ g) = true then 1 else 0) + placedN l (F.filter fun z => decide (z ∈ g)) c := fun g => by
        rw [List.filter_cons]
        split
        · rw [placedN_cons, hc]; simp
        · simp
      simp only [e]
      rw [sum_add, one_cls (choice_feat hc)]
      simp
theorem lex_part (l : List Cand) (a b : List Int) : ∀ F : List Int, lexB l a b F = true → ∃ n, n < (cls l).length ∧ lexB l a b (F.filter fun z => decide (z ∈ (cls l)[n]!)) = true
  | [], h => by cases h
  | f :: F, h => by
    unfold lexB at h
    rcases hs : stepB l (choiceO l a f) (choiceO l b f) with _ | x
    · rw [hs] at h
      obtain ⟨n, hn, hl⟩ := lex_part l a b F h
      refine ⟨n, hn, ?_⟩
      rw [List.filter_cons]
      split
      · unfold lexB
        rw [hs]; exact hl
      · exact hl
    · rw [hs] at h
      have hx : x = true := h
      subst hx
      have hf : f ∈ feats l := by
        rcases ha : choiceO l a f with _ | i
        · rcases hb : choiceO l b f with _ | j
          · rw [ha, hb] at hs; cases hs
          · exact choice_feat hb
        · exact choice_feat ha
      obtain ⟨n, hn, hm⟩ := feat_cls hf
      refine ⟨n, hn, ?_⟩
      rw [List.filter_cons_of_pos (by simpa using hm)]
      unfold lexB
      rw [hs]
theorem sum_le {gs : List (List Int)} {p q : List Int → Nat} (h : ∀ g ∈ gs, p g ≤ q g) : (gs.map p).sum ≤ (gs.map q).sum ∧ ((gs.map p).sum = (gs.map q).sum → ∀ g ∈ gs, p g = q g) := by
  induction gs with
  | nil => exact ⟨Nat.le_refl _, fun _ g hg => by simp at hg⟩
  | cons g gs ih =>
    obtain ⟨i1, i2⟩ := ih fun g hg => h g (List.mem_cons_of_mem _ hg)
    have := h g List.mem_cons_self
    rw [List.map_cons, List.map_cons, List.sum_cons, List.sum_cons]
    refine ⟨by omega, fun e g' hg' => ?_⟩
    rcases List.mem_cons.1 hg' with rfl | hg'
    · omega
    · exact i2 (by omega) g' hg'
theorem whole_not {l : List Cand} {order a : List Int} (h1 : l.length ≤ 20) (h2 : order.length ≤ 10) (ha : validB l a = true) : betterB l order a (bestL l order 100000) = false := by
  have hF := distL_nodup order
  have hFl : (distL order).length ≤ 10 := Nat.le_trans (distL_len order) h2
  have key : ∀ n, n < (cls l).length → placedN l ((distL order).filter fun z => decide (z ∈ (cls l)[n]!)) a ≤ placedN l ((distL order).filter fun z => decide (z ∈ (cls l)[n]!)) (bestL l order 100000) ∧
      (placedN l ((distL order).filter fun z => decide (z ∈ (cls l)[n]!)) a = placedN l ((distL order).filter fun z => decide (z ∈ (cls l)[n]!)) (bestL l order 100000) → lexB l a (bestL l order 100000) ((distL order).filter fun z => decide (z ∈ (cls l)[n]!)) = false) := by
    intro n hn
    have hids := ownR_get (order := order) hn
    have hnd : ((ownR l order)[n]!).Nodup := by rw [hids]; exact hF.filter _
    have hil : ((ownR l order)[n]!).length ≤ 10 := by rw [hids]; exact Nat.le_trans (List.length_filter_le _ _) hFl
    obtain ⟨b, hb⟩ := exactL_few hnd h1 hil
    have hp : partL l 100000 (ownR l order)[n]! = b := by unfold partL; rw [if_pos (by omega), hb]
    have hbt := (exactL_some hb).2.1 a ha
    have hch : ∀ f ∈ (distL order).filter (fun z => decide (z ∈ (cls l)[n]!)), choiceO l (bestL l order 100000) f = choiceO l b f := fun f hf => by
      rw [← hp]
      exact best_choice hn (by have := (List.mem_filter.1 hf).2; simpa using this)
    rw [placedN_congr hch, lexB_congr (fun _ _ => rfl) hch]
    unfold betterB at hbt
    rw [distL_nd hnd, hids] at hbt
    split at hbt
    · rename_i hne
      have := of_decide_eq_false hbt
      exact ⟨by omega, fun e => absurd e hne⟩
    · rename_i he
      have he := Decidable.not_not.1 he
      exact ⟨by omega, fun _ => hbt⟩
  have hall : ∀ g ∈ cls l, placedN l ((distL order).filter fun z => decide (z ∈ g)) a ≤ placedN l ((distL order).filter fun z => decide (z ∈ g)) (bestL l order 100000) := fun g hg => by
    obtain ⟨n, hn, rfl⟩ := List.mem_iff_getElem.1 hg
    have := (key n hn).1
    rwa [getElem!_pos _ n hn] at this
  obtain ⟨s1, s2⟩ := sum_le hall
  rw [← placed_sum, ← placed_sum] at s1 s2
  unfold betterB
  split
  · exact decide_eq_false (by omega)
  · rename_i he
    have he := Decidable.not_not.1 he
    rcases hx : lexB l a (bestL l order 100000) (distL order) with _ | _
    · rfl
    · obtain ⟨n, hn, hl⟩ := lex_part l a _ _ hx
      have e2 := s2 he (cls l)[n]! (by rw [getElem!_pos (cls l) n hn]; exact List.getElem_mem hn)
      have := (key n hn).2 e2
      rw [this] at hl
      cases hl
end Go.Proofs
/- The laws on Best: it is the specified choice; it is as good as the whole search. -/
set_option linter.unusedVariables false
set_option linter.unusedSimpArgs false
namespace Go.Proofs
open Go.RowKit Go.Proofs.Mp Go.Proofs.Uf Go.Maps

set_option maxRecDepth 100000 in
set_option maxHeartbeats 4000000 in
theorem law_clusters (u v : Value) (l : List Cand) (order : List Int) (steps : Int) (w : World) (hl : SlC w u l) (ho : SlI w v order) (hwf : wfs (feats l)) (hwo : wfs order) :
    Calls Try.prog 6 #[u, v, .int .i64 steps] w (RetV w (.bool true)) := by
  have k0 : Below w.heap.size w w := Below.refl _ _
  have hn := SlI.nil0 w
  rcases hq : (decide (l.length ≤ 20) && decide (order.length ≤ 20) && decide (([] : List Int).length ≤ 20) && decide (([] : List Int).length ≤ 20)) with _ | _
  · have hq0 := hq
    clear hq0
    go_enter Try.func6, Try.ntmps6
    go_wp2_with fail
    refine (k_light (r := false) hl ho hn hn hq).mono ?_
    rintro e w1 ⟨rfl, hb1⟩
    have k1 := k0.trans (hb1.mono k0.size)
    replace hl := hl.below hb1
    replace ho := ho.below hb1
    replace hn := hn.below hb1
    clear k0 hb1
    go_wp2_with fail
    refine (law_awake w1).mono ?_
    rintro e w2 ⟨rfl, hb2⟩
    have k2 := k1.trans (hb2.mono k1.size)
    replace hl := hl.below hb2
    replace ho := ho.below hb2
    replace hn := hn.below hb2
    clear k1 hb2
    go_wp2
    go_ret
    exact RetV.bool rfl k2
  · have hq1 := hq
    simp only [Bool.and_eq_true, decide_eq_true_iff] at hq1
    obtain ⟨⟨⟨q1, q2⟩, q3⟩, q4⟩ := hq1
    go_enter Try.func6, Try.ntmps6
    go_wp2_with fail
    refine (k_light (r := true) hl ho hn hn hq).mono ?_
    rintro e w1 ⟨rfl, hb1⟩
    have k1 := k0.trans (hb1.mono k0.size)
    replace hl := hl.below hb1
    replace ho := ho.below hb1
    replace hn := hn.below hb1
    clear k0 hb1
    clear hq
    by_cases hs : steps ≤ 3000
    · have ds : decide ((3000 : Int) < steps) = false := decide_eq_false (by omega)
      have is : ¬ (3000 : Int) < steps := by omega
      have hbl := bestL_len l order steps
      have HV0 := bestL_valid l order steps
      obtain ⟨br, hbr⟩ : ∃ br, bestL l order steps = br := ⟨_, rfl⟩
      rw [hbr] at hbl HV0
      have HV := Lib.hid HV0
      clear HV0
      go_wp2_with fail
      refine (k_best hl ho (by omega) (by omega) hwf hwo hbr).mono ?_
      rintro e w2 ⟨v2, rfl, hg, hb2⟩
      have k2 := k1.trans (hb2.mono k1.size)
      replace hl := hl.below hb2
      replace ho := ho.below hb2
      replace hn := hn.below hb2
      clear k1 hb2
      go_wp2_with fail
      refine (law_awake w2).mono ?_
      rintro e w3 ⟨rfl, hb3⟩
      have k3 := k2.trans (hb3.mono k2.size)
      replace hl := hl.below hb3
      replace ho := ho.below hb3
      replace hn := hn.below hb3
      replace hg := hg.below hb3
      clear k2 hb3
      go_wp2_with fail
      refine (k_rbest hl ho (by omega) (by omega) hbr).mono ?_
      rintro e w4 ⟨v4, rfl, hg2, hb4⟩
      have k4 := k3.trans (hb4.mono k3.size)
      replace hl := hl.below hb4
      replace ho := ho.below hb4
      replace hn := hn.below hb4
      replace hg := hg.below hb4
      clear k3 hb4
      clear hbr
      go_wp2_with fail
      refine (k_same (b := true) hg hg2 (by omega) (by omega) (by simp)).mono ?_
      rintro e w5 ⟨rfl, hb5⟩
      have k5 := k4.trans (hb5.mono k4.size)
      replace hl := hl.below hb5
      replace ho := ho.below hb5
      replace hn := hn.below hb5
      replace hg := hg.below hb5
      replace hg2 := hg2.below hb5
      clear k4 hb5
      clear hg2
      go_wp2_with fail
      refine (k_val hl hg (by omega) (by omega) HV.out).mono ?_
      rintro e w6 ⟨rfl, hb6⟩
      have k6 := k5.trans (hb6.mono k5.size)
      replace hl := hl.below hb6
      replace ho := ho.below hb6
      replace hn := hn.below hb6
      replace hg := hg.below hb6
      clear k5 hb6
      go_wp2
      go_ret
      exact RetV.bool rfl k6
    · have ds : decide ((3000 : Int) < steps) = true := decide_eq_true (by omega)
      have is : (3000 : Int) < steps := by omega
      go_wp2_with fail
      refine (law_awake w1).mono ?_
      rintro e w2 ⟨rfl, hb2⟩
      have k2 := k1.trans (hb2.mono k1.size)
      replace hl := hl.below hb2
      replace ho := ho.below hb2
      replace hn := hn.below hb2
      clear k1 hb2
      go_wp2
      go_ret
      exact RetV.bool rfl k2
set_option maxRecDepth 100000 in
set_option maxHeartbeats 4000000 in
theorem law_whole (u v : Value) (l : List Cand) (order : List Int) (w : World) (hl : SlC w u l) (ho : SlI w v order) (hwf : wfs (feats l)) (hwo : wfs order) :
    Calls Try.prog 8 #[u, v] w (RetV w (.bool true)) := by
  have k0 : Below w.heap.size w w := Below.refl _ _
  have hn := SlI.nil0 w
  rcases hq : (decide (l.length ≤ 20) && decide (order.length ≤ 20) && decide (([] : List Int).length ≤ 20) && decide (([] : List Int).length ≤ 20)) with _ | _
  · have hq0 := hq
    clear hq0
    go_enter Try.func8, Try.ntmps8
    go_wp2_with fail
    refine (k_light (r := false) hl ho hn hn hq).mono ?_
    rintro e w1 ⟨rfl, hb1⟩
    have k1 := k0.trans (hb1.mono k0.size)
    replace hl := hl.below hb1
    replace ho := ho.below hb1
    replace hn := hn.below hb1
    clear k0 hb1
    go_wp2_with fail
    refine (law_awake w1).mono ?_
    rintro e w2 ⟨rfl, hb2⟩
    have k2 := k1.trans (hb2.mono k1.size)
    replace hl := hl.below hb2
    replace ho := ho.below hb2
    replace hn := hn.below hb2
    clear k1 hb2
    go_wp2
    go_ret
    exact RetV.bool rfl k2
  · have hq1 := hq
    simp only [Bool.and_eq_true, decide_eq_true_iff] at hq1
    obtain ⟨⟨⟨q1, q2⟩, q3⟩, q4⟩ := hq1
    go_enter Try.func8, Try.ntmps8
    go_wp2_with fail
    refine (k_light (r := true) hl ho hn hn hq).mono ?_
    rintro e w1 ⟨rfl, hb1⟩
    have k1 := k0.trans (hb1.mono k0.size)
    replace hl := hl.below hb1
    replace ho := ho.below hb1
    replace hn := hn.below hb1
    clear k0 hb1
    clear hq
    have ho2 := ho
    obtain ⟨AO, cO, rfl, _⟩ := ho2
    by_cases hs : order.length ≤ 10
    · have ds : decide ((10 : Int) < (order.length : Int)) = false := decide_eq_false (by omega)
      have is : ¬ (10 : Int) < (order.length : Int) := by omega
      rcases hx : exactL l order 3000 with _ | b
      · go_wp2_with fail
        refine (k_exact hl ho (by omega) (by omega) hwf hwo hx).mono ?_
        rintro e w2 ⟨v2, rfl, hc, hb2⟩
        rw [show errN none = 24 from rfl]
        have k2 := k1.trans (hb2.mono k1.size)
        replace hl := hl.below hb2
        replace ho := ho.below hb2
        replace hn := hn.below hb2
        clear k1 hb2
        clear hx
        go_wp2_with fail
        refine (law_awake w2).mono ?_
        rintro e w3 ⟨rfl, hb3⟩
        have k3 := k2.trans (hb3.mono k2.size)
        replace hl := hl.below hb3
        replace ho := ho.below hb3
        replace hn := hn.below hb3
        replace hc := hc.below hb3
        clear k2 hb3
        go_wp2
        go_ret
        exact RetV.bool rfl k3
      · obtain ⟨x1, x2, hbl⟩ := exactL_some hx
        have HA := Lib.hid (whole_not (order := order) q1 hs x1)
        have HB := Lib.hid (x2 _ (bestL_valid l order 100000))
        have hrl := bestL_len l order 100000
        obtain ⟨br, hbr⟩ : ∃ br, bestL l order 100000 = br := ⟨_, rfl⟩
        rw [hbr] at HA HB hrl
        clear x1 x2
        go_wp2_with fail
        refine (k_exact hl ho (by omega) (by omega) hwf hwo hx).mono ?_
        rintro e w2 ⟨v2, rfl, hc, hb2⟩
        rw [show errN (some b) = 0 from rfl]
        have k2 := k1.trans (hb2.mono k1.size)
        replace hl := hl.below hb2
        replace ho := ho.below hb2
        replace hn := hn.below hb2
        clear k1 hb2
        replace hc : SlI _ _ b := hc
        clear hx
        go_wp2_with fail
        refine (k_best hl ho (by omega) (by omega) hwf hwo hbr).mono ?_
        rintro e w3 ⟨v3, rfl, hd, hb3⟩
        have k3 := k2.trans (hb3.mono k2.size)
        replace hl := hl.below hb3
        replace ho := ho.below hb3
        replace hn := hn.below hb3
        replace hc := hc.below hb3
        clear k2 hb3
        clear hbr
        go_wp2_with fail
        refine (law_awake w3).mono ?_
        rintro e w4 ⟨rfl, hb4⟩
        have k4 := k3.trans (hb4.mono k3.size)
        replace hl := hl.below hb4
        replace ho := ho.below hb4
        replace hn := hn.below hb4
        replace hc := hc.below hb4
        replace hd := hd.below hb4
        clear k3 hb4
        go_wp2_with fail
        refine (k_better hl ho hc hd (by omega) (by omega) (by omega) (by omega) hwf hwo HA.out).mono ?_
        rintro e w5 ⟨rfl, hb5⟩
        have k5 := k4.trans (hb5.mono k4.size)
        replace hl := hl.below hb5
        replace ho := ho.below hb5
        replace hn := hn.below hb5
        replace hc := hc.below hb5
        replace hd := hd.below hb5
        clear k4 hb5
        go_wp2_with fail
        refine (k_better hl ho hd hc (by omega) (by omega) (by omega) (by omega) hwf hwo HB.out).mono ?_
        rintro e w6 ⟨rfl, hb6⟩
        have k6 := k5.trans (hb6.mono k5.size)
        replace hl := hl.below hb6
        replace ho := ho.below hb6
        replace hn := hn.below hb6
        replace hc := hc.below hb6
        replace hd := hd.below hb6
        clear k5 hb6
        go_wp2
        go_ret
        exact RetV.bool rfl k6
    · have ds : decide ((10 : Int) < (order.length : Int)) = true := decide_eq_true (by omega)
      have is : (10 : Int) < (order.length : Int) := by omega
      go_wp2_with fail
      refine (law_awake w1).mono ?_
      rintro e w2 ⟨rfl, hb2⟩
      have k2 := k1.trans (hb2.mono k1.size)
      replace hl := hl.below hb2
      replace ho := ho.below hb2
      replace hn := hn.below hb2
      clear k1 hb2
      go_wp2
      go_ret
      exact RetV.bool rfl k2
end Go.Proofs
