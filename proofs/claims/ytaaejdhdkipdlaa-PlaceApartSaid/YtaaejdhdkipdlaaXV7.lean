/- Better, the program's. -/
import Derived.Test.YtaaejdhdkipdlaaXV6
set_option linter.unusedVariables false
set_option linter.unusedSimpArgs false
namespace Go.Proofs
open Go.RowKit Go.Proofs.Mp Go.Proofs.Uf

theorem chV_none {g : Int → Option Int} {f : Int} (h : g f = none) : ((chV g) f).getD (.int .i64 0) = .int .i64 0 ∧ ((chV g) f).isSome = false := by unfold chV; rw [h]; exact ⟨rfl, rfl⟩
theorem chV_some {g : Int → Option Int} {f i : Int} (h : g f = some i) : ((chV g) f).getD (.int .i64 0) = .int .i64 i ∧ ((chV g) f).isSome = true := by unfold chV; rw [h]; exact ⟨rfl, rfl⟩
theorem placed_diff (l : List Cand) {F : List Int} (a b : List Int) {k : Nat} (h : k < F.length) {d : Int} (hd : d = (placedN l (F.take k) a : Int) - placedN l (F.take k) b) :
    (placedN l (F.take (k + 1)) a : Int) - placedN l (F.take (k + 1)) b = d + (if (choiceO l a F[k]!).isSome = true then 1 else 0) - (if (choiceO l b F[k]!).isSome = true then 1 else 0) := by
  rw [placedN_succ l a h, placedN_succ l b h, hd]
  split <;> split <;> omega
theorem placed_bound (l : List Cand) (F a b : List Int) (k : Nat) {d : Int} (hd : d = (placedN l (F.take k) a : Int) - placedN l (F.take k) b) : -(k : Int) ≤ d ∧ d ≤ k := by
  have h1 := placedN_le l (F.take k) a
  have h2 := placedN_le l (F.take k) b
  have h3 : (F.take k).length ≤ k := List.length_take_le _ _
  omega
set_option maxRecDepth 100000 in
set_option maxHeartbeats 4000000 in
theorem place_better (u v x y : Value) (l : List Cand) (order a b : List Int) (w : World) (hl : l.length ≤ 1000) (ho : order.length ≤ 1000) (ha : a.length ≤ 1000) (hb : b.length ≤ 1000) (hwf : wfs (feats l)) (hwo : wfs order) (hu : SlC w u l) (hv : SlI w v order) (hx : SlI w x a) (hy : SlI w y b) :
    Calls Try.prog 15 #[u, v, x, y] w (RetV w (.bool (betterB l order a b))) := by
  have hdl := distL_len order
  have CF := Lib.hid (fun (W : World) (hb' : Below w.heap.size w W) => place_distinct v order W ho hwo (hv.below hb'))
  have CA := Lib.hid (place_choices u x l a w hl ha hwf hu hx)
  have CB := Lib.hid (fun (W : World) (hb' : Below w.heap.size w W) => place_choices u y l b W hl hb hwf (hu.below hb') (hy.below hb'))
  have HWY := Lib.hid (fun z hz => hwo z (distL_sub order z hz))
  obtain ⟨A, ca, rfl, hca, hR⟩ := hu
  have HR := Lib.hid hR
  have HBET : Hid (betterB l order a b = if placedN l (distL order) a ≠ placedN l (distL order) b then decide (placedN l (distL order) b < placedN l (distL order) a) else lexB l a b (distL order)) := Lib.hid rfl
  generalize betterB l order a b = bet at *
  have HGA0 : ∃ ga, choiceO l a = ga := ⟨_, rfl⟩
  have HGB0 : ∃ gb, choiceO l b = gb := ⟨_, rfl⟩
  obtain ⟨ga, hga⟩ := HGA0
  obtain ⟨gb, hgb⟩ := HGB0
  rw [hga] at CA
  rw [hgb] at CB
  have HGA := Lib.hid hga
  have HGB := Lib.hid hgb
  generalize distL order = F at *
  clear hR hv hx hy hwf hwo hga hgb
  go_enter Try.func15, Try.ntmps15
  go_wp2_with fail
  refine CA.out.mono ?_
  rintro e w1 ⟨BA, rfl, hMA, hsA, hb1⟩
  clear CA
  go_wp2_with fail
  refine (CB.out w1 hb1).mono ?_
  rintro e w2 ⟨BB, rfl, hMB, hsB, hb2⟩
  replace hMA := hMA.below hb2
  have k2 := hb1.trans (hb2.mono hb1.size)
  clear CB hb2
  go_wp2_with fail
  refine (CF.out w2 k2).mono ?_
  rintro e w3 ⟨vF, rfl, hF, hb3⟩
  replace hMA := hMA.below hb3
  replace hMB := hMB.below hb3
  have k3 := k2.trans (hb3.mono k2.size)
  have sF3 := hF.sl
  obtain ⟨AF, cF, rfl, hcF, hRF⟩ := sF3
  have HRF := Lib.hid hRF
  clear hF hb1 hb3 k2 hsA hsB CF hRF
  go_wp2_with fail
  go_loopw [12, 35] (fun m i wr => ∃ (k : Nat) (d : Int), k ≤ F.length ∧ i = .int .i64 k ∧ m = .int .i64 d ∧ Hid (d = (placedN l (F.take k) a : Int) - placedN l (F.take k) b) ∧ MapV Try.prog 3 wr BA a.length (chV ga) ∧ MapV Try.prog 3 wr BB b.length (chV gb) ∧ Below w.heap.size w wr ∧ Below w3.heap.size w3 wr) (fun _ i _ => F.length - (intOf i).toNat)
  case atStart => exact ⟨0, 0, Nat.zero_le _, rfl, rfl, Lib.hid (by show (0 : Int) = ((placedN l [] a : Nat) : Int) - (placedN l [] b : Nat); rfl), hMA, hMB, k3, Below.refl _ _⟩
  case round =>
    clear hMA hMB
    obtain ⟨k, d, hk, rfl, rfl, hdd, hMA, hMB, hbw, hbx⟩ := hrel
    obtain ⟨hd1, hd2⟩ := placed_bound l F a b k hdd.out
    have hd3 : -1000 ≤ d := by omega
    have hd4 : d ≤ 1000 := by omega
    by_cases hlt : k < F.length
    · as_aux_lemma =>
      obtain ⟨b', off, rfl, hb', g1⟩ := RdI.get HRF.out hbx hlt
      have HD := Lib.hid (placed_diff l a b hlt hdd.out)
      have hwy : (Lit.int .i64 F[k]!).wf = true := HWY.out _ (by rw [getElem!_pos F k hlt]; exact List.getElem_mem hlt)
      obtain ⟨y, hy⟩ : ∃ y, F[k]! = y := ⟨_, rfl⟩
      rw [hy] at g1 HD hwy
      rw [HGA.out, HGB.out] at HD
      have hd : decide (k < F.length) = true := decide_eq_true hlt
      clear hy hd1 hd2
      rcases hca : ga y with _ | i1
      · rcases hcb : gb y with _ | i2
        · as_aux_lemma =>
            have VA := Lib.hid (chV_none hca)
            have VB := Lib.hid (chV_none hcb)
            have HN : Hid ((placedN l (F.take (k + 1)) a : Int) - placedN l (F.take (k + 1)) b = d) := Lib.hid (by rw [HD.out, hca, hcb]; simp)
            clear hca hcb
            go_wp2_with (at_lookup; first | refine MapV.look_ok hMA rfl _ _ rfl Try.underlying51 Try.underlying3 (Try.zero3 _) rfl y rfl hwy VA.out.1 VA.out.2 ?_ | refine MapV.look_ok hMB rfl _ _ rfl Try.underlying51 Try.underlying3 (Try.zero3 _) rfl y rfl hwy VB.out.1 VB.out.2 ?_)
            go_roundw
            case rel => exact ⟨k + 1, _, by omega, by go_num, rfl, Lib.hid (by rw [HN.out]; try go_num), hMA, hMB, hbw, hbx⟩
            case measure => simp [intOf]; omega
        · as_aux_lemma =>
            have VA := Lib.hid (chV_none hca)
            have VB := Lib.hid (chV_some hcb)
            have HN : Hid ((placedN l (F.take (k + 1)) a : Int) - placedN l (F.take (k + 1)) b = d - 1) := Lib.hid (by rw [HD.out, hca, hcb]; simp)
            clear hca hcb
            go_wp2_with (at_lookup; first | refine MapV.look_ok hMA rfl _ _ rfl Try.underlying51 Try.underlying3 (Try.zero3 _) rfl y rfl hwy VA.out.1 VA.out.2 ?_ | refine MapV.look_ok hMB rfl _ _ rfl Try.underlying51 Try.underlying3 (Try.zero3 _) rfl y rfl hwy VB.out.1 VB.out.2 ?_)
            go_roundw
            case rel => exact ⟨k + 1, _, by omega, by go_num, rfl, Lib.hid (by rw [HN.out]; try go_num), hMA, hMB, hbw, hbx⟩
            case measure => simp [intOf]; omega
      · rcases hcb : gb y with _ | i2
        · as_aux_lemma =>
            have VA := Lib.hid (chV_some hca)
            have VB := Lib.hid (chV_none hcb)
            have HN : Hid ((placedN l (F.take (k + 1)) a : Int) - placedN l (F.take (k + 1)) b = d + 1) := Lib.hid (by rw [HD.out, hca, hcb]; simp)
            clear hca hcb
            go_wp2_with (at_lookup; first | refine MapV.look_ok hMA rfl _ _ rfl Try.underlying51 Try.underlying3 (Try.zero3 _) rfl y rfl hwy VA.out.1 VA.out.2 ?_ | refine MapV.look_ok hMB rfl _ _ rfl Try.underlying51 Try.underlying3 (Try.zero3 _) rfl y rfl hwy VB.out.1 VB.out.2 ?_)
            go_roundw
            case rel => exact ⟨k + 1, _, by omega, by go_num, rfl, Lib.hid (by rw [HN.out]; try go_num), hMA, hMB, hbw, hbx⟩
            case measure => simp [intOf]; omega
        · as_aux_lemma =>
            have VA := Lib.hid (chV_some hca)
            have VB := Lib.hid (chV_some hcb)
            have HN : Hid ((placedN l (F.take (k + 1)) a : Int) - placedN l (F.take (k + 1)) b = d + 1 - 1) := Lib.hid (by rw [HD.out, hca, hcb]; simp)
            clear hca hcb
            go_wp2_with (at_lookup; first | refine MapV.look_ok hMA rfl _ _ rfl Try.underlying51 Try.underlying3 (Try.zero3 _) rfl y rfl hwy VA.out.1 VA.out.2 ?_ | refine MapV.look_ok hMB rfl _ _ rfl Try.underlying51 Try.underlying3 (Try.zero3 _) rfl y rfl hwy VB.out.1 VB.out.2 ?_)
            go_roundw
            case rel => exact ⟨k + 1, _, by omega, by go_num, rfl, Lib.hid (by rw [HN.out]; try go_num), hMA, hMB, hbw, hbx⟩
            case measure => simp [intOf]; omega
    · obtain rfl : k = F.length := by omega
      have hd : decide (F.length < F.length) = false := decide_eq_false (by omega)
      have HDD : Hid (d = (placedN l F a : Int) - placedN l F b) := Lib.hid (by have := hdd.out; rwa [List.take_length] at this)
      clear hdd hd1 hd2
      by_cases h0 : d = 0
      rotate_left
      · have hn : (d != 0) = true := by simp [h0]
        have HE : Hid (bet = decide (0 < d)) := Lib.hid (by
          have h1 := HDD.out
          rw [HBET.out, if_pos (by omega)]
          exact decide_eq_decide.2 (by omega))
        clear h0
        go_wp2
        go_ret
        exact RetV.bool (by rw [HE.out]) hbw
      subst h0
      have hn : ((0 : Int) != 0) = false := rfl
      have HE : Hid (bet = lexB l a b F) := Lib.hid (by
        have h1 := HDD.out
        rw [HBET.out, if_neg (by omega)])
      clear HBET HDD hd3 hd4
      go_wp2_with fail
      clear hn hd
      generalize hw4 : wr = w4 at *
      clear hw4
      have hb4 := Below.refl w4.heap.size w4
      go_loopw [64] (fun i wr => ∃ k : Nat, k ≤ F.length ∧ i = .int .i64 k ∧ Hid (lexB l a b F = lexB l a b (F.drop k)) ∧ MapV Try.prog 3 wr BA a.length (chV ga) ∧ MapV Try.prog 3 wr BB b.length (chV gb) ∧ Below w.heap.size w wr ∧ Below w3.heap.size w3 wr) (fun i _ => F.length - (intOf i).toNat)
      case atStart => exact ⟨0, Nat.zero_le _, rfl, Lib.hid rfl, hMA, hMB, hbw, hbx⟩
      case round =>
        clear hMA hMB hbw hbx hb4
        obtain ⟨k, hk2, rfl, hlex, hMA, hMB, hbw, hbx⟩ := hrel
        by_cases hlt : k < F.length
        · as_aux_lemma =>
          obtain ⟨b', off, rfl, hb', g1⟩ := RdI.get HRF.out hbx hlt
          have hwy : (Lit.int .i64 F[k]!).wf = true := HWY.out _ (by rw [getElem!_pos F k hlt]; exact List.getElem_mem hlt)
          obtain ⟨y, hy⟩ : ∃ y, F[k]! = y := ⟨_, rfl⟩
          rw [hy] at g1 hwy
          have HY := Lib.hid hy
          have hd : decide (k < F.length) = true := decide_eq_true hlt
          clear hy
          rcases hca : ga y with _ | i1
          · rcases hcb : gb y with _ | i2
            · as_aux_lemma =>
                have HN : Hid (lexB l a b (F.drop k) = lexB l a b (F.drop (k + 1))) := Lib.hid (lexB_none hlt (by rw [HY.out, HGA.out, HGB.out, hca, hcb]; rfl))
                have VA := Lib.hid (chV_none hca)
                have VB := Lib.hid (chV_none hcb)
                have e1 : (false != false) = false := rfl
                clear hca hcb
                go_wp2_with (at_lookup; first | refine MapV.look_ok hMA rfl _ _ rfl Try.underlying51 Try.underlying3 (Try.zero3 _) rfl y rfl hwy VA.out.1 VA.out.2 ?_ | refine MapV.look_ok hMB rfl _ _ rfl Try.underlying51 Try.underlying3 (Try.zero3 _) rfl y rfl hwy VB.out.1 VB.out.2 ?_)
                go_roundw
                case rel => exact ⟨k + 1, by omega, by go_num, Lib.hid (hlex.out.trans HN.out), hMA, hMB, hbw, hbx⟩
                case measure => simp [intOf]; omega
            · as_aux_lemma =>
                have HN : Hid (lexB l a b F = false) := Lib.hid (hlex.out.trans (lexB_some hlt (by rw [HY.out, HGA.out, HGB.out, hca, hcb]; rfl)))
                have VA := Lib.hid (chV_none hca)
                have VB := Lib.hid (chV_some hcb)
                have e1 : (false != true) = true := rfl
                clear hca hcb
                go_wp2_with (at_lookup; first | refine MapV.look_ok hMA rfl _ _ rfl Try.underlying51 Try.underlying3 (Try.zero3 _) rfl y rfl hwy VA.out.1 VA.out.2 ?_ | refine MapV.look_ok hMB rfl _ _ rfl Try.underlying51 Try.underlying3 (Try.zero3 _) rfl y rfl hwy VB.out.1 VB.out.2 ?_)
                go_ret
                exact RetV.bool (by rw [HE.out, HN.out]) hbw
          · rcases hcb : gb y with _ | i2
            · as_aux_lemma =>
                have HN : Hid (lexB l a b F = true) := Lib.hid (hlex.out.trans (lexB_some hlt (by rw [HY.out, HGA.out, HGB.out, hca, hcb]; rfl)))
                have VA := Lib.hid (chV_some hca)
                have VB := Lib.hid (chV_none hcb)
                have e1 : (true != false) = true := rfl
                clear hca hcb
                go_wp2_with (at_lookup; first | refine MapV.look_ok hMA rfl _ _ rfl Try.underlying51 Try.underlying3 (Try.zero3 _) rfl y rfl hwy VA.out.1 VA.out.2 ?_ | refine MapV.look_ok hMB rfl _ _ rfl Try.underlying51 Try.underlying3 (Try.zero3 _) rfl y rfl hwy VB.out.1 VB.out.2 ?_)
                go_ret
                exact RetV.bool (by rw [HE.out, HN.out]) hbw
            · by_cases he : i1 = i2
              · as_aux_lemma =>
                  subst he
                  have HN : Hid (lexB l a b (F.drop k) = lexB l a b (F.drop (k + 1))) := Lib.hid (lexB_none hlt (by rw [HY.out, HGA.out, HGB.out, hca, hcb]; show (if i1 = i1 then none else _) = none; rw [if_pos rfl]))
                  have VA := Lib.hid (chV_some hca)
                  have VB := Lib.hid (chV_some hcb)
                  have e1 : (true != true) = false := rfl
                  have e2 : (i1 != i1) = false := by simp
                  clear hca hcb
                  go_wp2_with (at_lookup; first | refine MapV.look_ok hMA rfl _ _ rfl Try.underlying51 Try.underlying3 (Try.zero3 _) rfl y rfl hwy VA.out.1 VA.out.2 ?_ | refine MapV.look_ok hMB rfl _ _ rfl Try.underlying51 Try.underlying3 (Try.zero3 _) rfl y rfl hwy VB.out.1 VB.out.2 ?_)
                  go_roundw
                  case rel => exact ⟨k + 1, by omega, by go_num, Lib.hid (hlex.out.trans HN.out), hMA, hMB, hbw, hbx⟩
                  case measure => simp [intOf]; omega
              · as_aux_lemma =>
                  have HRAW : Hid (lexB l a b F = costB l[i1.toNat]! l[i2.toNat]! i1 i2) := Lib.hid (hlex.out.trans (lexB_some hlt (by rw [HY.out, HGA.out, HGB.out, hca, hcb]; show (if i1 = i2 then none else _) = _; rw [if_neg he])))
                  have VA := Lib.hid (chV_some hca)
                  have VB := Lib.hid (chV_some hcb)
                  have hca' : choiceO l a y = some i1 := by rw [HGA.out]; exact hca
                  have hcb' : choiceO l b y = some i2 := by rw [HGB.out]; exact hcb
                  clear hca hcb
                  obtain ⟨i1, rfl, hi1⟩ := inB_nat (choiceO_in hca').1
                  obtain ⟨i2, rfl, hi2⟩ := inB_nat (choiceO_in hcb').1
                  obtain ⟨bl, offl, rfl, hbl, HCL⟩ := Rd.rangeCs HR.out (show 0 < l.length by omega)
                  obtain ⟨cx, hcx⟩ : ∃ cx, l[i1]!.co = cx := ⟨_, rfl⟩
                  obtain ⟨cy, hcy⟩ : ∃ cy, l[i2]!.co = cy := ⟨_, rfl⟩
                  have HC1 := Lib.hid (fun (W : World) (hW : Below wr.heap.size wr W) => (by have := HCL W (hbw.trans (hW.mono hbw.size)) i1 hi1 7 _ rfl; rwa [hcx] at this : W.cell? ⟨bl, offl + i1 * 8 + 7, none⟩ = some (.int .i64 cx)))
                  have HC2 := Lib.hid (fun (W : World) (hW : Below wr.heap.size wr W) => (by have := HCL W (hbw.trans (hW.mono hbw.size)) i2 hi2 7 _ rfl; rwa [hcy] at this : W.cell? ⟨bl, offl + i2 * 8 + 7, none⟩ = some (.int .i64 cy)))
                  have HCX : Hid (l[(i1 : Int).toNat]!.co = cx) := Lib.hid (by simpa using hcx)
                  have HCY : Hid (l[(i2 : Int).toNat]!.co = cy) := Lib.hid (by simpa using hcy)
                  clear hcx hcy HCL

                  have e1 : (true != true) = false := rfl
                  have e4 : ((i1 : Int) != (i2 : Int)) = true := by rw [bne_iff_ne]; intro e; exact he (by rw [e])
                  clear hca' hcb' he
                  go_wp2_with (at_lookup; first | refine MapV.look_ok hMA rfl _ _ rfl Try.underlying51 Try.underlying3 (Try.zero3 _) rfl y rfl hwy VA.out.1 VA.out.2 ?_ | refine MapV.look_ok hMB rfl _ _ rfl Try.underlying51 Try.underlying3 (Try.zero3 _) rfl y rfl hwy VB.out.1 VB.out.2 ?_)
                  have hS1 : (fun W : World => Below wr.heap.size wr W) wr.drew := (Below.refl _ _).drew
                  by_cases hlt3 : cx < cy
                  · as_aux_lemma =>
                      have d1 : decide (cx < cy) = true := decide_eq_true hlt3
                      have HRES : Hid (lexB l a b F = true) := Lib.hid (HRAW.out.trans (costB_lt (by rw [HCX.out, HCY.out]; exact hlt3)))
                      clear hlt3
                      go_wp2_with fail
                      refine wp_region_held_drew (S := fun W : World => Below wr.heap.size wr W) (by kernel_rfl) hS1 (fun hHeld => ?_)
                      clear hHeld
                      generalize wr.drew = wzxa at *
                      refine wpAnyH_take (i := 0) (oi := ⟨some 90, _, _, _, _, _⟩) (v := ?vxa1) rfl (by kernel_rfl) (by kernel_rfl) (by kernel_rfl) (fun _ _ _ h => h) (Or.inl ⟨by kernel_rfl, ?hyxa1⟩) (by assumption) ?restxa1
                      case hyxa1 => (intro W hSw; (try dsimp only at hSw); go_simp; try with_reducible rfl)
                      case' restxa1 => try simp only [Act.put, List.setIfInBounds_toArray, List.set_cons_zero, List.set_cons_succ]
                      refine wpAnyH_take (i := 1) (oi := ⟨some 91, _, _, _, _, _⟩) (v := ?vxa2) rfl (by kernel_rfl) (by kernel_rfl) (by kernel_rfl) (fun _ _ _ h => h) (Or.inl ⟨by kernel_rfl, ?hyxa2⟩) (by assumption) ?restxa2
                      case hyxa2 => (intro W hSw; (try dsimp only at hSw); go_simp; try with_reducible rfl)
                      case' restxa2 => try simp only [Act.put, List.setIfInBounds_toArray, List.set_cons_zero, List.set_cons_succ]
                      refine wpAnyH_take (i := 2) (oi := ⟨some 92, _, _, _, _, _⟩) (v := ?vxa3) rfl (by kernel_rfl) (by kernel_rfl) (by kernel_rfl) (fun _ _ _ h => h) (Or.inl ⟨by kernel_rfl, ?hyxa3⟩) (by assumption) ?restxa3
                      case hyxa3 => (intro W hSw; (try dsimp only at hSw); go_simp; try with_reducible rfl)
                      case' restxa3 => try simp only [Act.put, List.setIfInBounds_toArray, List.set_cons_zero, List.set_cons_succ]
                      refine wpAnyH_take (i := 3) (oi := ⟨some 93, _, _, _, _, _⟩) (v := ?vxa4) rfl (by kernel_rfl) (by kernel_rfl) (by kernel_rfl) (fun _ _ _ h => h) (Or.inl ⟨by kernel_rfl, ?hyxa4⟩) (by assumption) ?restxa4
                      case hyxa4 => (intro W hSw; (try dsimp only at hSw); go_simp; try with_reducible rfl)
                      case' restxa4 => try simp only [Act.put, List.setIfInBounds_toArray, List.set_cons_zero, List.set_cons_succ]
                      refine wpAnyH_take (i := 4) (oi := ⟨some 94, _, _, _, _, _⟩) (v := ?vxa5) rfl (by kernel_rfl) (by kernel_rfl) (by kernel_rfl) (fun _ _ _ h => h) (Or.inl ⟨by kernel_rfl, ?hyxa5⟩) (by assumption) ?restxa5
                      case hyxa5 => (intro W hSw; have gq := HC1.out W hSw; (try dsimp only at hSw); go_simp; try with_reducible rfl)
                      case' restxa5 => try simp only [Act.put, List.setIfInBounds_toArray, List.set_cons_zero, List.set_cons_succ]
                      refine wpAnyH_take (i := 5) (oi := ⟨some 95, _, _, _, _, _⟩) (v := ?vxa6) rfl (by kernel_rfl) (by kernel_rfl) (by kernel_rfl) (fun _ _ _ h => h) (Or.inl ⟨by kernel_rfl, ?hyxa6⟩) (by assumption) ?restxa6
                      case hyxa6 => (intro W hSw; (try dsimp only at hSw); go_simp; try with_reducible rfl)
                      case' restxa6 => try simp only [Act.put, List.setIfInBounds_toArray, List.set_cons_zero, List.set_cons_succ]
                      refine wpAnyH_take (i := 6) (oi := ⟨some 96, _, _, _, _, _⟩) (v := ?vxa7) rfl (by kernel_rfl) (by kernel_rfl) (by kernel_rfl) (fun _ _ _ h => h) (Or.inl ⟨by kernel_rfl, ?hyxa7⟩) (by assumption) ?restxa7
                      case hyxa7 => (intro W hSw; (try dsimp only at hSw); go_simp; try with_reducible rfl)
                      case' restxa7 => try simp only [Act.put, List.setIfInBounds_toArray, List.set_cons_zero, List.set_cons_succ]
                      refine wpAnyH_take (i := 7) (oi := ⟨some 97, _, _, _, _, _⟩) (v := ?vxa8) rfl (by kernel_rfl) (by kernel_rfl) (by kernel_rfl) (fun _ _ _ h => h) (Or.inl ⟨by kernel_rfl, ?hyxa8⟩) (by assumption) ?restxa8
                      case hyxa8 => (intro W hSw; (try dsimp only at hSw); go_simp; try with_reducible rfl)
                      case' restxa8 => try simp only [Act.put, List.setIfInBounds_toArray, List.set_cons_zero, List.set_cons_succ]
                      refine wpAnyH_take (i := 8) (oi := ⟨some 98, _, _, _, _, _⟩) (v := ?vxa9) rfl (by kernel_rfl) (by kernel_rfl) (by kernel_rfl) (fun _ _ _ h => h) (Or.inl ⟨by kernel_rfl, ?hyxa9⟩) (by assumption) ?restxa9
                      case hyxa9 => (intro W hSw; (try dsimp only at hSw); go_simp; try with_reducible rfl)
                      case' restxa9 => try simp only [Act.put, List.setIfInBounds_toArray, List.set_cons_zero, List.set_cons_succ]
                      refine wpAnyH_take (i := 9) (oi := ⟨some 99, _, _, _, _, _⟩) (v := ?vxa10) rfl (by kernel_rfl) (by kernel_rfl) (by kernel_rfl) (fun _ _ _ h => h) (Or.inl ⟨by kernel_rfl, ?hyxa10⟩) (by assumption) ?restxa10
                      case hyxa10 => (intro W hSw; have gq := HC2.out W hSw; (try dsimp only at hSw); go_simp; try with_reducible rfl)
                      case' restxa10 => try simp only [Act.put, List.setIfInBounds_toArray, List.set_cons_zero, List.set_cons_succ]
                      refine wpAnyH_take (i := 10) (oi := ⟨some 100, _, _, _, _, _⟩) (v := ?vxa11) rfl (by kernel_rfl) (by kernel_rfl) (by kernel_rfl) (fun _ _ _ h => h) (Or.inl ⟨by kernel_rfl, ?hyxa11⟩) (by assumption) ?restxa11
                      case hyxa11 => (intro W hSw; (try dsimp only at hSw); go_simp; try with_reducible rfl)
                      case' restxa11 => try simp only [Act.put, List.setIfInBounds_toArray, List.set_cons_zero, List.set_cons_succ]
                      refine wpAnyH_take (i := 11) (oi := ⟨some 101, _, _, _, _, _⟩) (v := ?vxa12) rfl (by kernel_rfl) (by kernel_rfl) (by kernel_rfl) (fun _ _ _ h => h) (Or.inl ⟨by kernel_rfl, ?hyxa12⟩) (by assumption) ?restxa12
                      case hyxa12 => (intro W hSw; (try dsimp only at hSw); go_simp; try with_reducible rfl)
                      case' restxa12 => try simp only [Act.put, List.setIfInBounds_toArray, List.set_cons_zero, List.set_cons_succ]
                      refine wpAnyH_take (i := 12) (oi := ⟨some 102, _, _, _, _, _⟩) (v := undef) rfl (by kernel_rfl) (by kernel_rfl) (by kernel_rfl) (fun _ _ _ h => h) (Or.inr ⟨by kernel_rfl, rfl⟩) (by assumption) ?restxa13
                      case' restxa13 => try simp only [Act.put, List.setIfInBounds_toArray, List.set_cons_zero, List.set_cons_succ]
                      refine wpAnyH_take (i := 13) (oi := ⟨some 103, _, _, _, _, _⟩) (v := undef) rfl (by kernel_rfl) (by kernel_rfl) (by kernel_rfl) (fun _ _ _ h => h) (Or.inr ⟨by kernel_rfl, rfl⟩) (by assumption) ?restxa14
                      case' restxa14 => try simp only [Act.put, List.setIfInBounds_toArray, List.set_cons_zero, List.set_cons_succ]
                      refine wpAnyH_take (i := 14) (oi := ⟨some 104, _, _, _, _, _⟩) (v := undef) rfl (by kernel_rfl) (by kernel_rfl) (by kernel_rfl) (fun _ _ _ h => h) (Or.inr ⟨by kernel_rfl, rfl⟩) (by assumption) ?restxa15
                      case' restxa15 => try simp only [Act.put, List.setIfInBounds_toArray, List.set_cons_zero, List.set_cons_succ]
                      refine wpAnyH_take (i := 15) (oi := ⟨some 105, _, _, _, _, _⟩) (v := undef) rfl (by kernel_rfl) (by kernel_rfl) (by kernel_rfl) (fun _ _ _ h => h) (Or.inr ⟨by kernel_rfl, rfl⟩) (by assumption) ?restxa16
                      case' restxa16 => try simp only [Act.put, List.setIfInBounds_toArray, List.set_cons_zero, List.set_cons_succ]
                      refine wpAnyH_take (i := 16) (oi := ⟨some 106, _, _, _, _, _⟩) (v := undef) rfl (by kernel_rfl) (by kernel_rfl) (by kernel_rfl) (fun _ _ _ h => h) (Or.inr ⟨by kernel_rfl, rfl⟩) (by assumption) ?restxa17
                      case' restxa17 => try simp only [Act.put, List.setIfInBounds_toArray, List.set_cons_zero, List.set_cons_succ]
                      refine wpAnyH_take (i := 17) (oi := ⟨some 107, _, _, _, _, _⟩) (v := undef) rfl (by kernel_rfl) (by kernel_rfl) (by kernel_rfl) (fun _ _ _ h => h) (Or.inr ⟨by kernel_rfl, rfl⟩) (by assumption) ?restxa18
                      case' restxa18 => try simp only [Act.put, List.setIfInBounds_toArray, List.set_cons_zero, List.set_cons_succ]
                      refine wpAnyH_take (i := 18) (oi := ⟨some 108, _, _, _, _, _⟩) (v := undef) rfl (by kernel_rfl) (by kernel_rfl) (by kernel_rfl) (fun _ _ _ h => h) (Or.inr ⟨by kernel_rfl, rfl⟩) (by assumption) ?restxa19
                      case' restxa19 => try simp only [Act.put, List.setIfInBounds_toArray, List.set_cons_zero, List.set_cons_succ]
                      refine wpAnyH_take (i := 19) (oi := ⟨some 109, _, _, _, _, _⟩) (v := undef) rfl (by kernel_rfl) (by kernel_rfl) (by kernel_rfl) (fun _ _ _ h => h) (Or.inr ⟨by kernel_rfl, rfl⟩) (by assumption) ?restxa20
                      case' restxa20 => try simp only [Act.put, List.setIfInBounds_toArray, List.set_cons_zero, List.set_cons_succ]
                      refine wpAnyH_take (i := 20) (oi := ⟨some 110, _, _, _, _, _⟩) (v := undef) rfl (by kernel_rfl) (by kernel_rfl) (by kernel_rfl) (fun _ _ _ h => h) (Or.inr ⟨by kernel_rfl, rfl⟩) (by assumption) ?restxa21
                      case' restxa21 => try simp only [Act.put, List.setIfInBounds_toArray, List.set_cons_zero, List.set_cons_succ]
                      refine wpAnyH_take (i := 21) (oi := ⟨some 111, _, _, _, _, _⟩) (v := undef) rfl (by kernel_rfl) (by kernel_rfl) (by kernel_rfl) (fun _ _ _ h => h) (Or.inr ⟨by kernel_rfl, rfl⟩) (by assumption) ?restxa22
                      case' restxa22 => try simp only [Act.put, List.setIfInBounds_toArray, List.set_cons_zero, List.set_cons_succ]
                      refine wpAnyH_take (i := 22) (oi := ⟨some 112, _, _, _, _, _⟩) (v := undef) rfl (by kernel_rfl) (by kernel_rfl) (by kernel_rfl) (fun _ _ _ h => h) (Or.inr ⟨by kernel_rfl, rfl⟩) (by assumption) ?restxa23
                      case' restxa23 => try simp only [Act.put, List.setIfInBounds_toArray, List.set_cons_zero, List.set_cons_succ]
                      refine wpAnyH_take (i := 23) (oi := ⟨some 113, _, _, _, _, _⟩) (v := undef) rfl (by kernel_rfl) (by kernel_rfl) (by kernel_rfl) (fun _ _ _ h => h) (Or.inr ⟨by kernel_rfl, rfl⟩) (by assumption) ?restxa24
                      case' restxa24 => try simp only [Act.put, List.setIfInBounds_toArray, List.set_cons_zero, List.set_cons_succ]
                      refine wpAnyH_take (i := 24) (oi := ⟨some 114, _, _, _, _, _⟩) (v := undef) rfl (by kernel_rfl) (by kernel_rfl) (by kernel_rfl) (fun _ _ _ h => h) (Or.inr ⟨by kernel_rfl, rfl⟩) (by assumption) ?restxa25
                      case' restxa25 => try simp only [Act.put, List.setIfInBounds_toArray, List.set_cons_zero, List.set_cons_succ]
                      refine wpAnyH_take (i := 25) (oi := ⟨some 115, _, _, _, _, _⟩) (v := undef) rfl (by kernel_rfl) (by kernel_rfl) (by kernel_rfl) (fun _ _ _ h => h) (Or.inr ⟨by kernel_rfl, rfl⟩) (by assumption) ?restxa26
                      case' restxa26 => try simp only [Act.put, List.setIfInBounds_toArray, List.set_cons_zero, List.set_cons_succ]
                      refine wpAnyH_take (i := 26) (oi := ⟨some 116, _, _, _, _, _⟩) (v := undef) rfl (by kernel_rfl) (by kernel_rfl) (by kernel_rfl) (fun _ _ _ h => h) (Or.inr ⟨by kernel_rfl, rfl⟩) (by assumption) ?restxa27
                      case' restxa27 => try simp only [Act.put, List.setIfInBounds_toArray, List.set_cons_zero, List.set_cons_succ]
                      refine wpAnyH_take (i := 27) (oi := ⟨some 117, _, _, _, _, _⟩) (v := undef) rfl (by kernel_rfl) (by kernel_rfl) (by kernel_rfl) (fun _ _ _ h => h) (Or.inr ⟨by kernel_rfl, rfl⟩) (by assumption) ?restxa28
                      case' restxa28 => try simp only [Act.put, List.setIfInBounds_toArray, List.set_cons_zero, List.set_cons_succ]
                      refine wpAnyH_take (i := 28) (oi := ⟨some 118, _, _, _, _, _⟩) (v := ?vxa29) rfl (by kernel_rfl) (by kernel_rfl) (by kernel_rfl) (fun _ _ _ h => h) (Or.inl ⟨by kernel_rfl, ?hyxa29⟩) (by assumption) ?restxa29
                      case hyxa29 => (intro W hSw; (try dsimp only at hSw); go_simp; try with_reducible rfl)
                      case' restxa29 => try simp only [Act.put, List.setIfInBounds_toArray, List.set_cons_zero, List.set_cons_succ]
                      refine wpAnyH_take (i := 29) (oi := ⟨some 8, _, _, _, _, _⟩) (v := ?vxa30) rfl (by kernel_rfl) (by kernel_rfl) (by kernel_rfl) (fun _ _ _ h => h) (Or.inl ⟨by kernel_rfl, ?hyxa30⟩) (by assumption) ?restxa30
                      case hyxa30 => (intro W hSw; (try dsimp only at hSw); go_simp; try with_reducible rfl)
                      case' restxa30 => try simp only [Act.put, List.setIfInBounds_toArray, List.set_cons_zero, List.set_cons_succ]
                      refine wpAnyH_done (by kernel_rfl) ?_ _
                      go_wp2
                      go_ret
                      exact RetV.bool (by rw [HE.out, HRES.out]; first | done | rfl | exact decide_eq_decide.2 (by omega)) (hbw.trans (hS1.mono hbw.size))
                  · by_cases heq3 : cx = cy
                    · as_aux_lemma =>
                        have d1 : decide (cx < cy) = false := decide_eq_false hlt3
                        have d2 : (cx == cy) = true := by simp [heq3]
                        have HRES : Hid (lexB l a b F = decide ((i1 : Int) < (i2 : Int))) := Lib.hid (HRAW.out.trans (costB_eq (by rw [HCX.out, HCY.out]; exact heq3)))
                        clear hlt3 heq3
                        go_wp2_with fail
                        refine wp_region_held_drew (S := fun W : World => Below wr.heap.size wr W) (by kernel_rfl) hS1 (fun hHeld => ?_)
                        clear hHeld
                        generalize wr.drew = wzxb at *
                        refine wpAnyH_take (i := 0) (oi := ⟨some 90, _, _, _, _, _⟩) (v := ?vxb1) rfl (by kernel_rfl) (by kernel_rfl) (by kernel_rfl) (fun _ _ _ h => h) (Or.inl ⟨by kernel_rfl, ?hyxb1⟩) (by assumption) ?restxb1
                        case hyxb1 => (intro W hSw; (try dsimp only at hSw); go_simp; try with_reducible rfl)
                        case' restxb1 => try simp only [Act.put, List.setIfInBounds_toArray, List.set_cons_zero, List.set_cons_succ]
                        refine wpAnyH_take (i := 1) (oi := ⟨some 91, _, _, _, _, _⟩) (v := ?vxb2) rfl (by kernel_rfl) (by kernel_rfl) (by kernel_rfl) (fun _ _ _ h => h) (Or.inl ⟨by kernel_rfl, ?hyxb2⟩) (by assumption) ?restxb2
                        case hyxb2 => (intro W hSw; (try dsimp only at hSw); go_simp; try with_reducible rfl)
                        case' restxb2 => try simp only [Act.put, List.setIfInBounds_toArray, List.set_cons_zero, List.set_cons_succ]
                        refine wpAnyH_take (i := 2) (oi := ⟨some 92, _, _, _, _, _⟩) (v := ?vxb3) rfl (by kernel_rfl) (by kernel_rfl) (by kernel_rfl) (fun _ _ _ h => h) (Or.inl ⟨by kernel_rfl, ?hyxb3⟩) (by assumption) ?restxb3
                        case hyxb3 => (intro W hSw; (try dsimp only at hSw); go_simp; try with_reducible rfl)
                        case' restxb3 => try simp only [Act.put, List.setIfInBounds_toArray, List.set_cons_zero, List.set_cons_succ]
                        refine wpAnyH_take (i := 3) (oi := ⟨some 93, _, _, _, _, _⟩) (v := ?vxb4) rfl (by kernel_rfl) (by kernel_rfl) (by kernel_rfl) (fun _ _ _ h => h) (Or.inl ⟨by kernel_rfl, ?hyxb4⟩) (by assumption) ?restxb4
                        case hyxb4 => (intro W hSw; (try dsimp only at hSw); go_simp; try with_reducible rfl)
                        case' restxb4 => try simp only [Act.put, List.setIfInBounds_toArray, List.set_cons_zero, List.set_cons_succ]
                        refine wpAnyH_take (i := 4) (oi := ⟨some 94, _, _, _, _, _⟩) (v := ?vxb5) rfl (by kernel_rfl) (by kernel_rfl) (by kernel_rfl) (fun _ _ _ h => h) (Or.inl ⟨by kernel_rfl, ?hyxb5⟩) (by assumption) ?restxb5
                        case hyxb5 => (intro W hSw; have gq := HC1.out W hSw; (try dsimp only at hSw); go_simp; try with_reducible rfl)
                        case' restxb5 => try simp only [Act.put, List.setIfInBounds_toArray, List.set_cons_zero, List.set_cons_succ]
                        refine wpAnyH_take (i := 5) (oi := ⟨some 95, _, _, _, _, _⟩) (v := ?vxb6) rfl (by kernel_rfl) (by kernel_rfl) (by kernel_rfl) (fun _ _ _ h => h) (Or.inl ⟨by kernel_rfl, ?hyxb6⟩) (by assumption) ?restxb6
                        case hyxb6 => (intro W hSw; (try dsimp only at hSw); go_simp; try with_reducible rfl)
                        case' restxb6 => try simp only [Act.put, List.setIfInBounds_toArray, List.set_cons_zero, List.set_cons_succ]
                        refine wpAnyH_take (i := 6) (oi := ⟨some 96, _, _, _, _, _⟩) (v := ?vxb7) rfl (by kernel_rfl) (by kernel_rfl) (by kernel_rfl) (fun _ _ _ h => h) (Or.inl ⟨by kernel_rfl, ?hyxb7⟩) (by assumption) ?restxb7
                        case hyxb7 => (intro W hSw; (try dsimp only at hSw); go_simp; try with_reducible rfl)
                        case' restxb7 => try simp only [Act.put, List.setIfInBounds_toArray, List.set_cons_zero, List.set_cons_succ]
                        refine wpAnyH_take (i := 7) (oi := ⟨some 97, _, _, _, _, _⟩) (v := ?vxb8) rfl (by kernel_rfl) (by kernel_rfl) (by kernel_rfl) (fun _ _ _ h => h) (Or.inl ⟨by kernel_rfl, ?hyxb8⟩) (by assumption) ?restxb8
                        case hyxb8 => (intro W hSw; (try dsimp only at hSw); go_simp; try with_reducible rfl)
                        case' restxb8 => try simp only [Act.put, List.setIfInBounds_toArray, List.set_cons_zero, List.set_cons_succ]
                        refine wpAnyH_take (i := 8) (oi := ⟨some 98, _, _, _, _, _⟩) (v := ?vxb9) rfl (by kernel_rfl) (by kernel_rfl) (by kernel_rfl) (fun _ _ _ h => h) (Or.inl ⟨by kernel_rfl, ?hyxb9⟩) (by assumption) ?restxb9
                        case hyxb9 => (intro W hSw; (try dsimp only at hSw); go_simp; try with_reducible rfl)
                        case' restxb9 => try simp only [Act.put, List.setIfInBounds_toArray, List.set_cons_zero, List.set_cons_succ]
                        refine wpAnyH_take (i := 9) (oi := ⟨some 99, _, _, _, _, _⟩) (v := ?vxb10) rfl (by kernel_rfl) (by kernel_rfl) (by kernel_rfl) (fun _ _ _ h => h) (Or.inl ⟨by kernel_rfl, ?hyxb10⟩) (by assumption) ?restxb10
                        case hyxb10 => (intro W hSw; have gq := HC2.out W hSw; (try dsimp only at hSw); go_simp; try with_reducible rfl)
                        case' restxb10 => try simp only [Act.put, List.setIfInBounds_toArray, List.set_cons_zero, List.set_cons_succ]
                        refine wpAnyH_take (i := 10) (oi := ⟨some 100, _, _, _, _, _⟩) (v := ?vxb11) rfl (by kernel_rfl) (by kernel_rfl) (by kernel_rfl) (fun _ _ _ h => h) (Or.inl ⟨by kernel_rfl, ?hyxb11⟩) (by assumption) ?restxb11
                        case hyxb11 => (intro W hSw; (try dsimp only at hSw); go_simp; try with_reducible rfl)
                        case' restxb11 => try simp only [Act.put, List.setIfInBounds_toArray, List.set_cons_zero, List.set_cons_succ]
                        refine wpAnyH_take (i := 11) (oi := ⟨some 101, _, _, _, _, _⟩) (v := ?vxb12) rfl (by kernel_rfl) (by kernel_rfl) (by kernel_rfl) (fun _ _ _ h => h) (Or.inl ⟨by kernel_rfl, ?hyxb12⟩) (by assumption) ?restxb12
                        case hyxb12 => (intro W hSw; (try dsimp only at hSw); go_simp; try with_reducible rfl)
                        case' restxb12 => try simp only [Act.put, List.setIfInBounds_toArray, List.set_cons_zero, List.set_cons_succ]
                        refine wpAnyH_take (i := 12) (oi := ⟨some 102, _, _, _, _, _⟩) (v := ?vxb13) rfl (by kernel_rfl) (by kernel_rfl) (by kernel_rfl) (fun _ _ _ h => h) (Or.inl ⟨by kernel_rfl, ?hyxb13⟩) (by assumption) ?restxb13
                        case hyxb13 => (intro W hSw; (try dsimp only at hSw); go_simp; try with_reducible rfl)
                        case' restxb13 => try simp only [Act.put, List.setIfInBounds_toArray, List.set_cons_zero, List.set_cons_succ]
                        refine wpAnyH_take (i := 13) (oi := ⟨some 103, _, _, _, _, _⟩) (v := ?vxb14) rfl (by kernel_rfl) (by kernel_rfl) (by kernel_rfl) (fun _ _ _ h => h) (Or.inl ⟨by kernel_rfl, ?hyxb14⟩) (by assumption) ?restxb14
                        case hyxb14 => (intro W hSw; (try dsimp only at hSw); go_simp; try with_reducible rfl)
                        case' restxb14 => try simp only [Act.put, List.setIfInBounds_toArray, List.set_cons_zero, List.set_cons_succ]
                        refine wpAnyH_take (i := 14) (oi := ⟨some 104, _, _, _, _, _⟩) (v := ?vxb15) rfl (by kernel_rfl) (by kernel_rfl) (by kernel_rfl) (fun _ _ _ h => h) (Or.inl ⟨by kernel_rfl, ?hyxb15⟩) (by assumption) ?restxb15
                        case hyxb15 => (intro W hSw; (try dsimp only at hSw); go_simp; try with_reducible rfl)
                        case' restxb15 => try simp only [Act.put, List.setIfInBounds_toArray, List.set_cons_zero, List.set_cons_succ]
                        refine wpAnyH_take (i := 15) (oi := ⟨some 105, _, _, _, _, _⟩) (v := ?vxb16) rfl (by kernel_rfl) (by kernel_rfl) (by kernel_rfl) (fun _ _ _ h => h) (Or.inl ⟨by kernel_rfl, ?hyxb16⟩) (by assumption) ?restxb16
                        case hyxb16 => (intro W hSw; (try dsimp only at hSw); go_simp; try with_reducible rfl)
                        case' restxb16 => try simp only [Act.put, List.setIfInBounds_toArray, List.set_cons_zero, List.set_cons_succ]
                        refine wpAnyH_take (i := 16) (oi := ⟨some 106, _, _, _, _, _⟩) (v := ?vxb17) rfl (by kernel_rfl) (by kernel_rfl) (by kernel_rfl) (fun _ _ _ h => h) (Or.inl ⟨by kernel_rfl, ?hyxb17⟩) (by assumption) ?restxb17
                        case hyxb17 => (intro W hSw; have gq := HC1.out W hSw; (try dsimp only at hSw); go_simp; try with_reducible rfl)
                        case' restxb17 => try simp only [Act.put, List.setIfInBounds_toArray, List.set_cons_zero, List.set_cons_succ]
                        refine wpAnyH_take (i := 17) (oi := ⟨some 107, _, _, _, _, _⟩) (v := ?vxb18) rfl (by kernel_rfl) (by kernel_rfl) (by kernel_rfl) (fun _ _ _ h => h) (Or.inl ⟨by kernel_rfl, ?hyxb18⟩) (by assumption) ?restxb18
                        case hyxb18 => (intro W hSw; (try dsimp only at hSw); go_simp; try with_reducible rfl)
                        case' restxb18 => try simp only [Act.put, List.setIfInBounds_toArray, List.set_cons_zero, List.set_cons_succ]
                        refine wpAnyH_take (i := 18) (oi := ⟨some 108, _, _, _, _, _⟩) (v := ?vxb19) rfl (by kernel_rfl) (by kernel_rfl) (by kernel_rfl) (fun _ _ _ h => h) (Or.inl ⟨by kernel_rfl, ?hyxb19⟩) (by assumption) ?restxb19
                        case hyxb19 => (intro W hSw; (try dsimp only at hSw); go_simp; try with_reducible rfl)
                        case' restxb19 => try simp only [Act.put, List.setIfInBounds_toArray, List.set_cons_zero, List.set_cons_succ]
                        refine wpAnyH_take (i := 19) (oi := ⟨some 109, _, _, _, _, _⟩) (v := ?vxb20) rfl (by kernel_rfl) (by kernel_rfl) (by kernel_rfl) (fun _ _ _ h => h) (Or.inl ⟨by kernel_rfl, ?hyxb20⟩) (by assumption) ?restxb20
                        case hyxb20 => (intro W hSw; (try dsimp only at hSw); go_simp; try with_reducible rfl)
                        case' restxb20 => try simp only [Act.put, List.setIfInBounds_toArray, List.set_cons_zero, List.set_cons_succ]
                        refine wpAnyH_take (i := 20) (oi := ⟨some 110, _, _, _, _, _⟩) (v := ?vxb21) rfl (by kernel_rfl) (by kernel_rfl) (by kernel_rfl) (fun _ _ _ h => h) (Or.inl ⟨by kernel_rfl, ?hyxb21⟩) (by assumption) ?restxb21
                        case hyxb21 => (intro W hSw; (try dsimp only at hSw); go_simp; try with_reducible rfl)
                        case' restxb21 => try simp only [Act.put, List.setIfInBounds_toArray, List.set_cons_zero, List.set_cons_succ]
                        refine wpAnyH_take (i := 21) (oi := ⟨some 111, _, _, _, _, _⟩) (v := ?vxb22) rfl (by kernel_rfl) (by kernel_rfl) (by kernel_rfl) (fun _ _ _ h => h) (Or.inl ⟨by kernel_rfl, ?hyxb22⟩) (by assumption) ?restxb22
                        case hyxb22 => (intro W hSw; have gq := HC2.out W hSw; (try dsimp only at hSw); go_simp; try with_reducible rfl)
                        case' restxb22 => try simp only [Act.put, List.setIfInBounds_toArray, List.set_cons_zero, List.set_cons_succ]
                        refine wpAnyH_take (i := 22) (oi := ⟨some 112, _, _, _, _, _⟩) (v := ?vxb23) rfl (by kernel_rfl) (by kernel_rfl) (by kernel_rfl) (fun _ _ _ h => h) (Or.inl ⟨by kernel_rfl, ?hyxb23⟩) (by assumption) ?restxb23
                        case hyxb23 => (intro W hSw; (try dsimp only at hSw); go_simp; try with_reducible rfl)
                        case' restxb23 => try simp only [Act.put, List.setIfInBounds_toArray, List.set_cons_zero, List.set_cons_succ]
                        refine wpAnyH_take (i := 23) (oi := ⟨some 113, _, _, _, _, _⟩) (v := ?vxb24) rfl (by kernel_rfl) (by kernel_rfl) (by kernel_rfl) (fun _ _ _ h => h) (Or.inl ⟨by kernel_rfl, ?hyxb24⟩) (by assumption) ?restxb24
                        case hyxb24 => (intro W hSw; (try dsimp only at hSw); go_simp; try with_reducible rfl)
                        case' restxb24 => try simp only [Act.put, List.setIfInBounds_toArray, List.set_cons_zero, List.set_cons_succ]
                        refine wpAnyH_take (i := 24) (oi := ⟨some 114, _, _, _, _, _⟩) (v := ?vxb25) rfl (by kernel_rfl) (by kernel_rfl) (by kernel_rfl) (fun _ _ _ h => h) (Or.inl ⟨by kernel_rfl, ?hyxb25⟩) (by assumption) ?restxb25
                        case hyxb25 => (intro W hSw; (try dsimp only at hSw); go_simp; try with_reducible rfl)
                        case' restxb25 => try simp only [Act.put, List.setIfInBounds_toArray, List.set_cons_zero, List.set_cons_succ]
                        refine wpAnyH_take (i := 25) (oi := ⟨some 115, _, _, _, _, _⟩) (v := ?vxb26) rfl (by kernel_rfl) (by kernel_rfl) (by kernel_rfl) (fun _ _ _ h => h) (Or.inl ⟨by kernel_rfl, ?hyxb26⟩) (by assumption) ?restxb26
                        case hyxb26 => (intro W hSw; (try dsimp only at hSw); go_simp; try with_reducible rfl)
                        case' restxb26 => try simp only [Act.put, List.setIfInBounds_toArray, List.set_cons_zero, List.set_cons_succ]
                        refine wpAnyH_take (i := 26) (oi := ⟨some 116, _, _, _, _, _⟩) (v := ?vxb27) rfl (by kernel_rfl) (by kernel_rfl) (by kernel_rfl) (fun _ _ _ h => h) (Or.inl ⟨by kernel_rfl, ?hyxb27⟩) (by assumption) ?restxb27
                        case hyxb27 => (intro W hSw; (try dsimp only at hSw); go_simp; try with_reducible rfl)
                        case' restxb27 => try simp only [Act.put, List.setIfInBounds_toArray, List.set_cons_zero, List.set_cons_succ]
                        refine wpAnyH_take (i := 27) (oi := ⟨some 117, _, _, _, _, _⟩) (v := ?vxb28) rfl (by kernel_rfl) (by kernel_rfl) (by kernel_rfl) (fun _ _ _ h => h) (Or.inl ⟨by kernel_rfl, ?hyxb28⟩) (by assumption) ?restxb28
                        case hyxb28 => (intro W hSw; (try dsimp only at hSw); go_simp; try with_reducible rfl)
                        case' restxb28 => try simp only [Act.put, List.setIfInBounds_toArray, List.set_cons_zero, List.set_cons_succ]
                        refine wpAnyH_take (i := 28) (oi := ⟨some 118, _, _, _, _, _⟩) (v := ?vxb29) rfl (by kernel_rfl) (by kernel_rfl) (by kernel_rfl) (fun _ _ _ h => h) (Or.inl ⟨by kernel_rfl, ?hyxb29⟩) (by assumption) ?restxb29
                        case hyxb29 => (intro W hSw; (try dsimp only at hSw); go_simp; try with_reducible rfl)
                        case' restxb29 => try simp only [Act.put, List.setIfInBounds_toArray, List.set_cons_zero, List.set_cons_succ]
                        refine wpAnyH_take (i := 29) (oi := ⟨some 8, _, _, _, _, _⟩) (v := ?vxb30) rfl (by kernel_rfl) (by kernel_rfl) (by kernel_rfl) (fun _ _ _ h => h) (Or.inl ⟨by kernel_rfl, ?hyxb30⟩) (by assumption) ?restxb30
                        case hyxb30 => (intro W hSw; (try dsimp only at hSw); go_simp; try with_reducible rfl)
                        case' restxb30 => try simp only [Act.put, List.setIfInBounds_toArray, List.set_cons_zero, List.set_cons_succ]
                        refine wpAnyH_done (by kernel_rfl) ?_ _
                        go_wp2
                        go_ret
                        exact RetV.bool (by rw [HE.out, HRES.out]; first | done | rfl | exact decide_eq_decide.2 (by omega)) (hbw.trans (hS1.mono hbw.size))
                    · as_aux_lemma =>
                        have d1 : decide (cx < cy) = false := decide_eq_false hlt3
                        have d2 : (cx == cy) = false := by simp [heq3]
                        have HRES : Hid (lexB l a b F = false) := Lib.hid (HRAW.out.trans (costB_gt (by rw [HCX.out, HCY.out]; omega)))
                        clear hlt3 heq3
                        go_wp2_with fail
                        refine wp_region_held_drew (S := fun W : World => Below wr.heap.size wr W) (by kernel_rfl) hS1 (fun hHeld => ?_)
                        clear hHeld
                        generalize wr.drew = wzxc at *
                        refine wpAnyH_take (i := 0) (oi := ⟨some 90, _, _, _, _, _⟩) (v := ?vxc1) rfl (by kernel_rfl) (by kernel_rfl) (by kernel_rfl) (fun _ _ _ h => h) (Or.inl ⟨by kernel_rfl, ?hyxc1⟩) (by assumption) ?restxc1
                        case hyxc1 => (intro W hSw; (try dsimp only at hSw); go_simp; try with_reducible rfl)
                        case' restxc1 => try simp only [Act.put, List.setIfInBounds_toArray, List.set_cons_zero, List.set_cons_succ]
                        refine wpAnyH_take (i := 1) (oi := ⟨some 91, _, _, _, _, _⟩) (v := ?vxc2) rfl (by kernel_rfl) (by kernel_rfl) (by kernel_rfl) (fun _ _ _ h => h) (Or.inl ⟨by kernel_rfl, ?hyxc2⟩) (by assumption) ?restxc2
                        case hyxc2 => (intro W hSw; (try dsimp only at hSw); go_simp; try with_reducible rfl)
                        case' restxc2 => try simp only [Act.put, List.setIfInBounds_toArray, List.set_cons_zero, List.set_cons_succ]
                        refine wpAnyH_take (i := 2) (oi := ⟨some 92, _, _, _, _, _⟩) (v := ?vxc3) rfl (by kernel_rfl) (by kernel_rfl) (by kernel_rfl) (fun _ _ _ h => h) (Or.inl ⟨by kernel_rfl, ?hyxc3⟩) (by assumption) ?restxc3
                        case hyxc3 => (intro W hSw; (try dsimp only at hSw); go_simp; try with_reducible rfl)
                        case' restxc3 => try simp only [Act.put, List.setIfInBounds_toArray, List.set_cons_zero, List.set_cons_succ]
                        refine wpAnyH_take (i := 3) (oi := ⟨some 93, _, _, _, _, _⟩) (v := ?vxc4) rfl (by kernel_rfl) (by kernel_rfl) (by kernel_rfl) (fun _ _ _ h => h) (Or.inl ⟨by kernel_rfl, ?hyxc4⟩) (by assumption) ?restxc4
                        case hyxc4 => (intro W hSw; (try dsimp only at hSw); go_simp; try with_reducible rfl)
                        case' restxc4 => try simp only [Act.put, List.setIfInBounds_toArray, List.set_cons_zero, List.set_cons_succ]
                        refine wpAnyH_take (i := 4) (oi := ⟨some 94, _, _, _, _, _⟩) (v := ?vxc5) rfl (by kernel_rfl) (by kernel_rfl) (by kernel_rfl) (fun _ _ _ h => h) (Or.inl ⟨by kernel_rfl, ?hyxc5⟩) (by assumption) ?restxc5
                        case hyxc5 => (intro W hSw; have gq := HC1.out W hSw; (try dsimp only at hSw); go_simp; try with_reducible rfl)
                        case' restxc5 => try simp only [Act.put, List.setIfInBounds_toArray, List.set_cons_zero, List.set_cons_succ]
                        refine wpAnyH_take (i := 5) (oi := ⟨some 95, _, _, _, _, _⟩) (v := ?vxc6) rfl (by kernel_rfl) (by kernel_rfl) (by kernel_rfl) (fun _ _ _ h => h) (Or.inl ⟨by kernel_rfl, ?hyxc6⟩) (by assumption) ?restxc6
                        case hyxc6 => (intro W hSw; (try dsimp only at hSw); go_simp; try with_reducible rfl)
                        case' restxc6 => try simp only [Act.put, List.setIfInBounds_toArray, List.set_cons_zero, List.set_cons_succ]
                        refine wpAnyH_take (i := 6) (oi := ⟨some 96, _, _, _, _, _⟩) (v := ?vxc7) rfl (by kernel_rfl) (by kernel_rfl) (by kernel_rfl) (fun _ _ _ h => h) (Or.inl ⟨by kernel_rfl, ?hyxc7⟩) (by assumption) ?restxc7
                        case hyxc7 => (intro W hSw; (try dsimp only at hSw); go_simp; try with_reducible rfl)
                        case' restxc7 => try simp only [Act.put, List.setIfInBounds_toArray, List.set_cons_zero, List.set_cons_succ]
                        refine wpAnyH_take (i := 7) (oi := ⟨some 97, _, _, _, _, _⟩) (v := ?vxc8) rfl (by kernel_rfl) (by kernel_rfl) (by kernel_rfl) (fun _ _ _ h => h) (Or.inl ⟨by kernel_rfl, ?hyxc8⟩) (by assumption) ?restxc8
                        case hyxc8 => (intro W hSw; (try dsimp only at hSw); go_simp; try with_reducible rfl)
                        case' restxc8 => try simp only [Act.put, List.setIfInBounds_toArray, List.set_cons_zero, List.set_cons_succ]
                        refine wpAnyH_take (i := 8) (oi := ⟨some 98, _, _, _, _, _⟩) (v := ?vxc9) rfl (by kernel_rfl) (by kernel_rfl) (by kernel_rfl) (fun _ _ _ h => h) (Or.inl ⟨by kernel_rfl, ?hyxc9⟩) (by assumption) ?restxc9
                        case hyxc9 => (intro W hSw; (try dsimp only at hSw); go_simp; try with_reducible rfl)
                        case' restxc9 => try simp only [Act.put, List.setIfInBounds_toArray, List.set_cons_zero, List.set_cons_succ]
                        refine wpAnyH_take (i := 9) (oi := ⟨some 99, _, _, _, _, _⟩) (v := ?vxc10) rfl (by kernel_rfl) (by kernel_rfl) (by kernel_rfl) (fun _ _ _ h => h) (Or.inl ⟨by kernel_rfl, ?hyxc10⟩) (by assumption) ?restxc10
                        case hyxc10 => (intro W hSw; have gq := HC2.out W hSw; (try dsimp only at hSw); go_simp; try with_reducible rfl)
                        case' restxc10 => try simp only [Act.put, List.setIfInBounds_toArray, List.set_cons_zero, List.set_cons_succ]
                        refine wpAnyH_take (i := 10) (oi := ⟨some 100, _, _, _, _, _⟩) (v := ?vxc11) rfl (by kernel_rfl) (by kernel_rfl) (by kernel_rfl) (fun _ _ _ h => h) (Or.inl ⟨by kernel_rfl, ?hyxc11⟩) (by assumption) ?restxc11
                        case hyxc11 => (intro W hSw; (try dsimp only at hSw); go_simp; try with_reducible rfl)
                        case' restxc11 => try simp only [Act.put, List.setIfInBounds_toArray, List.set_cons_zero, List.set_cons_succ]
                        refine wpAnyH_take (i := 11) (oi := ⟨some 101, _, _, _, _, _⟩) (v := ?vxc12) rfl (by kernel_rfl) (by kernel_rfl) (by kernel_rfl) (fun _ _ _ h => h) (Or.inl ⟨by kernel_rfl, ?hyxc12⟩) (by assumption) ?restxc12
                        case hyxc12 => (intro W hSw; (try dsimp only at hSw); go_simp; try with_reducible rfl)
                        case' restxc12 => try simp only [Act.put, List.setIfInBounds_toArray, List.set_cons_zero, List.set_cons_succ]
                        refine wpAnyH_take (i := 12) (oi := ⟨some 102, _, _, _, _, _⟩) (v := ?vxc13) rfl (by kernel_rfl) (by kernel_rfl) (by kernel_rfl) (fun _ _ _ h => h) (Or.inl ⟨by kernel_rfl, ?hyxc13⟩) (by assumption) ?restxc13
                        case hyxc13 => (intro W hSw; (try dsimp only at hSw); go_simp; try with_reducible rfl)
                        case' restxc13 => try simp only [Act.put, List.setIfInBounds_toArray, List.set_cons_zero, List.set_cons_succ]
                        refine wpAnyH_take (i := 13) (oi := ⟨some 103, _, _, _, _, _⟩) (v := ?vxc14) rfl (by kernel_rfl) (by kernel_rfl) (by kernel_rfl) (fun _ _ _ h => h) (Or.inl ⟨by kernel_rfl, ?hyxc14⟩) (by assumption) ?restxc14
                        case hyxc14 => (intro W hSw; (try dsimp only at hSw); go_simp; try with_reducible rfl)
                        case' restxc14 => try simp only [Act.put, List.setIfInBounds_toArray, List.set_cons_zero, List.set_cons_succ]
                        refine wpAnyH_take (i := 14) (oi := ⟨some 104, _, _, _, _, _⟩) (v := ?vxc15) rfl (by kernel_rfl) (by kernel_rfl) (by kernel_rfl) (fun _ _ _ h => h) (Or.inl ⟨by kernel_rfl, ?hyxc15⟩) (by assumption) ?restxc15
                        case hyxc15 => (intro W hSw; (try dsimp only at hSw); go_simp; try with_reducible rfl)
                        case' restxc15 => try simp only [Act.put, List.setIfInBounds_toArray, List.set_cons_zero, List.set_cons_succ]
                        refine wpAnyH_take (i := 15) (oi := ⟨some 105, _, _, _, _, _⟩) (v := ?vxc16) rfl (by kernel_rfl) (by kernel_rfl) (by kernel_rfl) (fun _ _ _ h => h) (Or.inl ⟨by kernel_rfl, ?hyxc16⟩) (by assumption) ?restxc16
                        case hyxc16 => (intro W hSw; (try dsimp only at hSw); go_simp; try with_reducible rfl)
                        case' restxc16 => try simp only [Act.put, List.setIfInBounds_toArray, List.set_cons_zero, List.set_cons_succ]
                        refine wpAnyH_take (i := 16) (oi := ⟨some 106, _, _, _, _, _⟩) (v := ?vxc17) rfl (by kernel_rfl) (by kernel_rfl) (by kernel_rfl) (fun _ _ _ h => h) (Or.inl ⟨by kernel_rfl, ?hyxc17⟩) (by assumption) ?restxc17
                        case hyxc17 => (intro W hSw; have gq := HC1.out W hSw; (try dsimp only at hSw); go_simp; try with_reducible rfl)
                        case' restxc17 => try simp only [Act.put, List.setIfInBounds_toArray, List.set_cons_zero, List.set_cons_succ]
                        refine wpAnyH_take (i := 17) (oi := ⟨some 107, _, _, _, _, _⟩) (v := ?vxc18) rfl (by kernel_rfl) (by kernel_rfl) (by kernel_rfl) (fun _ _ _ h => h) (Or.inl ⟨by kernel_rfl, ?hyxc18⟩) (by assumption) ?restxc18
                        case hyxc18 => (intro W hSw; (try dsimp only at hSw); go_simp; try with_reducible rfl)
                        case' restxc18 => try simp only [Act.put, List.setIfInBounds_toArray, List.set_cons_zero, List.set_cons_succ]
                        refine wpAnyH_take (i := 18) (oi := ⟨some 108, _, _, _, _, _⟩) (v := ?vxc19) rfl (by kernel_rfl) (by kernel_rfl) (by kernel_rfl) (fun _ _ _ h => h) (Or.inl ⟨by kernel_rfl, ?hyxc19⟩) (by assumption) ?restxc19
                        case hyxc19 => (intro W hSw; (try dsimp only at hSw); go_simp; try with_reducible rfl)
                        case' restxc19 => try simp only [Act.put, List.setIfInBounds_toArray, List.set_cons_zero, List.set_cons_succ]
                        refine wpAnyH_take (i := 19) (oi := ⟨some 109, _, _, _, _, _⟩) (v := ?vxc20) rfl (by kernel_rfl) (by kernel_rfl) (by kernel_rfl) (fun _ _ _ h => h) (Or.inl ⟨by kernel_rfl, ?hyxc20⟩) (by assumption) ?restxc20
                        case hyxc20 => (intro W hSw; (try dsimp only at hSw); go_simp; try with_reducible rfl)
                        case' restxc20 => try simp only [Act.put, List.setIfInBounds_toArray, List.set_cons_zero, List.set_cons_succ]
                        refine wpAnyH_take (i := 20) (oi := ⟨some 110, _, _, _, _, _⟩) (v := ?vxc21) rfl (by kernel_rfl) (by kernel_rfl) (by kernel_rfl) (fun _ _ _ h => h) (Or.inl ⟨by kernel_rfl, ?hyxc21⟩) (by assumption) ?restxc21
                        case hyxc21 => (intro W hSw; (try dsimp only at hSw); go_simp; try with_reducible rfl)
                        case' restxc21 => try simp only [Act.put, List.setIfInBounds_toArray, List.set_cons_zero, List.set_cons_succ]
                        refine wpAnyH_take (i := 21) (oi := ⟨some 111, _, _, _, _, _⟩) (v := ?vxc22) rfl (by kernel_rfl) (by kernel_rfl) (by kernel_rfl) (fun _ _ _ h => h) (Or.inl ⟨by kernel_rfl, ?hyxc22⟩) (by assumption) ?restxc22
                        case hyxc22 => (intro W hSw; have gq := HC2.out W hSw; (try dsimp only at hSw); go_simp; try with_reducible rfl)
                        case' restxc22 => try simp only [Act.put, List.setIfInBounds_toArray, List.set_cons_zero, List.set_cons_succ]
                        refine wpAnyH_take (i := 22) (oi := ⟨some 112, _, _, _, _, _⟩) (v := ?vxc23) rfl (by kernel_rfl) (by kernel_rfl) (by kernel_rfl) (fun _ _ _ h => h) (Or.inl ⟨by kernel_rfl, ?hyxc23⟩) (by assumption) ?restxc23
                        case hyxc23 => (intro W hSw; (try dsimp only at hSw); go_simp; try with_reducible rfl)
                        case' restxc23 => try simp only [Act.put, List.setIfInBounds_toArray, List.set_cons_zero, List.set_cons_succ]
                        refine wpAnyH_take (i := 23) (oi := ⟨some 113, _, _, _, _, _⟩) (v := ?vxc24) rfl (by kernel_rfl) (by kernel_rfl) (by kernel_rfl) (fun _ _ _ h => h) (Or.inl ⟨by kernel_rfl, ?hyxc24⟩) (by assumption) ?restxc24
                        case hyxc24 => (intro W hSw; (try dsimp only at hSw); go_simp; try with_reducible rfl)
                        case' restxc24 => try simp only [Act.put, List.setIfInBounds_toArray, List.set_cons_zero, List.set_cons_succ]
                        refine wpAnyH_take (i := 24) (oi := ⟨some 114, _, _, _, _, _⟩) (v := undef) rfl (by kernel_rfl) (by kernel_rfl) (by kernel_rfl) (fun _ _ _ h => h) (Or.inr ⟨by kernel_rfl, rfl⟩) (by assumption) ?restxc25
                        case' restxc25 => try simp only [Act.put, List.setIfInBounds_toArray, List.set_cons_zero, List.set_cons_succ]
                        refine wpAnyH_take (i := 25) (oi := ⟨some 115, _, _, _, _, _⟩) (v := undef) rfl (by kernel_rfl) (by kernel_rfl) (by kernel_rfl) (fun _ _ _ h => h) (Or.inr ⟨by kernel_rfl, rfl⟩) (by assumption) ?restxc26
                        case' restxc26 => try simp only [Act.put, List.setIfInBounds_toArray, List.set_cons_zero, List.set_cons_succ]
                        refine wpAnyH_take (i := 26) (oi := ⟨some 116, _, _, _, _, _⟩) (v := undef) rfl (by kernel_rfl) (by kernel_rfl) (by kernel_rfl) (fun _ _ _ h => h) (Or.inr ⟨by kernel_rfl, rfl⟩) (by assumption) ?restxc27
                        case' restxc27 => try simp only [Act.put, List.setIfInBounds_toArray, List.set_cons_zero, List.set_cons_succ]
                        refine wpAnyH_take (i := 27) (oi := ⟨some 117, _, _, _, _, _⟩) (v := ?vxc28) rfl (by kernel_rfl) (by kernel_rfl) (by kernel_rfl) (fun _ _ _ h => h) (Or.inl ⟨by kernel_rfl, ?hyxc28⟩) (by assumption) ?restxc28
                        case hyxc28 => (intro W hSw; (try dsimp only at hSw); go_simp; try with_reducible rfl)
                        case' restxc28 => try simp only [Act.put, List.setIfInBounds_toArray, List.set_cons_zero, List.set_cons_succ]
                        refine wpAnyH_take (i := 28) (oi := ⟨some 118, _, _, _, _, _⟩) (v := ?vxc29) rfl (by kernel_rfl) (by kernel_rfl) (by kernel_rfl) (fun _ _ _ h => h) (Or.inl ⟨by kernel_rfl, ?hyxc29⟩) (by assumption) ?restxc29
                        case hyxc29 => (intro W hSw; (try dsimp only at hSw); go_simp; try with_reducible rfl)
                        case' restxc29 => try simp only [Act.put, List.setIfInBounds_toArray, List.set_cons_zero, List.set_cons_succ]
                        refine wpAnyH_take (i := 29) (oi := ⟨some 8, _, _, _, _, _⟩) (v := ?vxc30) rfl (by kernel_rfl) (by kernel_rfl) (by kernel_rfl) (fun _ _ _ h => h) (Or.inl ⟨by kernel_rfl, ?hyxc30⟩) (by assumption) ?restxc30
                        case hyxc30 => (intro W hSw; (try dsimp only at hSw); go_simp; try with_reducible rfl)
                        case' restxc30 => try simp only [Act.put, List.setIfInBounds_toArray, List.set_cons_zero, List.set_cons_succ]
                        refine wpAnyH_done (by kernel_rfl) ?_ _
                        go_wp2
                        go_ret
                        exact RetV.bool (by rw [HE.out, HRES.out]; first | done | rfl | exact decide_eq_decide.2 (by omega)) (hbw.trans (hS1.mono hbw.size))
        · obtain rfl : k = F.length := by omega
          have hd : decide (F.length < F.length) = false := decide_eq_false (by omega)
          have HN : Hid (lexB l a b F = false) := Lib.hid (by rw [hlex.out, List.drop_length]; rfl)
          go_wp2
          go_ret
          exact RetV.bool (by rw [HE.out, HN.out]) hbw
end Go.Proofs
