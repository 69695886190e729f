import Derived.Test.YtoknjlodhohioaaT16
set_option linter.unusedVariables false
set_option linter.unusedSimpArgs false
namespace Go.Proofs
open Go.RowKit Go.Proofs.Mp Go.Proofs.Uf Go.Maps

set_option maxHeartbeats 4000000 in
theorem clusters_any (A : Option Addr) (c : Nat) (l : List Cand) (w : World) (hcap : l.length ≤ c) (hmax : l.length ≤ 1000) (hR : Rd 8 encC w A l) (hwf : wfs (feats l)) :
    Calls Try.prog 17 #[.slice A l.length c] w (fun e w' => ∃ v, e = .returned v ∧ Nest 38 3 w' w.heap.size (fun _ => False) v (clS (Ed l) (setL (feats l))) ∧ Below w.heap.size w w') := by
  obtain ⟨i0, hi, hz0, hz1, hz2⟩ := Mp.info_parts Try.infoI
  have hmm := @run_makeMap Try.prog
  go_enter Try.func17, Try.ntmps17
  go_wp2_with (at_make; refine wpList_make_own _ rfl _ _ 38 rfl w.heap.size 3 i0 (.int .i64 0) 1 Try.underlying38 hi hz0 hz1 .i64 .i64 _ l.length rfl rfl rfl (by rw [hz2]; omega) (by unfold maxLen; omega) (Nat.le_refl _) ?_; intro w0 hown0 hgrow0)
  have hL0 := L1.start (l := l) hown0 hgrow0
  go_loopw [3, 26] (fun v i wr => ∃ k : Nat, k ≤ l.length ∧ i = .int .i64 k ∧ L1 w (w0.heap.size + 1) w0.heap.size l k v wr) (fun _ i _ => l.length - (intOf i).toNat)
  case atStart => exact ⟨0, by omega, rfl, hL0⟩
  case round =>
    obtain ⟨k, hk, rfl, hL⟩ := hrel
    by_cases hlt : k < l.length
    · obtain ⟨b, off, rfl, hb, c0, c1, c2, c3, c4, c5, c6, c7⟩ := RdC.get hR hL.2.2.2 hlt
      obtain ⟨hBn, hgn, hBl, hgl, hs, hav⟩ := hL.av
      have hwx := hwf _ (feats_get hlt)
      have hlen := feats_take_len l k
      obtain ⟨x, hx⟩ : ∃ x, l[k]! = x := ⟨_, rfl⟩
      have HX := Lib.hid hx
      rw [hx] at c0 c1 c2 c3 c4 c5 c6 c7 hwx
      clear hx
      have hownA := hL.1.alloc (.cells #[.int .i64 x.f, .int .i64 x.x0, .int .i64 x.y0, .int .i64 x.x1, .int .i64 x.y1, .int .i64 x.ax, .int .i64 x.ay, .int .i64 x.co] 27)
      go_wp2_with (first
        | (at_builtin; refine Mp.OwnA.append1 (enc := Mp.encI) 38 i0 (.int .i64 0) 8 Try.underlying38 hi hz0 hz1 hz2 rfl (by decide) (by decide) encI_len x.f (encI_one _) rfl _ _ rfl hownA (fun j hj => by have := hav j hj; simp; omega) rfl (by rw [alloc_size]; rfl) (by omega) (by simp; omega) ?_; clear hownA; intro v1 w1 hown1 hg1 hloc1; obtain ⟨hM1, hc1, hcs1⟩ := hL.mid hg1; have s0 := hcs1 0 (.int .i64 x.f) (by simp); clear hcs1)
        | (at_mapUpdate; refine MapF.store hM1 rfl _ _ _ rfl Try.underlying51 Try.underlying3 rfl x.f x.f rfl rfl hwx hwx (M := k + 1) (.inr (Nat.le_refl _)) (by unfold maxLen; omega) ?_; intro w2 hM2 hg2))
      go_roundw
      case rel => exact ⟨k + 1, by omega, by go_num, hL.step hlt (by omega) hgrow0.size (by rw [HX.out]; exact hown1) hg1 (by rw [HX.out]; exact hM2) hg2⟩
      case measure => simp [intOf]; omega
    · obtain rfl : k = l.length := by omega
      have hL2 := hL.done (by omega)
      obtain ⟨g, hg⟩ : ∃ g, w0.heap.size + 1 = g := ⟨_, rfl⟩
      obtain ⟨B, hB⟩ : ∃ B, w0.heap.size = B := ⟨_, rfl⟩
      have hgB : g ≠ B := by omega
      have hbB : w.heap.size ≤ B := by have := hgrow0.size; omega
      rw [hg, hB] at hL2 ⊢
      clear hL hL0 hg hB hown0 hgrow0
      go_wp2_with fail
      have hLs := hL2.2.2.size
      go_loopw [44] (fun i wq => ∃ k : Nat, k ≤ l.length ∧ i = .int .i64 k ∧ L2 w g B l k 0 u3 wq) (fun i _ => l.length - (intOf i).toNat)
      case atStart => exact ⟨0, by omega, rfl, hL2⟩
      case round =>
        clear hL2
        obtain ⟨k, hk, rfl, hL⟩ := hrel
        by_cases hlt : k < l.length
        · obtain ⟨b, off, rfl, hb, c0, c1, c2, c3, c4, c5, c6, c7⟩ := RdC.get hR hL.2.2 hlt
          obtain ⟨x, hx⟩ : ∃ x, l[k]! = x := ⟨_, rfl⟩
          have hxF := feats_get hlt
          have HX := Lib.hid hx
          rw [hx] at c0 c1 c2 c3 c4 c5 c6 c7 hxF
          clear hx
          have hA0 := CandAt.new wr x
          have hL0 := hL.none (World.grownBy_alloc wr (candObj x) _) hL.2.2.size
          have hgl : g < wr.heap.size ∧ B < wr.heap.size := by obtain ⟨_, ⟨ρ, h, _⟩, _⟩ := hL; exact h.block
          go_wp2_with fail
          obtain ⟨xb, hxb⟩ : ∃ q, wr.heap.size = q := ⟨_, rfl⟩
          rw [hxb] at hA0 hgl ⊢
          have hxg : xb ≠ g := by omega
          have hxB : xb ≠ B := by omega
          clear hxb hL c0 c1 c2 c3 c4 c5 c6 c7
          go_loopw [53] (fun j wr => ∃ m : Nat, m ≤ k ∧ j = .int .i64 m ∧ L2 w g B l k m u3 wr ∧ CandAt wr xb x) (fun j _ => k - (intOf j).toNat)
          case atStart => exact ⟨0, by omega, rfl, hL0, hA0⟩
          case round =>
            clear hL0 hA0
            obtain ⟨m, hm, rfl, hL, hA⟩ := hrel
            by_cases hlt2 : m < k
            · obtain ⟨_, c0, c1, c2, c3, c4, c5, c6, c7⟩ := RdC.cells hR hL.2.2 (show m < l.length by omega)
              obtain ⟨y, hy⟩ : ∃ y, l[m]! = y := ⟨_, rfl⟩
              have hyF := feats_get (show m < l.length by omega)
              have HY := Lib.hid hy
              rw [hy] at c0 c1 c2 c3 c4 c5 c6 c7 hyF
              clear hy
              have hbs := hL.2.2.size
              have hAl := hA.lt
              obtain ⟨a0, a1, a2, a3, a4, a5, a6, a7⟩ := hA
              have hA : CandAt wr xb x := ⟨a0, a1, a2, a3, a4, a5, a6, a7⟩
              have HA := Lib.hid hA
              clear hA
              go_wp2_with fail
              refine (ov_hit x y _).mono ?_
              rintro e w1 ⟨rfl, hb1⟩
              have hg1 : wr.grownBy w1 none := (World.grownBy_alloc wr _ _).trans (below_gr hb1)
              have hL1 := hL.none hg1 hbs
              have hA1 := HA.out.kept hg1 (by simp)
              rcases hh : hitB x y with _ | _
              · have HH := Lib.hid hh
                clear hh
                go_wp2
                go_roundw
                case rel => exact ⟨m + 1, by omega, by go_num, ⟨hL1.1, by obtain ⟨ρ, q1, q2⟩ := hL1.2.1; exact ⟨ρ, q1, q2.iff (edTo_miss (by rw [HX.out, HY.out]; exact HH.out))⟩, hL1.2.2⟩, hA1⟩
                case measure => simp [intOf]; omega
              · have HH := Lib.hid hh
                clear hh
                obtain ⟨hOw, ⟨ρ, hG, hS⟩, hBl⟩ := hL1
                have hY1 : CandAt w1 wr.heap.size y := (CandAt.new wr y).kept (below_gr hb1) (by simp)
                obtain ⟨yb, hyb⟩ : ∃ q, wr.heap.size = q := ⟨_, rfl⟩
                have hgl1 := hL.2.1
                have hyB : yb ≠ B := by obtain ⟨ρ', h', _⟩ := hgl1; have := h'.block; omega
                rw [hyb] at hY1 ⊢
                have hS0 : w1.drew.cell? ⟨xb, 0, none⟩ = some (.int .i64 x.f) ∧ w1.drew.cell? ⟨yb, 0, none⟩ = some (.int .i64 y.f) ∧ HS w1 g B l.length (feats l) ρ xb yb x.f y.f w1.drew :=
                  ⟨hA1.1, hY1.1, hG.kept (grown_drew w1 none) (by simp) (by simp), grown_drew w1 _, hA1.lt, hY1.lt, hxB, hyB⟩
                have hNm : l.length ≤ 1000000 := by omega
                clear c0 c1 c2 c3 c4 c5 c6 c7 a0 a1 a2 a3 a4 a5 a6 a7 HA hgl1 hyb hb1
                go_wp2_with fail
                go_region_held3 (fun w' => w'.cell? ⟨xb, 0, none⟩ = some (.int .i64 x.f) ∧ w'.cell? ⟨yb, 0, none⟩ = some (.int .i64 y.f) ∧ HS w1 g B l.length (feats l) ρ xb yb x.f y.f w') (first | exact hS2 | exact hS0)
                  ((go_at_call 28; refine (first_step g B _ _ ρ hwf hNm w1 xb yb _ _ _ (by first | exact hxF | exact hyF) _ (by first | exact hS2 | exact hS0)).mono ?_; rintro e w2 ⟨rfl, hS2⟩))
                all_goals
                  obtain ⟨_, _, ⟨hc2, _, p, hM, hU⟩, hg2, _⟩ := hS2
                  have hmm2 := mm_mem (hU.mem hxF).1 (hU.mem hyF).1
                  clear hS0 hG
                  go_wp2_with (at_mapUpdate; refine MapF.store hM rfl _ _ _ rfl Try.underlying51 Try.underlying3 rfl (max (ρ x.f) (ρ y.f)) (min (ρ x.f) (ρ y.f)) rfl rfl (hwf _ hmm2.1) (hwf _ hmm2.2) (M := l.length) (.inl ⟨hmm2.1, Nat.le_refl _⟩) (by unfold maxLen; omega) ?_; intro w3 hM3 hg3)
                  obtain ⟨ρ', hG', hS'⟩ := GS.link hc2 hgB hU hxF hyF hM3 hg3 hS
                  have hgg := hg2.trans hg3
                  go_roundw
                  case rel => exact ⟨m + 1, by omega, by go_num, ⟨hOw.kept hgg (own_ne hOw), ⟨ρ', hG', hS'.iff (fun a b => by rw [← HX.out, ← HY.out]; exact edTo_hit (by omega) hlt (by rw [HX.out, HY.out]; exact HH.out) a b)⟩, hBl.grown hgg hBl.size (fun j hj => by injection hj with hj; omega)⟩, hA1.kept hgg (by simpa using hxB)⟩
                  case measure => simp [intOf]; omega
            · obtain rfl : m = k := by omega
              have hL1 := hL.row
              go_wp2
              go_roundw
              case rel => exact ⟨m + 1, by omega, by go_num, hL1⟩
              case measure => simp [intOf]; omega
        · obtain rfl : k = l.length := by omega
          obtain ⟨hOw, ⟨ρ, hG, hS⟩, hBl⟩ := hL
          have hS := hS.same (conn_all l)
          have hgl := hG.block
          have hgr0 := World.grownBy_alloc wr (.map #[] 0) none
          have hSl := (Mp.Own.sl hOw.1).alloc (.map #[] 0)
          have hG := hG.kept hgr0 (by simp) (by simp)
          have hpl := MapF.made (P := Try.prog) (k := 3) (p := fun _ => 0) wr
          have hBl1 := hBl.alloc hBl.size (.map #[] 0)
          have hlf := feats_len l
          have cN := k_normal hSl (by omega)
          have hmem := setL_mem (feats l)
          have hasc := setL_asc (feats l)
          have hal := setL_len (feats l)
          have hcl := fun (p : Int → Int) (hU : UF (feats l) p ρ) => grp_clS (E := Ed l) hmem hU hS
          obtain ⟨all, hAL⟩ : ∃ a, setL (feats l) = a := ⟨_, rfl⟩
          rw [hAL] at cN hmem hasc hal hcl
          have HCL := Lib.hid hcl
          have HAL := Lib.hid hAL
          clear hcl hOw hS hAL
          have hBpl : w.heap.size ≤ wr.heap.size := hBl.size
          obtain ⟨Bp, hBp⟩ : ∃ q, wr.heap.size = q := ⟨_, rfl⟩
          go_wp2_with fail
          refine cN.mono ?_
          rintro e w2 ⟨v2, rfl, hS2, hb2⟩
          rw [hBp] at hpl hgl hBpl
          have hg2 := below_gr hb2
          have hsz2 : Bp + 1 ≤ w2.heap.size := by have := hg2.size; simp at this; omega
          obtain ⟨A2, c2, rfl, _, hR2⟩ := hS2
          have hG2 := hG.kept hg2 (by simp) (by simp)
          have hpl2 := hpl.kept hg2 (by simp)
          have hBl2 := hBl1.grown hg2 (by simp; omega) (fun j hj => by cases hj)
          have hall : AllAt w2.heap.size B Bp A2 all w2 := by
            rcases hR2 with h | ⟨b, off, rfl, hb, hc⟩
            · exact .inl h
            · by_cases h0 : all = []
              · exact .inl h0
              · have hc' : ∀ j, j < all.length → w2.cell? ⟨b, off + j, none⟩ = some (.int .i64 all[j]!) := fun j hj => by simpa using hc j hj 0 _ rfl
                have hp : 0 < all.length := by rcases all with _ | _ <;> simp_all
                obtain ⟨_, _, p2, hM2, _⟩ := hG2
                exact .inr ⟨b, off, rfl, hb, Go.Proofs.MapF.ne_cell hM2 (hc' 0 hp), Go.Proofs.MapF.ne_cell hpl2 (hc' 0 hp), hc'⟩
          have hF0 : F4 w w2.heap.size g B Bp l A2 all ρ 0 (.slice none 0 0) w2 :=
            ⟨hG2, ⟨fun _ => 0, hpl2.keys_iff (fun z => by simp [rts]), fun i hi => by simp [rts] at hi⟩, by simpa [grp, rts] using Nest.nil w2 w2.heap.size _, hall, hBl2, Nat.le_refl _⟩
          have hW : ∃ W2, W2 = w2.heap.size ∧ w.heap.size ≤ W2 ∧ g < W2 ∧ B < W2 ∧ Bp < W2 := ⟨_, rfl, by omega, by omega, by omega, by omega⟩
          obtain ⟨W2, hW2, hW0, hWg, hWB, hWp⟩ := hW
          have hBB : B ≠ Bp := by omega
          have hgBp : g ≠ Bp := by omega
          have hbBp : w.heap.size ≤ Bp := hBpl
          rw [← hW2] at hF0
          clear hpl2 hBl2 hall hG2 hR2 hg2 hb2 hpl hG hBl1 hBl hSl cN hgr0 hBp hsz2 hgl hBpl
          go_wp2_with fail
          go_loopw [2, 81] (fun vo i wr => ∃ k : Nat, k ≤ all.length ∧ i = .int .i64 k ∧ F4 w W2 g B Bp l A2 all ρ k vo wr) (fun _ i _ => all.length - (intOf i).toNat)
          case atStart => exact ⟨0, by omega, rfl, hF0⟩
          case round =>
            clear hF0
            obtain ⟨k, hk, rfl, hF⟩ := hrel
            by_cases hlt : k < all.length
            · obtain ⟨hG, ⟨q, hM, hq⟩, hN, hA, hB, hsz⟩ := hF
              obtain ⟨b, off, rfl, c0⟩ := hA.get hlt
              have hxF : all[k]! ∈ feats l := (hmem _).1 (by rw [getElem!_pos all k hlt]; exact List.getElem_mem hlt)
              obtain ⟨_, _, p0, _, hU0⟩ := id hG
              have hcase := Lib.hid (round_cases hmem hU0 hasc hlt)
              clear hU0
              obtain ⟨x, hx⟩ : ∃ x, all[k]! = x := ⟨_, rfl⟩
              rw [hx] at c0 hxF hcase
              clear hx
              have hNm : l.length ≤ 1000000 := by omega
              go_wp2_with fail
              refine (first_any g B l.length (feats l) ρ hwf hNm x hxF wr hG).mono ?_
              rintro e w3 ⟨rfl, hG3, hg3⟩
              have hN3 := hN.kept hg3 (fun j hj => .inr (by injection hj with hj; omega))
              have hR3 : R4 w W2 g B Bp l (some ⟨b, off, none⟩) all ρ k (fun z => z ∈ rts ρ (all.take k)) q w3 :=
                ⟨hG3, hM.kept hg3 (by simpa using Ne.symm hBB), hA.kept hg3 (fun j hj => .inl (by injection hj with hj; omega)), hB.grown hg3 hB.size (fun j hj => by injection hj with hj; omega), Nat.le_trans hsz hg3.size⟩
              clear hN hM hA hB hG hg3 c0 hG3
              rcases hcase.out with ⟨hni, hxe, hrt, hgr⟩ | ⟨i, hi', hie, hin, hrt, hgr⟩
              · have htl : (all.take k).length ≤ all.length := by simp; omega
                have hgl : (grp ρ (all.take k)).length ≤ all.length := by rw [grp_len]; exact Nat.le_trans (List.length_filter_le _ _) htl
                have hMp := hR3.pl
                have hwx := hwf _ hxF
                rw [hxe] at hni ⊢
                have hgr' := Lib.hid hgr
                have hrt' := Lib.hid hrt
                have hxe' := Lib.hid hxe
                have hqL : ∀ i, i < (rts ρ (all.take k)).length → q (rts ρ (all.take k))[i]! = (i : Int) := hq
                have hrl : Hid ((rts ρ (all.take k)).length = (grp ρ (all.take k)).length) := Lib.hid (grp_len _ _).symm
                clear hgr hrt hcase hxe hq
                obtain ⟨vs, n1, n2, n3⟩ := hN3
                obtain ⟨A0, cc0, rfl⟩ := Own.slice n2.1
                rw [← n1] at hgl
                have hrl' : Hid ((rts ρ (all.take k)).length = vs.length) := Lib.hid (hrl.out.trans n1.symm)
                have hwL : (Lit.int .i64 (vs.length : Int)).wf = true := WalkArith.wf_i64 (by omega)
                obtain ⟨iS, hiS, hzS0, hzS1, hzS2⟩ := Mp.info_parts Try.infoS
                have hn1 := Lib.hid n1
                have hn2 := Lib.hid n2
                have hn3 := Lib.hid n3
                have hni' := Lib.hid hni
                clear n1 n2 n3 hrl
                go_wp2_with (first
                  | (at_lookup; refine MapF.look_ok hMp rfl _ _ rfl Try.underlying51 Try.underlying3 (Try.zero3 _) rfl x rfl hwx (fun h => absurd h hni) (fun _ c0 => ?_))
                  | (at_mapUpdate; refine MapF.store hMp rfl _ _ _ rfl Try.underlying51 Try.underlying3 rfl x (vs.length : Int) rfl rfl hwx hwL (M := k + 1) (.inr (Nat.le_refl _)) (by unfold maxLen; omega) ?_; intro w4 hM4 hg4; have n2' := hn2.out.kept hg4 (own_base_ne hn2.out hWp); have hsz4 := Nat.le_trans hR3.sz hg4.size)
                  | (at_builtin; (refine Mp.OwnA.append1 (enc := encV) 35 iS (.slice none 0 0) 24 Try.underlying35 hiS hzS0 hzS1 hzS2 rfl (by decide) (by decide) encV_len (.slice none 0 0) (encS_one (none, 0, 0)) rfl _ _ rfl n2' (fun j hj => hj.elim) rfl rfl (by omega) hsz4 ?_; intro v5 w5 hown5 hg5 hloc5; have hN5 := Nest.push hn1.out n2' (fun i hi => (hn3.out i hi).kept hg4 (own_base_ne (hn3.out i hi) hWp)) hg5 hloc5 hown5; have hown5b := fun j hj => (n2'.lt (j := j) hj).1; clear n2' hown5 hloc5; obtain ⟨g0, cap, ni, ci, rfl, hcap0, hb0, c5, f5, hIn, hcl5⟩ := hN5.getLast hn1.out.symm; clear hN5; have hHC := Lib.hid hcl5; clear hcl5; have h0g : g0 < w5.heap.size := World.block_lt_of_cell? _ _ c5; have hI2 := Lib.hid hIn.2; have hownLt := fun j hj => (hIn.lt (j := j) hj).1; have hsz5 := Nat.le_trans hsz4 hg5.size))
                  | (at_builtin; (refine Mp.OwnA.append1 (enc := Mp.encI) 38 i0 (.int .i64 0) 8 Try.underlying38 hi hz0 hz1 hz2 rfl (by decide) (by decide) encI_len x (encI_one _) rfl _ _ rfl hIn (av_g0 h0g) rfl rfl (by simp) hsz5 ?_; clear hIn; intro v6 w6 hown6 hg6 hloc6; obtain ⟨A6, cc6, rfl⟩ := Own.slice hown6.1; have hc6 := hg6.cell c5 (by intro e; exact hI2.out g0 e.symm (.inr rfl)); have hf6 : w6.frozen? ⟨g0, vs.length, none⟩ = false := (frozen_grown hg6 h0g (by intro e; exact hI2.out g0 e.symm (.inr rfl))).trans f5)))
                have hR4 : R4 w W2 g B Bp l (some ⟨b, off, none⟩) all ρ (k + 1) (fun z => z = x ∨ z ∈ rts ρ (all.take k)) (upd q x (vs.length : Int)) w4 :=
                  ⟨hR3.gs.kept hg4 (by simpa using hgBp) (by simpa using hBB), hM4, hR3.al.kept hg4 (fun j hj => .inr (.inl (by injection hj with hj; exact hj.symm))), hR3.bl.grown hg4 hR3.bl.size (fun j hj => by injection hj with hj; omega), hsz4⟩
                have hR5 := hR4.kept hW0 hWg hWB hWp hg5 hown5b
                have hR6 := hR5.kept hW0 hWg hWB hWp hg6 hownLt
                have hR7 := hR6.kept hW0 hWg hWB hWp (grown_set w6 g0 vs.length (.slice A6 1 cc6)) (fun j hj => by injection hj with hj; omega)
                have hN7 : Nest 38 3 (w6.setCell ⟨g0, vs.length, none⟩ (.slice A6 1 cc6)) W2 (fun _ => False) _ _ := hHC.out _ w6 x hown6 hg6 hloc6
                go_roundw
                case rel => exact ⟨k + 1, by omega, by go_num, ⟨hR7.gs, ⟨_, hR7.pl.keys_iff (fun z => by rw [hrt'.out]; simp [or_comm]), by rw [hrt'.out]; exact pl_new hni'.out hrl'.out hqL⟩, by rw [hgr'.out]; exact hN7, hR7.al, hR7.bl, hR7.sz⟩⟩
                case measure => simp [intOf]; omega
              · have hgl := grp_get_len ρ (all.take k) hi'
                have hil : i < (grp ρ (all.take k)).length := by rw [grp_len]; exact hi'
                have htl : (all.take k).length ≤ all.length := by simp; omega
                have hqi : Hid (q (ρ x) = (i : Int)) := Lib.hid (by rw [hie]; exact hq i hi')
                obtain ⟨g0, cap, vi, ni, ci, rfl, hcap0, hb0, rfl, c5, f5, hIn, hcl5⟩ := hN3.get hil
                have hwr : (Lit.int .i64 (ρ x)).wf = true := hwf _ (by obtain ⟨_, _, p, _, hU⟩ := hR3.gs; exact (hU.mem hxF).1)
                have hHC := Lib.hid hcl5
                have hMp := hR3.pl
                have hgr' := Lib.hid hgr
                have hrt' := Lib.hid hrt
                clear hgr hrt hcl5 hcase hie
                generalize (grp ρ (all.take k))[i]! = gi at *
                obtain ⟨L, hL⟩ : ∃ L, (grp ρ (all.take k)).length = L := ⟨_, rfl⟩
                rw [hL] at hil hcap0 ⊢
                have h0g : g0 < w3.heap.size := World.block_lt_of_cell? _ _ c5
                have hI2 := Lib.hid hIn.2
                have hownLt := fun j hj => (hIn.lt (j := j) hj).1
                go_wp2_with (first
                  | (at_lookup; refine MapF.look_ok hMp rfl _ _ rfl Try.underlying51 Try.underlying3 (Try.zero3 _) rfl (ρ x) rfl hwr (fun _ => ?_) (fun h => absurd hin h); rw [hqi.out])
                  | (at_builtin; (refine Mp.OwnA.append1 (enc := Mp.encI) 38 i0 (.int .i64 0) 8 Try.underlying38 hi hz0 hz1 hz2 rfl (by decide) (by decide) encI_len x (encI_one _) rfl _ _ rfl hIn (av_g0 h0g) rfl rfl (by omega) hR3.sz ?_; clear hIn; intro v5 w5 hown5 hg5 hloc5; obtain ⟨A5, cc5, rfl⟩ := Own.slice hown5.1; have hc5 := hg5.cell c5 (by intro e; exact hI2.out g0 e.symm (.inr rfl)); have hf5 : w5.frozen? ⟨g0, i, none⟩ = false := (frozen_grown hg5 h0g (by intro e; exact hI2.out g0 e.symm (.inr rfl))).trans f5)))
                have hR5 := hR3.kept hW0 hWg hWB hWp hg5 (fun j hj => (hownLt j hj))
                have hR6 := hR5.kept hW0 hWg hWB hWp (grown_set w5 g0 i (.slice A5 (gi.length + 1) cc5)) (fun j hj => by injection hj with hj; omega)
                have hN6 := hHC.out _ w5 x hown5 hg5 hloc5
                rw [show (gi ++ [x]).length = gi.length + 1 by simp, hL] at hN6
                go_roundw
                case rel => exact ⟨k + 1, by omega, by go_num, ⟨hR6.gs, ⟨q, by rw [hrt'.out]; exact hR6.pl.mono (by omega), by rw [hrt'.out]; exact hq⟩, by rw [hgr'.out]; exact hN6, hR6.al, hR6.bl, hR6.sz⟩⟩
                case measure => simp [intOf]; omega
            · obtain rfl : k = all.length := by omega
              obtain ⟨hG, _, hN, _, hB, _⟩ := hF
              obtain ⟨_, _, p0, _, hU0⟩ := hG
              rw [List.take_length] at hN
              rw [HCL.out p0 hU0] at hN
              go_wp2
              go_ret
              obtain ⟨vs, n1, n2, n3⟩ := hN
              exact ⟨_, rfl, by rw [HAL.out]; exact ⟨vs, n1, ⟨n2.1.mono hW0, n2.2⟩, fun i hi => ⟨(n3 i hi).1.mono hW0, (n3 i hi).2⟩⟩, hB⟩
end Go.Proofs
