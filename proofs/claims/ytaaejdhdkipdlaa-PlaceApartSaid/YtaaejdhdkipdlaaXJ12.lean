/- The reference's Exact. -/
import Derived.Test.YtaaejdhdkipdlaaXV22
set_option linter.unusedVariables false
set_option linter.unusedSimpArgs false
namespace Go.Proofs
open Go.RowKit Go.Proofs.Mp Go.Proofs.Uf Go.Maps

set_option maxRecDepth 100000 in
set_option maxHeartbeats 4000000 in
theorem ref_exact (u v : Value) (l : List Cand) (order : List Int) (steps : Int) (w : World) (hl : l.length ≤ 1000) (ho : order.length ≤ 1000) (hu : SlC w u l) (hv : SlI w v order) :
    Calls Try.prog 21 #[u, v, .int .i64 steps] w (ExPost w (exactL l order steps)) := by
  have hdl := distL_len order
  have HNF := Lib.hid (distL_nodup order)
  have CF := Lib.hid (ref_features49 v order w ho hv)
  have hlc := limN_cast steps
  have HLE := Lib.hid (limN_le steps)
  have HEX : Hid (exactL l order steps = (srch l (limN steps) (distL order) [] ⟨0, none⟩).map fun y => setL (y.best.getD [])) := Lib.hid rfl
  generalize exactL l order steps = ex at *
  generalize distL order = F at *
  obtain ⟨lim, hlim⟩ : ∃ lim, limN steps = lim := ⟨_, rfl⟩
  rw [hlim] at HLE HEX hlc
  obtain ⟨AL, cL, rfl, hcL, hR⟩ := hu
  have HR := Lib.hid (show SlC w (.slice AL l.length cL) l from ⟨AL, cL, rfl, hcL, hR⟩)
  have HLC := Lib.hid hlc
  clear hv hR hlim hlc
  go_enter Try.func21, Try.ntmps21
  go_wp2_with fail
  refine CF.out.mono ?_
  rintro e w1 ⟨vF, rfl, hF, hb1⟩
  obtain ⟨AF, cF, rfl⟩ := Own.slice hF
  go_wp2_with fail
  rw [← HLC.out]
  have hB0 : Box7 (w1.alloc (.cells #[.slice AL l.length cL, .slice AF F.length cF, .int .i64 (lim : Int), .int .i64 0, .int .i64 (-1), .slice none 0 0, .bool false] 64)) w1.heap.size (.slice AL l.length cL) (.slice AF F.length cF) lim 0 (-1) (.slice none 0 0) false := heap_alloc_last _ _
  have kb := bw1 w1 (.cells #[.slice AL l.length cL, .slice AF F.length cF, .int .i64 (lim : Int), .int .i64 0, .int .i64 (-1), .slice none 0 0, .bool false] 64)
  generalize w1.alloc (.cells #[.slice AL l.length cL, .slice AF F.length cF, .int .i64 (lim : Int), .int .i64 0, .int .i64 (-1), .slice none 0 0, .bool false] 64) = w2 at *
  have hlt := hb1.size
  have HGB : Hid (∀ W, w2.grownBy W (some w1.heap.size) → Below w1.heap.size w1 W) := Lib.hid (fun W hW => kb.grown hW kb.size (fun k hk => by injection hk with hk; omega))
  have HX : Hid (∀ W, w2.grownBy W (some w1.heap.size) → SlC W (.slice AL l.length cL) l ∧ SlI W (.slice AF F.length cF) F) := Lib.hid (fun W hW => ⟨(HR.out.below hb1).below (HGB.out W hW), (Mp.OwnI.sl2 hF).below (HGB.out W hW)⟩)
  have hfl : F.length ≤ 1000 := by omega
  refine (ref_try hl hfl HLE.out HX F 0 [] ⟨0, none⟩ (.slice none 0 0) w2 rfl (Nat.zero_le _) (World.grownBy.refl _ _) (fun j hj => by simp at hj) (Nat.le_refl _) (Nat.zero_le _) ⟨none, 0, rfl, Nat.le_refl _, Rd.nil _⟩ (by simp [Off, Value.ownBlock]) ⟨_, hB0, ⟨none, 0, rfl, Nat.le_refl _, Rd.nil _⟩, by simp [Off, Value.ownBlock]⟩).mono ?_
  rintro e w3 ⟨rfl, hg3, hQ3, _⟩
  have hb3 := hb1.trans ((HGB.out w3 hg3).mono hlt)
  have HB3 := Lib.hid hb3
  clear hF hB0 kb HGB HX hg3
  rcases hoo : srch l lim F [] ⟨0, none⟩ with _ | y
  · rw [hoo] at hQ3
    obtain ⟨m, b, vr, hB⟩ := hQ3
    have HE : Hid (ex = none) := Lib.hid (by rw [HEX.out, hoo]; rfl)
    have c6 := hB.cells.1.2.2.2.2.2.2
    clear hB hoo hb3
    go_wp2_with fail
    go_ret2
    rw [HE.out]
    exact ⟨_, rfl, ⟨none, 0, rfl, Nat.le_refl _, Rd.nil _⟩, HB3.out⟩
  · rw [hoo] at hQ3
    obtain ⟨vr, hB, hS, _⟩ := hQ3
    obtain ⟨b, hb, hfound⟩ := srch_found hoo
    rw [hb] at hS
    have hbl := allC_len F [] b hfound.mem
    simp only [List.length_nil, Nat.zero_add] at hbl
    have HE : Hid (ex = some (setL b)) := Lib.hid (by rw [HEX.out, hoo]; simp [hb])
    have c6 := hB.cells.1.2.2.2.2.2.2
    have c5 := hB.cells.1.2.2.2.2.2.1
    have CN := Lib.hid (k_rnormal hS (by show b.length ≤ 1000000; omega))
    clear hB hoo hb3 hb hfound hS
    go_wp2_with fail
    refine CN.out.mono ?_
    rintro e w4 ⟨v4, rfl, hS4, hb4⟩
    have HS4 := Lib.hid hS4
    have HB4 := Lib.hid (HB3.out.trans (hb4.mono HB3.out.size))
    clear hS4 hb4 CN
    go_wp2
    go_ret2
    rw [HE.out]
    exact ⟨_, rfl, HS4.out, HB4.out⟩
end Go.Proofs
/- The reference's Best. -/
set_option linter.unusedVariables false
set_option linter.unusedSimpArgs false
namespace Go.Proofs
open Go.RowKit Go.Proofs.Mp Go.Proofs.Uf Go.Maps

theorem ownR_get {l : List Cand} {order : List Int} {k : Nat} (h : k < (cls l).length) : (ownR l order)[k]! = (distL order).filter fun z => decide (z ∈ (cls l)[k]!) := by
  rw [getElem!_pos (ownR l order) k (by simpa [ownR] using h), getElem!_pos (cls l) k h]
  simp [ownR]
theorem filt_succ {F g : List Int} {j : Nat} (hj : j < F.length) : (F.take (j + 1)).filter (fun z => decide (z ∈ g)) = (F.take j).filter (fun z => decide (z ∈ g)) ++ (if F[j]! ∈ g then [F[j]!] else []) := by
  rw [List.take_succ_eq_append_getElem hj, List.filter_append, getElem!_pos F j hj]
  congr 1
  split
  · rename_i h; rw [List.filter_cons_of_pos (by simpa using h)]; rfl
  · rename_i h; rw [List.filter_cons_of_neg (by simpa using h)]; rfl
set_option maxRecDepth 100000 in
set_option maxHeartbeats 4000000 in
theorem ref_best (u v : Value) (l : List Cand) (order : List Int) (steps : Int) (w : World) (hl : l.length ≤ 1000) (ho : order.length ≤ 1000) (hu : SlC w u l) (hv : SlI w v order) :
    Calls Try.prog 23 #[u, v, .int .i64 steps] w (PostS w (bestL l order steps)) := by
  have hdl := distL_len order
  have HRL : Hid (∀ ids ∈ ownR l order, ids.length ≤ 1000) := Lib.hid (fun ids hid => by
    unfold ownR at hid
    obtain ⟨g, _, rfl⟩ := List.mem_map.1 hid
    exact Nat.le_trans (List.length_filter_le _ _) (by omega))
  have CF := Lib.hid (fun (W : World) (hb' : Below w.heap.size w W) => ref_features49 v order W ho (hv.below hb'))
  have CE := Lib.hid (fun (W : World) (hb' : Below w.heap.size w W) (ids : List Int) (x : Value) (h1 : ids.length ≤ 1000) (h3 : SlI W x ids) => ref_exact u x l ids steps W hl h1 (hu.below hb') h3)
  have CG := Lib.hid (fun (W : World) (hb' : Below w.heap.size w W) (ids : List Int) (x : Value) (h1 : ids.length ≤ 1000) (h3 : SlI W x ids) => ref_greedy u x l ids W hl h1 (hu.below hb') h3)
  have HPL := Lib.hid (partL_len l steps)
  obtain ⟨A, ca, rfl, hca, hR⟩ := hu
  have CC : Hid (Calls Try.prog 45 #[.slice A l.length ca] w (fun e w' => ∃ v, e = .returned v ∧ GrpS w' v (cls l) ∧ Below w.heap.size w w')) := Lib.hid (ref_clusters A ca l w hl hR)
  obtain ⟨hfew1, hfew2⟩ := cls_few l
  have HFW := Lib.hid hfew2
  have HOR := Lib.hid (fun (k : Nat) (h : k < (cls l).length) => ownR_get (order := order) h)
  have HBR : Hid (bestL l order steps = setL ((ownR l order).flatMap (partL l steps))) := Lib.hid rfl
  have horl : (ownR l order).length = (cls l).length := by simp [ownR]
  generalize bestL l order steps = bst at *
  generalize ownR l order = OR at *
  generalize cls l = gs at *
  generalize distL order = F at *
  clear hfew2 hR
  go_enter Try.func23, Try.ntmps23
  go_wp2_with fail
  refine CC.out.mono ?_
  rintro e w1 ⟨v1, rfl, hG, k1⟩
  clear CC
  have hw1 := k1.size
  obtain ⟨A1, c1, ls, rfl, _⟩ := id hG
  have HG := Lib.hid hG
  clear hG
  go_wp2_with fail
  go_loopw [7, 9] (fun c i wr => ∃ k : Nat, k ≤ gs.length ∧ i = .int .i64 k ∧ OwnI 3 wr w1.heap.size c ((OR.take k).flatMap (partL l steps)) ∧ Below w1.heap.size w1 wr) (fun _ i _ => gs.length - (intOf i).toNat)
  case atStart => exact ⟨0, Nat.zero_le _, rfl, Own.nil _ _, Below.refl _ _⟩
  case round =>
    obtain ⟨k, hk, rfl, hout, hbo⟩ := hrel
    by_cases hlt : k < gs.length
    · have hd0 : decide ((k : Int) < (gs.length : Int)) = true := decide_eq_true (by omega)
      have hd1 : decide (k < gs.length) = true := decide_eq_true hlt
      have hlk := flatMap_take_len (gs := OR) (k := k) (fun ids => Nat.le_trans (HPL.out ids) hl)
      have hkm : k * 1000 ≤ 1000 * 1000 := Nat.mul_le_mul_right _ (by omega)
      obtain ⟨acc, hacc⟩ : ∃ acc, (OR.take k).flatMap (partL l steps) = acc := ⟨_, rfl⟩
      rw [hacc] at hout hlk
      have HACC := Lib.hid hacc
      clear hacc
      have kw := k1.trans (hbo.mono hw1)
      have HOK := Lib.hid (HOR.out k hlt)
      go_wp2_with fail
      refine (CF.out wr kw).mono ?_
      rintro e w2 ⟨vF, rfl, hF, hb2⟩
      obtain ⟨AF, cF, rfl⟩ := Own.slice hF
      have HRF := Lib.hid (Own.rd encI_len hF)
      have hb12 := hbo.trans (hb2.mono hbo.size)
      have hs2 := hb12.size
      clear hF
      obtain ⟨A6, c6, rfl⟩ := Own.slice hout
      obtain ⟨gk, hgk⟩ : ∃ gk, gs[k]! = gk := ⟨_, rfl⟩
      rw [hgk] at HOK
      have hgl : gk.length ≤ 1000 := by rw [← hgk]; exact Nat.le_trans (HFW.out k) hl
      have HGK := Lib.hid hgk
      clear hgk
      go_wp2_with fail
      go_loopw [10, 12] (fun c i wr => ∃ j : Nat, j ≤ F.length ∧ i = .int .i64 j ∧ OwnI 3 wr w2.heap.size c ((F.take j).filter fun z => decide (z ∈ gk)) ∧ Below w2.heap.size w2 wr) (fun _ i _ => F.length - (intOf i).toNat)
      case atStart => exact ⟨0, Nat.zero_le _, rfl, Own.nil _ _, Below.refl _ _⟩
      case round =>
        obtain ⟨j, hj, rfl, hown, hbw⟩ := hrel
        by_cases hlj : j < F.length
        · have hd2 : decide ((j : Int) < (F.length : Int)) = true := decide_eq_true (by omega)
          have hd3 : decide (j < F.length) = true := decide_eq_true hlj
          obtain ⟨bg, offg, ni, ci, hA1, hbg, hcg, hRg⟩ := GrpS.get HG.out (hb12.trans (hbw.mono hs2)) hlt
          subst hA1
          have hwm : w1.heap.size ≤ wr.heap.size := Nat.le_trans hs2 hbw.size
          have HcG := Lib.hid (fun (W : World) (hW : Below wr.heap.size wr W) => ((hW.cell (p := ⟨bg, offg + k, none⟩) (Nat.lt_of_lt_of_le hbg hwm)).trans hcg))
          have HRG := Lib.hid (fun (W : World) (hW : Below wr.heap.size wr W) => hRg.below hW)
          rw [HGK.out] at HcG HRG
          obtain ⟨bf, offf, hAF, hbf, hcf⟩ := RdI.cells HRF.out (show 0 < F.length by omega)
          subst hAF
          have hfs := filt_succ (g := gk) hlj
          obtain ⟨z, hz⟩ : ∃ z, F[j]! = z := ⟨_, rfl⟩
          rw [hz] at hfs
          have HF0 : Hid (∀ W, Below w2.heap.size w2 W → W.cell? ⟨bf, offf + j, none⟩ = some (.int .i64 z)) := Lib.hid (fun W hW => by rw [hcf W hW j hlj, hz])
          have HcF2 := Lib.hid (fun (W : World) (hW : Below wr.heap.size wr W) => HF0.out W (hbw.trans (hW.mono hbw.size)))
          have HHAS := Lib.hid (fun (W : World) (hW : Below wr.heap.size wr W) => ref_has ni ci z gk W (by omega) (HRG.out W hW))
          have HFS := Lib.hid hfs
          have hfl := List.length_filter_le (fun z => decide (z ∈ gk)) (F.take j)
          have htl : (F.take j).length ≤ F.length := by simp; omega
          generalize (F.take j).filter (fun z => decide (z ∈ gk)) = fl at *
          obtain ⟨A7, c7, rfl⟩ := Own.slice hown
          clear hcg hRg hcf hz hfs HRG
          have hS1 : (fun W : World => Below wr.heap.size wr W) wr.drew := (Below.refl _ _).drew
          go_wp2_with fail
          refine wp_region_held_drew (S := fun W : World => Below wr.heap.size wr W) (by kernel_rfl) hS1 (fun hHeld => ?_)
          clear hHeld
          generalize wr.drew = wzra at *
          refine wpAnyH_take (i := 0) (oi := ⟨some 31, _, _, _, _, _⟩) (v := ?vra1) rfl (by kernel_rfl) (by kernel_rfl) (by kernel_rfl) (fun _ _ _ h => h) (Or.inl ⟨by kernel_rfl, ?hyra1⟩) (by assumption) ?restra1
          case hyra1 => (intro W hSw; (try dsimp only at hSw); go_simp; try with_reducible rfl)
          case' restra1 => try simp only [Act.put, List.setIfInBounds_toArray, List.set_cons_zero, List.set_cons_succ]
          refine wpAnyH_take (i := 1) (oi := ⟨some 32, _, _, _, _, _⟩) (v := ?vra2) rfl (by kernel_rfl) (by kernel_rfl) (by kernel_rfl) (fun _ _ _ h => h) (Or.inl ⟨by kernel_rfl, ?hyra2⟩) (by assumption) ?restra2
          case hyra2 => (intro W hSw; (try dsimp only at hSw); go_simp; try with_reducible rfl)
          case' restra2 => try simp only [Act.put, List.setIfInBounds_toArray, List.set_cons_zero, List.set_cons_succ]
          refine wpAnyH_take (i := 2) (oi := ⟨some 33, _, _, _, _, _⟩) (v := ?vra3) rfl (by kernel_rfl) (by kernel_rfl) (by kernel_rfl) (fun _ _ _ h => h) (Or.inl ⟨by kernel_rfl, ?hyra3⟩) (by assumption) ?restra3
          case hyra3 => (intro W hSw; (try dsimp only at hSw); go_simp; try with_reducible rfl)
          case' restra3 => try simp only [Act.put, List.setIfInBounds_toArray, List.set_cons_zero, List.set_cons_succ]
          refine wpAnyH_take (i := 3) (oi := ⟨some 34, _, _, _, _, _⟩) (v := ?vra4) rfl (by kernel_rfl) (by kernel_rfl) (by kernel_rfl) (fun _ _ _ h => h) (Or.inl ⟨by kernel_rfl, ?hyra4⟩) (by assumption) ?restra4
          case hyra4 => (intro W hSw; have gq := HcG.out W hSw; (try dsimp only at hSw); go_simp; try with_reducible rfl)
          case' restra4 => try simp only [Act.put, List.setIfInBounds_toArray, List.set_cons_zero, List.set_cons_succ]
          refine wpAnyH_take (i := 4) (oi := ⟨some 35, _, _, _, _, _⟩) (v := ?vra5) rfl (by kernel_rfl) (by kernel_rfl) (by kernel_rfl) (fun _ _ _ h => h) (Or.inl ⟨by kernel_rfl, ?hyra5⟩) (by assumption) ?restra5
          case hyra5 => (intro W hSw; (try dsimp only at hSw); go_simp; try with_reducible rfl)
          case' restra5 => try simp only [Act.put, List.setIfInBounds_toArray, List.set_cons_zero, List.set_cons_succ]
          refine wpAnyH_take (i := 5) (oi := ⟨some 36, _, _, _, _, _⟩) (v := ?vra6) rfl (by kernel_rfl) (by kernel_rfl) (by kernel_rfl) (fun _ _ _ h => h) (Or.inl ⟨by kernel_rfl, ?hyra6⟩) (by assumption) ?restra6
          case hyra6 => (intro W hSw; (try dsimp only at hSw); go_simp; try with_reducible rfl)
          case' restra6 => try simp only [Act.put, List.setIfInBounds_toArray, List.set_cons_zero, List.set_cons_succ]
          refine wpAnyH_take (i := 6) (oi := ⟨some 37, _, _, _, _, _⟩) (v := ?vra7) rfl (by kernel_rfl) (by kernel_rfl) (by kernel_rfl) (fun _ _ _ h => h) (Or.inl ⟨by kernel_rfl, ?hyra7⟩) (by assumption) ?restra7
          case hyra7 => (intro W hSw; (try dsimp only at hSw); go_simp; try with_reducible rfl)
          case' restra7 => try simp only [Act.put, List.setIfInBounds_toArray, List.set_cons_zero, List.set_cons_succ]
          refine wpAnyH_take (i := 7) (oi := ⟨some 38, _, _, _, _, _⟩) (v := ?vra8) rfl (by kernel_rfl) (by kernel_rfl) (by kernel_rfl) (fun _ _ _ h => h) (Or.inl ⟨by kernel_rfl, ?hyra8⟩) (by assumption) ?restra8
          case hyra8 => (intro W hSw; have gq := HcF2.out W hSw; (try dsimp only at hSw); go_simp; try with_reducible rfl)
          case' restra8 => try simp only [Act.put, List.setIfInBounds_toArray, List.set_cons_zero, List.set_cons_succ]
          refine wpAnyH_ready (rs := [8]) (by kernel_rfl) (by simp) ?_
          refine AllReadyH.cons (o := ⟨some 39, _, _, _, _, _⟩) rfl (fun K hK => ?_) AllReadyH.nil
          go_simp
          go_at_call 25
          refine (HHAS.out wzra hS1).mono ?_
          rintro e Wra1 ⟨rfl, hbWra1⟩
          have hSWra1 := hS1.trans (hbWra1.mono hS1.size)
          try clear hS1
          clear hbWra1
          go_wp2_with fail
          refine hK.out _ _ hSWra1 (fun hHeld => ?_)
          clear hK hHeld K
          try simp only [Act.put, List.setIfInBounds_toArray, List.set_cons_zero, List.set_cons_succ]
          refine wpAnyH_done (by kernel_rfl) ?_ _
          have hbs1 := hSWra1
          have hownA := Own.below hown hbs1
          have hbwA := hbw.trans (hbs1.mono hbw.size)
          clear hSWra1 HcG HcF2 hown
          generalize Wra1 = wv at *
          by_cases hz : z ∈ gk
          · rw [if_pos hz] at HFS
            have hg3 : wv.cell? ⟨bf, offf + j, none⟩ = some (.int .i64 z) := HF0.out wv hbwA
            rw [decide_eq_true hz]
            have hsv := hbwA.size
            clear hz hbs1
            go_wp2_with (at_builtin; refine Try.appI hownA z rfl _ _ rfl rfl rfl (by omega) hsv ?_; clear hownA; intro v5 w5 hown5 hb5)
            go_roundw
            case rel => exact ⟨j + 1, by omega, by go_num, by rw [HFS.out]; exact hown5, hbwA.trans hb5⟩
            case measure => simp [intOf]; omega
          · rw [if_neg hz, List.append_nil] at HFS
            rw [decide_eq_false hz]
            clear hz hbs1
            go_wp2
            go_roundw
            case rel => exact ⟨j + 1, by omega, by go_num, by rw [HFS.out]; exact hownA, hbwA⟩
            case measure => simp [intOf]; omega
        · obtain rfl : j = F.length := by omega
          have hd2 : decide ((F.length : Int) < (F.length : Int)) = false := decide_eq_false (by omega)
          have hd3 : decide (F.length < F.length) = false := decide_eq_false (by omega)
          rw [List.take_length] at hown
          have hids : F.filter (fun z => decide (z ∈ gk)) = OR[k]! := HOK.out.symm
          rw [hids] at hown
          have hmem : OR[k]! ∈ OR := by rw [getElem!_pos OR k (by omega)]; exact List.getElem_mem (by omega)
          have hil := HRL.out _ hmem
          have HTK : Hid ((OR.take (k + 1)).flatMap (partL l steps) = acc ++ partL l steps OR[k]!) := Lib.hid (by
            rw [← HACC.out, List.take_succ_eq_append_getElem (by omega), List.flatMap_append, getElem!_pos OR k (by omega)]; simp)
          have hout2 := Own.below hout hb2
          have hout3 := Own.below hout2 (hbw.mono (Nat.le_refl _))
          have kb3 := hbo.trans (((hb2.trans (hbw.mono hb2.size))).mono hbo.size)
          clear hids hmem hout hout2
          generalize OR[k]! = ids at *
          have hsl := Mp.OwnI.sl2 hown
          obtain ⟨A0, c0, rfl⟩ := Own.slice hown
          have kwr := k1.trans (kb3.mono hw1)
          clear hown
          go_wp2_with fail
          refine (CE.out wr kwr ids (.slice A0 ids.length c0) hil hsl).mono ?_
          rintro e w9 ⟨vE, rfl, hE, hb9⟩
          have hout9 := Own.below hout3 hb9
          have kb9 := kb3.trans (hb9.mono kb3.size)
          have hs9 := kb9.size
          have kw9 := kwr.trans (hb9.mono kwr.size)
          clear hout3
          by_cases h16 : ids.length ≤ 16
          · have dh : decide ((16 : Int) < (ids.length : Int)) = false := decide_eq_false (by omega)
            have dh2 : ¬ ((16 : Int) < (ids.length : Int)) := by omega
            rcases hex : exactL l ids steps with _ | b
            · have HP0 : Hid (partL l steps ids = greedyL l ids) := Lib.hid (by unfold partL; rw [if_pos h16, hex])
              rw [show errN none = 24 from rfl]
              clear hex hE
              go_wp2_with fail
              refine (CG.out w9 kw9 ids (.slice A0 ids.length c0) hil (SlI.below hsl hb9)).mono ?_
              rintro e w11 ⟨vG, rfl, hG, hb11⟩
              have hout11 := Own.below hout9 hb11
              have kb11 := kb9.trans (hb11.mono kb9.size)
              have hglen : (greedyL l ids).length ≤ 1000 := by rw [← HP0.out]; exact Nat.le_trans (HPL.out ids) hl
              have hs11 := kb11.size
              clear hout9
              go_wp2_with (at_builtin; refine app_any hout11 hG rfl _ _ rfl rfl rfl (by omega) hs11 ?_; intro v12 w12 hown12 hb12)
              go_roundw
              case rel => exact ⟨k + 1, by omega, by go_num, by rw [HTK.out, HP0.out]; exact hown12, kb11.trans hb12⟩
              case measure => simp [intOf]; omega
            · have HP0 : Hid (partL l steps ids = b) := Lib.hid (by unfold partL; rw [if_pos h16, hex])
              rw [hex] at hE
              have hE2 : SlI w9 vE b := hE
              have hbl : b.length ≤ 1000 := by rw [← HP0.out]; exact Nat.le_trans (HPL.out ids) hl
              rw [show errN (some b) = 0 from rfl]
              clear hex hE
              go_wp2_with (at_builtin; refine app_any hout9 hE2 rfl _ _ rfl rfl rfl (by omega) hs9 ?_; intro v12 w12 hown12 hb12)
              go_roundw
              case rel => exact ⟨k + 1, by omega, by go_num, by rw [HTK.out, HP0.out]; exact hown12, kb9.trans hb12⟩
              case measure => simp [intOf]; omega
          · have dh : decide ((16 : Int) < (ids.length : Int)) = true := decide_eq_true (by omega)
            have dh2 : (16 : Int) < (ids.length : Int) := by omega
            have HP0 : Hid (partL l steps ids = greedyL l ids) := Lib.hid (by unfold partL; rw [if_neg h16])
            generalize errN (exactL l ids steps) = en at *
            clear hE
            go_wp2_with fail
            refine (CG.out w9 kw9 ids (.slice A0 ids.length c0) hil (SlI.below hsl hb9)).mono ?_
            rintro e w11 ⟨vG, rfl, hG, hb11⟩
            have hout11 := Own.below hout9 hb11
            have kb11 := kb9.trans (hb11.mono kb9.size)
            have hglen : (greedyL l ids).length ≤ 1000 := by rw [← HP0.out]; exact Nat.le_trans (HPL.out ids) hl
            have hs11 := kb11.size
            clear hout9
            go_wp2_with (at_builtin; refine app_any hout11 hG rfl _ _ rfl rfl rfl (by omega) hs11 ?_; intro v12 w12 hown12 hb12)
            go_roundw
            case rel => exact ⟨k + 1, by omega, by go_num, by rw [HTK.out, HP0.out]; exact hown12, kb11.trans hb12⟩
            case measure => simp [intOf]; omega
    · obtain rfl : k = gs.length := by omega
      have hd0 : decide ((gs.length : Int) < (gs.length : Int)) = false := decide_eq_false (by omega)
      have hd1 : decide (gs.length < gs.length) = false := decide_eq_false (by omega)
      rw [← horl, List.take_length] at hout
      have hlk := flatMap_take_len (gs := OR) (k := OR.length) (fun ids => Nat.le_trans (HPL.out ids) hl)
      rw [List.take_length] at hlk
      have hkm : OR.length * 1000 ≤ 1000 * 1000 := Nat.mul_le_mul_right _ (by omega)
      generalize OR.flatMap (partL l steps) = acc at *
      have CN := Lib.hid (k_rnormal (Mp.OwnI.sl2 hout) (by omega))
      have kw := k1.trans (hbo.mono hw1)
      clear hout
      go_wp2_with fail
      refine CN.out.mono ?_
      rintro e w4 ⟨v4, rfl, hS4, hb4⟩
      have HS4 := Lib.hid hS4
      have HB4 := Lib.hid (kw.trans (hb4.mono kw.size))
      clear hS4 hb4 CN kw
      go_wp2
      go_ret
      rw [HBR.out]
      exact ⟨_, rfl, HS4.out, HB4.out⟩
end Go.Proofs
