import Derived.Test.YtoknjlodhohioaaT25
set_option linter.unusedVariables false
set_option linter.unusedSimpArgs false
namespace Go.Proofs
open Go.RowKit Go.Proofs.Mp Go.Proofs.Uf

theorem encSl_one (s : Sl3) : ∀ u ∈ encSl s, u.oneCell' = true := by
  intro u hu
  simp only [encSl, List.mem_singleton] at hu
  subst hu; rfl
theorem grpS_of {w : World} {base : Nat} {av : Nat → Prop} {v : Value} {ls : List Sl3} (h : OwnA 38 1 encSl w base av v ls) (hr : AllRd w ls) : GrpS w v (ls.map fun s => s.2.2) := by
  obtain ⟨A, c, rfl⟩ := Own.slice h.1
  exact ⟨A, c, ls, by rw [List.length_map], rfl, Own.rd encSl_len h.1, fun s hs => (hr s hs).1⟩

set_option maxHeartbeats 4000000 in
theorem ref_clusters (A : Option Addr) (c : Nat) (l : List Cand) (w : World) (hmax : l.length ≤ 1000) (hR : Rd 8 encC w A l) :
    Calls Try.prog 15 #[.slice A l.length c] w (fun e w' => ∃ v, e = .returned v ∧ GrpS w' v (clS (Ed l) (setL (feats l))) ∧ Below w.heap.size w w') := by
  obtain ⟨iS, hiS, hzS0, hzS1, hzS2⟩ := Mp.info_parts Try.infoS
  have cF := ref_features A c l w hmax hR
  have cG := Lib.hid (fun (W : World) (f : Int) (hf : f ∈ feats l) (hb : Below w.heap.size w W) => ref_group A c l f W hmax (hR.below hb) hf)
  have hmem := setL_mem (feats l)
  have hasc := setL_asc (feats l)
  have hal := setL_len (feats l)
  rw [feats_len] at hal
  have hgS : ∀ f, gS l f = (setL (feats l)).filter fun x => dec (Conn (Ed l) f x) := fun f => rfl
  obtain ⟨all, hAL⟩ : ∃ a, setL (feats l) = a := ⟨_, rfl⟩
  rw [hAL] at cF hmem hasc hal
  simp only [hAL] at hgS
  have HAL := Lib.hid hAL
  have HGS := Lib.hid hgS
  clear hAL hgS hR
  go_enter Try.func15, Try.ntmps15
  go_wp2_with fail
  refine cF.mono ?_
  rintro e w1 ⟨va, rfl, ⟨Aa, ca, rfl, hca, hRa⟩, hb1, _⟩
  go_wp2_with fail
  go_loopw [3, 5] (fun v i wr => ∃ (k : Nat) (ls : List Sl3), k ≤ all.length ∧ i = .int .i64 k ∧ OwnA 38 1 encSl wr w1.heap.size (blk ls) v ls ∧ AllRd wr ls ∧ ls.map (fun s => s.2.2) = clTo (Ed l) all k ∧ ls.length ≤ k ∧ Below w1.heap.size w1 wr) (fun _ i _ => all.length - (intOf i).toNat)
  case atStart => exact ⟨0, [], by omega, rfl, OwnA.nil w1 _ _, fun s hs => by simp at hs, by simp [clTo], by simp, Below.refl _ _⟩
  case round =>
    obtain ⟨k, ls, hk, rfl, hown, hard, hls, hlen, hbw⟩ := hrel
    by_cases hlt : k < all.length
    · obtain ⟨b, off, rfl, hb, c0⟩ := RdI.get hRa hbw hlt
      have hfa : all[k]! ∈ all := by rw [getElem!_pos all k hlt]; exact List.getElem_mem hlt
      have hfF := (hmem _).1 hfa
      obtain ⟨h0, t0, hht, hiff⟩ := head_iff (E := Ed l) hasc hfa
      have hyes := Lib.hid (clTo_yes (E := Ed l) hlt)
      have hno := Lib.hid (clTo_no (E := Ed l) hlt)
      have hbs := hbw.size
      obtain ⟨f, hf⟩ : ∃ f, all[k]! = f := ⟨_, rfl⟩
      rw [hf] at c0 hfF hht hiff
      have HF := Lib.hid hf
      have HI := Lib.hid hiff
      have HHT := Lib.hid hht
      clear hf hiff hfa
      have cg := cG.out wr f hfF (hb1.trans (hbw.mono hb1.size))
      rw [HGS.out f, hht] at cg
      clear hht
      go_wp2_with fail
      refine cg.mono ?_
      rintro e w2 ⟨vg, rfl, hSg, hb2, hloc⟩
      obtain ⟨Ag, cg', rfl, hcg, hRg⟩ := hSg
      have hg2 := below_gr hb2
      have hown2 := hown.keptN hg2
      have hard2 := hard.none hg2
      have hbw2 := hbw.grown hg2 hbs (fun j hj => by cases hj)
      obtain ⟨bg, og, rfl, hbg, g0⟩ := RdI.get hRg (Below.refl _ _) (show 0 < (h0 :: t0).length by simp)
      have hbgn : wr.heap.size ≤ bg := by
        rcases hloc bg rfl with ⟨a, ha, _⟩ | h
        · cases ha
        · exact h
      have c1 := hg2.cell c0 (by simp)
      simp only [List.getElem!_cons_zero, Nat.add_zero] at g0
      have hs2 := hbw2.size
      have hgl : (h0 :: t0).length ≤ 1000 := by
        rw [← HHT.out]; exact Nat.le_trans (List.length_filter_le _ _) (by omega)
      by_cases he : h0 = f
      · have hE : (h0 == f) = true := by simp [he]
        have HE := Lib.hid he
        have hown1 := Lib.hid hown
        clear he hown cG
        go_wp2
        go_quiet (fail)
        have hgq : w2.grownBy (w2.drewN nq) none := below_gr (below_drewN (Below.refl _ _) nq)
        have hownq := hown2.keptN hgq
        have hardq := hard2.none hgq
        have hRgq := rdI_kept hRg hgq (fun a _ => by simp)
        have hbwq := hbw2.grown hgq hs2 (fun j hj => by cases hj)
        have hsq : w1.heap.size ≤ (w2.drewN nq).heap.size := hs2
        go_wp2_with (at_builtin; refine Mp.OwnA.append1 (enc := encSl) 35 iS (.slice none 0 0) 24 Try.underlying35 hiS hzS0 hzS1 hzS2 rfl (by decide) (by decide) encSl_len (some ⟨bg, og, none⟩, cg', h0 :: t0) (encSl_one _) rfl _ _ rfl hownq hardq.lt rfl rfl (by omega) hsq ?_; intro v3 w3 hown3 hg3 hloc3)
        have hne : ∀ j, u3.ownBlock = some j → j < wr.heap.size := fun j hj => (hown1.out.lt hj).2
        have hard3 : AllRd w3 (ls ++ [(some ⟨bg, og, none⟩, cg', h0 :: t0)]) := by
          intro s hs
          rcases List.mem_append.1 hs with hs | hs
          · exact hardq.kept hg3 (fun j hj => hown1.out.2 j hj) s hs
          · simp only [List.mem_singleton] at hs
            subst hs
            refine ⟨rdI_kept hRgq hg3 fun a ha e => ?_, fun a ha => ?_⟩
            · injection ha with ha
              subst ha
              have := hne bg e.symm
              omega
            · injection ha with ha
              subst ha
              exact Nat.lt_of_lt_of_le hbg hg3.size
        have hown4 : OwnA 38 1 encSl w3 w1.heap.size (blk (ls ++ [(some ⟨bg, og, none⟩, cg', h0 :: t0)])) v3 (ls ++ [(some ⟨bg, og, none⟩, cg', h0 :: t0)]) := by
          refine hown3.weak fun j hj hj' => ?_
          obtain ⟨s, hs, a, ha, haj⟩ := hj'
          rcases List.mem_append.1 hs with hs | hs
          · exact hown3.2 j hj ⟨s, hs, a, ha, haj⟩
          · simp only [List.mem_singleton] at hs
            subst hs
            injection ha with ha
            subst ha
            simp only at haj
            subst haj
            rcases hloc3 with h | ⟨n, h, hn⟩
            · rw [h] at hj
              have := hne _ hj
              omega
            · rw [h] at hj
              injection hj with hj
              have : w2.heap.size ≤ n := hn
              omega
        go_roundw
        case rel => exact ⟨k + 1, _, by omega, by go_num, hown4, hard3, by
          rw [hyes.out (by rw [HF.out]; exact HI.out.1 HE.out), HF.out, List.map_append, hls, HHT.out]
          rfl, by simp; omega, hbwq.grown hg3 hsq (fun j hj => (hown1.out.lt hj).1)⟩
        case measure => simp [intOf]; omega
      · have hE : (h0 == f) = false := by simp [he]
        have HE := Lib.hid he
        clear he hown cG
        go_wp2
        go_quiet (fail)
        have hgq : w2.grownBy (w2.drewN nq) none := below_gr (below_drewN (Below.refl _ _) nq)
        have hownq := hown2.keptN hgq
        have hardq := hard2.none hgq
        have hbwq := hbw2.grown hgq hs2 (fun j hj => by cases hj)
        go_wp2
        go_roundw
        case rel => exact ⟨k + 1, ls, by omega, by go_num, hownq, hardq, by rw [hno.out (by rw [HF.out]; exact fun h => HE.out (HI.out.2 h))]; exact hls, by omega, hbwq⟩
        case measure => simp [intOf]; omega
    · obtain rfl : k = all.length := by omega
      rw [clTo_all] at hls
      go_wp2
      go_ret
      refine ⟨_, rfl, ?_, hb1.trans (hbw.mono hb1.size)⟩
      rw [HAL.out, ← hls]
      exact grpS_of hown hard
end Go.Proofs
