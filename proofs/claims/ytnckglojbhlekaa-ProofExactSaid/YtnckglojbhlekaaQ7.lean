/- runs and extend, the reference's. -/
import Derived.Test.YtnckglojbhlekaaO1
set_option linter.unusedVariables false
set_option linter.unusedSimpArgs false
namespace Go.Proofs
open Go.RowKit Go.Proofs.Mp

def rowOf (xs : List Int) (o n : Nat) : List Int := (xs.drop o).take n
theorem rowOf_get {xs : List Int} {o n k : Nat} (hk : k < n) (h : o + n ≤ xs.length) : (rowOf xs o n)[k]! = xs[o + k]! := by
  unfold rowOf
  rw [getElem!_pos _ k (by simp; omega), getElem!_pos xs (o + k) (by omega), List.getElem_take, List.getElem_drop]

set_option maxHeartbeats 4000000 in
theorem ref_runs (A B : Option Addr) (c d n y o : Nat) (xs ys : List Int) (w : World) (h1 : xs.length ≤ 1000000) (h2 : ys.length ≤ 1000000) (hn : n ≤ 1000000) (hy : y ≤ 1000000) (ho : y * n = o) (hx1 : o + n ≤ xs.length) (hy1 : o + n ≤ ys.length) (hA : RdI w A xs) (hB : RdI w B ys) :
    Calls Try.prog 30 #[.slice A xs.length c, .slice B ys.length d, .int .i64 n, .int .i64 y] w (fun e w' => ∃ v, e = .returned v ∧ OwnX w' w.heap.size v (rowRuns (rowOf xs o n) (rowOf ys o n) y n) ∧ Below w.heap.size w w') := by
  have hoI : (y : Int) * (n : Int) = (o : Int) := by rw [← ho]; exact (Int.natCast_mul y n).symm
  have HW : Hid (IntKind.i64.wrap ((y : Int) * (n : Int)) = (o : Int)) := Lib.hid (by rw [hoI]; exact IntWalk.i64_in _ (by omega))
  clear hoI ho
  go_enter Try.func30, Try.ntmps30
  go_wp2_with fail
  go_loopw [9, 10] (fun v i wr => ∃ k : Nat, k ≤ n ∧ i = .int .i64 k ∧ OwnX wr w.heap.size v (rowRuns (rowOf xs o n) (rowOf ys o n) y k) ∧ Below w.heap.size w wr) (fun _ i _ => n - (intOf i).toNat)
  case atStart => exact ⟨0, by omega, rfl, Own.nil w _, Below.refl _ _⟩
  case round =>
    obtain ⟨k, hk, rfl, hown, hbw⟩ := hrel
    by_cases hlt : k < n
    · obtain ⟨b, off, rfl, hb, g1⟩ := RdI.get hA hbw (show o + k < xs.length by omega)
      obtain ⟨b', off', rfl, hb', g2⟩ := RdI.get hB hbw (show o + k < ys.length by omega)
      have hrl := rowRuns_len (rowOf xs o n) (rowOf ys o n) y k
      have HGA := Lib.hid (rowOf_get hlt hx1)
      have HGB := Lib.hid (rowOf_get hlt hy1)
      obtain ⟨p, hp⟩ : ∃ p, xs[o + k]! = p := ⟨_, rfl⟩
      obtain ⟨q, hq⟩ : ∃ q, ys[o + k]! = q := ⟨_, rfl⟩
      rw [hp] at g1
      rw [hq] at g2
      have HP := Lib.hid hp
      have HQ := Lib.hid hq
      clear hp hq
      have hw1 := HW.out
      have hw2 : IntKind.i64.wrap ((o : Int) + (k : Int)) = (o : Int) + (k : Int) := IntWalk.i64_in _ (by omega)
      have hw3 : (0 : Int) ≤ (o : Int) + (k : Int) := by omega
      have hw4 : ((o : Int) + (k : Int)).toNat = o + k := by omega
      have hw5 : (o : Int) + (k : Int) < (xs.length : Int) := by omega
      have hw6 : (o : Int) + (k : Int) < (ys.length : Int) := by omega
      by_cases he : p = q
      · have hbn : (p == q) = true := by simp [he]
        have HE := Lib.hid he
        clear he
        go_wp2
        go_quiet (fail)
        have hb2 := fun n => hbw.trans (below_drewN (Below.refl w.heap.size wr) n)
        have ho2 := fun n => hown.drewN n
        clear hw1 hw2 hw3 hw4 hw5 hw6 g1 g2
        go_wp2
        go_roundw
        case rel => exact ⟨k + 1, by omega, by go_num, by rw [rowRuns_no (by rw [HGA.out, HGB.out, HP.out, HQ.out, HE.out])]; exact ho2 _, hb2 _⟩
        case measure => simp [intOf]; omega
      · have hbn : (p == q) = false := by simp [he]
        have HE : Hid ((rowOf xs o n)[k]! ≠ (rowOf ys o n)[k]!) := Lib.hid (by rw [HGA.out, HGB.out, HP.out, HQ.out]; exact he)
        clear he
        have hs := hbw.size
        rcases List.eq_nil_or_concat (rowRuns (rowOf xs o n) (rowOf ys o n) y k) with h0 | ⟨L, l, h0⟩
        · have HF := Lib.hid (rowRuns_first HE.out h0)
          rw [h0] at hown
          obtain ⟨C, e, rfl⟩ := Own.slice hown
          clear h0 hrl
          go_wp2
          go_quiet (fail)
          have hb2 := fun n => hbw.trans (below_drewN (Below.refl w.heap.size wr) n)
          have ho2 := fun n => hown.drewN n
          clear hw1 hw2 hw3 hw4 hw5 hw6 g1 g2
          go_wp2_with (at_builtin; refine Try.appX (ho2 _) ⟨k, y, k, y⟩ rfl _ _ rfl rfl rfl (by simp) hs ?_; intro v2 w2 hown2 hb3)
          have hb4 := (hb2 _).trans hb3
          clear hb2 ho2
          go_roundw
          case rel => exact ⟨k + 1, by omega, by go_num, by rw [HF.out]; exact hown2, hb4⟩
          case measure => simp [intOf]; omega
        · rw [List.concat_eq_append] at h0
          obtain ⟨hx1le, hmore⟩ := rowRuns_more HE.out h0
          rw [h0] at hown hrl
          rw [List.length_append, List.length_singleton] at hrl
          have HM := Lib.hid hmore
          clear hmore h0
          obtain ⟨g, cap, hv, hcap, hbg, hgl, hcell, hfr, hset⟩ := Mp.Own.row encX_len hown (by simp)
          rw [List.length_append, List.length_singleton] at hv hcap
          subst hv
          obtain ⟨N, hN⟩ : ∃ N, L.length = N := ⟨_, rfl⟩
          have hl2 : (L ++ [l])[N]! = l := by rw [← hN]; simp
          have hc2 := hcell N (by simp; omega) 2 _ rfl
          rw [hl2] at hc2
          rw [hN] at hown hrl hcap ⊢
          have HST : Hid (∀ (m : Nat) (u : Int), OwnX ((wr.drewN m).setCell ⟨g, N * 4 + 2, none⟩ (.int .i64 u)) w.heap.size (.slice (some ⟨g, 0, none⟩) (N + 1) cap) (L ++ [{ l with x1 := u }])) := Lib.hid (fun m u => by
            obtain ⟨g', cap', hv', _, _, _, _, _, hset'⟩ := Mp.Own.row encX_len (hown.drewN m) (by simp)
            injection hv' with hv' _ _
            injection hv' with hv'
            injection hv' with hv'
            subst hv'
            have := hset' N (by simp; omega) 2 (.int .i64 u) { l with x1 := u } (by omega) (by rw [hl2]; rfl)
            rw [List.set_append_right _ _ (by omega), hN] at this
            simpa using this)
          have hf2 := hfr (N * 4 + 2)
          clear hcell hset hl2 hfr
          have HNN := Lib.hid hN
          clear hN
          have hw7 : IntKind.i64.wrap ((k : Int) - 1) = (k : Int) - 1 := IntWalk.i64_in _ (by omega)
          obtain ⟨e0, he0⟩ : ∃ e0, l.x1 = e0 := ⟨_, rfl⟩
          rw [he0] at hc2
          have HE0 := Lib.hid he0
          clear he0
          by_cases hm : e0 = (k : Int) - 1
          · have hbe : (e0 == (k : Int) - 1) = true := by simp [hm]
            have HB := Lib.hid hm
            clear hm
            go_wp2
            go_quiet (fail)
            have hb2 := fun n => hbw.trans (below_drewN (Below.refl w.heap.size wr) n)
            clear hw1 hw2 hw3 hw4 hw5 hw6 g1 g2
            go_wp2
            go_roundw
            case rel => exact ⟨k + 1, by omega, by go_num, by rw [HM.out, if_pos (by rw [HE0.out]; exact HB.out)]; exact HST.out _ _, (hb2 _).setCell (p := ⟨g, N * 4 + 2, none⟩) hbg _⟩
            case measure => simp [intOf]; omega
          · have hbe : (e0 == (k : Int) - 1) = false := by simp [hm]
            have HB := Lib.hid hm
            clear hm
            go_wp2
            go_quiet (fail)
            have hb2 := fun n => hbw.trans (below_drewN (Below.refl w.heap.size wr) n)
            have ho2 := fun n => hown.drewN n
            clear hw1 hw2 hw3 hw4 hw5 hw6 g1 g2
            go_wp2_with (at_builtin; refine Try.appX (ho2 _) ⟨k, y, k, y⟩ rfl _ _ rfl rfl rfl (by rw [List.length_append, List.length_singleton, HNN.out]; omega) hs ?_; intro v2 w2 hown2 hb3)
            have hb4 := (hb2 _).trans hb3
            clear hb2 ho2
            go_roundw
            case rel => exact ⟨k + 1, by omega, by go_num, by rw [HM.out, if_neg (by rw [HE0.out]; exact HB.out)]; exact hown2, hb4⟩
            case measure => simp [intOf]; omega
    · obtain rfl : k = n := by omega
      go_wp2
      go_ret
      exact ⟨_, rfl, hown, hbw⟩

set_option maxHeartbeats 4000000 in
theorem ref_extend (v : Value) (l : List Bx) (r : Bx) (w : World) (base : Nat) (h1 : l.length ≤ 1000000) (hy : 0 ≤ r.y0 ∧ r.y0 ≤ 1000000) (hown : OwnX w base v l) (hbase : base ≤ w.heap.size) :
    Calls Try.prog 31 #[v, aggX r] w (fun e w' => ∃ v', e = .returned v' ∧ OwnX w' base v' (extL l r) ∧ w.grownBy w' v.ownBlock ∧ Moved w v v') := by
  obtain ⟨A, cap, rfl⟩ := Own.slice hown
  obtain ⟨r0, r1, r2, r3⟩ := r
  dsimp only at hy
  unfold aggX
  dsimp only
  have hw1 : IntKind.i64.wrap (r1 - 1) = r1 - 1 := IntWalk.i64_in _ (by omega)
  have HW1 := Lib.hid hw1
  clear hw1
  have k0 : Below w.heap.size w (w.alloc (.cells #[.int .i64 r0, .int .i64 r1, .int .i64 r2, .int .i64 r3] 38)) := bw1 _ _
  have ho0 := hown.alloc (.cells #[.int .i64 r0, .int .i64 r1, .int .i64 r2, .int .i64 r3] 38)
  have hc0 : (w.alloc (.cells #[.int .i64 r0, .int .i64 r1, .int .i64 r2, .int .i64 r3] 38)).cell? ⟨w.heap.size, 0, none⟩ = some (.int .i64 r0) ∧ (w.alloc (.cells #[.int .i64 r0, .int .i64 r1, .int .i64 r2, .int .i64 r3] 38)).cell? ⟨w.heap.size, 1, none⟩ = some (.int .i64 r1) ∧ (w.alloc (.cells #[.int .i64 r0, .int .i64 r1, .int .i64 r2, .int .i64 r3] 38)).cell? ⟨w.heap.size, 2, none⟩ = some (.int .i64 r2) ∧ (w.alloc (.cells #[.int .i64 r0, .int .i64 r1, .int .i64 r2, .int .i64 r3] 38)).cell? ⟨w.heap.size, 3, none⟩ = some (.int .i64 r3) := by
    refine ⟨?_, ?_, ?_, ?_⟩ <;> simp
  have hsz : (w.alloc (.cells #[.int .i64 r0, .int .i64 r1, .int .i64 r2, .int .i64 r3] 38)).heap.size = w.heap.size + 1 := by simp
  go_enter Try.func31, Try.ntmps31
  go_wp2_with fail
  generalize (w.alloc (.cells #[.int .i64 r0, .int .i64 r1, .int .i64 r2, .int .i64 r3] 38)) = w0 at *
  clear hown
  have hbs : base ≤ w0.heap.size := by omega
  obtain ⟨d0, d1, d2, d3⟩ := hc0
  have HD : Hid (∀ W, Below w0.heap.size w0 W → W.cell? ⟨w.heap.size, 0, none⟩ = some (.int .i64 r0) ∧ W.cell? ⟨w.heap.size, 1, none⟩ = some (.int .i64 r1) ∧ W.cell? ⟨w.heap.size, 2, none⟩ = some (.int .i64 r2) ∧ W.cell? ⟨w.heap.size, 3, none⟩ = some (.int .i64 r3)) := Lib.hid (fun W hb => by
    have hlt : w.heap.size < w0.heap.size := by omega
    exact ⟨(hb.cell (p := ⟨w.heap.size, 0, none⟩) hlt).trans d0, (hb.cell (p := ⟨w.heap.size, 1, none⟩) hlt).trans d1, (hb.cell (p := ⟨w.heap.size, 2, none⟩) hlt).trans d2, (hb.cell (p := ⟨w.heap.size, 3, none⟩) hlt).trans d3⟩)
  clear d0 d1 d2 d3
  go_loopw [5] (fun i wr => ∃ k : Nat, k ≤ l.length ∧ i = .int .i64 k ∧ (∀ j, j < k → ¬ bxMatch l[j]! ⟨r0, r1, r2, r3⟩) ∧ Below w0.heap.size w0 wr) (fun i _ => l.length - (intOf i).toNat)
  case atStart => exact ⟨0, by omega, rfl, fun j hj => by omega, Below.refl _ _⟩
  case round =>
    obtain ⟨k, hk, rfl, hpre, hbw⟩ := hrel
    have hor := ho0.below hbw
    have kb := fun n => k0.trans ((hbw.trans (below_drewN (Below.refl w0.heap.size wr) n)).mono (show w.heap.size ≤ w0.heap.size by omega))
    have hbn := fun n => hbw.trans (below_drewN (Below.refl w0.heap.size wr) n)
    have hbs2 : base ≤ wr.heap.size := Nat.le_trans hbs hbw.size
    have HPRE := Lib.hid hpre
    clear hpre
    obtain ⟨d0, d1, d2, d3⟩ := HD.out wr hbw
    by_cases hlt : k < l.length
    · obtain ⟨g, cap', hv, hcap, hbg, hgl, hcell, hfr, _⟩ := Mp.Own.row encX_len hor (by omega)
      injection hv with hv hx1 hx2
      subst hx2
      clear hx1
      subst hv
      have q0 := hcell k hlt 0 _ rfl
      have q2 := hcell k hlt 2 _ rfl
      have q3 := hcell k hlt 3 _ rfl
      rw [Nat.add_zero] at q0
      have HST : Hid (∀ (m : Nat), OwnX ((wr.drewN m).setCell ⟨g, k * 4 + 3, none⟩ (.int .i64 r3)) base (.slice (some ⟨g, 0, none⟩) l.length cap) (l.set k { l[k]! with y1 := r3 })) := Lib.hid (fun m => by
        obtain ⟨g', cap', hv', _, _, _, _, _, hset'⟩ := Mp.Own.row encX_len (hor.drewN m) (by omega)
        injection hv' with hv' _ _
        injection hv' with hv'
        injection hv' with hv'
        subst hv'
        exact hset' k hlt 3 (.int .i64 r3) { l[k]! with y1 := r3 } (by omega) rfl)
      have hf3 : ∀ m, (wr.drewN m).frozen? ⟨g, k * 4 + 3, none⟩ = false := fun m => hfr (k * 4 + 3)
      have HF3 := Lib.hid hf3
      have HX := Lib.hid (show l[k]! = l[k]! from rfl)
      obtain ⟨b, hb⟩ : ∃ b, l[k]! = b := ⟨_, rfl⟩
      rw [hb] at q0 q2 q3 HST
      have HBX := Lib.hid hb
      clear hb hcell hfr hf3 HX
      have hw1 := HW1.out
      by_cases h1 : b.x0 = r0
      · have hb1 : (b.x0 == r0) = true := by simp [h1]
        by_cases h2 : b.x1 = r2
        · have hb2 : (b.x1 == r2) = true := by simp [h2]
          by_cases h3 : b.y1 = r1 - 1
          · have hb3 : (b.y1 == r1 - 1) = true := by simp [h3]
            have HM : Hid (bxMatch b ⟨r0, r1, r2, r3⟩) := Lib.hid ⟨h1, h2, h3⟩
            clear h1 h2 h3
            go_wp2
            go_quiet (fail)
            have hf := fun m => HF3.out m
            clear hw1 hb1 hb2 hb3
            go_wp2
            go_ret
            refine ⟨_, rfl, ?_, ?_, .inl rfl⟩
            · rw [extL_at l _ k hlt HPRE.out (by rw [HBX.out]; exact HM.out), HBX.out]
              exact HST.out _
            · exact (grown_below (kb _)).trans (grown_set _ g _ _)
          · have hb3 : (b.y1 == r1 - 1) = false := by simp [h3]
            have HM : Hid (¬ bxMatch b ⟨r0, r1, r2, r3⟩) := Lib.hid (fun h => h3 h.2.2)
            clear h1 h2 h3
            go_wp2
            go_quiet (fail)
            clear hw1 hb1 hb2 hb3
            go_wp2
            go_roundw
            case rel => exact ⟨k + 1, by omega, by go_num, fun j hj => by
              rcases Nat.lt_succ_iff_lt_or_eq.1 hj with h | rfl
              · exact HPRE.out j h
              · rw [HBX.out]; exact HM.out, hbn _⟩
            case measure => simp [intOf]; omega
        · have hb2 : (b.x1 == r2) = false := by simp [h2]
          have HM : Hid (¬ bxMatch b ⟨r0, r1, r2, r3⟩) := Lib.hid (fun h => h2 h.2.1)
          clear h1 h2
          go_wp2
          go_quiet (fail)
          clear hw1 hb1 hb2
          go_wp2
          go_roundw
          case rel => exact ⟨k + 1, by omega, by go_num, fun j hj => by
            rcases Nat.lt_succ_iff_lt_or_eq.1 hj with h | rfl
            · exact HPRE.out j h
            · rw [HBX.out]; exact HM.out, hbn _⟩
          case measure => simp [intOf]; omega
      · have hb1 : (b.x0 == r0) = false := by simp [h1]
        have HM : Hid (¬ bxMatch b ⟨r0, r1, r2, r3⟩) := Lib.hid (fun h => h1 h.1)
        clear h1
        go_wp2
        go_quiet (fail)
        clear hw1 hb1
        go_wp2
        go_roundw
        case rel => exact ⟨k + 1, by omega, by go_num, fun j hj => by
          rcases Nat.lt_succ_iff_lt_or_eq.1 hj with h | rfl
          · exact HPRE.out j h
          · rw [HBX.out]; exact HM.out, hbn _⟩
        case measure => simp [intOf]; omega
    · obtain rfl : k = l.length := by omega
      have ho2 := hor
      have kk := k0.trans (hbw.mono (show w.heap.size ≤ w0.heap.size by omega))
      have hoa : OwnA 38 4 encX wr base (fun _ => False) (.slice A l.length cap) l := ⟨hor, fun _ _ h => h⟩
      obtain ⟨i0, hi0, hz0, hz1, hz2⟩ := info_parts Try.infoX
      clear kb hbn
      go_wp2_with (at_builtin; refine Mp.OwnA.append1 (enc := encX) 32 i0 (.agg #[.int .i64 0, .int .i64 0, .int .i64 0, .int .i64 0]) 32 Try.underlying32 hi0 hz0 hz1 hz2 rfl (by decide) (by decide) encX_len ⟨r0, r1, r2, r3⟩ (encX_one _) rfl _ _ rfl hoa (fun j hj => hj.elim) rfl rfl (by omega) hbs2 ?_; intro v2 w2 hown2 hg2 hloc2)
      go_ret
      have hloc3 : Moved w (.slice A l.length cap) v2 := by
        rcases hloc2 with h | ⟨j, h3, h4⟩
        · exact .inl h
        · exact .inr ⟨j, h3, Nat.le_trans kk.size h4⟩
      refine ⟨_, rfl, ?_, (grown_below kk).trans hg2, hloc3⟩
      rw [extL_none l _ HPRE.out]
      exact hown2.1
end Go.Proofs
