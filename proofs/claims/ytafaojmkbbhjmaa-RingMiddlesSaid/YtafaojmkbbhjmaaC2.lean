/- Lists of points: edges, simple polygons. -/
import Derived.Test.YtafaojmkbbhjmaaC1
import Derived.Deep.CutBlock
set_option linter.unusedVariables false
set_option linter.unusedSimpArgs false
namespace Go.Proofs
open Go.RowKit Go.Proofs.Mp

set_option maxHeartbeats 1000000 in
theorem ring_edge (A : Option Addr) (c : Nat) (l : List Pt) (i : Nat) (w : World) (hmax : l.length ≤ 1000000000000) (hi : i < l.length) (hR : RdR w A l) :
    Calls Try.prog 31 #[.slice A l.length c, .int .i64 i] w (RetV w (.tuple #[aggP l[i]!, aggP (edE l i)])) := by
  obtain ⟨b, off, rfl, hb, hc⟩ := RdR.getAll hR (Below.refl _ _) hi
  obtain ⟨h1, h2⟩ := hc (nx l.length i) (nx_lt hi)
  obtain ⟨g1, g2⟩ := hc i hi
  have hx := nx_lt hi
  have ht := nx_tmod hi
  unfold aggP edE
  generalize nx l.length i = m at *
  rcases hzz : l[m]! with ⟨x, y⟩
  rw [hzz] at h1 h2
  rcases hyy : l[i]! with ⟨u, v⟩
  rw [hyy] at g1 g2
  clear hzz hc hyy
  dsimp only at *
  have hn0 : ¬ l.length = 0 := by omega
  have hi0 : (i : Int) + 1 ≤ 1000000000000 := by omega
  have hi1 : IntKind.i64.wrap ((i : Int) + 1) = (i : Int) + 1 := IntWalk.i64_in _ (by omega)
  have hm1 : IntKind.i64.wrap (m : Int) = (m : Int) := IntWalk.i64_in _ (by omega)
  go_enter Try.func31, Try.ntmps31
  go_upto_region 1 with fail
  go_region
  all_goals go_wp2_with fail
  all_goals
    refine bodyPost_ret (v := .tuple #[.agg #[.int .i64 u, .int .i64 v], .agg #[.int .i64 x, .int .i64 y]]) (by simp [results, Try.results31, go_sem]) rfl ?_
    exact ⟨rfl, below_drewN (((Below.refl w.heap.size w).alloc (Nat.le_refl _) _).alloc (by simp) _) 1⟩

/-- how many points the edges i and j may have in common -/
def comN (n i j : Nat) : Int := if j = i + 1 ∨ (i = 0 ∧ j + 1 = n) then 1 else 0
def okP (l : List Pt) (i j : Nat) : Bool := !(decide (l[i]! = l[j]!)) && decide (meetN l[i]! (edE l i) l[j]! (edE l j) = comN l.length i j)
def okTo (l : List Pt) (j k : Nat) : Prop := ∀ i, i < k → okP l i j = true
def okAll (l : List Pt) (k : Nat) : Prop := ∀ j, j < k → okTo l j j
def simpleB (l : List Pt) : Bool := (List.range l.length).all fun j => (List.range j).all fun i => okP l i j
theorem simpleB_iff (l : List Pt) : simpleB l = true ↔ okAll l l.length := by
  unfold simpleB okAll okTo
  simp only [List.all_eq_true, List.mem_range]
theorem simpleB_no {l : List Pt} {i j : Nat} (hj : j < l.length) (hi : i < j) (h : okP l i j = false) : simpleB l = false := by
  rw [← Bool.not_eq_true, simpleB_iff]
  intro g
  rw [g j hj i hi] at h
  cases h
theorem okTo_succ {l : List Pt} {j k : Nat} (h : okTo l j k) (hk : okP l k j = true) : okTo l j (k + 1) := by
  intro i hi
  rcases Nat.lt_succ_iff_lt_or_eq.1 hi with h1 | rfl
  · exact h i h1
  · exact hk
theorem okAll_succ {l : List Pt} {k : Nat} (h : okAll l k) (hk : okTo l k k) : okAll l (k + 1) := by
  intro i hi
  rcases Nat.lt_succ_iff_lt_or_eq.1 hi with h1 | rfl
  · exact h i h1
  · exact hk
theorem edE_vp {l : List Pt} (h : allVp l) {i : Nat} (hi : i < l.length) : Vp (edE l i) := h _ (nx_lt hi)

theorem two_box (w W : World) (a b c d : Value) (hb : Below ((w.alloc (.cells #[a, b] 32)).alloc (.cells #[c, d] 32)).heap.size ((w.alloc (.cells #[a, b] 32)).alloc (.cells #[c, d] 32)) W) :
    W.cell? ⟨w.heap.size, 0, none⟩ = some a ∧ W.cell? ⟨w.heap.size, 1, none⟩ = some b ∧ W.cell? ⟨w.heap.size + 1, 0, none⟩ = some c ∧ W.cell? ⟨w.heap.size + 1, 1, none⟩ = some d ∧ Below w.heap.size w W := by
  have e2 := bw1 (w.alloc (.cells #[a, b] 32)) (.cells #[c, d] 32)
  have e1 := bw1 w (.cells #[a, b] 32)
  have s1 : (w.alloc (.cells #[a, b] 32)).heap.size = w.heap.size + 1 := by simp
  have h2 := e2.trans (hb.mono e2.size)
  have h1 := e1.trans (h2.mono e1.size)
  obtain ⟨k1, k2⟩ := box_at w W _ _ _ (by rw [← s1]; exact h2)
  obtain ⟨k3, k4⟩ := box_at (w.alloc (.cells #[a, b] 32)) W c d 32 (hb.mono (by simp))
  rw [s1] at k3 k4
  exact ⟨k1, k2, k3, k4, h1⟩

set_option maxRecDepth 100000 in
set_option maxHeartbeats 4000000 in
theorem ring_simple (A : Option Addr) (c : Nat) (l : List Pt) (w : World) (hmax : l.length ≤ 1000000000000) (hv : allVp l) (hR : RdR w A l) :
    Calls Try.prog 28 #[.slice A l.length c] w (RetV w (.bool (simpleB l))) := by
  have cE := Lib.hid fun (i : Nat) (hi : i < l.length) (W : World) (hb : Below w.heap.size w W) => ring_edge A c l i W hmax hi (hR.below hb)
  have cM := Lib.hid fun (i j : Nat) (hi : i < l.length) (hj : j < l.length) (W : World) => geom_meet l[i]! (edE l i) l[j]! (edE l j) W (hv i hi).nr (edE_vp hv hi).nr (hv j hj).nr (edE_vp hv hj).nr
  clear hR hv
  unfold aggP at cE cM
  go_enter Try.func28, Try.ntmps28
  go_wp2
  go_loopw [12] (fun i wr => ∃ j : Nat, j ≤ l.length ∧ i = .int .i64 j ∧ Below w.heap.size w wr ∧ Hid (okAll l j)) (fun i _ => l.length - (intOf i).toNat)
  case atStart => exact ⟨0, by omega, rfl, Below.refl _ _, Lib.hid fun j hj => by omega⟩
  case round =>
    obtain ⟨j, hj, rfl, hbw, hall⟩ := hrel
    by_cases hlt : j < l.length
    rotate_left
    · obtain rfl : j = l.length := by omega
      go_wp2
      go_ret
      exact RetV.bool ((simpleB_iff l).2 hall.out).symm hbw
    · go_wp2_with fail
      refine (cE.out j hlt wr hbw).mono ?_
      rintro e w1 ⟨rfl, hb1⟩
      have hbw1 := hbw.trans (hb1.mono hbw.size)
      clear hb1
      have cMj := Lib.hid fun (i : Nat) (hi : i < j) (W : World) => cM.out i j (by omega) hlt W
      have HOK := Lib.hid fun (i : Nat) => (show okP l i j = (!(decide (l[i]! = l[j]!)) && decide (meetN l[i]! (edE l i) l[j]! (edE l j) = comN l.length i j)) from rfl)
      obtain ⟨⟨c1, c2⟩, hcc⟩ : ∃ p, l[j]! = p := ⟨_, rfl⟩
      obtain ⟨⟨d1, d2⟩, hdd⟩ : ∃ p, edE l j = p := ⟨_, rfl⟩
      rw [hcc, hdd]
      rw [hcc, hdd] at HOK cMj
      clear hcc hdd
      dsimp only at cMj ⊢
      go_upto_block 2 with fail
      have hb2 : Below w.heap.size w ((w1.alloc (.cells #[.int .i64 c1, .int .i64 c2] 32)).alloc (.cells #[.int .i64 d1, .int .i64 d2] 32)) := (hbw1.alloc hbw1.size _).alloc (by have := hbw1.size; simp; omega) _
      have HC := Lib.hid (fun W hb => two_box w1 W (.int .i64 c1) (.int .i64 c2) (.int .i64 d1) (.int .i64 d2) hb)
      generalize ((w1.alloc (.cells #[.int .i64 c1, .int .i64 c2] 32)).alloc (.cells #[.int .i64 d1, .int .i64 d2] 32)) = w2 at *
      generalize w1.heap.size = n1 at *
      go_wp2_with fail
      go_loopw [22] (fun v wx => ∃ i : Nat, i ≤ j ∧ v = .int .i64 i ∧ Below w2.heap.size w2 wx ∧ Hid (okTo l j i)) (fun v _ => j - (intOf v).toNat)
      case atStart => exact ⟨0, by omega, rfl, Below.refl _ _, Lib.hid fun i hi => by omega⟩
      case round =>
        obtain ⟨i, hi, rfl, hbx, hto⟩ := hrel
        by_cases hij : i < j
        rotate_left
        · obtain rfl : i = j := by omega
          have hbz := hb2.trans (hbx.mono hb2.size)
          clear hbx
          go_wp2
          go_roundw
          case rel => exact ⟨i + 1, by omega, by go_num, hbz, Lib.hid (okAll_succ hall.out hto.out)⟩
          case measure => simp [intOf]; omega
        · have hbz := hb2.trans (hbx.mono hb2.size)
          go_wp2_with fail
          refine (cE.out i (by omega) _ hbz).mono ?_
          rintro e w3 ⟨rfl, hb3⟩
          have hb23 := hbx.trans (hb3.mono hbx.size)
          clear hb3 hbz hbx
          have cMij := Lib.hid fun (W : World) => cMj.out i hij W
          have HOKi := Lib.hid (HOK.out i)
          obtain ⟨⟨a1, a2⟩, hcc⟩ : ∃ p, l[i]! = p := ⟨_, rfl⟩
          obtain ⟨⟨b1, b2⟩, hdd⟩ : ∃ p, edE l i = p := ⟨_, rfl⟩
          rw [hcc, hdd]
          rw [hcc, hdd] at HOKi cMij
          clear hcc hdd
          dsimp only at cMij ⊢
          have hb24 : Below w2.heap.size w2 ((w3.alloc (.cells #[.int .i64 a1, .int .i64 a2] 32)).alloc (.cells #[.int .i64 b1, .int .i64 b2] 32)) := (hb23.alloc hb23.size _).alloc (by have := hb23.size; simp; omega) _
          have HA := Lib.hid (fun W hb => two_box w3 W (.int .i64 a1) (.int .i64 a2) (.int .i64 b1) (.int .i64 b2) hb)
          go_upto_region 10 with fail
          generalize ((w3.alloc (.cells #[.int .i64 a1, .int .i64 a2] 32)).alloc (.cells #[.int .i64 b1, .int .i64 b2] 32)) = w4 at *
          generalize w3.heap.size = n3 at *
          clear hb23
          go_cut [45] (fun v wx => v = .bool (decide (j = i + 1 ∨ (i = 0 ∧ j + 1 = l.length))) ∧ wx = w4)
          case first =>
            by_cases q1 : j = i + 1
            · have d1 : ((j : Int) == (i : Int) + 1) = true := by simp; omega
              have Q1 := Lib.hid q1
              clear q1
              go_wp2_with fail
              go_meet
              exact ⟨congrArg Value.bool (by have hQ1 := Q1.out; first | (symm; apply decide_eq_true; omega) | (symm; apply decide_eq_false; omega)), rfl⟩
            have d1 : ((j : Int) == (i : Int) + 1) = false := by simp; omega
            have Q1 := Lib.hid q1
            clear q1
            by_cases q2 : i = 0
            · have d2 : ((i : Int) == 0) = true := by simp; omega
              have Q2 := Lib.hid q2
              clear q2
              by_cases q3 : j + 1 = l.length
              · have d3 : ((j : Int) == (l.length : Int) - 1) = true := by simp; omega
                have Q3 := Lib.hid q3
                clear q3
                go_wp2_with fail
                go_meet
                exact ⟨congrArg Value.bool (by have hQ1 := Q1.out; have hQ2 := Q2.out; have hQ3 := Q3.out; first | (symm; apply decide_eq_true; omega) | (symm; apply decide_eq_false; omega)), rfl⟩
              · have d3 : ((j : Int) == (l.length : Int) - 1) = false := by simp; omega
                have Q3 := Lib.hid q3
                clear q3
                go_wp2_with fail
                go_meet
                exact ⟨congrArg Value.bool (by have hQ1 := Q1.out; have hQ2 := Q2.out; have hQ3 := Q3.out; first | (symm; apply decide_eq_true; omega) | (symm; apply decide_eq_false; omega)), rfl⟩
            · have d2 : ((i : Int) == 0) = false := by simp; omega
              have Q2 := Lib.hid q2
              clear q2
              go_wp2_with fail
              go_meet
              exact ⟨congrArg Value.bool (by have hQ1 := Q1.out; have hQ2 := Q2.out; first | (symm; apply decide_eq_true; omega) | (symm; apply decide_eq_false; omega)), rfl⟩
          case rest =>
            obtain ⟨rfl, rfl⟩ := hcut
            have HK := Lib.hid (show comN l.length i j = if decide (j = i + 1 ∨ (i = 0 ∧ j + 1 = l.length)) = true then 1 else 0 by unfold comN; simp only [decide_eq_true_eq])
            generalize decide (j = i + 1 ∨ (i = 0 ∧ j + 1 = l.length)) = q at *
            obtain ⟨k1, k2, k3, k4, -⟩ := HA.out _ (Below.refl _ _)
            obtain ⟨k5, k6, k7, k8, -⟩ := HC.out _ hb24
            have hG := Try.guard32
            have hN := fun W => Try.eql32 a1 a2 c1 c2 W
            generalize meetN (a1, a2) (b1, b2) (c1, c2) (d1, d2) = M at *
            have hbz := hb2.trans (hb24.mono hb2.size)
            by_cases he : ((a1, a2) : Pt) = (c1, c2)
            · have HF := Lib.hid (show okP l i j = false by rw [HOKi.out, decide_eq_true he]; rfl)
              rw [decide_eq_true he] at hN
              clear he
              cases q
              all_goals
                go_wp2
                go_ret
                exact RetV.bool (simpleB_no hlt hij HF.out).symm hbz
            · have HF := Lib.hid (show okP l i j = decide (M = comN l.length i j) by rw [HOKi.out, decide_eq_false he]; rfl)
              rw [decide_eq_false he] at hN
              clear he
              cases q
              · have HK' : Hid (okP l i j = decide (M = 0)) := Lib.hid (HF.out.trans (by rw [HK.out]; first | done | rfl))
                clear HK HF
                go_wp2_with fail
                refine (cMij.out _).mono ?_
                rintro e w5 ⟨rfl, hb5⟩
                have hbz5 := hbz.trans (hb5.mono hbz.size)
                have hb25 := hb24.trans (hb5.mono hb24.size)
                clear k1 k2 k3 k4 k5 k6 k7 k8 hb5 hbz hb24
                by_cases hm : M = 0
                · have HT := Lib.hid (HK'.out.trans (decide_eq_true hm))
                  have dm : (M != 0) = false := by simp [hm]
                  clear HK' hm
                  go_wp2
                  go_roundw
                  case rel => exact ⟨i + 1, by omega, by go_num, hb25, Lib.hid (okTo_succ hto.out HT.out)⟩
                  case measure => simp [intOf]; omega
                · have HT := Lib.hid (HK'.out.trans (decide_eq_false hm))
                  have dm : (M != 0) = true := by simp [hm]
                  clear HK' hm
                  go_wp2
                  go_ret
                  exact RetV.bool (simpleB_no hlt hij HT.out).symm hbz5
              · have HK' : Hid (okP l i j = decide (M = 1)) := Lib.hid (HF.out.trans (by rw [HK.out]; first | done | rfl))
                clear HK HF
                go_wp2_with fail
                refine (cMij.out _).mono ?_
                rintro e w5 ⟨rfl, hb5⟩
                have hbz5 := hbz.trans (hb5.mono hbz.size)
                have hb25 := hb24.trans (hb5.mono hb24.size)
                clear k1 k2 k3 k4 k5 k6 k7 k8 hb5 hbz hb24
                by_cases hm : M = 1
                · have HT := Lib.hid (HK'.out.trans (decide_eq_true hm))
                  have dm : (M != 1) = false := by simp [hm]
                  clear HK' hm
                  go_wp2
                  go_roundw
                  case rel => exact ⟨i + 1, by omega, by go_num, hb25, Lib.hid (okTo_succ hto.out HT.out)⟩
                  case measure => simp [intOf]; omega
                · have HT := Lib.hid (HK'.out.trans (decide_eq_false hm))
                  have dm : (M != 1) = true := by simp [hm]
                  clear HK' hm
                  go_wp2
                  go_ret
                  exact RetV.bool (simpleB_no hlt hij HT.out).symm hbz5
end Go.Proofs
