import Derived.Test.YtoknjlodhohioaaT18
set_option linter.unusedVariables false
set_option linter.unusedSimpArgs false
namespace Go.Proofs
open Go.RowKit Go.Proofs.Mp Go.Proofs.Uf

set_option maxHeartbeats 4000000 in
theorem ov_pairs (A : Option Addr) (c : Nat) (l : List Cand) (w : World) (hmax : l.length ≤ 1000) (hR : Rd 8 encC w A l) :
    Calls Try.prog 13 #[.slice A l.length c] w (RetRd 2 encR w (prs l)) := by
  obtain ⟨i0, hi, hz0, hz1, hz2⟩ := Mp.info_parts Try.info48
  go_enter Try.func13, Try.ntmps13
  go_wp2_with fail
  go_loopw [2, 8] (fun v i wr => ∃ k : Nat, k ≤ l.length ∧ i = .int .i64 k ∧ OwnA 48 2 encR wr w.heap.size (fun _ => False) v (prsTo l k) ∧ Below w.heap.size w wr) (fun _ i _ => l.length - (intOf i).toNat)
  case atStart => exact ⟨0, by omega, rfl, OwnA.nil w _ _, Below.refl _ _⟩
  case round =>
    obtain ⟨k, hk, rfl, hown, hbw⟩ := hrel
    by_cases hlt : k < l.length
    · have hle := prsTo_len l k
      have hle2 : k * l.length ≤ 1000 * 1000 := Nat.mul_le_mul (by omega) hmax
      obtain ⟨b, off, rfl, hb, c0, c1, c2, c3, c4, c5, c6, c7⟩ := RdC.get hR hbw hlt
      obtain ⟨x, hx⟩ : ∃ x, l[k]! = x := ⟨_, rfl⟩
      have HX := Lib.hid hx
      rw [hx] at c0 c1 c2 c3 c4 c5 c6 c7
      clear hx
      have hA0 := CandAt.new wr x
      have hgr0 := World.grownBy_alloc wr (candObj x) none
      have e0 : OwnA 48 2 encR (wr.alloc (candObj x)) w.heap.size (fun j => j = wr.heap.size) u2 (prsTo l k ++ prow l k (k + 1)) := by
        rw [prow_start, List.append_nil]
        exact (hown.keptN hgr0).weak fun j hj => by have := (hown.lt hj).2; omega
      have hbw0 := hbw.grown hgr0 hbw.size (fun j hj => by cases hj)
      have hxs : w.heap.size ≤ wr.heap.size := hbw.size
      go_wp2_with fail
      obtain ⟨xb, hxb⟩ : ∃ q, wr.heap.size = q := ⟨_, rfl⟩
      rw [hxb] at hA0 e0 hxs ⊢
      clear hxb hown hbw c0 c1 c2 c3 c4 c5 c6 c7
      go_loopw [2, 5] (fun v j wr => ∃ m : Nat, k < m ∧ m ≤ l.length ∧ j = .int .i64 m ∧ OwnA 48 2 encR wr w.heap.size (fun j => j = xb) v (prsTo l k ++ prow l k m) ∧ CandAt wr xb x ∧ Below w.heap.size w wr) (fun _ j _ => l.length - (intOf j).toNat)
      case atStart => exact ⟨k + 1, by omega, by omega, by go_num, e0, hA0, hbw0⟩
      case round =>
        clear e0 hA0 hbw0
        obtain ⟨m, hkm, hm, rfl, hown, hA, hbw⟩ := hrel
        by_cases hlm : m < l.length
        · obtain ⟨_, d0, d1, d2, d3, d4, d5, d6, d7⟩ := RdC.cells hR hbw hlm
          have hlr := prow_len l k m
          have hbs := hbw.size
          obtain ⟨y, hy⟩ : ∃ y, l[m]! = y := ⟨_, rfl⟩
          have HY := Lib.hid hy
          rw [hy] at d0 d1 d2 d3 d4 d5 d6 d7
          clear hy
          have hbd : b < wr.drew.heap.size := Nat.lt_of_lt_of_le hb hbs
          have hxd : xb < wr.drew.heap.size := hA.lt
          obtain ⟨a0, a1, a2, a3, a4, a5, a6, a7⟩ := id hA
          have HA := Lib.hid hA
          clear hA
          go_wp2_with fail
          go_region_held3 (fun w' => w'.cell? ⟨xb, 0, none⟩ = some (.int .i64 x.f) ∧ w'.cell? ⟨xb, 1, none⟩ = some (.int .i64 x.x0) ∧ w'.cell? ⟨xb, 2, none⟩ = some (.int .i64 x.y0) ∧ w'.cell? ⟨xb, 3, none⟩ = some (.int .i64 x.x1) ∧ w'.cell? ⟨xb, 4, none⟩ = some (.int .i64 x.y1) ∧ w'.cell? ⟨xb, 5, none⟩ = some (.int .i64 x.ax) ∧ w'.cell? ⟨xb, 6, none⟩ = some (.int .i64 x.ay) ∧ w'.cell? ⟨xb, 7, none⟩ = some (.int .i64 x.co) ∧ w'.cell? ⟨b, off + m * 8, none⟩ = some (.int .i64 y.f) ∧ w'.cell? ⟨b, off + m * 8 + 1, none⟩ = some (.int .i64 y.x0) ∧ w'.cell? ⟨b, off + m * 8 + 2, none⟩ = some (.int .i64 y.y0) ∧ w'.cell? ⟨b, off + m * 8 + 3, none⟩ = some (.int .i64 y.x1) ∧ w'.cell? ⟨b, off + m * 8 + 4, none⟩ = some (.int .i64 y.y1) ∧ w'.cell? ⟨b, off + m * 8 + 5, none⟩ = some (.int .i64 y.ax) ∧ w'.cell? ⟨b, off + m * 8 + 6, none⟩ = some (.int .i64 y.ay) ∧ w'.cell? ⟨b, off + m * 8 + 7, none⟩ = some (.int .i64 y.co)) (first | exact ⟨a0, a1, a2, a3, a4, a5, a6, a7, d0, d1, d2, d3, d4, d5, d6, d7⟩ | exact hS1)
            ((go_at_call 9; refine (ov_hit x y _).mono ?_; rintro e w1 ⟨rfl, hb1⟩; have hS1 : (fun w' => w'.cell? ⟨xb, 0, none⟩ = some (.int .i64 x.f) ∧ w'.cell? ⟨xb, 1, none⟩ = some (.int .i64 x.x0) ∧ w'.cell? ⟨xb, 2, none⟩ = some (.int .i64 x.y0) ∧ w'.cell? ⟨xb, 3, none⟩ = some (.int .i64 x.x1) ∧ w'.cell? ⟨xb, 4, none⟩ = some (.int .i64 x.y1) ∧ w'.cell? ⟨xb, 5, none⟩ = some (.int .i64 x.ax) ∧ w'.cell? ⟨xb, 6, none⟩ = some (.int .i64 x.ay) ∧ w'.cell? ⟨xb, 7, none⟩ = some (.int .i64 x.co) ∧ w'.cell? ⟨b, off + m * 8, none⟩ = some (.int .i64 y.f) ∧ w'.cell? ⟨b, off + m * 8 + 1, none⟩ = some (.int .i64 y.x0) ∧ w'.cell? ⟨b, off + m * 8 + 2, none⟩ = some (.int .i64 y.y0) ∧ w'.cell? ⟨b, off + m * 8 + 3, none⟩ = some (.int .i64 y.x1) ∧ w'.cell? ⟨b, off + m * 8 + 4, none⟩ = some (.int .i64 y.y1) ∧ w'.cell? ⟨b, off + m * 8 + 5, none⟩ = some (.int .i64 y.ax) ∧ w'.cell? ⟨b, off + m * 8 + 6, none⟩ = some (.int .i64 y.ay) ∧ w'.cell? ⟨b, off + m * 8 + 7, none⟩ = some (.int .i64 y.co)) w1 := ⟨(hb1.cell (p := ⟨xb, 0, none⟩) hxd).trans a0, (hb1.cell (p := ⟨xb, 1, none⟩) hxd).trans a1, (hb1.cell (p := ⟨xb, 2, none⟩) hxd).trans a2, (hb1.cell (p := ⟨xb, 3, none⟩) hxd).trans a3, (hb1.cell (p := ⟨xb, 4, none⟩) hxd).trans a4, (hb1.cell (p := ⟨xb, 5, none⟩) hxd).trans a5, (hb1.cell (p := ⟨xb, 6, none⟩) hxd).trans a6, (hb1.cell (p := ⟨xb, 7, none⟩) hxd).trans a7, (hb1.cell (p := ⟨b, off + m * 8, none⟩) hbd).trans d0, (hb1.cell (p := ⟨b, off + m * 8 + 1, none⟩) hbd).trans d1, (hb1.cell (p := ⟨b, off + m * 8 + 2, none⟩) hbd).trans d2, (hb1.cell (p := ⟨b, off + m * 8 + 3, none⟩) hbd).trans d3, (hb1.cell (p := ⟨b, off + m * 8 + 4, none⟩) hbd).trans d4, (hb1.cell (p := ⟨b, off + m * 8 + 5, none⟩) hbd).trans d5, (hb1.cell (p := ⟨b, off + m * 8 + 6, none⟩) hbd).trans d6, (hb1.cell (p := ⟨b, off + m * 8 + 7, none⟩) hbd).trans d7⟩))
          have hg1 := (grown_drew wr none).trans (below_gr hb1)
          have hbw1 : Below w.heap.size w w1 := hbw.grown hg1 hbs (fun j hj => by cases hj)
          have hown1 := OwnA.keptN hown hg1
          have hA1 := HA.out.kept hg1 (by simp)
          clear hown a0 a1 a2 a3 a4 a5 a6 a7 d0 d1 d2 d3 d4 d5 d6 d7 hS1
          rcases hh : hitB x y with _ | _
          · have HH := Lib.hid hh
            clear hh
            go_wp2
            go_roundw
            case rel => exact ⟨m + 1, by omega, by omega, by go_num, by rw [prow_miss (by rw [HX.out, HY.out]; exact HH.out)]; exact hown1, hA1, hbw1⟩
            case measure => simp [intOf]; omega
          · have HH := Lib.hid hh
            clear hh
            have hs1 := hbw1.size
            have hown1b := fun j hj => (hown1.lt (j := j) hj).1
            have hown1a := Lib.hid hown1.2
            have hA1l := hA1.lt
            go_wp2_with (at_builtin; refine Mp.OwnA.append1 (enc := encR) 32 i0 (.agg #[.int .i64 0, .int .i64 0]) 16 Try.underlying32 hi hz0 hz1 hz2 rfl (by decide) (by decide) encR_len ((k : Int), (m : Int)) (encR_one _) rfl _ _ rfl hown1 (fun j hj => hj ▸ hA1l) rfl rfl (by rw [List.length_append]; omega) hs1 ?_; clear hown1; intro v2 w2 hown2 hg2 hloc2)
            have hbw2 := hbw1.grown hg2 hs1 hown1b
            go_roundw
            case rel => exact ⟨m + 1, by omega, by omega, by go_num, by rw [prow_hit hkm (by rw [HX.out, HY.out]; exact HH.out), ← List.append_assoc]; exact hown2, hA1.kept hg2 (fun e => hown1a.out xb e.symm rfl), hbw2⟩
            case measure => simp [intOf]; omega
        · obtain rfl : m = l.length := by omega
          rw [← prsTo_succ] at hown
          go_wp2
          go_roundw
          case rel => exact ⟨k + 1, by omega, by go_num, hown.weak (fun j hj h => h), hbw⟩
          case measure => simp [intOf]; omega
    · obtain rfl : k = l.length := by omega
      go_wp2
      go_ret
      exact RetRd.of_own encR_len hown.1 hbw
end Go.Proofs
