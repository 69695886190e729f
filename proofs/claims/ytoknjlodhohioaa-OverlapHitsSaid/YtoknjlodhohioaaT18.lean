import Derived.Test.YtoknjlodhohioaaT17
set_option linter.unusedVariables false
set_option linter.unusedSimpArgs false
namespace Go.Proofs
open Go.RowKit Go.Proofs.Mp Go.Proofs.Uf

theorem Mp.OwnA.keptN {α : Type} {e k : Nat} {enc : α → List Value} {w w' : World} {base : Nat} {av : Nat → Prop} {v : Value} {xs : List α} (h : OwnA e k enc w base av v xs) (hg : w.grownBy w' none) : OwnA e k enc w' base av v xs := by
  refine h.kept hg ?_
  rcases v.ownBlock with _ | q
  · exact .inl rfl
  · exact .inr (by simp)

/-- the pairs of one candidate with those behind it, up to place m -/
def prow (l : List Cand) (i m : Nat) : List (Int × Int) := ((List.range m).filter fun j => decide (i < j) && hitB l[i]! l[j]!).map fun (j : Nat) => ((i : Int), (j : Int))
/-- all pairs of the first k candidates -/
def prsTo (l : List Cand) (k : Nat) : List (Int × Int) := (List.range k).flatMap fun i => prow l i l.length
def prs (l : List Cand) : List (Int × Int) := prsTo l l.length
theorem prsTo_succ (l : List Cand) (k : Nat) : prsTo l (k + 1) = prsTo l k ++ prow l k l.length := by simp [prsTo, List.range_succ]
theorem prow_start (l : List Cand) (i : Nat) : prow l i (i + 1) = [] := by
  unfold prow
  have : (List.range (i + 1)).filter (fun j => decide (i < j) && hitB l[i]! l[j]!) = [] := by
    rw [List.filter_eq_nil_iff]
    intro j hj
    rw [List.mem_range] at hj
    simp; omega
  rw [this]; rfl
theorem prow_hit {l : List Cand} {i m : Nat} (h : i < m) (hh : hitB l[i]! l[m]! = true) : prow l i (m + 1) = prow l i m ++ [((i : Int), (m : Int))] := by
  unfold prow
  rw [List.range_succ, List.filter_append, List.map_append]
  congr 1
  rw [List.filter_cons, if_pos (by rw [hh]; simp [h])]
  rfl
theorem prow_miss {l : List Cand} {i m : Nat} (hh : hitB l[i]! l[m]! = false) : prow l i (m + 1) = prow l i m := by
  unfold prow
  rw [List.range_succ, List.filter_append, List.map_append, List.filter_cons, if_neg (by rw [hh]; simp)]
  simp
theorem prow_len (l : List Cand) (i m : Nat) : (prow l i m).length ≤ m := by
  unfold prow
  rw [List.length_map]
  exact Nat.le_trans (List.length_filter_le _ _) (by simp)
theorem prsTo_len (l : List Cand) : ∀ k, (prsTo l k).length ≤ k * l.length
  | 0 => by simp [prsTo]
  | k + 1 => by
    rw [prsTo_succ, List.length_append, Nat.succ_mul]
    have := prsTo_len l k
    have := prow_len l k l.length
    omega

theorem Try.info48 : (Try.prog.info? 48).map (fun i => (i.zero, i.size, i.bytes)) = some (some (.agg #[.int .i64 0, .int .i64 0]), 2, 16) := by kernel_rfl
theorem encR_one (x : Int × Int) : ∀ u ∈ encR x, u.oneCell' = true := by
  intro u hu
  simp only [encR, List.mem_cons, List.not_mem_nil, or_false] at hu
  rcases hu with rfl | rfl <;> rfl

set_option maxHeartbeats 4000000 in
theorem ref_pairs (A : Option Addr) (c : Nat) (l : List Cand) (w : World) (hmax : l.length ≤ 1000) (hR : Rd 8 encC w A l) :
    Calls Try.prog 14 #[.slice A l.length c] w (RetRd 2 encR w (prs l)) := by
  obtain ⟨i0, hi, hz0, hz1, hz2⟩ := Mp.info_parts Try.info48
  go_enter Try.func14, Try.ntmps14
  go_wp2_with fail
  go_loopw [3, 4] (fun v i wr => ∃ k : Nat, k ≤ l.length ∧ i = .int .i64 k ∧ OwnA 48 2 encR wr w.heap.size (fun _ => False) v (prsTo l k) ∧ Below w.heap.size w wr) (fun _ i _ => l.length - (intOf i).toNat)
  case atStart => exact ⟨0, by omega, rfl, OwnA.nil w _ _, Below.refl _ _⟩
  case round =>
    obtain ⟨k, hk, rfl, hown, hbw⟩ := hrel
    by_cases hlt : k < l.length
    · have hle := prsTo_len l k
      have hle2 : k * l.length ≤ 1000 * 1000 := Nat.mul_le_mul (by omega) hmax
      have e0 : OwnA 48 2 encR wr w.heap.size (fun _ => False) u3 (prsTo l k ++ prow l k (k + 1)) := by rw [prow_start, List.append_nil]; exact hown
      go_wp2_with fail
      go_loopw [3, 5] (fun v j wr => ∃ m : Nat, k < m ∧ m ≤ l.length ∧ j = .int .i64 m ∧ OwnA 48 2 encR wr w.heap.size (fun _ => False) v (prsTo l k ++ prow l k m) ∧ Below w.heap.size w wr) (fun _ j _ => l.length - (intOf j).toNat)
      case atStart => exact ⟨k + 1, by omega, by omega, by go_num, e0, hbw⟩
      case round =>
        clear e0 hown hbw
        obtain ⟨m, hkm, hm, rfl, hown, hbw⟩ := hrel
        by_cases hlm : m < l.length
        · obtain ⟨b, off, rfl, hb, c0, c1, c2, c3, c4, c5, c6, c7⟩ := RdC.get hR hbw hlt
          obtain ⟨_, d0, d1, d2, d3, d4, d5, d6, d7⟩ := RdC.cells hR hbw hlm
          have hlr := prow_len l k m
          have hbs := hbw.size
          obtain ⟨x, hx⟩ : ∃ x, l[k]! = x := ⟨_, rfl⟩
          obtain ⟨y, hy⟩ : ∃ y, l[m]! = y := ⟨_, rfl⟩
          have HX := Lib.hid hx
          have HY := Lib.hid hy
          rw [hx] at c0 c1 c2 c3 c4 c5 c6 c7
          rw [hy] at d0 d1 d2 d3 d4 d5 d6 d7
          clear hx hy
          have hbd : b < wr.drew.heap.size := Nat.lt_of_lt_of_le hb hbs
          go_wp2_with fail
          go_region_held3 (fun w' => w'.cell? ⟨b, off + k * 8, none⟩ = some (.int .i64 x.f) ∧ w'.cell? ⟨b, off + k * 8 + 1, none⟩ = some (.int .i64 x.x0) ∧ w'.cell? ⟨b, off + k * 8 + 2, none⟩ = some (.int .i64 x.y0) ∧ w'.cell? ⟨b, off + k * 8 + 3, none⟩ = some (.int .i64 x.x1) ∧ w'.cell? ⟨b, off + k * 8 + 4, none⟩ = some (.int .i64 x.y1) ∧ w'.cell? ⟨b, off + k * 8 + 5, none⟩ = some (.int .i64 x.ax) ∧ w'.cell? ⟨b, off + k * 8 + 6, none⟩ = some (.int .i64 x.ay) ∧ w'.cell? ⟨b, off + k * 8 + 7, none⟩ = some (.int .i64 x.co) ∧ w'.cell? ⟨b, off + m * 8, none⟩ = some (.int .i64 y.f) ∧ w'.cell? ⟨b, off + m * 8 + 1, none⟩ = some (.int .i64 y.x0) ∧ w'.cell? ⟨b, off + m * 8 + 2, none⟩ = some (.int .i64 y.y0) ∧ w'.cell? ⟨b, off + m * 8 + 3, none⟩ = some (.int .i64 y.x1) ∧ w'.cell? ⟨b, off + m * 8 + 4, none⟩ = some (.int .i64 y.y1) ∧ w'.cell? ⟨b, off + m * 8 + 5, none⟩ = some (.int .i64 y.ax) ∧ w'.cell? ⟨b, off + m * 8 + 6, none⟩ = some (.int .i64 y.ay) ∧ w'.cell? ⟨b, off + m * 8 + 7, none⟩ = some (.int .i64 y.co)) (first | exact ⟨c0, c1, c2, c3, c4, c5, c6, c7, d0, d1, d2, d3, d4, d5, d6, d7⟩ | exact hS1)
            ((go_at_call 10; refine (ref_hit x y _).mono ?_; rintro e w1 ⟨rfl, hb1⟩; have hS1 : (fun w' => w'.cell? ⟨b, off + k * 8, none⟩ = some (.int .i64 x.f) ∧ w'.cell? ⟨b, off + k * 8 + 1, none⟩ = some (.int .i64 x.x0) ∧ w'.cell? ⟨b, off + k * 8 + 2, none⟩ = some (.int .i64 x.y0) ∧ w'.cell? ⟨b, off + k * 8 + 3, none⟩ = some (.int .i64 x.x1) ∧ w'.cell? ⟨b, off + k * 8 + 4, none⟩ = some (.int .i64 x.y1) ∧ w'.cell? ⟨b, off + k * 8 + 5, none⟩ = some (.int .i64 x.ax) ∧ w'.cell? ⟨b, off + k * 8 + 6, none⟩ = some (.int .i64 x.ay) ∧ w'.cell? ⟨b, off + k * 8 + 7, none⟩ = some (.int .i64 x.co) ∧ w'.cell? ⟨b, off + m * 8, none⟩ = some (.int .i64 y.f) ∧ w'.cell? ⟨b, off + m * 8 + 1, none⟩ = some (.int .i64 y.x0) ∧ w'.cell? ⟨b, off + m * 8 + 2, none⟩ = some (.int .i64 y.y0) ∧ w'.cell? ⟨b, off + m * 8 + 3, none⟩ = some (.int .i64 y.x1) ∧ w'.cell? ⟨b, off + m * 8 + 4, none⟩ = some (.int .i64 y.y1) ∧ w'.cell? ⟨b, off + m * 8 + 5, none⟩ = some (.int .i64 y.ax) ∧ w'.cell? ⟨b, off + m * 8 + 6, none⟩ = some (.int .i64 y.ay) ∧ w'.cell? ⟨b, off + m * 8 + 7, none⟩ = some (.int .i64 y.co)) w1 := ⟨(hb1.cell (p := ⟨b, off + k * 8, none⟩) hbd).trans c0, (hb1.cell (p := ⟨b, off + k * 8 + 1, none⟩) hbd).trans c1, (hb1.cell (p := ⟨b, off + k * 8 + 2, none⟩) hbd).trans c2, (hb1.cell (p := ⟨b, off + k * 8 + 3, none⟩) hbd).trans c3, (hb1.cell (p := ⟨b, off + k * 8 + 4, none⟩) hbd).trans c4, (hb1.cell (p := ⟨b, off + k * 8 + 5, none⟩) hbd).trans c5, (hb1.cell (p := ⟨b, off + k * 8 + 6, none⟩) hbd).trans c6, (hb1.cell (p := ⟨b, off + k * 8 + 7, none⟩) hbd).trans c7, (hb1.cell (p := ⟨b, off + m * 8, none⟩) hbd).trans d0, (hb1.cell (p := ⟨b, off + m * 8 + 1, none⟩) hbd).trans d1, (hb1.cell (p := ⟨b, off + m * 8 + 2, none⟩) hbd).trans d2, (hb1.cell (p := ⟨b, off + m * 8 + 3, none⟩) hbd).trans d3, (hb1.cell (p := ⟨b, off + m * 8 + 4, none⟩) hbd).trans d4, (hb1.cell (p := ⟨b, off + m * 8 + 5, none⟩) hbd).trans d5, (hb1.cell (p := ⟨b, off + m * 8 + 6, none⟩) hbd).trans d6, (hb1.cell (p := ⟨b, off + m * 8 + 7, none⟩) hbd).trans d7⟩))
          have hg1 := below_gr hb1
          have hbw1 : Below w.heap.size w w1 := (hbw.drew).grown hg1 hbs (fun j hj => by cases hj)
          have hown1 := OwnA.keptN hown ((grown_drew wr none).trans hg1)
          clear hown c0 c1 c2 c3 c4 c5 c6 c7 d0 d1 d2 d3 d4 d5 d6 d7 hS1
          rcases hh : hitB x y with _ | _
          · have HH := Lib.hid hh
            clear hh
            go_wp2
            go_roundw
            case rel => exact ⟨m + 1, by omega, by omega, by go_num, by rw [prow_miss (by rw [HX.out, HY.out]; exact HH.out)]; exact hown1, hbw1⟩
            case measure => simp [intOf]; omega
          · have HH := Lib.hid hh
            clear hh
            have hs1 := hbw1.size
            have hown1b := fun j hj => (hown1.lt (j := j) hj).1
            go_wp2_with (at_builtin; refine Mp.OwnA.append1 (enc := encR) 32 i0 (.agg #[.int .i64 0, .int .i64 0]) 16 Try.underlying32 hi hz0 hz1 hz2 rfl (by decide) (by decide) encR_len ((k : Int), (m : Int)) (encR_one _) rfl _ _ rfl hown1 (fun j hj => hj.elim) rfl rfl (by rw [List.length_append]; omega) hs1 ?_; clear hown1; intro v2 w2 hown2 hg2 hloc2)
            have hbw2 := hbw1.grown hg2 hs1 hown1b
            go_roundw
            case rel => exact ⟨m + 1, by omega, by omega, by go_num, by rw [prow_hit hkm (by rw [HX.out, HY.out]; exact HH.out), ← List.append_assoc]; exact hown2, hbw2⟩
            case measure => simp [intOf]; omega
        · obtain rfl : m = l.length := by omega
          rw [← prsTo_succ] at hown
          go_wp2
          go_roundw
          case rel => exact ⟨k + 1, by omega, by go_num, hown, hbw⟩
          case measure => simp [intOf]; omega
    · obtain rfl : k = l.length := by omega
      go_wp2
      go_ret
      exact RetRd.of_own encR_len hown.1 hbw
end Go.Proofs
