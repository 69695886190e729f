import Derived.Test.YtoknjlodhohioaaT28
set_option linter.unusedVariables false
set_option linter.unusedSimpArgs false
namespace Go.Proofs
open Go.RowKit Go.Proofs.Mp Go.Proofs.Uf

theorem RdB.get {w wr : World} {A : Option Addr} {xs : List Cand} (h : Rd 4 encB w A xs) (hb : Below w.heap.size w wr) {j : Nat} (hj : j < xs.length) :
    ∃ b off, A = some ⟨b, off, none⟩ ∧ b < w.heap.size ∧ wr.cell? ⟨b, off + j * 4, none⟩ = some (.int .i64 xs[j]!.x0) ∧ wr.cell? ⟨b, off + j * 4 + 1, none⟩ = some (.int .i64 xs[j]!.y0) ∧ wr.cell? ⟨b, off + j * 4 + 2, none⟩ = some (.int .i64 xs[j]!.x1) ∧ wr.cell? ⟨b, off + j * 4 + 3, none⟩ = some (.int .i64 xs[j]!.y1) := by
  obtain ⟨b, off, rfl, hlt, hc⟩ := Rd.get h hb hj
  exact ⟨b, off, rfl, hlt, hc j hj 0 _ rfl, hc j hj 1 _ rfl, hc j hj 2 _ rfl, hc j hj 3 _ rfl⟩

def okTo (bs : List Cand) (x : Cand) (m : Nat) : Bool := !((bs.take m).any fun b => overB x b)
theorem okTo_succ {bs : List Cand} {x : Cand} {m : Nat} (h : m < bs.length) : okTo bs x (m + 1) = (okTo bs x m && !overB x bs[m]!) := by
  unfold okTo
  rw [List.take_succ_eq_append_getElem h, List.any_append]
  simp [h]
theorem okTo_all (bs : List Cand) (x : Cand) : okTo bs x bs.length = freeB bs x := by unfold okTo freeB; rw [List.take_length]

set_option maxHeartbeats 8000000 in
theorem ref_free (A B : Option Addr) (c d : Nat) (l bs : List Cand) (w : World) (h1 : l.length ≤ 1000000) (h2 : bs.length ≤ 1000000) (hR : Rd 8 encC w A l) (hB : Rd 4 encB w B bs) :
    Calls Try.prog 23 #[.slice A l.length c, .slice B bs.length d] w (fun e w' => ∃ v, e = .returned v ∧ SlC w' v (freeS l bs) ∧ Below w.heap.size w w') := by
  obtain ⟨i0, hi, hz0, hz1, hz2⟩ := Mp.info_parts Try.infoC
  go_enter Try.func23, Try.ntmps23
  go_wp2_with fail
  go_loopw [5, 6] (fun v i wr => ∃ k : Nat, k ≤ l.length ∧ i = .int .i64 k ∧ OwnA 27 8 encC wr w.heap.size (fun _ => False) v (freeS (l.take k) bs) ∧ Below w.heap.size w wr) (fun _ i _ => l.length - (intOf i).toNat)
  case atStart => exact ⟨0, by omega, rfl, OwnA.nil w _ _, Below.refl _ _⟩
  case round =>
    obtain ⟨k, hk, rfl, hown, hbw⟩ := hrel
    by_cases hlt : k < l.length
    · have HT := Lib.hid (freeS_take (bs := bs) hlt)
      have hlen := freeS_len l bs k
      go_wp2_with fail
      go_loopw [7, 8] (fun g j wr => ∃ m : Nat, m ≤ bs.length ∧ j = .int .i64 m ∧ g = .bool (okTo bs l[k]! m) ∧ OwnA 27 8 encC wr w.heap.size (fun _ => False) u5 (freeS (l.take k) bs) ∧ Below w.heap.size w wr) (fun _ j _ => bs.length - (intOf j).toNat)
      case atStart => exact ⟨0, by omega, rfl, by simp [okTo], hown, hbw⟩
      case round =>
        clear hown hbw
        obtain ⟨m, hm, rfl, rfl, hown, hbw⟩ := hrel
        obtain ⟨b, off, rfl, hb, c0, c1, c2, c3, c4, c5, c6, c7⟩ := RdC.get hR hbw hlt
        obtain ⟨x, hx⟩ : ∃ x, l[k]! = x := ⟨_, rfl⟩
        have HX := Lib.hid hx
        rw [hx] at c0 c1 c2 c3 c4 c5 c6 c7 ⊢
        clear hx
        have hbs := hbw.size
        by_cases hlm : m < bs.length
        · obtain ⟨b', off', rfl, hb', d0, d1, d2, d3⟩ := RdB.get hB hbw hlm
          have HO := Lib.hid (okTo_succ (x := x) hlm)
          obtain ⟨y, hy⟩ : ∃ y, bs[m]! = y := ⟨_, rfl⟩
          have HY := Lib.hid hy
          rw [hy] at d0 d1 d2 d3
          clear hy
          obtain ⟨g, hg⟩ : ∃ g, okTo bs x m = g := ⟨_, rfl⟩
          rw [hg]
          have HG := Lib.hid hg
          clear hg
          have hbd : b < wr.drew.heap.size := Nat.lt_of_lt_of_le hb hbs
          have hbd' : b' < wr.drew.heap.size := Nat.lt_of_lt_of_le hb' hbs
          rcases g with _ | _
          · go_wp2_with fail
            refine wp_region_held_drew (S := fun _ => True) (by kernel_rfl) trivial (fun hHeld => ?_)
            refine wpAnyH_take (i := 0) (oi := ⟨some 21, _, _, _, _, _⟩) (v := ?v1) rfl (by kernel_rfl) (by kernel_rfl) (by kernel_rfl) (fun _ _ _ h => h) (Or.inl ⟨by kernel_rfl, ?hy1⟩) (by assumption) ?rest1
            case hy1 => (intro w hSw; (try dsimp only at hSw); go_simp; try with_reducible rfl)
            case' rest1 => try simp only [Act.put, List.setIfInBounds_toArray, List.set_cons_zero, List.set_cons_succ]
            refine wpAnyH_take (i := 1) (oi := ⟨some 22, _, _, _, _, _⟩) (v := ?v2) rfl (by kernel_rfl) (by kernel_rfl) (by kernel_rfl) (fun _ _ _ h => h) (Or.inl ⟨by kernel_rfl, ?hy2⟩) (by assumption) ?rest2
            case hy2 => (intro w hSw; (try dsimp only at hSw); go_simp; try with_reducible rfl)
            case' rest2 => try simp only [Act.put, List.setIfInBounds_toArray, List.set_cons_zero, List.set_cons_succ]
            refine wpAnyH_take (i := 2) (oi := ⟨some 23, _, _, _, _, _⟩) (v := undef) rfl (by kernel_rfl) (by kernel_rfl) (by kernel_rfl) (fun _ _ _ h => h) (Or.inr ⟨by kernel_rfl, rfl⟩) (by assumption) ?rest3
            case' rest3 => try simp only [Act.put, List.setIfInBounds_toArray, List.set_cons_zero, List.set_cons_succ]
            refine wpAnyH_take (i := 3) (oi := ⟨some 24, _, _, _, _, _⟩) (v := undef) rfl (by kernel_rfl) (by kernel_rfl) (by kernel_rfl) (fun _ _ _ h => h) (Or.inr ⟨by kernel_rfl, rfl⟩) (by assumption) ?rest4
            case' rest4 => try simp only [Act.put, List.setIfInBounds_toArray, List.set_cons_zero, List.set_cons_succ]
            refine wpAnyH_take (i := 4) (oi := ⟨some 25, _, _, _, _, _⟩) (v := undef) rfl (by kernel_rfl) (by kernel_rfl) (by kernel_rfl) (fun _ _ _ h => h) (Or.inr ⟨by kernel_rfl, rfl⟩) (by assumption) ?rest5
            case' rest5 => try simp only [Act.put, List.setIfInBounds_toArray, List.set_cons_zero, List.set_cons_succ]
            refine wpAnyH_take (i := 5) (oi := ⟨some 26, _, _, _, _, _⟩) (v := undef) rfl (by kernel_rfl) (by kernel_rfl) (by kernel_rfl) (fun _ _ _ h => h) (Or.inr ⟨by kernel_rfl, rfl⟩) (by assumption) ?rest6
            case' rest6 => try simp only [Act.put, List.setIfInBounds_toArray, List.set_cons_zero, List.set_cons_succ]
            refine wpAnyH_take (i := 6) (oi := ⟨some 27, _, _, _, _, _⟩) (v := undef) rfl (by kernel_rfl) (by kernel_rfl) (by kernel_rfl) (fun _ _ _ h => h) (Or.inr ⟨by kernel_rfl, rfl⟩) (by assumption) ?rest7
            case' rest7 => try simp only [Act.put, List.setIfInBounds_toArray, List.set_cons_zero, List.set_cons_succ]
            refine wpAnyH_take (i := 7) (oi := ⟨some 28, _, _, _, _, _⟩) (v := undef) rfl (by kernel_rfl) (by kernel_rfl) (by kernel_rfl) (fun _ _ _ h => h) (Or.inr ⟨by kernel_rfl, rfl⟩) (by assumption) ?rest8
            case' rest8 => try simp only [Act.put, List.setIfInBounds_toArray, List.set_cons_zero, List.set_cons_succ]
            refine wpAnyH_take (i := 8) (oi := ⟨some 29, _, _, _, _, _⟩) (v := undef) rfl (by kernel_rfl) (by kernel_rfl) (by kernel_rfl) (fun _ _ _ h => h) (Or.inr ⟨by kernel_rfl, rfl⟩) (by assumption) ?rest9
            case' rest9 => try simp only [Act.put, List.setIfInBounds_toArray, List.set_cons_zero, List.set_cons_succ]
            refine wpAnyH_take (i := 9) (oi := ⟨some 30, _, _, _, _, _⟩) (v := undef) rfl (by kernel_rfl) (by kernel_rfl) (by kernel_rfl) (fun _ _ _ h => h) (Or.inr ⟨by kernel_rfl, rfl⟩) (by assumption) ?rest10
            case' rest10 => try simp only [Act.put, List.setIfInBounds_toArray, List.set_cons_zero, List.set_cons_succ]
            refine wpAnyH_take (i := 10) (oi := ⟨some 31, _, _, _, _, _⟩) (v := undef) rfl (by kernel_rfl) (by kernel_rfl) (by kernel_rfl) (fun _ _ _ h => h) (Or.inr ⟨by kernel_rfl, rfl⟩) (by assumption) ?rest11
            case' rest11 => try simp only [Act.put, List.setIfInBounds_toArray, List.set_cons_zero, List.set_cons_succ]
            refine wpAnyH_take (i := 11) (oi := ⟨some 32, _, _, _, _, _⟩) (v := undef) rfl (by kernel_rfl) (by kernel_rfl) (by kernel_rfl) (fun _ _ _ h => h) (Or.inr ⟨by kernel_rfl, rfl⟩) (by assumption) ?rest12
            case' rest12 => try simp only [Act.put, List.setIfInBounds_toArray, List.set_cons_zero, List.set_cons_succ]
            refine wpAnyH_take (i := 12) (oi := ⟨some 33, _, _, _, _, _⟩) (v := undef) rfl (by kernel_rfl) (by kernel_rfl) (by kernel_rfl) (fun _ _ _ h => h) (Or.inr ⟨by kernel_rfl, rfl⟩) (by assumption) ?rest13
            case' rest13 => try simp only [Act.put, List.setIfInBounds_toArray, List.set_cons_zero, List.set_cons_succ]
            refine wpAnyH_take (i := 13) (oi := ⟨some 34, _, _, _, _, _⟩) (v := ?v14) rfl (by kernel_rfl) (by kernel_rfl) (by kernel_rfl) (fun _ _ _ h => h) (Or.inl ⟨by kernel_rfl, ?hy14⟩) (by assumption) ?rest14
            case hy14 => (intro w hSw; (try dsimp only at hSw); go_simp; try with_reducible rfl)
            case' rest14 => try simp only [Act.put, List.setIfInBounds_toArray, List.set_cons_zero, List.set_cons_succ]
            refine wpAnyH_take (i := 14) (oi := ⟨some 7, _, _, _, _, _⟩) (v := ?v15) rfl (by kernel_rfl) (by kernel_rfl) (by kernel_rfl) (fun _ _ _ h => h) (Or.inl ⟨by kernel_rfl, ?hy15⟩) (by assumption) ?rest15
            case hy15 => (intro w hSw; (try dsimp only at hSw); go_simp; try with_reducible rfl)
            case' rest15 => try simp only [Act.put, List.setIfInBounds_toArray, List.set_cons_zero, List.set_cons_succ]
            refine wpAnyH_done (by kernel_rfl) ?_ _
            have hbw1 : Below w.heap.size w wr.drew := hbw.drew
            have hown1 := hown.keptN (grown_drew wr none)
            clear hHeld
            go_wp2
            go_roundw
            case rel => exact ⟨m + 1, by omega, by go_num, by rw [HO.out, HG.out]; rfl, hown1, hbw1⟩
            case measure => simp [intOf]; omega
          · obtain ⟨hv, hhv⟩ : ∃ hv, overB x y = hv := ⟨_, rfl⟩
            have hC : Hid (∀ W, Calls Try.prog 25 #[aggB x, aggB y] W (RetV W (.bool hv))) := Lib.hid (fun W => by rw [← hhv]; exact ref_overlap x y W)
            have HV := Lib.hid hhv
            clear hhv
            go_wp2_with fail
            go_region_held3 (fun w' : World => w'.cell? ⟨b, off + k * 8 + 1, none⟩ = some (.int .i64 x.x0) ∧ w'.cell? ⟨b, off + k * 8 + 2, none⟩ = some (.int .i64 x.y0) ∧ w'.cell? ⟨b, off + k * 8 + 3, none⟩ = some (.int .i64 x.x1) ∧ w'.cell? ⟨b, off + k * 8 + 4, none⟩ = some (.int .i64 x.y1) ∧ w'.cell? ⟨b', off' + m * 4, none⟩ = some (.int .i64 y.x0) ∧ w'.cell? ⟨b', off' + m * 4 + 1, none⟩ = some (.int .i64 y.y0) ∧ w'.cell? ⟨b', off' + m * 4 + 2, none⟩ = some (.int .i64 y.x1) ∧ w'.cell? ⟨b', off' + m * 4 + 3, none⟩ = some (.int .i64 y.y1)) (first | exact ⟨c1, c2, c3, c4, d0, d1, d2, d3⟩ | exact hS1)
              ((go_at_call 25; refine (hC.out _).mono ?_; rintro e w1 ⟨rfl, hb1⟩; have hS1 : (fun w' : World => w'.cell? ⟨b, off + k * 8 + 1, none⟩ = some (.int .i64 x.x0) ∧ w'.cell? ⟨b, off + k * 8 + 2, none⟩ = some (.int .i64 x.y0) ∧ w'.cell? ⟨b, off + k * 8 + 3, none⟩ = some (.int .i64 x.x1) ∧ w'.cell? ⟨b, off + k * 8 + 4, none⟩ = some (.int .i64 x.y1) ∧ w'.cell? ⟨b', off' + m * 4, none⟩ = some (.int .i64 y.x0) ∧ w'.cell? ⟨b', off' + m * 4 + 1, none⟩ = some (.int .i64 y.y0) ∧ w'.cell? ⟨b', off' + m * 4 + 2, none⟩ = some (.int .i64 y.x1) ∧ w'.cell? ⟨b', off' + m * 4 + 3, none⟩ = some (.int .i64 y.y1)) w1 := ⟨(hb1.cell (p := ⟨b, off + k * 8 + 1, none⟩) hbd).trans c1, (hb1.cell (p := ⟨b, off + k * 8 + 2, none⟩) hbd).trans c2, (hb1.cell (p := ⟨b, off + k * 8 + 3, none⟩) hbd).trans c3, (hb1.cell (p := ⟨b, off + k * 8 + 4, none⟩) hbd).trans c4, (hb1.cell (p := ⟨b', off' + m * 4, none⟩) hbd').trans d0, (hb1.cell (p := ⟨b', off' + m * 4 + 1, none⟩) hbd').trans d1, (hb1.cell (p := ⟨b', off' + m * 4 + 2, none⟩) hbd').trans d2, (hb1.cell (p := ⟨b', off' + m * 4 + 3, none⟩) hbd').trans d3⟩))
            have hg1 := (grown_drew wr none).trans (below_gr hb1)
            have hbw1 : Below w.heap.size w w1 := hbw.grown hg1 hbs (fun j hj => by cases hj)
            have hown1 := hown.keptN hg1
            clear hS1
            go_wp2
            go_roundw
            case rel => exact ⟨m + 1, by omega, by go_num, by rw [HO.out, HG.out, HY.out, HV.out]; simp, hown1, hbw1⟩
            case measure => simp [intOf]; omega
        · obtain rfl : m = bs.length := by omega
          rw [okTo_all]
          obtain ⟨g, hg⟩ : ∃ g, freeB bs x = g := ⟨_, rfl⟩
          rw [hg]
          have HG := Lib.hid hg
          clear hg
          rcases g with _ | _
          · go_wp2
            go_roundw
            case rel => exact ⟨k + 1, by omega, by go_num, by rw [HT.out, HX.out, if_neg (by rw [HG.out]; simp), List.append_nil]; exact hown, hbw⟩
            case measure => simp [intOf]; omega
          · have hownb := fun j hj => (hown.lt (j := j) hj).1
            go_wp2_with (at_builtin; refine Mp.OwnA.append1 (enc := encC) 30 i0 (.agg #[.int .i64 0, .int .i64 0, .int .i64 0, .int .i64 0, .int .i64 0, .int .i64 0, .int .i64 0, .int .i64 0]) 64 Try.underlying30 hi hz0 hz1 hz2 rfl (by decide) (by decide) encC_len x (encC_one _) rfl _ _ rfl hown (fun j hj => hj.elim) rfl rfl (by omega) hbs ?_; clear hown; intro v2 w2 hown2 hg2 hloc2)
            go_roundw
            case rel => exact ⟨k + 1, by omega, by go_num, by rw [HT.out, HX.out, if_pos HG.out]; exact hown2, hbw.grown hg2 hbs hownb⟩
            case measure => simp [intOf]; omega
    · obtain rfl : k = l.length := by omega
      rw [List.take_length] at hown
      go_wp2
      go_ret
      exact ⟨_, rfl, slC_of hown.1, hbw⟩
end Go.Proofs
