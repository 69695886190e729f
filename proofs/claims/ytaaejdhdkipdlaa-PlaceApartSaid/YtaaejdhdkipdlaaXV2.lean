/- The reference's index and Valid. -/
import Derived.Test.YtaaejdhdkipdlaaXJ5
set_option linter.unusedVariables false
set_option linter.unusedSimpArgs false
namespace Go.Proofs
open Go.RowKit Go.Proofs.Mp Go.Proofs.Uf

theorem c_index {b : Bool} (A : Option Addr) (n c : Nat) (y : Int) (w : World) (h : inB n y = b) : Calls Try.prog 29 #[.slice A n c, .int .i64 y] w (RetV w (.bool b)) := by
  subst h
  by_cases h0 : 0 ≤ y
  · have d0 : decide (0 ≤ y) = true := decide_eq_true h0
    by_cases h1 : y < n
    · have d1 : decide (y < (n : Int)) = true := decide_eq_true h1
      have HB : Hid (inB n y = true) := Lib.hid (inB_iff.2 ⟨h0, h1⟩)
      clear h0 h1
      go_enter Try.func29, Try.ntmps29
      go_wp2
      go_ret
      exact RetV.bool HB.out.symm (Below.refl _ _)
    · have d1 : decide (y < (n : Int)) = false := decide_eq_false h1
      have HB : Hid (inB n y = false) := Lib.hid (inB_no.2 (by omega))
      clear h0 h1
      go_enter Try.func29, Try.ntmps29
      go_wp2
      go_ret
      exact RetV.bool HB.out.symm (Below.refl _ _)
  · have d0 : decide (0 ≤ y) = false := decide_eq_false h0
    have HB : Hid (inB n y = false) := Lib.hid (inB_no.2 (by omega))
    clear h0
    go_enter Try.func29, Try.ntmps29
    go_wp2
    go_ret
    exact RetV.bool HB.out.symm (Below.refl _ _)
set_option maxRecDepth 100000 in
set_option maxHeartbeats 4000000 in
theorem ref_valid (u v : Value) (l : List Cand) (ch : List Int) (w : World) (hl : l.length ≤ 1000) (hc : ch.length ≤ 1000) (hu : SlC w u l) (hv : SlI w v ch) :
    Calls Try.prog 14 #[u, v] w (RetV w (.bool (validB l ch))) := by
  obtain ⟨A, ca, rfl, hca, hR⟩ := hu
  obtain ⟨B, cb, rfl, hcb, hRc⟩ := hv
  have HR := Lib.hid hR
  have HRC := Lib.hid hRc
  clear hR hRc
  go_enter Try.func14, Try.ntmps14
  go_wp2_with fail
  go_loopw [5] (fun i wr => ∃ k : Nat, k ≤ ch.length ∧ i = .int .i64 k ∧ Hid (∀ j, j < k → inB l.length ch[j]! = true) ∧ Hid (ascTo ch k) ∧ Below w.heap.size w wr) (fun i _ => ch.length - (intOf i).toNat)
  case atStart => exact ⟨0, Nat.zero_le _, rfl, Lib.hid (fun j hj => by omega), Lib.hid (fun j h1 hj => by omega), Below.refl _ _⟩
  case round =>
    obtain ⟨k, hk, rfl, hin, has, hbw⟩ := hrel
    by_cases hlt : k < ch.length
    · obtain ⟨b, off, rfl, hb, HC⟩ := RdI.cells HRC.out (show 0 < ch.length by omega)
      obtain ⟨y, hy⟩ : ∃ y, ch[k]! = y := ⟨_, rfl⟩
      have HG1 := Lib.hid (fun (W : World) (hW : Below wr.heap.size wr W) => (by have := HC W (hbw.trans (hW.mono hbw.size)) k hlt; rwa [hy] at this : W.cell? ⟨b, off + k, none⟩ = some (.int .i64 y)))
      obtain ⟨z, hz⟩ : ∃ z, ch[k-1]! = z := ⟨_, rfl⟩
      have HG0 := Lib.hid (fun (W : World) (hW : Below wr.heap.size wr W) => (by have := HC W (hbw.trans (hW.mono hbw.size)) (k - 1) (by omega); rwa [hz] at this : W.cell? ⟨b, off + (k - 1), none⟩ = some (.int .i64 z)))
      have HY := Lib.hid hy
      have HZ := Lib.hid hz
      have hd : decide (k < ch.length) = true := decide_eq_true hlt
      clear hy hz HC
      have hS1 : (fun W : World => Below wr.heap.size wr W) wr.drew := (Below.refl _ _).drew
      obtain ⟨ib, hib⟩ : ∃ ib, inB l.length y = ib := ⟨_, rfl⟩
      cases ib
      · have HBAD : Hid (validB l ch = false) := Lib.hid (validB_in hlt (by rw [HY.out]; exact hib))
        as_aux_lemma =>
          go_wp2_with fail
          refine wp_region_held_drew (S := fun W : World => Below wr.heap.size wr W) (by kernel_rfl) hS1 (fun hHeld => ?_)
          clear hHeld
          generalize wr.drew = wzra at *
          refine wpAnyH_take (i := 0) (oi := ⟨some 14, _, _, _, _, _⟩) (v := ?vra1) rfl (by kernel_rfl) (by kernel_rfl) (by kernel_rfl) (fun _ _ _ h => h) (Or.inl ⟨by kernel_rfl, ?hyra1⟩) (by assumption) ?restra1
          case hyra1 => (intro W hSw; (try dsimp only at hSw); go_simp; try with_reducible rfl)
          case' restra1 => try simp only [Act.put, List.setIfInBounds_toArray, List.set_cons_zero, List.set_cons_succ]
          refine wpAnyH_take (i := 1) (oi := ⟨some 15, _, _, _, _, _⟩) (v := ?vra2) rfl (by kernel_rfl) (by kernel_rfl) (by kernel_rfl) (fun _ _ _ h => h) (Or.inl ⟨by kernel_rfl, ?hyra2⟩) (by assumption) ?restra2
          case hyra2 => (intro W hSw; (try dsimp only at hSw); go_simp; try with_reducible rfl)
          case' restra2 => try simp only [Act.put, List.setIfInBounds_toArray, List.set_cons_zero, List.set_cons_succ]
          refine wpAnyH_take (i := 2) (oi := ⟨some 16, _, _, _, _, _⟩) (v := ?vra3) rfl (by kernel_rfl) (by kernel_rfl) (by kernel_rfl) (fun _ _ _ h => h) (Or.inl ⟨by kernel_rfl, ?hyra3⟩) (by assumption) ?restra3
          case hyra3 => (intro W hSw; (try dsimp only at hSw); go_simp; try with_reducible rfl)
          case' restra3 => try simp only [Act.put, List.setIfInBounds_toArray, List.set_cons_zero, List.set_cons_succ]
          refine wpAnyH_take (i := 3) (oi := ⟨some 17, _, _, _, _, _⟩) (v := ?vra4) rfl (by kernel_rfl) (by kernel_rfl) (by kernel_rfl) (fun _ _ _ h => h) (Or.inl ⟨by kernel_rfl, ?hyra4⟩) (by assumption) ?restra4
          case hyra4 => (intro W hSw; (try dsimp only at hSw); go_simp; try with_reducible rfl)
          case' restra4 => try simp only [Act.put, List.setIfInBounds_toArray, List.set_cons_zero, List.set_cons_succ]
          refine wpAnyH_take (i := 4) (oi := ⟨some 18, _, _, _, _, _⟩) (v := ?vra5) rfl (by kernel_rfl) (by kernel_rfl) (by kernel_rfl) (fun _ _ _ h => h) (Or.inl ⟨by kernel_rfl, ?hyra5⟩) (by assumption) ?restra5
          case hyra5 => (intro W hSw; have gq := HG1.out W hSw; (try dsimp only at hSw); go_simp; try with_reducible rfl)
          case' restra5 => try simp only [Act.put, List.setIfInBounds_toArray, List.set_cons_zero, List.set_cons_succ]
          refine wpAnyH_ready (rs := [5]) (by kernel_rfl) (by simp) ?_
          refine AllReadyH.cons (o := ⟨some 19, _, _, _, _, _⟩) rfl (fun K hK => ?_) AllReadyH.nil
          go_simp
          go_at_call 29
          refine (c_index A l.length ca y wzra hib).mono ?_
          rintro e Wra1 ⟨rfl, hbWra1⟩
          have hSWra1 := hS1.trans (hbWra1.mono hS1.size)
          try clear hS1
          clear hbWra1
          go_wp2_with fail
          refine hK.out _ _ hSWra1 (fun hHeld => ?_)
          clear hK hHeld K
          try simp only [Act.put, List.setIfInBounds_toArray, List.set_cons_zero, List.set_cons_succ]
          refine wpAnyH_take (i := 6) (oi := ⟨some 20, _, _, _, _, _⟩) (v := ?vra6) rfl (by kernel_rfl) (by kernel_rfl) (by kernel_rfl) (fun _ _ _ h => h) (Or.inl ⟨by kernel_rfl, ?hyra6⟩) (by assumption) ?restra6
          case hyra6 => (intro W hSw; (try dsimp only at hSw); go_simp; try with_reducible rfl)
          case' restra6 => try simp only [Act.put, List.setIfInBounds_toArray, List.set_cons_zero, List.set_cons_succ]
          refine wpAnyH_take (i := 7) (oi := ⟨some 21, _, _, _, _, _⟩) (v := ?vra7) rfl (by kernel_rfl) (by kernel_rfl) (by kernel_rfl) (fun _ _ _ h => h) (Or.inl ⟨by kernel_rfl, ?hyra7⟩) (by assumption) ?restra7
          case hyra7 => (intro W hSw; (try dsimp only at hSw); go_simp; try with_reducible rfl)
          case' restra7 => try simp only [Act.put, List.setIfInBounds_toArray, List.set_cons_zero, List.set_cons_succ]
          refine wpAnyH_take (i := 8) (oi := ⟨some 22, _, _, _, _, _⟩) (v := undef) rfl (by kernel_rfl) (by kernel_rfl) (by kernel_rfl) (fun _ _ _ h => h) (Or.inr ⟨by kernel_rfl, rfl⟩) (by assumption) ?restra8
          case' restra8 => try simp only [Act.put, List.setIfInBounds_toArray, List.set_cons_zero, List.set_cons_succ]
          refine wpAnyH_take (i := 9) (oi := ⟨some 23, _, _, _, _, _⟩) (v := undef) rfl (by kernel_rfl) (by kernel_rfl) (by kernel_rfl) (fun _ _ _ h => h) (Or.inr ⟨by kernel_rfl, rfl⟩) (by assumption) ?restra9
          case' restra9 => try simp only [Act.put, List.setIfInBounds_toArray, List.set_cons_zero, List.set_cons_succ]
          refine wpAnyH_take (i := 10) (oi := ⟨some 24, _, _, _, _, _⟩) (v := undef) rfl (by kernel_rfl) (by kernel_rfl) (by kernel_rfl) (fun _ _ _ h => h) (Or.inr ⟨by kernel_rfl, rfl⟩) (by assumption) ?restra10
          case' restra10 => try simp only [Act.put, List.setIfInBounds_toArray, List.set_cons_zero, List.set_cons_succ]
          refine wpAnyH_take (i := 11) (oi := ⟨some 25, _, _, _, _, _⟩) (v := undef) rfl (by kernel_rfl) (by kernel_rfl) (by kernel_rfl) (fun _ _ _ h => h) (Or.inr ⟨by kernel_rfl, rfl⟩) (by assumption) ?restra11
          case' restra11 => try simp only [Act.put, List.setIfInBounds_toArray, List.set_cons_zero, List.set_cons_succ]
          refine wpAnyH_take (i := 12) (oi := ⟨some 26, _, _, _, _, _⟩) (v := undef) rfl (by kernel_rfl) (by kernel_rfl) (by kernel_rfl) (fun _ _ _ h => h) (Or.inr ⟨by kernel_rfl, rfl⟩) (by assumption) ?restra12
          case' restra12 => try simp only [Act.put, List.setIfInBounds_toArray, List.set_cons_zero, List.set_cons_succ]
          refine wpAnyH_take (i := 13) (oi := ⟨some 27, _, _, _, _, _⟩) (v := undef) rfl (by kernel_rfl) (by kernel_rfl) (by kernel_rfl) (fun _ _ _ h => h) (Or.inr ⟨by kernel_rfl, rfl⟩) (by assumption) ?restra13
          case' restra13 => try simp only [Act.put, List.setIfInBounds_toArray, List.set_cons_zero, List.set_cons_succ]
          refine wpAnyH_take (i := 14) (oi := ⟨some 28, _, _, _, _, _⟩) (v := undef) rfl (by kernel_rfl) (by kernel_rfl) (by kernel_rfl) (fun _ _ _ h => h) (Or.inr ⟨by kernel_rfl, rfl⟩) (by assumption) ?restra14
          case' restra14 => try simp only [Act.put, List.setIfInBounds_toArray, List.set_cons_zero, List.set_cons_succ]
          refine wpAnyH_take (i := 15) (oi := ⟨some 29, _, _, _, _, _⟩) (v := undef) rfl (by kernel_rfl) (by kernel_rfl) (by kernel_rfl) (fun _ _ _ h => h) (Or.inr ⟨by kernel_rfl, rfl⟩) (by assumption) ?restra15
          case' restra15 => try simp only [Act.put, List.setIfInBounds_toArray, List.set_cons_zero, List.set_cons_succ]
          refine wpAnyH_take (i := 16) (oi := ⟨some 30, _, _, _, _, _⟩) (v := undef) rfl (by kernel_rfl) (by kernel_rfl) (by kernel_rfl) (fun _ _ _ h => h) (Or.inr ⟨by kernel_rfl, rfl⟩) (by assumption) ?restra16
          case' restra16 => try simp only [Act.put, List.setIfInBounds_toArray, List.set_cons_zero, List.set_cons_succ]
          refine wpAnyH_take (i := 17) (oi := ⟨some 31, _, _, _, _, _⟩) (v := undef) rfl (by kernel_rfl) (by kernel_rfl) (by kernel_rfl) (fun _ _ _ h => h) (Or.inr ⟨by kernel_rfl, rfl⟩) (by assumption) ?restra17
          case' restra17 => try simp only [Act.put, List.setIfInBounds_toArray, List.set_cons_zero, List.set_cons_succ]
          refine wpAnyH_take (i := 18) (oi := ⟨some 32, _, _, _, _, _⟩) (v := undef) rfl (by kernel_rfl) (by kernel_rfl) (by kernel_rfl) (fun _ _ _ h => h) (Or.inr ⟨by kernel_rfl, rfl⟩) (by assumption) ?restra18
          case' restra18 => try simp only [Act.put, List.setIfInBounds_toArray, List.set_cons_zero, List.set_cons_succ]
          refine wpAnyH_take (i := 19) (oi := ⟨some 33, _, _, _, _, _⟩) (v := undef) rfl (by kernel_rfl) (by kernel_rfl) (by kernel_rfl) (fun _ _ _ h => h) (Or.inr ⟨by kernel_rfl, rfl⟩) (by assumption) ?restra19
          case' restra19 => try simp only [Act.put, List.setIfInBounds_toArray, List.set_cons_zero, List.set_cons_succ]
          refine wpAnyH_take (i := 20) (oi := ⟨some 34, _, _, _, _, _⟩) (v := undef) rfl (by kernel_rfl) (by kernel_rfl) (by kernel_rfl) (fun _ _ _ h => h) (Or.inr ⟨by kernel_rfl, rfl⟩) (by assumption) ?restra20
          case' restra20 => try simp only [Act.put, List.setIfInBounds_toArray, List.set_cons_zero, List.set_cons_succ]
          refine wpAnyH_take (i := 21) (oi := ⟨some 35, _, _, _, _, _⟩) (v := undef) rfl (by kernel_rfl) (by kernel_rfl) (by kernel_rfl) (fun _ _ _ h => h) (Or.inr ⟨by kernel_rfl, rfl⟩) (by assumption) ?restra21
          case' restra21 => try simp only [Act.put, List.setIfInBounds_toArray, List.set_cons_zero, List.set_cons_succ]
          refine wpAnyH_take (i := 22) (oi := ⟨some 36, _, _, _, _, _⟩) (v := ?vra22) rfl (by kernel_rfl) (by kernel_rfl) (by kernel_rfl) (fun _ _ _ h => h) (Or.inl ⟨by kernel_rfl, ?hyra22⟩) (by assumption) ?restra22
          case hyra22 => (intro W hSw; (try dsimp only at hSw); go_simp; try with_reducible rfl)
          case' restra22 => try simp only [Act.put, List.setIfInBounds_toArray, List.set_cons_zero, List.set_cons_succ]
          refine wpAnyH_done (by kernel_rfl) ?_ _
          go_wp2
          go_ret
          exact RetV.bool (HBAD.out).symm (hbw.trans (hSWra1.mono hbw.size))
      · have HIN : Hid (∀ j, j < k + 1 → inB l.length ch[j]! = true) := Lib.hid (fun j hj => by
          rcases Nat.lt_succ_iff_lt_or_eq.1 hj with h2 | rfl
          · exact hin.out j h2
          · rw [HY.out]; exact hib)
        by_cases hk0 : k = 0
        · subst hk0
          have HAS : Hid (ascTo ch (0 + 1)) := Lib.hid (fun j h1 hj => by omega)
          simp only [Int.natCast_zero, Nat.add_zero] at *
          as_aux_lemma =>
            go_wp2_with fail
            refine wp_region_held_drew (S := fun W : World => Below wr.heap.size wr W) (by kernel_rfl) hS1 (fun hHeld => ?_)
            clear hHeld
            generalize wr.drew = wzrb at *
            refine wpAnyH_take (i := 0) (oi := ⟨some 14, _, _, _, _, _⟩) (v := ?vrb1) rfl (by kernel_rfl) (by kernel_rfl) (by kernel_rfl) (fun _ _ _ h => h) (Or.inl ⟨by kernel_rfl, ?hyrb1⟩) (by assumption) ?restrb1
            case hyrb1 => (intro W hSw; (try dsimp only at hSw); go_simp; try with_reducible rfl)
            case' restrb1 => try simp only [Act.put, List.setIfInBounds_toArray, List.set_cons_zero, List.set_cons_succ]
            refine wpAnyH_take (i := 1) (oi := ⟨some 15, _, _, _, _, _⟩) (v := ?vrb2) rfl (by kernel_rfl) (by kernel_rfl) (by kernel_rfl) (fun _ _ _ h => h) (Or.inl ⟨by kernel_rfl, ?hyrb2⟩) (by assumption) ?restrb2
            case hyrb2 => (intro W hSw; (try dsimp only at hSw); go_simp; try with_reducible rfl)
            case' restrb2 => try simp only [Act.put, List.setIfInBounds_toArray, List.set_cons_zero, List.set_cons_succ]
            refine wpAnyH_take (i := 2) (oi := ⟨some 16, _, _, _, _, _⟩) (v := ?vrb3) rfl (by kernel_rfl) (by kernel_rfl) (by kernel_rfl) (fun _ _ _ h => h) (Or.inl ⟨by kernel_rfl, ?hyrb3⟩) (by assumption) ?restrb3
            case hyrb3 => (intro W hSw; (try dsimp only at hSw); go_simp; try with_reducible rfl)
            case' restrb3 => try simp only [Act.put, List.setIfInBounds_toArray, List.set_cons_zero, List.set_cons_succ]
            refine wpAnyH_take (i := 3) (oi := ⟨some 17, _, _, _, _, _⟩) (v := ?vrb4) rfl (by kernel_rfl) (by kernel_rfl) (by kernel_rfl) (fun _ _ _ h => h) (Or.inl ⟨by kernel_rfl, ?hyrb4⟩) (by assumption) ?restrb4
            case hyrb4 => (intro W hSw; (try dsimp only at hSw); go_simp; try with_reducible rfl)
            case' restrb4 => try simp only [Act.put, List.setIfInBounds_toArray, List.set_cons_zero, List.set_cons_succ]
            refine wpAnyH_take (i := 4) (oi := ⟨some 18, _, _, _, _, _⟩) (v := ?vrb5) rfl (by kernel_rfl) (by kernel_rfl) (by kernel_rfl) (fun _ _ _ h => h) (Or.inl ⟨by kernel_rfl, ?hyrb5⟩) (by assumption) ?restrb5
            case hyrb5 => (intro W hSw; have gq := HG1.out W hSw; (try dsimp only at hSw); go_simp; try with_reducible rfl)
            case' restrb5 => try simp only [Act.put, List.setIfInBounds_toArray, List.set_cons_zero, List.set_cons_succ]
            refine wpAnyH_ready (rs := [5]) (by kernel_rfl) (by simp) ?_
            refine AllReadyH.cons (o := ⟨some 19, _, _, _, _, _⟩) rfl (fun K hK => ?_) AllReadyH.nil
            go_simp
            go_at_call 29
            refine (c_index A l.length ca y wzrb hib).mono ?_
            rintro e Wrb1 ⟨rfl, hbWrb1⟩
            have hSWrb1 := hS1.trans (hbWrb1.mono hS1.size)
            try clear hS1
            clear hbWrb1
            go_wp2_with fail
            refine hK.out _ _ hSWrb1 (fun hHeld => ?_)
            clear hK hHeld K
            try simp only [Act.put, List.setIfInBounds_toArray, List.set_cons_zero, List.set_cons_succ]
            refine wpAnyH_take (i := 6) (oi := ⟨some 20, _, _, _, _, _⟩) (v := ?vrb6) rfl (by kernel_rfl) (by kernel_rfl) (by kernel_rfl) (fun _ _ _ h => h) (Or.inl ⟨by kernel_rfl, ?hyrb6⟩) (by assumption) ?restrb6
            case hyrb6 => (intro W hSw; (try dsimp only at hSw); go_simp; try with_reducible rfl)
            case' restrb6 => try simp only [Act.put, List.setIfInBounds_toArray, List.set_cons_zero, List.set_cons_succ]
            refine wpAnyH_take (i := 7) (oi := ⟨some 21, _, _, _, _, _⟩) (v := ?vrb7) rfl (by kernel_rfl) (by kernel_rfl) (by kernel_rfl) (fun _ _ _ h => h) (Or.inl ⟨by kernel_rfl, ?hyrb7⟩) (by assumption) ?restrb7
            case hyrb7 => (intro W hSw; (try dsimp only at hSw); go_simp; try with_reducible rfl)
            case' restrb7 => try simp only [Act.put, List.setIfInBounds_toArray, List.set_cons_zero, List.set_cons_succ]
            refine wpAnyH_take (i := 8) (oi := ⟨some 22, _, _, _, _, _⟩) (v := ?vrb8) rfl (by kernel_rfl) (by kernel_rfl) (by kernel_rfl) (fun _ _ _ h => h) (Or.inl ⟨by kernel_rfl, ?hyrb8⟩) (by assumption) ?restrb8
            case hyrb8 => (intro W hSw; (try dsimp only at hSw); go_simp; try with_reducible rfl)
            case' restrb8 => try simp only [Act.put, List.setIfInBounds_toArray, List.set_cons_zero, List.set_cons_succ]
            refine wpAnyH_take (i := 9) (oi := ⟨some 23, _, _, _, _, _⟩) (v := ?vrb9) rfl (by kernel_rfl) (by kernel_rfl) (by kernel_rfl) (fun _ _ _ h => h) (Or.inl ⟨by kernel_rfl, ?hyrb9⟩) (by assumption) ?restrb9
            case hyrb9 => (intro W hSw; (try dsimp only at hSw); go_simp; try with_reducible rfl)
            case' restrb9 => try simp only [Act.put, List.setIfInBounds_toArray, List.set_cons_zero, List.set_cons_succ]
            refine wpAnyH_take (i := 10) (oi := ⟨some 24, _, _, _, _, _⟩) (v := ?vrb10) rfl (by kernel_rfl) (by kernel_rfl) (by kernel_rfl) (fun _ _ _ h => h) (Or.inl ⟨by kernel_rfl, ?hyrb10⟩) (by assumption) ?restrb10
            case hyrb10 => (intro W hSw; (try dsimp only at hSw); go_simp; try with_reducible rfl)
            case' restrb10 => try simp only [Act.put, List.setIfInBounds_toArray, List.set_cons_zero, List.set_cons_succ]
            refine wpAnyH_take (i := 11) (oi := ⟨some 25, _, _, _, _, _⟩) (v := undef) rfl (by kernel_rfl) (by kernel_rfl) (by kernel_rfl) (fun _ _ _ h => h) (Or.inr ⟨by kernel_rfl, rfl⟩) (by assumption) ?restrb11
            case' restrb11 => try simp only [Act.put, List.setIfInBounds_toArray, List.set_cons_zero, List.set_cons_succ]
            refine wpAnyH_take (i := 12) (oi := ⟨some 26, _, _, _, _, _⟩) (v := undef) rfl (by kernel_rfl) (by kernel_rfl) (by kernel_rfl) (fun _ _ _ h => h) (Or.inr ⟨by kernel_rfl, rfl⟩) (by assumption) ?restrb12
            case' restrb12 => try simp only [Act.put, List.setIfInBounds_toArray, List.set_cons_zero, List.set_cons_succ]
            refine wpAnyH_take (i := 13) (oi := ⟨some 27, _, _, _, _, _⟩) (v := undef) rfl (by kernel_rfl) (by kernel_rfl) (by kernel_rfl) (fun _ _ _ h => h) (Or.inr ⟨by kernel_rfl, rfl⟩) (by assumption) ?restrb13
            case' restrb13 => try simp only [Act.put, List.setIfInBounds_toArray, List.set_cons_zero, List.set_cons_succ]
            refine wpAnyH_take (i := 14) (oi := ⟨some 28, _, _, _, _, _⟩) (v := undef) rfl (by kernel_rfl) (by kernel_rfl) (by kernel_rfl) (fun _ _ _ h => h) (Or.inr ⟨by kernel_rfl, rfl⟩) (by assumption) ?restrb14
            case' restrb14 => try simp only [Act.put, List.setIfInBounds_toArray, List.set_cons_zero, List.set_cons_succ]
            refine wpAnyH_take (i := 15) (oi := ⟨some 29, _, _, _, _, _⟩) (v := undef) rfl (by kernel_rfl) (by kernel_rfl) (by kernel_rfl) (fun _ _ _ h => h) (Or.inr ⟨by kernel_rfl, rfl⟩) (by assumption) ?restrb15
            case' restrb15 => try simp only [Act.put, List.setIfInBounds_toArray, List.set_cons_zero, List.set_cons_succ]
            refine wpAnyH_take (i := 16) (oi := ⟨some 30, _, _, _, _, _⟩) (v := undef) rfl (by kernel_rfl) (by kernel_rfl) (by kernel_rfl) (fun _ _ _ h => h) (Or.inr ⟨by kernel_rfl, rfl⟩) (by assumption) ?restrb16
            case' restrb16 => try simp only [Act.put, List.setIfInBounds_toArray, List.set_cons_zero, List.set_cons_succ]
            refine wpAnyH_take (i := 17) (oi := ⟨some 31, _, _, _, _, _⟩) (v := undef) rfl (by kernel_rfl) (by kernel_rfl) (by kernel_rfl) (fun _ _ _ h => h) (Or.inr ⟨by kernel_rfl, rfl⟩) (by assumption) ?restrb17
            case' restrb17 => try simp only [Act.put, List.setIfInBounds_toArray, List.set_cons_zero, List.set_cons_succ]
            refine wpAnyH_take (i := 18) (oi := ⟨some 32, _, _, _, _, _⟩) (v := undef) rfl (by kernel_rfl) (by kernel_rfl) (by kernel_rfl) (fun _ _ _ h => h) (Or.inr ⟨by kernel_rfl, rfl⟩) (by assumption) ?restrb18
            case' restrb18 => try simp only [Act.put, List.setIfInBounds_toArray, List.set_cons_zero, List.set_cons_succ]
            refine wpAnyH_take (i := 19) (oi := ⟨some 33, _, _, _, _, _⟩) (v := undef) rfl (by kernel_rfl) (by kernel_rfl) (by kernel_rfl) (fun _ _ _ h => h) (Or.inr ⟨by kernel_rfl, rfl⟩) (by assumption) ?restrb19
            case' restrb19 => try simp only [Act.put, List.setIfInBounds_toArray, List.set_cons_zero, List.set_cons_succ]
            refine wpAnyH_take (i := 20) (oi := ⟨some 34, _, _, _, _, _⟩) (v := undef) rfl (by kernel_rfl) (by kernel_rfl) (by kernel_rfl) (fun _ _ _ h => h) (Or.inr ⟨by kernel_rfl, rfl⟩) (by assumption) ?restrb20
            case' restrb20 => try simp only [Act.put, List.setIfInBounds_toArray, List.set_cons_zero, List.set_cons_succ]
            refine wpAnyH_take (i := 21) (oi := ⟨some 35, _, _, _, _, _⟩) (v := ?vrb21) rfl (by kernel_rfl) (by kernel_rfl) (by kernel_rfl) (fun _ _ _ h => h) (Or.inl ⟨by kernel_rfl, ?hyrb21⟩) (by assumption) ?restrb21
            case hyrb21 => (intro W hSw; (try dsimp only at hSw); go_simp; try with_reducible rfl)
            case' restrb21 => try simp only [Act.put, List.setIfInBounds_toArray, List.set_cons_zero, List.set_cons_succ]
            refine wpAnyH_take (i := 22) (oi := ⟨some 36, _, _, _, _, _⟩) (v := ?vrb22) rfl (by kernel_rfl) (by kernel_rfl) (by kernel_rfl) (fun _ _ _ h => h) (Or.inl ⟨by kernel_rfl, ?hyrb22⟩) (by assumption) ?restrb22
            case hyrb22 => (intro W hSw; (try dsimp only at hSw); go_simp; try with_reducible rfl)
            case' restrb22 => try simp only [Act.put, List.setIfInBounds_toArray, List.set_cons_zero, List.set_cons_succ]
            refine wpAnyH_done (by kernel_rfl) ?_ _
            go_wp2
            go_roundw
            case rel => exact ⟨0 + 1, by omega, by go_num, HIN.out, HAS.out, hbw.trans (hSWrb1.mono hbw.size)⟩
            case measure => simp [intOf]; omega
        · have e1 : IntKind.i64.wrap ((k : Int) - 1) = ((k - 1 : Nat) : Int) := by rw [IntWalk.i64_in _ (by omega)]; omega
          have hk1 : 0 < k := by omega
          have d1 : decide (0 < k) = true := decide_eq_true hk1
          have d2 : decide ((0 : Int) < (k : Int)) = true := decide_eq_true (by omega)
          have hkl : k - 1 < ch.length := by omega
          by_cases hyz : z < y
          · have d3 : decide (y ≤ z) = false := decide_eq_false (by omega)
            have HAS : Hid (ascTo ch (k + 1)) := Lib.hid (ascTo_succ has.out (by rw [HZ.out, HY.out]; exact hyz))
            clear hyz
            as_aux_lemma =>
              go_wp2_with fail
              refine wp_region_held_drew (S := fun W : World => Below wr.heap.size wr W) (by kernel_rfl) hS1 (fun hHeld => ?_)
              clear hHeld
              generalize wr.drew = wzrc at *
              refine wpAnyH_take (i := 0) (oi := ⟨some 14, _, _, _, _, _⟩) (v := ?vrc1) rfl (by kernel_rfl) (by kernel_rfl) (by kernel_rfl) (fun _ _ _ h => h) (Or.inl ⟨by kernel_rfl, ?hyrc1⟩) (by assumption) ?restrc1
              case hyrc1 => (intro W hSw; (try dsimp only at hSw); go_simp; try with_reducible rfl)
              case' restrc1 => try simp only [Act.put, List.setIfInBounds_toArray, List.set_cons_zero, List.set_cons_succ]
              refine wpAnyH_take (i := 1) (oi := ⟨some 15, _, _, _, _, _⟩) (v := ?vrc2) rfl (by kernel_rfl) (by kernel_rfl) (by kernel_rfl) (fun _ _ _ h => h) (Or.inl ⟨by kernel_rfl, ?hyrc2⟩) (by assumption) ?restrc2
              case hyrc2 => (intro W hSw; (try dsimp only at hSw); go_simp; try with_reducible rfl)
              case' restrc2 => try simp only [Act.put, List.setIfInBounds_toArray, List.set_cons_zero, List.set_cons_succ]
              refine wpAnyH_take (i := 2) (oi := ⟨some 16, _, _, _, _, _⟩) (v := ?vrc3) rfl (by kernel_rfl) (by kernel_rfl) (by kernel_rfl) (fun _ _ _ h => h) (Or.inl ⟨by kernel_rfl, ?hyrc3⟩) (by assumption) ?restrc3
              case hyrc3 => (intro W hSw; (try dsimp only at hSw); go_simp; try with_reducible rfl)
              case' restrc3 => try simp only [Act.put, List.setIfInBounds_toArray, List.set_cons_zero, List.set_cons_succ]
              refine wpAnyH_take (i := 3) (oi := ⟨some 17, _, _, _, _, _⟩) (v := ?vrc4) rfl (by kernel_rfl) (by kernel_rfl) (by kernel_rfl) (fun _ _ _ h => h) (Or.inl ⟨by kernel_rfl, ?hyrc4⟩) (by assumption) ?restrc4
              case hyrc4 => (intro W hSw; (try dsimp only at hSw); go_simp; try with_reducible rfl)
              case' restrc4 => try simp only [Act.put, List.setIfInBounds_toArray, List.set_cons_zero, List.set_cons_succ]
              refine wpAnyH_take (i := 4) (oi := ⟨some 18, _, _, _, _, _⟩) (v := ?vrc5) rfl (by kernel_rfl) (by kernel_rfl) (by kernel_rfl) (fun _ _ _ h => h) (Or.inl ⟨by kernel_rfl, ?hyrc5⟩) (by assumption) ?restrc5
              case hyrc5 => (intro W hSw; have gq := HG1.out W hSw; (try dsimp only at hSw); go_simp; try with_reducible rfl)
              case' restrc5 => try simp only [Act.put, List.setIfInBounds_toArray, List.set_cons_zero, List.set_cons_succ]
              refine wpAnyH_ready (rs := [5]) (by kernel_rfl) (by simp) ?_
              refine AllReadyH.cons (o := ⟨some 19, _, _, _, _, _⟩) rfl (fun K hK => ?_) AllReadyH.nil
              go_simp
              go_at_call 29
              refine (c_index A l.length ca y wzrc hib).mono ?_
              rintro e Wrc1 ⟨rfl, hbWrc1⟩
              have hSWrc1 := hS1.trans (hbWrc1.mono hS1.size)
              try clear hS1
              clear hbWrc1
              go_wp2_with fail
              refine hK.out _ _ hSWrc1 (fun hHeld => ?_)
              clear hK hHeld K
              try simp only [Act.put, List.setIfInBounds_toArray, List.set_cons_zero, List.set_cons_succ]
              refine wpAnyH_take (i := 6) (oi := ⟨some 20, _, _, _, _, _⟩) (v := ?vrc6) rfl (by kernel_rfl) (by kernel_rfl) (by kernel_rfl) (fun _ _ _ h => h) (Or.inl ⟨by kernel_rfl, ?hyrc6⟩) (by assumption) ?restrc6
              case hyrc6 => (intro W hSw; (try dsimp only at hSw); go_simp; try with_reducible rfl)
              case' restrc6 => try simp only [Act.put, List.setIfInBounds_toArray, List.set_cons_zero, List.set_cons_succ]
              refine wpAnyH_take (i := 7) (oi := ⟨some 21, _, _, _, _, _⟩) (v := ?vrc7) rfl (by kernel_rfl) (by kernel_rfl) (by kernel_rfl) (fun _ _ _ h => h) (Or.inl ⟨by kernel_rfl, ?hyrc7⟩) (by assumption) ?restrc7
              case hyrc7 => (intro W hSw; (try dsimp only at hSw); go_simp; try with_reducible rfl)
              case' restrc7 => try simp only [Act.put, List.setIfInBounds_toArray, List.set_cons_zero, List.set_cons_succ]
              refine wpAnyH_take (i := 8) (oi := ⟨some 22, _, _, _, _, _⟩) (v := ?vrc8) rfl (by kernel_rfl) (by kernel_rfl) (by kernel_rfl) (fun _ _ _ h => h) (Or.inl ⟨by kernel_rfl, ?hyrc8⟩) (by assumption) ?restrc8
              case hyrc8 => (intro W hSw; (try dsimp only at hSw); go_simp; try with_reducible rfl)
              case' restrc8 => try simp only [Act.put, List.setIfInBounds_toArray, List.set_cons_zero, List.set_cons_succ]
              refine wpAnyH_take (i := 9) (oi := ⟨some 23, _, _, _, _, _⟩) (v := ?vrc9) rfl (by kernel_rfl) (by kernel_rfl) (by kernel_rfl) (fun _ _ _ h => h) (Or.inl ⟨by kernel_rfl, ?hyrc9⟩) (by assumption) ?restrc9
              case hyrc9 => (intro W hSw; (try dsimp only at hSw); go_simp; try with_reducible rfl)
              case' restrc9 => try simp only [Act.put, List.setIfInBounds_toArray, List.set_cons_zero, List.set_cons_succ]
              refine wpAnyH_take (i := 10) (oi := ⟨some 24, _, _, _, _, _⟩) (v := ?vrc10) rfl (by kernel_rfl) (by kernel_rfl) (by kernel_rfl) (fun _ _ _ h => h) (Or.inl ⟨by kernel_rfl, ?hyrc10⟩) (by assumption) ?restrc10
              case hyrc10 => (intro W hSw; (try dsimp only at hSw); go_simp; try with_reducible rfl)
              case' restrc10 => try simp only [Act.put, List.setIfInBounds_toArray, List.set_cons_zero, List.set_cons_succ]
              refine wpAnyH_take (i := 11) (oi := ⟨some 25, _, _, _, _, _⟩) (v := ?vrc11) rfl (by kernel_rfl) (by kernel_rfl) (by kernel_rfl) (fun _ _ _ h => h) (Or.inl ⟨by kernel_rfl, ?hyrc11⟩) (by assumption) ?restrc11
              case hyrc11 => (intro W hSw; (try dsimp only at hSw); go_simp; try with_reducible rfl)
              case' restrc11 => try simp only [Act.put, List.setIfInBounds_toArray, List.set_cons_zero, List.set_cons_succ]
              refine wpAnyH_take (i := 12) (oi := ⟨some 26, _, _, _, _, _⟩) (v := ?vrc12) rfl (by kernel_rfl) (by kernel_rfl) (by kernel_rfl) (fun _ _ _ h => h) (Or.inl ⟨by kernel_rfl, ?hyrc12⟩) (by assumption) ?restrc12
              case hyrc12 => (intro W hSw; (try dsimp only at hSw); go_simp; try with_reducible rfl)
              case' restrc12 => try simp only [Act.put, List.setIfInBounds_toArray, List.set_cons_zero, List.set_cons_succ]
              refine wpAnyH_take (i := 13) (oi := ⟨some 27, _, _, _, _, _⟩) (v := ?vrc13) rfl (by kernel_rfl) (by kernel_rfl) (by kernel_rfl) (fun _ _ _ h => h) (Or.inl ⟨by kernel_rfl, ?hyrc13⟩) (by assumption) ?restrc13
              case hyrc13 => (intro W hSw; (try dsimp only at hSw); go_simp; try with_reducible rfl)
              case' restrc13 => try simp only [Act.put, List.setIfInBounds_toArray, List.set_cons_zero, List.set_cons_succ]
              refine wpAnyH_take (i := 14) (oi := ⟨some 28, _, _, _, _, _⟩) (v := ?vrc14) rfl (by kernel_rfl) (by kernel_rfl) (by kernel_rfl) (fun _ _ _ h => h) (Or.inl ⟨by kernel_rfl, ?hyrc14⟩) (by assumption) ?restrc14
              case hyrc14 => (intro W hSw; have gq := HG1.out W hSw; (try dsimp only at hSw); go_simp; try with_reducible rfl)
              case' restrc14 => try simp only [Act.put, List.setIfInBounds_toArray, List.set_cons_zero, List.set_cons_succ]
              refine wpAnyH_take (i := 15) (oi := ⟨some 29, _, _, _, _, _⟩) (v := ?vrc15) rfl (by kernel_rfl) (by kernel_rfl) (by kernel_rfl) (fun _ _ _ h => h) (Or.inl ⟨by kernel_rfl, ?hyrc15⟩) (by assumption) ?restrc15
              case hyrc15 => (intro W hSw; (try dsimp only at hSw); go_simp; try with_reducible rfl)
              case' restrc15 => try simp only [Act.put, List.setIfInBounds_toArray, List.set_cons_zero, List.set_cons_succ]
              refine wpAnyH_take (i := 16) (oi := ⟨some 30, _, _, _, _, _⟩) (v := ?vrc16) rfl (by kernel_rfl) (by kernel_rfl) (by kernel_rfl) (fun _ _ _ h => h) (Or.inl ⟨by kernel_rfl, ?hyrc16⟩) (by assumption) ?restrc16
              case hyrc16 => (intro W hSw; (try dsimp only at hSw); go_simp; try with_reducible rfl)
              case' restrc16 => try simp only [Act.put, List.setIfInBounds_toArray, List.set_cons_zero, List.set_cons_succ]
              refine wpAnyH_take (i := 17) (oi := ⟨some 31, _, _, _, _, _⟩) (v := ?vrc17) rfl (by kernel_rfl) (by kernel_rfl) (by kernel_rfl) (fun _ _ _ h => h) (Or.inl ⟨by kernel_rfl, ?hyrc17⟩) (by assumption) ?restrc17
              case hyrc17 => (intro W hSw; (try dsimp only at hSw); go_simp; try with_reducible rfl)
              case' restrc17 => try simp only [Act.put, List.setIfInBounds_toArray, List.set_cons_zero, List.set_cons_succ]
              refine wpAnyH_take (i := 18) (oi := ⟨some 32, _, _, _, _, _⟩) (v := ?vrc18) rfl (by kernel_rfl) (by kernel_rfl) (by kernel_rfl) (fun _ _ _ h => h) (Or.inl ⟨by kernel_rfl, ?hyrc18⟩) (by assumption) ?restrc18
              case hyrc18 => (intro W hSw; (try dsimp only at hSw); go_simp; try with_reducible rfl)
              case' restrc18 => try simp only [Act.put, List.setIfInBounds_toArray, List.set_cons_zero, List.set_cons_succ]
              refine wpAnyH_take (i := 19) (oi := ⟨some 33, _, _, _, _, _⟩) (v := ?vrc19) rfl (by kernel_rfl) (by kernel_rfl) (by kernel_rfl) (fun _ _ _ h => h) (Or.inl ⟨by kernel_rfl, ?hyrc19⟩) (by assumption) ?restrc19
              case hyrc19 => (intro W hSw; have gq := HG0.out W hSw; (try dsimp only at hSw); go_simp; try with_reducible rfl)
              case' restrc19 => try simp only [Act.put, List.setIfInBounds_toArray, List.set_cons_zero, List.set_cons_succ]
              refine wpAnyH_take (i := 20) (oi := ⟨some 34, _, _, _, _, _⟩) (v := ?vrc20) rfl (by kernel_rfl) (by kernel_rfl) (by kernel_rfl) (fun _ _ _ h => h) (Or.inl ⟨by kernel_rfl, ?hyrc20⟩) (by assumption) ?restrc20
              case hyrc20 => (intro W hSw; (try dsimp only at hSw); go_simp; try with_reducible rfl)
              case' restrc20 => try simp only [Act.put, List.setIfInBounds_toArray, List.set_cons_zero, List.set_cons_succ]
              refine wpAnyH_take (i := 21) (oi := ⟨some 35, _, _, _, _, _⟩) (v := ?vrc21) rfl (by kernel_rfl) (by kernel_rfl) (by kernel_rfl) (fun _ _ _ h => h) (Or.inl ⟨by kernel_rfl, ?hyrc21⟩) (by assumption) ?restrc21
              case hyrc21 => (intro W hSw; (try dsimp only at hSw); go_simp; try with_reducible rfl)
              case' restrc21 => try simp only [Act.put, List.setIfInBounds_toArray, List.set_cons_zero, List.set_cons_succ]
              refine wpAnyH_take (i := 22) (oi := ⟨some 36, _, _, _, _, _⟩) (v := ?vrc22) rfl (by kernel_rfl) (by kernel_rfl) (by kernel_rfl) (fun _ _ _ h => h) (Or.inl ⟨by kernel_rfl, ?hyrc22⟩) (by assumption) ?restrc22
              case hyrc22 => (intro W hSw; (try dsimp only at hSw); go_simp; try with_reducible rfl)
              case' restrc22 => try simp only [Act.put, List.setIfInBounds_toArray, List.set_cons_zero, List.set_cons_succ]
              refine wpAnyH_done (by kernel_rfl) ?_ _
              go_wp2
              go_roundw
              case rel => exact ⟨k + 1, by omega, by go_num, HIN.out, HAS.out, hbw.trans (hSWrc1.mono hbw.size)⟩
              case measure => simp [intOf]; omega
          · have d3 : decide (y ≤ z) = true := decide_eq_true (by omega)
            have HBAD : Hid (validB l ch = false) := Lib.hid (validB_asc (asc_no (by omega) hlt (by rw [HZ.out, HY.out]; omega)))
            clear hyz
            as_aux_lemma =>
              go_wp2_with fail
              refine wp_region_held_drew (S := fun W : World => Below wr.heap.size wr W) (by kernel_rfl) hS1 (fun hHeld => ?_)
              clear hHeld
              generalize wr.drew = wzrd at *
              refine wpAnyH_take (i := 0) (oi := ⟨some 14, _, _, _, _, _⟩) (v := ?vrd1) rfl (by kernel_rfl) (by kernel_rfl) (by kernel_rfl) (fun _ _ _ h => h) (Or.inl ⟨by kernel_rfl, ?hyrd1⟩) (by assumption) ?restrd1
              case hyrd1 => (intro W hSw; (try dsimp only at hSw); go_simp; try with_reducible rfl)
              case' restrd1 => try simp only [Act.put, List.setIfInBounds_toArray, List.set_cons_zero, List.set_cons_succ]
              refine wpAnyH_take (i := 1) (oi := ⟨some 15, _, _, _, _, _⟩) (v := ?vrd2) rfl (by kernel_rfl) (by kernel_rfl) (by kernel_rfl) (fun _ _ _ h => h) (Or.inl ⟨by kernel_rfl, ?hyrd2⟩) (by assumption) ?restrd2
              case hyrd2 => (intro W hSw; (try dsimp only at hSw); go_simp; try with_reducible rfl)
              case' restrd2 => try simp only [Act.put, List.setIfInBounds_toArray, List.set_cons_zero, List.set_cons_succ]
              refine wpAnyH_take (i := 2) (oi := ⟨some 16, _, _, _, _, _⟩) (v := ?vrd3) rfl (by kernel_rfl) (by kernel_rfl) (by kernel_rfl) (fun _ _ _ h => h) (Or.inl ⟨by kernel_rfl, ?hyrd3⟩) (by assumption) ?restrd3
              case hyrd3 => (intro W hSw; (try dsimp only at hSw); go_simp; try with_reducible rfl)
              case' restrd3 => try simp only [Act.put, List.setIfInBounds_toArray, List.set_cons_zero, List.set_cons_succ]
              refine wpAnyH_take (i := 3) (oi := ⟨some 17, _, _, _, _, _⟩) (v := ?vrd4) rfl (by kernel_rfl) (by kernel_rfl) (by kernel_rfl) (fun _ _ _ h => h) (Or.inl ⟨by kernel_rfl, ?hyrd4⟩) (by assumption) ?restrd4
              case hyrd4 => (intro W hSw; (try dsimp only at hSw); go_simp; try with_reducible rfl)
              case' restrd4 => try simp only [Act.put, List.setIfInBounds_toArray, List.set_cons_zero, List.set_cons_succ]
              refine wpAnyH_take (i := 4) (oi := ⟨some 18, _, _, _, _, _⟩) (v := ?vrd5) rfl (by kernel_rfl) (by kernel_rfl) (by kernel_rfl) (fun _ _ _ h => h) (Or.inl ⟨by kernel_rfl, ?hyrd5⟩) (by assumption) ?restrd5
              case hyrd5 => (intro W hSw; have gq := HG1.out W hSw; (try dsimp only at hSw); go_simp; try with_reducible rfl)
              case' restrd5 => try simp only [Act.put, List.setIfInBounds_toArray, List.set_cons_zero, List.set_cons_succ]
              refine wpAnyH_ready (rs := [5]) (by kernel_rfl) (by simp) ?_
              refine AllReadyH.cons (o := ⟨some 19, _, _, _, _, _⟩) rfl (fun K hK => ?_) AllReadyH.nil
              go_simp
              go_at_call 29
              refine (c_index A l.length ca y wzrd hib).mono ?_
              rintro e Wrd1 ⟨rfl, hbWrd1⟩
              have hSWrd1 := hS1.trans (hbWrd1.mono hS1.size)
              try clear hS1
              clear hbWrd1
              go_wp2_with fail
              refine hK.out _ _ hSWrd1 (fun hHeld => ?_)
              clear hK hHeld K
              try simp only [Act.put, List.setIfInBounds_toArray, List.set_cons_zero, List.set_cons_succ]
              refine wpAnyH_take (i := 6) (oi := ⟨some 20, _, _, _, _, _⟩) (v := ?vrd6) rfl (by kernel_rfl) (by kernel_rfl) (by kernel_rfl) (fun _ _ _ h => h) (Or.inl ⟨by kernel_rfl, ?hyrd6⟩) (by assumption) ?restrd6
              case hyrd6 => (intro W hSw; (try dsimp only at hSw); go_simp; try with_reducible rfl)
              case' restrd6 => try simp only [Act.put, List.setIfInBounds_toArray, List.set_cons_zero, List.set_cons_succ]
              refine wpAnyH_take (i := 7) (oi := ⟨some 21, _, _, _, _, _⟩) (v := ?vrd7) rfl (by kernel_rfl) (by kernel_rfl) (by kernel_rfl) (fun _ _ _ h => h) (Or.inl ⟨by kernel_rfl, ?hyrd7⟩) (by assumption) ?restrd7
              case hyrd7 => (intro W hSw; (try dsimp only at hSw); go_simp; try with_reducible rfl)
              case' restrd7 => try simp only [Act.put, List.setIfInBounds_toArray, List.set_cons_zero, List.set_cons_succ]
              refine wpAnyH_take (i := 8) (oi := ⟨some 22, _, _, _, _, _⟩) (v := ?vrd8) rfl (by kernel_rfl) (by kernel_rfl) (by kernel_rfl) (fun _ _ _ h => h) (Or.inl ⟨by kernel_rfl, ?hyrd8⟩) (by assumption) ?restrd8
              case hyrd8 => (intro W hSw; (try dsimp only at hSw); go_simp; try with_reducible rfl)
              case' restrd8 => try simp only [Act.put, List.setIfInBounds_toArray, List.set_cons_zero, List.set_cons_succ]
              refine wpAnyH_take (i := 9) (oi := ⟨some 23, _, _, _, _, _⟩) (v := ?vrd9) rfl (by kernel_rfl) (by kernel_rfl) (by kernel_rfl) (fun _ _ _ h => h) (Or.inl ⟨by kernel_rfl, ?hyrd9⟩) (by assumption) ?restrd9
              case hyrd9 => (intro W hSw; (try dsimp only at hSw); go_simp; try with_reducible rfl)
              case' restrd9 => try simp only [Act.put, List.setIfInBounds_toArray, List.set_cons_zero, List.set_cons_succ]
              refine wpAnyH_take (i := 10) (oi := ⟨some 24, _, _, _, _, _⟩) (v := ?vrd10) rfl (by kernel_rfl) (by kernel_rfl) (by kernel_rfl) (fun _ _ _ h => h) (Or.inl ⟨by kernel_rfl, ?hyrd10⟩) (by assumption) ?restrd10
              case hyrd10 => (intro W hSw; (try dsimp only at hSw); go_simp; try with_reducible rfl)
              case' restrd10 => try simp only [Act.put, List.setIfInBounds_toArray, List.set_cons_zero, List.set_cons_succ]
              refine wpAnyH_take (i := 11) (oi := ⟨some 25, _, _, _, _, _⟩) (v := ?vrd11) rfl (by kernel_rfl) (by kernel_rfl) (by kernel_rfl) (fun _ _ _ h => h) (Or.inl ⟨by kernel_rfl, ?hyrd11⟩) (by assumption) ?restrd11
              case hyrd11 => (intro W hSw; (try dsimp only at hSw); go_simp; try with_reducible rfl)
              case' restrd11 => try simp only [Act.put, List.setIfInBounds_toArray, List.set_cons_zero, List.set_cons_succ]
              refine wpAnyH_take (i := 12) (oi := ⟨some 26, _, _, _, _, _⟩) (v := ?vrd12) rfl (by kernel_rfl) (by kernel_rfl) (by kernel_rfl) (fun _ _ _ h => h) (Or.inl ⟨by kernel_rfl, ?hyrd12⟩) (by assumption) ?restrd12
              case hyrd12 => (intro W hSw; (try dsimp only at hSw); go_simp; try with_reducible rfl)
              case' restrd12 => try simp only [Act.put, List.setIfInBounds_toArray, List.set_cons_zero, List.set_cons_succ]
              refine wpAnyH_take (i := 13) (oi := ⟨some 27, _, _, _, _, _⟩) (v := ?vrd13) rfl (by kernel_rfl) (by kernel_rfl) (by kernel_rfl) (fun _ _ _ h => h) (Or.inl ⟨by kernel_rfl, ?hyrd13⟩) (by assumption) ?restrd13
              case hyrd13 => (intro W hSw; (try dsimp only at hSw); go_simp; try with_reducible rfl)
              case' restrd13 => try simp only [Act.put, List.setIfInBounds_toArray, List.set_cons_zero, List.set_cons_succ]
              refine wpAnyH_take (i := 14) (oi := ⟨some 28, _, _, _, _, _⟩) (v := ?vrd14) rfl (by kernel_rfl) (by kernel_rfl) (by kernel_rfl) (fun _ _ _ h => h) (Or.inl ⟨by kernel_rfl, ?hyrd14⟩) (by assumption) ?restrd14
              case hyrd14 => (intro W hSw; have gq := HG1.out W hSw; (try dsimp only at hSw); go_simp; try with_reducible rfl)
              case' restrd14 => try simp only [Act.put, List.setIfInBounds_toArray, List.set_cons_zero, List.set_cons_succ]
              refine wpAnyH_take (i := 15) (oi := ⟨some 29, _, _, _, _, _⟩) (v := ?vrd15) rfl (by kernel_rfl) (by kernel_rfl) (by kernel_rfl) (fun _ _ _ h => h) (Or.inl ⟨by kernel_rfl, ?hyrd15⟩) (by assumption) ?restrd15
              case hyrd15 => (intro W hSw; (try dsimp only at hSw); go_simp; try with_reducible rfl)
              case' restrd15 => try simp only [Act.put, List.setIfInBounds_toArray, List.set_cons_zero, List.set_cons_succ]
              refine wpAnyH_take (i := 16) (oi := ⟨some 30, _, _, _, _, _⟩) (v := ?vrd16) rfl (by kernel_rfl) (by kernel_rfl) (by kernel_rfl) (fun _ _ _ h => h) (Or.inl ⟨by kernel_rfl, ?hyrd16⟩) (by assumption) ?restrd16
              case hyrd16 => (intro W hSw; (try dsimp only at hSw); go_simp; try with_reducible rfl)
              case' restrd16 => try simp only [Act.put, List.setIfInBounds_toArray, List.set_cons_zero, List.set_cons_succ]
              refine wpAnyH_take (i := 17) (oi := ⟨some 31, _, _, _, _, _⟩) (v := ?vrd17) rfl (by kernel_rfl) (by kernel_rfl) (by kernel_rfl) (fun _ _ _ h => h) (Or.inl ⟨by kernel_rfl, ?hyrd17⟩) (by assumption) ?restrd17
              case hyrd17 => (intro W hSw; (try dsimp only at hSw); go_simp; try with_reducible rfl)
              case' restrd17 => try simp only [Act.put, List.setIfInBounds_toArray, List.set_cons_zero, List.set_cons_succ]
              refine wpAnyH_take (i := 18) (oi := ⟨some 32, _, _, _, _, _⟩) (v := ?vrd18) rfl (by kernel_rfl) (by kernel_rfl) (by kernel_rfl) (fun _ _ _ h => h) (Or.inl ⟨by kernel_rfl, ?hyrd18⟩) (by assumption) ?restrd18
              case hyrd18 => (intro W hSw; (try dsimp only at hSw); go_simp; try with_reducible rfl)
              case' restrd18 => try simp only [Act.put, List.setIfInBounds_toArray, List.set_cons_zero, List.set_cons_succ]
              refine wpAnyH_take (i := 19) (oi := ⟨some 33, _, _, _, _, _⟩) (v := ?vrd19) rfl (by kernel_rfl) (by kernel_rfl) (by kernel_rfl) (fun _ _ _ h => h) (Or.inl ⟨by kernel_rfl, ?hyrd19⟩) (by assumption) ?restrd19
              case hyrd19 => (intro W hSw; have gq := HG0.out W hSw; (try dsimp only at hSw); go_simp; try with_reducible rfl)
              case' restrd19 => try simp only [Act.put, List.setIfInBounds_toArray, List.set_cons_zero, List.set_cons_succ]
              refine wpAnyH_take (i := 20) (oi := ⟨some 34, _, _, _, _, _⟩) (v := ?vrd20) rfl (by kernel_rfl) (by kernel_rfl) (by kernel_rfl) (fun _ _ _ h => h) (Or.inl ⟨by kernel_rfl, ?hyrd20⟩) (by assumption) ?restrd20
              case hyrd20 => (intro W hSw; (try dsimp only at hSw); go_simp; try with_reducible rfl)
              case' restrd20 => try simp only [Act.put, List.setIfInBounds_toArray, List.set_cons_zero, List.set_cons_succ]
              refine wpAnyH_take (i := 21) (oi := ⟨some 35, _, _, _, _, _⟩) (v := ?vrd21) rfl (by kernel_rfl) (by kernel_rfl) (by kernel_rfl) (fun _ _ _ h => h) (Or.inl ⟨by kernel_rfl, ?hyrd21⟩) (by assumption) ?restrd21
              case hyrd21 => (intro W hSw; (try dsimp only at hSw); go_simp; try with_reducible rfl)
              case' restrd21 => try simp only [Act.put, List.setIfInBounds_toArray, List.set_cons_zero, List.set_cons_succ]
              refine wpAnyH_take (i := 22) (oi := ⟨some 36, _, _, _, _, _⟩) (v := ?vrd22) rfl (by kernel_rfl) (by kernel_rfl) (by kernel_rfl) (fun _ _ _ h => h) (Or.inl ⟨by kernel_rfl, ?hyrd22⟩) (by assumption) ?restrd22
              case hyrd22 => (intro W hSw; (try dsimp only at hSw); go_simp; try with_reducible rfl)
              case' restrd22 => try simp only [Act.put, List.setIfInBounds_toArray, List.set_cons_zero, List.set_cons_succ]
              refine wpAnyH_done (by kernel_rfl) ?_ _
              go_wp2
              go_ret
              exact RetV.bool (HBAD.out).symm (hbw.trans (hSWrd1.mono hbw.size))
    · obtain rfl : k = ch.length := by omega
      have HASC := Lib.hid (asc_yes (by omega) has.out)
      have hd : decide (ch.length < ch.length) = false := decide_eq_false (by omega)
      go_wp2_with fail
      generalize wr = wa at *
      have hS0 := hbw.size
      go_loopw [6] (fun i wr => ∃ k : Nat, k ≤ ch.length ∧ i = .int .i64 k ∧ Hid (∀ n, n < k → ∀ m, m < n → hitI l ch[n]! ch[m]! = false) ∧ Below w.heap.size w wr) (fun i _ => ch.length - (intOf i).toNat)
      case atStart => exact ⟨0, Nat.zero_le _, rfl, Lib.hid (fun n hn => by omega), hbw⟩
      case round =>
        obtain ⟨k, hk, rfl, hno, hbx⟩ := hrel
        clear hbw hS0
        by_cases hlt : k < ch.length
        · obtain ⟨b, off, rfl, hb, HC⟩ := RdI.cells HRC.out (show 0 < ch.length by omega)
          have HC1 := Lib.hid HC
          obtain ⟨n1, hn1, hn1l⟩ := inB_nat (hin.out k hlt)
          have HN1 := Lib.hid hn1
          have hd : decide (k < ch.length) = true := decide_eq_true hlt
          clear hn1 HC
          go_wp2_with fail
          generalize wr = wb at *
          have hS2 := hbx.size
          go_loopw [7] (fun i wr => ∃ m : Nat, m ≤ k ∧ i = .int .i64 m ∧ Hid (∀ j, j < m → hitI l ch[k]! ch[j]! = false) ∧ Below wb.heap.size wb wr) (fun i _ => k - (intOf i).toNat)
          case atStart => exact ⟨0, Nat.zero_le _, rfl, Lib.hid (fun n hn => by omega), Below.refl _ _⟩
          case round =>
            obtain ⟨m, hm, rfl, hno2, hbi⟩ := hrel
            have kk := hbx.trans (hbi.mono hbx.size)
            by_cases hlm : m < k
            · obtain ⟨n2, hn2, hn2l⟩ := inB_nat (hin.out m (by omega))
              have hml : m < ch.length := by omega
              have HG1 := Lib.hid (fun (W : World) (hW : Below wr.heap.size wr W) => (by have := HC1.out W (kk.trans (hW.mono kk.size)) k hlt; rwa [HN1.out] at this : W.cell? ⟨b, off + k, none⟩ = some (.int .i64 (n1 : Int))))
              have HG2 := Lib.hid (fun (W : World) (hW : Below wr.heap.size wr W) => (by have := HC1.out W (kk.trans (hW.mono kk.size)) m (by omega); rwa [hn2] at this : W.cell? ⟨b, off + m, none⟩ = some (.int .i64 (n2 : Int))))
              have HHI : Hid (hitI l ch[k]! ch[m]! = hitB l[n1]! l[n2]!) := Lib.hid (by unfold hitI; rw [HN1.out, hn2]; simp)
              obtain ⟨bl, offl, rfl, hbl, HCL⟩ := Rd.rangeCs HR.out (show 0 < l.length by omega)
              have HX := Lib.hid (fun (W : World) (hW : Below wr.heap.size wr W) => HCL W (kk.trans (hW.mono kk.size)) n1 hn1l)
              have HY := Lib.hid (fun (W : World) (hW : Below wr.heap.size wr W) => HCL W (kk.trans (hW.mono kk.size)) n2 hn2l)
              obtain ⟨x, hx⟩ : ∃ x, l[n1]! = x := ⟨_, rfl⟩
              obtain ⟨y, hy⟩ : ∃ y, l[n2]! = y := ⟨_, rfl⟩
              rw [hx] at HX HHI
              rw [hy] at HY HHI
              have hd2 : decide (m < k) = true := decide_eq_true hlm
              clear hn2 HCL hx hy
              have hS1 : (fun W : World => Below wr.heap.size wr W) wr.drew := (Below.refl _ _).drew
              go_wp2_with fail
              refine wp_region_held_drew (S := fun W : World => Below wr.heap.size wr W) (by kernel_rfl) hS1 (fun hHeld => ?_)
              clear hHeld
              generalize wr.drew = wzre at *
              refine wpAnyH_take (i := 0) (oi := ⟨some 48, _, _, _, _, _⟩) (v := ?vre1) rfl (by kernel_rfl) (by kernel_rfl) (by kernel_rfl) (fun _ _ _ h => h) (Or.inl ⟨by kernel_rfl, ?hyre1⟩) (by assumption) ?restre1
              case hyre1 => (intro W hSw; (try dsimp only at hSw); go_simp; try with_reducible rfl)
              case' restre1 => try simp only [Act.put, List.setIfInBounds_toArray, List.set_cons_zero, List.set_cons_succ]
              refine wpAnyH_take (i := 1) (oi := ⟨some 49, _, _, _, _, _⟩) (v := ?vre2) rfl (by kernel_rfl) (by kernel_rfl) (by kernel_rfl) (fun _ _ _ h => h) (Or.inl ⟨by kernel_rfl, ?hyre2⟩) (by assumption) ?restre2
              case hyre2 => (intro W hSw; (try dsimp only at hSw); go_simp; try with_reducible rfl)
              case' restre2 => try simp only [Act.put, List.setIfInBounds_toArray, List.set_cons_zero, List.set_cons_succ]
              refine wpAnyH_take (i := 2) (oi := ⟨some 50, _, _, _, _, _⟩) (v := ?vre3) rfl (by kernel_rfl) (by kernel_rfl) (by kernel_rfl) (fun _ _ _ h => h) (Or.inl ⟨by kernel_rfl, ?hyre3⟩) (by assumption) ?restre3
              case hyre3 => (intro W hSw; (try dsimp only at hSw); go_simp; try with_reducible rfl)
              case' restre3 => try simp only [Act.put, List.setIfInBounds_toArray, List.set_cons_zero, List.set_cons_succ]
              refine wpAnyH_take (i := 3) (oi := ⟨some 51, _, _, _, _, _⟩) (v := ?vre4) rfl (by kernel_rfl) (by kernel_rfl) (by kernel_rfl) (fun _ _ _ h => h) (Or.inl ⟨by kernel_rfl, ?hyre4⟩) (by assumption) ?restre4
              case hyre4 => (intro W hSw; (try dsimp only at hSw); go_simp; try with_reducible rfl)
              case' restre4 => try simp only [Act.put, List.setIfInBounds_toArray, List.set_cons_zero, List.set_cons_succ]
              refine wpAnyH_take (i := 4) (oi := ⟨some 52, _, _, _, _, _⟩) (v := ?vre5) rfl (by kernel_rfl) (by kernel_rfl) (by kernel_rfl) (fun _ _ _ h => h) (Or.inl ⟨by kernel_rfl, ?hyre5⟩) (by assumption) ?restre5
              case hyre5 => (intro W hSw; have gq := HG1.out W hSw; (try dsimp only at hSw); go_simp; try with_reducible rfl)
              case' restre5 => try simp only [Act.put, List.setIfInBounds_toArray, List.set_cons_zero, List.set_cons_succ]
              refine wpAnyH_take (i := 5) (oi := ⟨some 53, _, _, _, _, _⟩) (v := ?vre6) rfl (by kernel_rfl) (by kernel_rfl) (by kernel_rfl) (fun _ _ _ h => h) (Or.inl ⟨by kernel_rfl, ?hyre6⟩) (by assumption) ?restre6
              case hyre6 => (intro W hSw; (try dsimp only at hSw); go_simp; try with_reducible rfl)
              case' restre6 => try simp only [Act.put, List.setIfInBounds_toArray, List.set_cons_zero, List.set_cons_succ]
              refine wpAnyH_take (i := 6) (oi := ⟨some 54, _, _, _, _, _⟩) (v := ?vre7) rfl (by kernel_rfl) (by kernel_rfl) (by kernel_rfl) (fun _ _ _ h => h) (Or.inl ⟨by kernel_rfl, ?hyre7⟩) (by assumption) ?restre7
              case hyre7 => (intro W hSw; refine Try.exec45 x (.tmp 53) ?_ bl (offl + n1 * 8) ?_ (HX.out W hSw) <;> rfl)
              case' restre7 => try simp only [Act.put, List.setIfInBounds_toArray, List.set_cons_zero, List.set_cons_succ]
              refine wpAnyH_take (i := 7) (oi := ⟨some 55, _, _, _, _, _⟩) (v := ?vre8) rfl (by kernel_rfl) (by kernel_rfl) (by kernel_rfl) (fun _ _ _ h => h) (Or.inl ⟨by kernel_rfl, ?hyre8⟩) (by assumption) ?restre8
              case hyre8 => (intro W hSw; (try dsimp only at hSw); go_simp; try with_reducible rfl)
              case' restre8 => try simp only [Act.put, List.setIfInBounds_toArray, List.set_cons_zero, List.set_cons_succ]
              refine wpAnyH_take (i := 8) (oi := ⟨some 56, _, _, _, _, _⟩) (v := ?vre9) rfl (by kernel_rfl) (by kernel_rfl) (by kernel_rfl) (fun _ _ _ h => h) (Or.inl ⟨by kernel_rfl, ?hyre9⟩) (by assumption) ?restre9
              case hyre9 => (intro W hSw; (try dsimp only at hSw); go_simp; try with_reducible rfl)
              case' restre9 => try simp only [Act.put, List.setIfInBounds_toArray, List.set_cons_zero, List.set_cons_succ]
              refine wpAnyH_take (i := 9) (oi := ⟨some 57, _, _, _, _, _⟩) (v := ?vre10) rfl (by kernel_rfl) (by kernel_rfl) (by kernel_rfl) (fun _ _ _ h => h) (Or.inl ⟨by kernel_rfl, ?hyre10⟩) (by assumption) ?restre10
              case hyre10 => (intro W hSw; (try dsimp only at hSw); go_simp; try with_reducible rfl)
              case' restre10 => try simp only [Act.put, List.setIfInBounds_toArray, List.set_cons_zero, List.set_cons_succ]
              refine wpAnyH_take (i := 10) (oi := ⟨some 58, _, _, _, _, _⟩) (v := ?vre11) rfl (by kernel_rfl) (by kernel_rfl) (by kernel_rfl) (fun _ _ _ h => h) (Or.inl ⟨by kernel_rfl, ?hyre11⟩) (by assumption) ?restre11
              case hyre11 => (intro W hSw; (try dsimp only at hSw); go_simp; try with_reducible rfl)
              case' restre11 => try simp only [Act.put, List.setIfInBounds_toArray, List.set_cons_zero, List.set_cons_succ]
              refine wpAnyH_take (i := 11) (oi := ⟨some 59, _, _, _, _, _⟩) (v := ?vre12) rfl (by kernel_rfl) (by kernel_rfl) (by kernel_rfl) (fun _ _ _ h => h) (Or.inl ⟨by kernel_rfl, ?hyre12⟩) (by assumption) ?restre12
              case hyre12 => (intro W hSw; have gq := HG2.out W hSw; (try dsimp only at hSw); go_simp; try with_reducible rfl)
              case' restre12 => try simp only [Act.put, List.setIfInBounds_toArray, List.set_cons_zero, List.set_cons_succ]
              refine wpAnyH_take (i := 12) (oi := ⟨some 60, _, _, _, _, _⟩) (v := ?vre13) rfl (by kernel_rfl) (by kernel_rfl) (by kernel_rfl) (fun _ _ _ h => h) (Or.inl ⟨by kernel_rfl, ?hyre13⟩) (by assumption) ?restre13
              case hyre13 => (intro W hSw; (try dsimp only at hSw); go_simp; try with_reducible rfl)
              case' restre13 => try simp only [Act.put, List.setIfInBounds_toArray, List.set_cons_zero, List.set_cons_succ]
              refine wpAnyH_take (i := 13) (oi := ⟨some 61, _, _, _, _, _⟩) (v := ?vre14) rfl (by kernel_rfl) (by kernel_rfl) (by kernel_rfl) (fun _ _ _ h => h) (Or.inl ⟨by kernel_rfl, ?hyre14⟩) (by assumption) ?restre14
              case hyre14 => (intro W hSw; refine Try.exec45 y (.tmp 60) ?_ bl (offl + n2 * 8) ?_ (HY.out W hSw) <;> rfl)
              case' restre14 => try simp only [Act.put, List.setIfInBounds_toArray, List.set_cons_zero, List.set_cons_succ]
              refine wpAnyH_ready (rs := [14]) (by kernel_rfl) (by simp) ?_
              refine AllReadyH.cons (o := ⟨some 62, _, _, _, _, _⟩) rfl (fun K hK => ?_) AllReadyH.nil
              go_simp
              go_at_call 30
              refine (ref_hit x y wzre).mono ?_
              rintro e Wre1 ⟨rfl, hbWre1⟩
              have hSWre1 := hS1.trans (hbWre1.mono hS1.size)
              try clear hS1
              clear hbWre1
              go_wp2_with fail
              refine hK.out _ _ hSWre1 (fun hHeld => ?_)
              clear hK hHeld K
              try simp only [Act.put, List.setIfInBounds_toArray, List.set_cons_zero, List.set_cons_succ]
              refine wpAnyH_done (by kernel_rfl) ?_ _
              obtain ⟨p, hp⟩ : ∃ p, hitB x y = p := ⟨_, rfl⟩
              rw [hp]
              have HPH := Lib.hid hp
              clear hp
              cases p
              · go_wp2
                go_roundw
                case rel => exact ⟨m + 1, by omega, by go_num, Lib.hid (fun j hj => by
                  rcases Nat.lt_succ_iff_lt_or_eq.1 hj with h2 | rfl
                  · exact hno2.out j h2
                  · rw [HHI.out]; exact HPH.out), hbi.trans (hSWre1.mono hbi.size)⟩
                case measure => simp [intOf]; omega
              · go_wp2
                go_ret
                exact RetV.bool (validB_hit hlt hlm (by rw [HHI.out]; exact HPH.out)).symm (kk.trans (hSWre1.mono kk.size))
            · obtain rfl : m = k := by omega
              have hd2 : decide (m < m) = false := decide_eq_false (by omega)
              go_wp2
              go_roundw
              case rel => exact ⟨m + 1, by omega, by go_num, Lib.hid (fun n hn j hj => by
                rcases Nat.lt_succ_iff_lt_or_eq.1 hn with h2 | rfl
                · exact hno.out n h2 j hj
                · exact hno2.out j hj), kk⟩
              case measure => simp [intOf]; omega
        · obtain rfl : k = ch.length := by omega
          have hd : decide (ch.length < ch.length) = false := decide_eq_false (by omega)
          go_wp2
          go_ret
          exact RetV.bool (validB_yes HASC.out hin.out hno.out).symm hbx
end Go.Proofs
