/- home returns the number of the only group that holds a feature. -/
import Derived.Test.YtoknjlodhohioaaT36
set_option linter.unusedVariables false
set_option linter.unusedSimpArgs false
namespace Go.Proofs
open Go.RowKit Go.Proofs.Mp Go.Proofs.Uf

set_option maxHeartbeats 4000000 in
theorem home_any (v : Value) (gs : List (List Int)) (f : Int) (w : World) (h1 : gs.length ≤ 1000000) (h3 : ∀ g ∈ gs, g.length ≤ 1000000) (hA : GrpS w v gs) :
    Calls Try.prog 19 #[v, .int .i64 f] w (RetV w (.int .i64 (homeV gs f))) := by
  have hA0 := hA
  obtain ⟨A, c, _, rfl, _, _, _⟩ := hA0
  go_enter Try.func19, Try.ntmps19
  go_wp2_with fail
  go_loopw [5, 6] (fun a i wr => ∃ k : Nat, k ≤ gs.length ∧ i = .int .i64 k ∧ AtV (hitsTo gs f k) a ∧ Below w.heap.size w wr) (fun _ i _ => gs.length - (intOf i).toNat)
  case atStart => exact ⟨0, by omega, rfl, .inl ⟨rfl, rfl⟩, Below.refl _ _⟩
  case round =>
    obtain ⟨k, hk, rfl, hat, hbw⟩ := hrel
    by_cases hlt : k < gs.length
    · have HH := Lib.hid (hitsTo_succ gs f k)
      have hx3 := h3 gs[k]! (by rw [getElem!_pos gs k hlt]; exact List.getElem_mem hlt)
      go_wp2_with fail
      go_loopw [5, 7] (fun a j wr => ∃ m : Nat, m ≤ gs[k]!.length ∧ j = .int .i64 m ∧ AtV (hitsTo gs f k ++ hitsRow (gs[k]!.take m) f k) a ∧ Below w.heap.size w wr) (fun _ j _ => gs[k]!.length - (intOf j).toNat)
      case atStart => exact ⟨0, by omega, rfl, by simpa [hitsRow] using hat, hbw⟩
      case round =>
        clear hat hbw
        obtain ⟨m, hm, rfl, hat, hbw⟩ := hrel
        obtain ⟨b, off, na, ca, rfl, hb, a0, hRa⟩ := GrpS.get hA hbw hlt
        by_cases hlm : m < gs[k]!.length
        · obtain ⟨b', off', rfl, hb', d0⟩ := RdI.get hRa (Below.refl _ _) hlm
          have HT := Lib.hid (hitsRow_take (f := f) (i := k) hlm)
          have HM := Lib.hid (hits_more (f := f) (k := m + 1) hlt)
          obtain ⟨x, hx⟩ : ∃ x, gs[k]! = x := ⟨_, rfl⟩
          rw [hx] at a0 hRa hx3 HT HM hm hlm hat d0
          have HX := Lib.hid hx
          clear hx
          obtain ⟨y, hy⟩ : ∃ y, x[m]! = y := ⟨_, rfl⟩
          rw [hy] at d0 HT
          have HY := Lib.hid hy
          clear hy
          by_cases hyf : y = f
          · subst hyf
            rcases hat with ⟨e, rfl⟩ | ⟨a, ha, e, rfl⟩
            · have HE := Lib.hid e
              clear e
              go_wp2
              go_roundw
              case rel => exact ⟨m + 1, by rw [HX.out]; omega, by go_num, by rw [HX.out, HT.out, if_pos rfl, ← List.append_assoc, HE.out]; exact .inr ⟨k, by omega, rfl, rfl⟩, hbw⟩
              case measure => rw [HX.out]; simp [intOf]; omega
            · have HE := Lib.hid e
              clear e
              have hne : ¬ a = -1 := by omega
              go_wp2
              go_ret
              refine RetV.int ?_ hbw
              obtain ⟨r, hr⟩ := HM.out
              unfold homeV
              rw [hr, HT.out]
              simp only [if_true]
              rw [← List.append_assoc, HE.out]
              rfl
          · have HN := Lib.hid hyf
            go_wp2
            go_roundw
            case rel => exact ⟨m + 1, by rw [HX.out]; omega, by go_num, by rw [HX.out, HT.out, if_neg HN.out, List.append_nil]; exact hat, hbw⟩
            case measure => rw [HX.out]; simp [intOf]; omega
        · have hme : m = gs[k]!.length := by omega
          rw [hme, List.take_length, ← HH.out] at hat
          clear hRa
          obtain ⟨x, hx⟩ : ∃ x, gs[k]! = x := ⟨_, rfl⟩
          rw [hx] at a0 hx3 hme
          subst hme
          clear hx hlm hm
          go_wp2
          go_roundw
          case rel => exact ⟨k + 1, by omega, by go_num, hat, hbw⟩
          case measure => simp [intOf]; omega
    · obtain rfl : k = gs.length := by omega
      have HV := Lib.hid hat.home
      obtain ⟨z, hz⟩ : ∃ z, homeOf (hitsTo gs f gs.length) = z := ⟨_, rfl⟩
      have hu := hat.home
      rw [hz] at hu
      subst hu
      have HZ := Lib.hid hz
      clear hz hat
      go_wp2
      go_ret
      exact RetV.int (by unfold homeV; rw [HZ.out]) hbw
end Go.Proofs
