import Derived.Test.YtafaojmkbbhjmaaA10
set_option linter.unusedVariables false
set_option linter.unusedSimpArgs false
namespace Go.Proofs
open Go.RowKit Go.Proofs.Mp

set_option maxHeartbeats 1000000 in
theorem ref_union (A B : Option Addr) (c d : Nat) (xs l : List Int) (w : World) (h1 : xs.length ≤ 100000000) (hmax : l.length ≤ 100000000) (hA : RdI w A xs) (hR : RdI w B l) :
    Calls Try.prog 52 #[.slice A xs.length c, .slice B l.length d] w (RetRc 1 Mp.encI w (putL (putL [] xs) l)) := by
  have cN := ref_normal A c xs w h1 hA
  have hn := putL_len [] xs
  simp only [List.length_nil] at hn
  generalize putL [] xs = na at *
  clear hA
  go_enter Try.func52, Try.ntmps52
  go_wp2_with fail
  refine cN.mono ?_
  rintro e w1 ⟨A1, c1, rfl, hc1, hR1, hb1⟩
  have hR' := hR.below hb1
  clear hR
  go_wp2_with fail
  go_loopw [5, 6] (fun v i wr => ∃ k : Nat, k ≤ l.length ∧ i = .int .i64 k ∧ SlI wr v (putL na (l.take k)) ∧ Below w1.heap.size w1 wr) (fun _ i _ => l.length - (intOf i).toNat)
  case atStart => exact ⟨0, by omega, rfl, ⟨A1, c1, rfl, hc1, hR1⟩, Below.refl _ _⟩
  case round =>
    obtain ⟨k, hk, rfl, ⟨A', c', rfl, hc', hRo⟩, hbw⟩ := hrel
    by_cases hlt : k < l.length
    · obtain ⟨b, off, rfl, hb, g1⟩ := RdI.get hR' hbw hlt
      have HX := Lib.hid (putL_take (o := na) hlt)
      have hle := putL_len na (l.take k)
      have hle2 : (l.take k).length ≤ l.length := by simp; omega
      generalize l[k]! = x at *
      generalize putL na (l.take k) = o at *
      have cW := ref_with A' c' x o wr hc' (by omega) hRo
      have hs := hbw.size
      go_wp2_with fail
      refine cW.mono ?_
      rintro e w2 ⟨A2, c2, rfl, hc2, hR2, hb2⟩
      go_wp2
      go_roundw
      case rel => exact ⟨k + 1, by omega, by go_num, by rw [HX.out]; exact ⟨A2, c2, rfl, hc2, hR2⟩, hbw.trans (hb2.mono hs)⟩
      case measure => simp [intOf]; omega
    · obtain rfl : k = l.length := by omega
      simp only [List.take_length] at hRo hc' ⊢
      go_wp2
      go_ret
      exact ⟨A', c', rfl, hc', hRo, hb1.trans (hbw.mono hb1.size)⟩


end Go.Proofs
