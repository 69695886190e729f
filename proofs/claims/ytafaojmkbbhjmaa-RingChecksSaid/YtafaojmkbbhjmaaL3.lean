/- RingChecks, walked. -/
import Derived.Test.YtafaojmkbbhjmaaL1
import Derived.Test.YtafaojmkbbhjmaaP1
set_option linter.unusedVariables false
set_option linter.unusedSimpArgs false
namespace Go.Proofs
open Go.RowKit Go.Proofs.Mp

set_option maxRecDepth 100000 in
set_option maxHeartbeats 2000000 in
theorem law_checks (A : Option Addr) (c : Nat) (l : List Pt) (w : World) (hmax : l.length ≤ 9223372036854775807) (hR : RdR w A l) : Calls Try.prog 3 #[.slice A l.length c] w (RetV w (.bool true)) := by
  have cA := Lib.hid law_awake
  by_cases h : l.length ≤ 40
  rotate_left
  · have hd : decide ((40 : Int) < (l.length : Int)) = true := decide_eq_true (by omega)
    have H := Lib.hid h
    clear h
    go_enter Try.func3, Try.ntmps3
    go_wp2_with fail
    refine (cA.out _).mono ?_
    rintro e w1 ⟨rfl, hb⟩
    go_wp2
    go_ret
    exact RetV.bool rfl hb
  have hd : decide ((40 : Int) < (l.length : Int)) = false := decide_eq_false (by omega)
  have hm : l.length ≤ 1000000000000 := by omega
  have H := Lib.hid h
  clear h
  have c1 := Lib.hid fun W (hb : Below w.heap.size w W) => ring_check A c l W hm (hR.below hb)
  have c2 := Lib.hid fun W (hb : Below w.heap.size w W) => ref_check A c l W hm (hR.below hb)
  clear hR
  rw [← chk_ref l] at c2
  generalize chkE l = t at *
  go_enter Try.func3, Try.ntmps3
  go_wp2_with fail
  refine (cA.out _).mono ?_
  rintro e w1 ⟨rfl, k⟩
  go_wp2_with fail
  refine (c1.out _ k).mono ?_
  rintro e w2 ⟨rfl, hb⟩
  replace k := k.trans (hb.mono k.size)
  clear hb
  go_wp2_with fail
  refine (c2.out _ k).mono ?_
  rintro e w3 ⟨rfl, hb⟩
  replace k := k.trans (hb.mono k.size)
  clear hb
  go_wp2
  go_ret
  exact RetV.bool rfl k
end Go.Proofs
