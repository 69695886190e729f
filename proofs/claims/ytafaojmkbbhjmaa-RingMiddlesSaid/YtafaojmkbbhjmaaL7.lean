/- RingMiddles, walked. -/
import Derived.Test.YtafaojmkbbhjmaaL1
import Derived.Test.YtafaojmkbbhjmaaM11
set_option linter.unusedVariables false
set_option linter.unusedSimpArgs false
namespace Go.Proofs
open Go.RowKit Go.Proofs.Mp

set_option maxRecDepth 100000 in
set_option maxHeartbeats 4000000 in
theorem law_middles (A : Option Addr) (c : Nat) (l : List Pt) (w : World) (hmax : l.length ≤ 9223372036854775807) (hR : RdR w A l) : Calls Try.prog 5 #[.slice A l.length c] w (RetV w (.bool true)) := by
  have cA := Lib.hid law_awake
  have cL := Lib.hid (law_low A c l w hmax hR)
  by_cases hlow : lowB l = true
  rotate_left
  · rw [Bool.not_eq_true] at hlow
    rw [hlow] at cL
    have H := Lib.hid hR
    clear hlow hR
    go_enter Try.func5, Try.ntmps5
    go_wp2_with fail
    refine cL.out.mono ?_
    rintro e w1 ⟨rfl, hb1⟩
    go_wp2_with fail
    refine (cA.out _).mono ?_
    rintro e w2 ⟨rfl, hb2⟩
    go_wp2
    go_ret
    exact RetV.bool rfl (hb1.trans (hb2.mono hb1.size))
  rw [hlow] at cL
  have hlen : l.length ≤ 24 := by
    unfold lowB at hlow
    rw [decide_eq_true_eq] at hlow
    exact hlow.1
  have c1 := Lib.hid fun W (hb : Below w.heap.size w W) => ring_middle A c l W (by omega) (hR.below hb)
  have c2 := Lib.hid fun W (hb : Below w.heap.size w W) => ref_middle A c l W (by omega) (hR.below hb)
  clear hR hlow hlen
  generalize midP l = p at *
  generalize (midR l).isSome = z at *
  obtain ⟨p1, p2⟩ := p
  unfold aggP at c1 c2
  dsimp only at c1 c2
  have hG := Try.guard32
  have e1 := fun W => Try.eql32 p1 p2 p1 p2 W
  simp only [and_self, decide_true] at e1
  have hz : (z == z) = true := by cases z <;> rfl
  have HB1 := Lib.hid fun (W : World) (n : Nat) (hn : n = W.heap.size) => (show BoxP (W.alloc (.cells #[.int .i64 p1, .int .i64 p2] 32)) n (p1, p2) from by subst hn; exact BoxP.new W (p1, p2))
  go_enter Try.func5, Try.ntmps5
  go_wp2_with fail
  refine cL.out.mono ?_
  rintro e w1 ⟨rfl, k⟩
  go_wp2_with fail
  refine (c1.out _ k).mono ?_
  rintro e w2 ⟨rfl, hb⟩
  replace k := k.trans (hb.mono k.size)
  clear hb
  have hq := HB1.out w2 _ rfl
  have k2 := k.alloc k.size (.cells #[.int .i64 p1, .int .i64 p2] 32)
  clear k
  go_upto_region 4 with fail
  generalize (w2.alloc (.cells #[.int .i64 p1, .int .i64 p2] 32)) = w3 at *
  generalize w2.heap.size = n1 at *
  go_wp2_with fail
  refine (c2.out _ k2).mono ?_
  rintro e w4 ⟨rfl, hb⟩
  replace k2 := k2.trans (hb.mono k2.size)
  replace hq := hq.below hb
  clear hb
  have hq2 := HB1.out w4 _ rfl
  have hq1 := hq.alloc (.cells #[.int .i64 p1, .int .i64 p2] 32)
  have k := k2.alloc k2.size (.cells #[.int .i64 p1, .int .i64 p2] 32)
  clear k2 hq
  go_upto_region 5 with fail
  generalize (w4.alloc (.cells #[.int .i64 p1, .int .i64 p2] 32)) = w5 at *
  generalize w4.heap.size = n2 at *
  go_wp2_with fail
  refine (cA.out _).mono ?_
  rintro e w6 ⟨rfl, hb⟩
  replace k := k.trans (hb.mono k.size)
  replace hq1 := hq1.below hb
  replace hq2 := hq2.below hb
  obtain ⟨k1, k2, f1, f2, l1⟩ := hq1.cel
  obtain ⟨k3, k4, f3, f4, l2⟩ := hq2.cel
  dsimp only at k1 k2 k3 k4
  have HK := Lib.hid k
  clear hb hq1 hq2 k
  go_wp2
  go_ret
  exact RetV.bool rfl HK.out
end Go.Proofs
