import Derived.Test.YtaampfdgidndkaaT13
import Derived.Test.YtaampfdgidndkaaP2
set_option linter.unusedVariables false
set_option linter.unusedSimpArgs false
namespace Go.Proofs
open Go.RowKit Go.Proofs.Mp

set_option maxHeartbeats 2000000 in
/-- the law SpanNormals: true, whatever the list -/
theorem law_normals (A : Option Addr) (c : Nat) (zs : List (Int × Int)) (x : Int) (w : World) (hmax : zs.length ≤ 9223372036854775807) (hR : RdR w A zs) :
    Calls Try.prog 3 #[.slice A zs.length c, .int .i64 x] w (RetV w (.bool true)) := by
  by_cases hf : zs.length ≤ 60
  · have HR := Lib.hid (fun (W : World) (h : Below w.heap.size w W) => hR.below h)
    have e1 := valid_norm zs
    have e2 := build_norm zs
    have hn := normL_len zs
    have k0 : Below w.heap.size w w := Below.refl _ _
    have cF := call_b (y := true) (few_any A none none c 0 0 zs.length 0 0 w hmax (by simp) (by simp)) (decide_eq_true ⟨hf, by simp, by simp⟩)
    have CF := Lib.hid cF
    have CV := Lib.hid (fun (W : World) (h : Below w.heap.size w W) => span_valid A c zs W (by omega) (HR.out W h))
    have CV2 := Lib.hid (fun (W : World) (h : Below w.heap.size w W) => ref_valid A c zs W (by omega) (by rw [e2]; omega) (HR.out W h))
    have CN := Lib.hid (fun (W : World) (h : Below w.heap.size w W) => span_normal A c zs W (by omega) (HR.out W h))
    have CN2 := Lib.hid (fun (W : World) (h : Below w.heap.size w W) => ref_normal A c zs W (by omega) (HR.out W h))
    have CH := Lib.hid (fun (W : World) (h : Below w.heap.size w W) => span_has A c x zs W (by omega) (HR.out W h))
    have CH2 := Lib.hid (fun (W : World) (h : Below w.heap.size w W) => ref_has A c x zs W (by omega) (HR.out W h))
    have CT := Lib.hid (fun (W : World) (h : Below w.heap.size w W) => span_total A c zs W (by omega) (HR.out W h))
    have CT2 := Lib.hid (fun (W : World) (h : Below w.heap.size w W) => ref_total A c zs W (by omega) (by rw [e2]; omega) (HR.out W h))
    rw [e2] at CV2 CN2 CT2
    rw [e1] at CV
    clear e1 e2 cF hR
    generalize decide (zs = normL zs) = bv at *
    generalize totL (normL zs) = tv at *
    generalize hasL zs x = hv at *
    generalize normL zs = nz at *
    go_enter Try.func3, Try.ntmps3
    go_wp2_with fail
    refine CF.out.mono ?_
    rintro e w1 ⟨rfl, hb1⟩
    go_wp2_with fail
    have k1 := k0.trans (hb1.mono k0.size)
    refine (CV.out w1 k1).mono ?_
    rintro e w2 ⟨rfl, hb2⟩
    go_wp2_with fail
    have k2 := k1.trans (hb2.mono k1.size)
    refine (CV2.out w2 k2).mono ?_
    rintro e w3 ⟨rfl, hb3⟩
    have k3 := k2.trans (hb3.mono k2.size)
    have hbb : (bv == bv) = true := by simp
    go_wp2_with fail
    refine (CN.out w3 k3).mono ?_
    rintro e w4 ⟨A4, c4, rfl, hR4, hb4⟩
    have k4 := k3.trans (hb4.mono k3.size)
    go_wp2_with fail
    refine (CN2.out w4 k4).mono ?_
    rintro e w5 ⟨A5, c5, rfl, hR5, hb5⟩
    have k5 := k4.trans (hb5.mono k4.size)
    go_wp2_with fail
    refine (call_b (y := true) (ref_same A4 A5 c4 c5 nz nz w5 (by omega) (by omega) (hR4.below hb5) hR5) (by simp)).mono ?_
    rintro e w6 ⟨rfl, hb6⟩
    have k6 := k5.trans (hb6.mono k5.size)
    go_wp2_with fail
    refine (CH.out w6 k6).mono ?_
    rintro e w7 ⟨rfl, hb7⟩
    have k7 := k6.trans (hb7.mono k6.size)
    go_wp2_with fail
    refine (CH2.out w7 k7).mono ?_
    rintro e w8 ⟨rfl, hb8⟩
    have k8 := k7.trans (hb8.mono k7.size)
    go_wp2_with fail
    refine (CT.out w8 k8).mono ?_
    rintro e w9 ⟨rfl, hb9⟩
    have k9 := k8.trans (hb9.mono k8.size)
    go_wp2_with fail
    refine (CT2.out w9 k9).mono ?_
    rintro e w10 ⟨rfl, hb10⟩
    have k10 := k9.trans (hb10.mono k9.size)
    go_wp2_with fail
    refine (law_awake w10).mono ?_
    rintro e w11 ⟨rfl, hb11⟩
    have k11 := k10.trans (hb11.mono k10.size)
    go_wp2
    go_ret
    exact RetV.bool rfl k11
  · have cF := call_b (y := false) (few_any A none none c 0 0 zs.length 0 0 w hmax (by simp) (by simp)) (decide_eq_false (by omega))
    have CF := Lib.hid cF
    clear cF hR hf
    go_enter Try.func3, Try.ntmps3
    go_wp2_with fail
    refine CF.out.mono ?_
    rintro e w1 ⟨rfl, hb1⟩
    go_wp2_with fail
    refine (law_awake w1).mono ?_
    rintro e w2 ⟨rfl, hb2⟩
    go_wp2
    go_ret
    exact RetV.bool rfl (hb1.trans (hb2.mono hb1.size))
end Go.Proofs
