/- The walk of SpanValid: true for lists of at most 349525 ranges. -/
import Derived.Test.YtaampfdgidndkaaT13
import Derived.Test.YtaampfdgidndkaaP2
import Derived.Test.YtaampfdgidndkaaP4
set_option linter.unusedVariables false
set_option linter.unusedSimpArgs false
namespace Go.Proofs
open Go.RowKit Go.Proofs.Mp

set_option maxHeartbeats 4000000 in
theorem law_valids (A B : Option Addr) (c d : Nat) (xs ys : List (Int × Int)) (w : World) (h1 : xs.length ≤ 349525) (h2 : ys.length ≤ 349525) (hA : RdR w A xs) (hB : RdR w B ys) :
    Calls Try.prog 5 #[.slice A xs.length c, .slice B ys.length d] w (RetV w (.bool true)) := by
  have lN := normL_len xs
  have lU := normL_len (xs ++ ys)
  have lI := interL_len xs ys
  have lM := minusL_len' xs ys h1 h2
  rw [List.length_append] at lU
  have vN := (validB_iff _).2 (normL_vld xs)
  have vU := (validB_iff _).2 (normL_vld (xs ++ ys))
  have vI := (validB_iff _).2 (interL_vld xs ys)
  have vM := (validB_iff _).2 (minusL_vld xs ys)
  have nn := normL_of_vld (normL_vld xs)
  have k0 : Below w.heap.size w w := Below.refl _ _
  have CN := Lib.hid (span_normal A c xs w (by omega) hA)
  have CU := Lib.hid (fun (W : World) (h : Below w.heap.size w W) => span_union A B c d xs ys W (by omega) (by omega) (hA.below h) (hB.below h))
  have CI := Lib.hid (fun (W : World) (h : Below w.heap.size w W) => span_inter A B c d xs ys W (by omega) (by omega) (hA.below h) (hB.below h))
  have CM := Lib.hid (fun (W : World) (h : Below w.heap.size w W) => span_minus A B c d xs ys W (by omega) (by omega) (hA.below h) (hB.below h))
  have C0 := fun (W : World) (h : Below w.heap.size w W) => span_union A none c 0 xs [] W (by omega) (by simp) (hA.below h) (Rd.nil _)
  rw [List.append_nil] at C0
  have CU0 := Lib.hid C0
  have VX := Lib.hid (fun (W : World) (h : Below w.heap.size w W) => span_valid A c xs W (by omega) (hA.below h))
  have LX := Lib.hid (fun (W : World) (h : Below w.heap.size w W) => law_valid A c xs W (by omega) (hA.below h))
  have LN := Lib.hid (fun (W : World) (A' : Option Addr) (c' : Nat) (h : RdR W A' (normL xs)) => call_b (law_valid A' c' _ W (by omega) h) vN)
  have LU := Lib.hid (fun (W : World) (A' : Option Addr) (c' : Nat) (h : RdR W A' (normL (xs ++ ys))) => call_b (law_valid A' c' _ W (by omega) h) vU)
  have VU := Lib.hid (fun (W : World) (A' : Option Addr) (c' : Nat) (h : RdR W A' (normL (xs ++ ys))) => call_b (span_valid A' c' _ W (by omega) h) vU)
  have LI := Lib.hid (fun (W : World) (A' : Option Addr) (c' : Nat) (h : RdR W A' (interL xs ys)) => call_b (law_valid A' c' _ W (by omega) h) vI)
  have LM := Lib.hid (fun (W : World) (A' : Option Addr) (c' : Nat) (h : RdR W A' (minusL xs ys)) => call_b (law_valid A' c' _ W (by omega) h) vM)
  have N1 := fun (W : World) (A' : Option Addr) (c' : Nat) (h : RdR W A' (normL xs)) => span_normal A' c' (normL xs) W (by omega) h
  rw [nn] at N1
  have NN := Lib.hid N1
  have SN := Lib.hid (fun (W : World) (A' B' : Option Addr) (c' d' : Nat) (h : RdR W A' (normL xs)) (h' : RdR W B' (normL xs)) => call_b (y := true) (ref_same A' B' c' d' (normL xs) (normL xs) W (by omega) (by omega) h h') (decide_eq_true rfl))
  have vx := valid_norm xs
  have HR := Lib.hid (fun (W : World) (h : Below w.heap.size w W) => hA.below h)
  have SX : Hid (∀ (W : World) (A' : Option Addr) (c' : Nat), validB xs = true → RdR W A' (normL xs) → Below w.heap.size w W → Calls Try.prog 12 #[.slice A' (normL xs).length c', .slice A xs.length c] W (RetV W (.bool true))) :=
    Lib.hid (fun W A' c' hv h hb => call_b (ref_same A' A c' c (normL xs) xs W (by omega) (by omega) h (HR.out W hb)) (decide_eq_true (by rw [vx, decide_eq_true_iff] at hv; exact hv.symm)))
  clear hA hB C0 N1 nn vN vU vI vM vx
  generalize normL (xs ++ ys) = nu at *
  generalize interL xs ys = ni at *
  generalize minusL xs ys = nm at *
  generalize normL xs = nx at *
  generalize validB xs = v at *
  cases v
  · go_enter Try.func5, Try.ntmps5
    go_wp2_with fail
    refine CN.out.mono ?_
    rintro e w1 ⟨A1, c1, rfl, hR1, hb1⟩
    have k1 := k0.trans hb1
    go_wp2_with fail
    refine (CU.out w1 k1).mono ?_
    rintro e w2 ⟨A2, c2, rfl, hR2, hb2⟩
    have k2 := k1.trans (hb2.mono k1.size)
    go_wp2_with fail
    refine (CI.out w2 k2).mono ?_
    rintro e w3 ⟨A3, c3, rfl, hR3, hb3⟩
    have k3 := k2.trans (hb3.mono k2.size)
    go_wp2_with fail
    refine (CM.out w3 k3).mono ?_
    rintro e w4 ⟨A4, c4, rfl, hR4, hb4⟩
    have k4 := k3.trans (hb4.mono k3.size)
    have r1 := ((hR1.below hb2).below hb3).below hb4
    have r2 := (hR2.below hb3).below hb4
    have r3 := hR3.below hb4
    go_wp2_with fail
    refine (LN.out w4 A1 c1 r1).mono ?_
    rintro e w5 ⟨rfl, hb5⟩
    have k5 := k4.trans (hb5.mono k4.size)
    go_wp2_with fail
    refine (LU.out w5 A2 c2 (r2.below hb5)).mono ?_
    rintro e w6 ⟨rfl, hb6⟩
    have k6 := k5.trans (hb6.mono k5.size)
    go_wp2_with fail
    refine (LI.out w6 A3 c3 ((r3.below hb5).below hb6)).mono ?_
    rintro e w7 ⟨rfl, hb7⟩
    have k7 := k6.trans (hb7.mono k6.size)
    go_wp2_with fail
    refine (LM.out w7 A4 c4 (((hR4.below hb5).below hb6).below hb7)).mono ?_
    rintro e w8 ⟨rfl, hb8⟩
    have k8 := k7.trans (hb8.mono k7.size)
    have s1 := (((r1.below hb5).below hb6).below hb7).below hb8
    have s2 := (((r2.below hb5).below hb6).below hb7).below hb8
    go_wp2_with fail
    refine (VX.out w8 k8).mono ?_
    rintro e w9 ⟨rfl, hb9⟩
    have k9 := k8.trans (hb9.mono k8.size)
    go_wp2_with fail
    refine (LX.out w9 k9).mono ?_
    rintro e w10 ⟨rfl, hb10⟩
    have k10 := k9.trans (hb10.mono k9.size)
    go_wp2_with fail
    refine (VU.out w10 A2 c2 ((s2.below hb9).below hb10)).mono ?_
    rintro e w11 ⟨rfl, hb11⟩
    have k11 := k10.trans (hb11.mono k10.size)
    have t1 := ((s1.below hb9).below hb10).below hb11
    go_wp2_with fail
    refine (NN.out w11 A1 c1 t1).mono ?_
    rintro e w12 ⟨A12, c12, rfl, hR12, hb12⟩
    have k12 := k11.trans (hb12.mono k11.size)
    go_wp2_with fail
    refine (SN.out w12 A12 A1 c12 c1 hR12 (t1.below hb12)).mono ?_
    rintro e w13 ⟨rfl, hb13⟩
    have k13 := k12.trans (hb13.mono k12.size)
    go_wp2_with fail
    refine (LX.out w13 k13).mono ?_
    rintro e w14 ⟨rfl, hb14⟩
    have k14 := k13.trans (hb14.mono k13.size)
    have u1 := ((t1.below hb12).below hb13).below hb14
    go_wp2_with fail
    refine (CU0.out w14 k14).mono ?_
    rintro e w15 ⟨A15, c15, rfl, hR15, hb15⟩
    have k15 := k14.trans (hb15.mono k14.size)
    go_wp2_with fail
    refine (SN.out w15 A15 A1 c15 c1 hR15 (u1.below hb15)).mono ?_
    rintro e w16 ⟨rfl, hb16⟩
    have k16 := k15.trans (hb16.mono k15.size)
    go_wp2_with fail
    refine (law_awake w16).mono ?_
    rintro e w17 ⟨rfl, hb17⟩
    have k17 := k16.trans (hb17.mono k16.size)
    go_wp2
    go_ret
    exact RetV.bool rfl k17
  · go_enter Try.func5, Try.ntmps5
    go_wp2_with fail
    refine CN.out.mono ?_
    rintro e w1 ⟨A1, c1, rfl, hR1, hb1⟩
    have k1 := k0.trans hb1
    go_wp2_with fail
    refine (CU.out w1 k1).mono ?_
    rintro e w2 ⟨A2, c2, rfl, hR2, hb2⟩
    have k2 := k1.trans (hb2.mono k1.size)
    go_wp2_with fail
    refine (CI.out w2 k2).mono ?_
    rintro e w3 ⟨A3, c3, rfl, hR3, hb3⟩
    have k3 := k2.trans (hb3.mono k2.size)
    go_wp2_with fail
    refine (CM.out w3 k3).mono ?_
    rintro e w4 ⟨A4, c4, rfl, hR4, hb4⟩
    have k4 := k3.trans (hb4.mono k3.size)
    have r1 := ((hR1.below hb2).below hb3).below hb4
    have r2 := (hR2.below hb3).below hb4
    have r3 := hR3.below hb4
    go_wp2_with fail
    refine (LN.out w4 A1 c1 r1).mono ?_
    rintro e w5 ⟨rfl, hb5⟩
    have k5 := k4.trans (hb5.mono k4.size)
    go_wp2_with fail
    refine (LU.out w5 A2 c2 (r2.below hb5)).mono ?_
    rintro e w6 ⟨rfl, hb6⟩
    have k6 := k5.trans (hb6.mono k5.size)
    go_wp2_with fail
    refine (LI.out w6 A3 c3 ((r3.below hb5).below hb6)).mono ?_
    rintro e w7 ⟨rfl, hb7⟩
    have k7 := k6.trans (hb7.mono k6.size)
    go_wp2_with fail
    refine (LM.out w7 A4 c4 (((hR4.below hb5).below hb6).below hb7)).mono ?_
    rintro e w8 ⟨rfl, hb8⟩
    have k8 := k7.trans (hb8.mono k7.size)
    have s1 := (((r1.below hb5).below hb6).below hb7).below hb8
    have s2 := (((r2.below hb5).below hb6).below hb7).below hb8
    go_wp2_with fail
    refine (VX.out w8 k8).mono ?_
    rintro e w9 ⟨rfl, hb9⟩
    have k9 := k8.trans (hb9.mono k8.size)
    go_wp2_with fail
    refine (LX.out w9 k9).mono ?_
    rintro e w10 ⟨rfl, hb10⟩
    have k10 := k9.trans (hb10.mono k9.size)
    go_wp2_with fail
    refine (VU.out w10 A2 c2 ((s2.below hb9).below hb10)).mono ?_
    rintro e w11 ⟨rfl, hb11⟩
    have k11 := k10.trans (hb11.mono k10.size)
    have t1 := ((s1.below hb9).below hb10).below hb11
    go_wp2_with fail
    refine (NN.out w11 A1 c1 t1).mono ?_
    rintro e w12 ⟨A12, c12, rfl, hR12, hb12⟩
    have k12 := k11.trans (hb12.mono k11.size)
    go_wp2_with fail
    refine (SN.out w12 A12 A1 c12 c1 hR12 (t1.below hb12)).mono ?_
    rintro e w13 ⟨rfl, hb13⟩
    have k13 := k12.trans (hb13.mono k12.size)
    go_wp2_with fail
    refine (LX.out w13 k13).mono ?_
    rintro e wx ⟨rfl, hbx⟩
    have kx := k13.trans (hbx.mono k13.size)
    have x1 := ((t1.below hb12).below hb13).below hbx
    go_wp2_with fail
    refine (SX.out wx A1 c1 True.intro x1 kx).mono ?_
    rintro e w14 ⟨rfl, hb14⟩
    have k14 := kx.trans (hb14.mono kx.size)
    have u1 := x1.below hb14
    go_wp2_with fail
    refine (CU0.out w14 k14).mono ?_
    rintro e w15 ⟨A15, c15, rfl, hR15, hb15⟩
    have k15 := k14.trans (hb15.mono k14.size)
    go_wp2_with fail
    refine (SN.out w15 A15 A1 c15 c1 hR15 (u1.below hb15)).mono ?_
    rintro e w16 ⟨rfl, hb16⟩
    have k16 := k15.trans (hb16.mono k15.size)
    go_wp2_with fail
    refine (law_awake w16).mono ?_
    rintro e w17 ⟨rfl, hb17⟩
    have k17 := k16.trans (hb17.mono k16.size)
    go_wp2
    go_ret
    exact RetV.bool rfl k17
end Go.Proofs
