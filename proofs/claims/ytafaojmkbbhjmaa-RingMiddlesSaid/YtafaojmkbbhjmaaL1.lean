/- awake. -/
import Derived.Test.YtafaojmkbbhjmaaM6
import Derived.Test.YtafaojmkbbhjmaaC7
import Derived.Test.YtafaojmkbbhjmaaC9
set_option linter.unusedVariables false
set_option linter.unusedSimpArgs false
namespace Go.Proofs
open Go.RowKit Go.Proofs.Mp

def sqL : List Pt := [(0, 0), (10, 0), (10, 10), (0, 10)]
def triL : List Pt := [(0, 0), (2, 0), (0, 2)]
def uL : List Pt := [(0, 0), (9, 0), (9, 9), (6, 9), (6, 3), (2, 3), (2, 9), (0, 9)]
def badL : List Pt := [(0, 0), (4, 0), (2, 0)]
theorem ex1 : midP sqL = (5, 5) ∧ (midR sqL).isSome = true := by decide +kernel
theorem ex2 : midP triL = (0, 0) ∧ (midR triL).isSome = false := by decide +kernel
theorem ex3 : midP uL = (7, 4) ∧ (midR uL).isSome = true := by decide +kernel
theorem ex4 : chkE sqL = 0 ∧ twN sqL = 200 ∧ inN sqL (5, 5) = 1 ∧ inN sqL (0, 3) = 0 ∧ inN sqL (11, 5) = -1 ∧ chkE badL = 11 := by decide +kernel
theorem ex5 : bnd sqL = ⟨0, 0, 10, 10⟩ := rfl
section
variable {A : Option Addr} {c n : Nat} {l : List Pt} {w : World}
theorem c_mid {p : Pt} {z : Bool} (h : midP l = p ∧ (midR l).isSome = z) (hn : n = l.length) (hmax : l.length ≤ 1000) (hR : RdR w A l) : Calls Try.prog 18 #[.slice A n c] w (RetV w (.tuple #[.agg #[.int .i64 p.1, .int .i64 p.2], .bool z])) := by
  have := ring_middle A c l w (by omega) hR
  rw [h.1, h.2] at this
  subst hn
  exact this
theorem c_check {z : Int} (h : chkE l = z) (hn : n = l.length) (hmax : l.length ≤ 1000) (hR : RdR w A l) : Calls Try.prog 11 #[.slice A n c] w (RetV w (.int .i64 z)) := by
  have := ring_check A c l w (by omega) hR
  rw [h] at this
  subst hn
  exact this
theorem c_twice {z : Int} (h : twN l = z) (hn : n = l.length) (hmax : l.length ≤ 1000) (hR : RdR w A l) : Calls Try.prog 13 #[.slice A n c] w (RetV w (.int .i64 z)) := by
  have := ring_twice A c l w (by omega) hR
  rw [h] at this
  subst hn
  exact this
theorem c_in {z : Int} {x y : Int} (h : inN l (x, y) = z) (hn : n = l.length) (hmax : l.length ≤ 1000) (hR : RdR w A l) : Calls Try.prog 20 #[.slice A n c, .agg #[.int .i64 x, .int .i64 y]] w (RetV w (.int .i64 z)) := by
  have := ring_in A c l (x, y) w (by omega) hR
  rw [h] at this
  subst hn
  exact this
theorem c_bounds {b : Bo} (h : bnd l = b) (hn : n = l.length) (hmax : l.length ≤ 1000) (hR : RdR w A l) : Calls Try.prog 15 #[.slice A n c] w (RetV w (aggO b)) := by
  have := ring_bounds A c l w (by omega) hR
  rw [h] at this
  subst hn
  exact this
end
theorem law_square (w : World) : Calls Try.prog 26 #[] w (fun e w' => ∃ A, e = .returned (.slice A 4 4) ∧ RdR w' A sqL ∧ Below w.heap.size w w') := by
  go_enter Try.func26, Try.ntmps26
  go_wp2
  go_ret
  exact ⟨_, rfl, lit_rdAt w _ 32 sqL rfl _ rfl, bw1 _ _⟩
theorem Try.eql29 (x1 x2 x3 x4 y1 y2 y3 y4 : Int) (W : World) : (binOp .eql 29 (.agg #[.int .i64 x1, .int .i64 x2, .int .i64 x3, .int .i64 x4]) (.agg #[.int .i64 y1, .int .i64 y2, .int .i64 y3, .int .i64 y4])).run Try.prog W = .ok (.bool (decide (x1 = y1 ∧ x2 = y2 ∧ x3 = y3 ∧ x4 = y4))) W := by
  have u3 := Try.underlying3
  have a3 := Try.isAgg3
  have z3 := Try.sizeOf3
  have hS : Try.prog.underlying 29 = some (.struct (Try.prog.fieldsOf 29)) := by kernel_rfl
  have hp : Try.prog.stoodInHeld 29 = false := by kernel_rfl
  rw [run_eql_struct, show (10000 : Nat) = 9999 + 1 from rfl, run_equalIn_agg W 9999 29 _ _ hS hp]
  simp only [Program.fieldsOf, Try.underlying29]
  go_simp
  by_cases h1 : x1 = y1 <;> by_cases h2 : x2 = y2 <;> by_cases h3 : x3 = y3 <;> by_cases h4 : x4 = y4 <;> simp [h1, h2, h3, h4]
theorem Try.guard29 : Try.prog.eqGuardType Try.prog.depth 29 = false := by kernel_rfl

set_option maxRecDepth 100000 in
set_option maxHeartbeats 4000000 in
theorem law_awake (w : World) : Calls Try.prog 10 #[] w (RetV w (.bool true)) := by
  go_enter Try.func10, Try.ntmps10
  go_wp2_with fail
  refine (law_square w).mono ?_
  rintro e w1 ⟨A, rfl, hL, k⟩
  go_wp2_with fail
  refine (c_mid ex1 rfl (by decide) hL).mono ?_
  rintro e w2 ⟨rfl, hb⟩
  replace hL := hL.below hb
  replace k := k.trans (hb.mono k.size)
  clear hb
  go_upto_region 3 with fail
  replace hL := hL.alloc (.cells #[.int .i64 5, .int .i64 5] 32)
  have hP := BoxP.new w2 (5, 5)
  replace k := k.alloc k.size (.cells #[.int .i64 5, .int .i64 5] 32)
  dsimp only at hP
  generalize (w2.alloc (.cells #[.int .i64 5, .int .i64 5] 32)) = w3 at *
  generalize w2.heap.size = nhP at *
  go_wp2_with fail
  refine (c_mid (c := 3) ex2 rfl (by decide) (lit_rdAt w3 _ 32 triL rfl _ rfl)).mono ?_
  rintro e w4 ⟨rfl, hb⟩
  replace hb := below_lit hb
  replace hL := hL.below hb
  replace hP := hP.below hb
  replace k := k.trans (hb.mono k.size)
  clear hb
  go_upto_region 4 with fail
  replace hL := hL.alloc (.cells #[.int .i64 0, .int .i64 0] 32)
  replace hP := hP.alloc (.cells #[.int .i64 0, .int .i64 0] 32)
  have hQ := BoxP.new w4 (0, 0)
  replace k := k.alloc k.size (.cells #[.int .i64 0, .int .i64 0] 32)
  dsimp only at hQ
  generalize (w4.alloc (.cells #[.int .i64 0, .int .i64 0] 32)) = w5 at *
  generalize w4.heap.size = nhQ at *
  go_wp2_with fail
  refine (c_mid (c := 8) ex3 rfl (by decide) (lit_rdAt w5 _ 32 uL rfl _ rfl)).mono ?_
  rintro e w6 ⟨rfl, hb⟩
  replace hb := below_lit hb
  replace hL := hL.below hb
  replace hP := hP.below hb
  replace hQ := hQ.below hb
  replace k := k.trans (hb.mono k.size)
  clear hb
  go_upto_region 5 with fail
  replace hL := hL.alloc (.cells #[.int .i64 7, .int .i64 4] 32)
  replace hP := hP.alloc (.cells #[.int .i64 7, .int .i64 4] 32)
  replace hQ := hQ.alloc (.cells #[.int .i64 7, .int .i64 4] 32)
  have hU := BoxP.new w6 (7, 4)
  replace k := k.alloc k.size (.cells #[.int .i64 7, .int .i64 4] 32)
  dsimp only at hU
  generalize (w6.alloc (.cells #[.int .i64 7, .int .i64 4] 32)) = w7 at *
  generalize w6.heap.size = nhU at *
  clear hQ
  have hG := Try.guard32
  have hG2 := Try.guard29
  have e1 := fun W => Try.eql32 5 5 5 5 W
  have e2 := fun W => Try.eql32 7 4 7 4 W
  have e3 := fun W => Try.eql29 0 0 10 10 0 0 10 10 W
  simp only [decide_true, and_self] at e1 e2 e3
  obtain ⟨q1, q2, q3, q4, q5, q6⟩ := ex4
  have Q1 := Lib.hid q1
  have Q2 := Lib.hid q2
  have Q3 := Lib.hid q3
  have Q4 := Lib.hid q4
  have Q5 := Lib.hid q5
  have Q6 := Lib.hid q6
  clear q1 q2 q3 q4 q5 q6
  go_wp2_with fail
  refine (c_check Q1.out rfl (by decide) hL).mono ?_
  rintro e w8 ⟨rfl, hb⟩
  replace hL := hL.below hb
  replace hP := hP.below hb
  replace hU := hU.below hb
  replace k := k.trans (hb.mono k.size)
  clear hb
  go_wp2_with fail
  refine (c_twice Q2.out rfl (by decide) hL).mono ?_
  rintro e w9 ⟨rfl, hb⟩
  replace hL := hL.below hb
  replace hP := hP.below hb
  replace hU := hU.below hb
  replace k := k.trans (hb.mono k.size)
  clear hb
  go_wp2_with fail
  refine (c_in Q3.out rfl (by decide) hL).mono ?_
  rintro e w10 ⟨rfl, hb⟩
  replace hL := hL.below hb
  replace hP := hP.below hb
  replace hU := hU.below hb
  replace k := k.trans (hb.mono k.size)
  clear hb
  go_wp2_with fail
  refine (c_in Q4.out rfl (by decide) hL).mono ?_
  rintro e w11 ⟨rfl, hb⟩
  replace hL := hL.below hb
  replace hP := hP.below hb
  replace hU := hU.below hb
  replace k := k.trans (hb.mono k.size)
  clear hb
  go_wp2_with fail
  refine (c_in Q5.out rfl (by decide) hL).mono ?_
  rintro e w12 ⟨rfl, hb⟩
  replace hL := hL.below hb
  replace hP := hP.below hb
  replace hU := hU.below hb
  replace k := k.trans (hb.mono k.size)
  clear hb
  have g1 := hP.c0
  have g2 := hP.c1
  have g3 := hU.c0
  have g4 := hU.c1
  dsimp only at g1 g2 g3 g4
  go_wp2_with fail
  refine (c_check (c := 3) Q6.out rfl (by decide) (lit_rdAt w12 _ 32 badL rfl _ rfl)).mono ?_
  rintro e w13 ⟨rfl, hb⟩
  replace hb := below_lit hb
  replace hL := hL.below hb
  replace hP := hP.below hb
  replace hU := hU.below hb
  replace k := k.trans (hb.mono k.size)
  clear hb
  clear g1 g2 g3 g4
  go_wp2_with fail
  refine (c_bounds ex5 rfl (by decide) hL).mono ?_
  rintro e w14 ⟨rfl, hb⟩
  replace hL := hL.below hb
  replace hP := hP.below hb
  replace hU := hU.below hb
  replace k := k.trans (hb.mono k.size)
  clear hb
  unfold aggO
  go_wp2
  go_ret
  exact RetV.bool rfl k
end Go.Proofs
