import Derived.Test.YtaampfdgidndkaaT12
set_option linter.unusedVariables false
set_option linter.unusedSimpArgs false
namespace Go.Proofs
open Go.RowKit Go.Proofs.Mp

theorem call_eq {f : FuncId} {args : Array Value} {w : World} {xs ys : List (Int × Int)} (h : Calls Try.prog f args w (RetR w xs)) (e : xs = ys) : Calls Try.prog f args w (RetR w ys) := e ▸ h
theorem call_b {f : FuncId} {args : Array Value} {w : World} {x y : Bool} (h : Calls Try.prog f args w (RetV w (.bool x))) (e : x = y) : Calls Try.prog f args w (RetV w (.bool y)) := e ▸ h
theorem call_i {f : FuncId} {args : Array Value} {w : World} {x y : Int} (h : Calls Try.prog f args w (RetV w (.int .i64 x))) (e : x = y) : Calls Try.prog f args w (RetV w (.int .i64 y)) := e ▸ h
theorem lit_rd (w : World) (cs : Array Value) (xs : List (Int × Int)) (h : cs = (xs.flatMap encR).toArray) : RdR (w.alloc (.cells cs 33)) (some ⟨w.heap.size, 0, none⟩) xs := by
  subst h; exact Row.rd encR_len (t := 33) (heap_alloc_new w _)

theorem lit_rd1 (w : World) (o : Obj) (cs : Array Value) (xs : List (Int × Int)) (h : cs = (xs.flatMap encR).toArray) : RdR ((w.alloc o).alloc (.cells cs 33)) (some ⟨w.heap.size + 1, 0, none⟩) xs := by
  have := lit_rd (w.alloc o) cs xs h
  rwa [show (w.alloc o).heap.size = w.heap.size + 1 from by simp] at this

/-- the closed facts that the examples need -/
theorem ex1 : validB [(3, 4), (5, 9)] = true := by decide
theorem ex2 : validB [(1, 3), (3, 6)] = false := by decide
theorem ex3 : normL [(4, 6), (1, 3), (3, 4), (9, 9)] = [(1, 6)] := by decide
theorem ex4 : hasL [(1, 6)] 5 = true := by decide
theorem ex5 : hasL [(1, 6)] 6 = false := by decide
theorem ex6 : normL ([(1, 6)] ++ [(3, 4), (5, 9)]) = [(1, 9)] := by decide
theorem ex7 : interL [(1, 6)] [(3, 4), (5, 9)] = [(3, 4), (5, 6)] := by decide
theorem ex8 : minusL [(1, 6)] [(3, 4), (5, 9)] = [(1, 3), (4, 5)] := by decide
theorem ex9 : totL (normL [(1, 4), (3, 5)]) = 4 := by decide +kernel

set_option maxHeartbeats 2000000 in
theorem law_awake (w : World) : Calls Try.prog 9 #[] w (RetV w (.bool true)) := by
  have hA0 := (lit_rd w #[.int .i64 1, .int .i64 6] [(1, 6)] rfl).alloc (.cells #[.int .i64 3, .int .i64 4, .int .i64 5, .int .i64 9] 33)
  have hB0 := lit_rd1 w (.cells #[.int .i64 1, .int .i64 6] 33) #[.int .i64 3, .int .i64 4, .int .i64 5, .int .i64 9] [(3, 4), (5, 9)] rfl
  have hw0 : Below w.heap.size w ((w.alloc (.cells #[.int .i64 1, .int .i64 6] 33)).alloc (.cells #[.int .i64 3, .int .i64 4, .int .i64 5, .int .i64 9] 33)) := ((Below.refl _ _).alloc (Nat.le_refl _) _).alloc (by simp) _
  go_enter Try.func9, Try.ntmps9
  go_wp2_with fail
  generalize ((w.alloc (.cells #[.int .i64 1, .int .i64 6] 33)).alloc (.cells #[.int .i64 3, .int .i64 4, .int .i64 5, .int .i64 9] 33)) = w0 at *
  have HA := Lib.hid (fun (W : World) (h : Below w0.heap.size w0 W) => hA0.below h)
  have HB := Lib.hid (fun (W : World) (h : Below w0.heap.size w0 W) => hB0.below h)
  have HW := Lib.hid hw0
  have hk0 : Below w0.heap.size w0 w0 := Below.refl _ _
  clear hA0 hB0 hw0
  have c := call_b (span_valid (some ⟨w.heap.size + 1, 0, none⟩) 2 [(3, 4), (5, 9)] w0 (by simp) (HB.out _ hk0)) ex1
  simp only [List.length_cons, List.length_nil, Nat.zero_add, Nat.reduceAdd] at c
  have C1 := Lib.hid c
  clear c
  refine C1.out.mono ?_
  rintro e w1 ⟨rfl, hb1⟩
  have hk1 : Below w0.heap.size w0 w1 := hk0.trans (hb1.mono hk0.size)
  clear C1 hb1
  go_wp2_with fail
  have hl := lit_rd w1 #[.int .i64 1, .int .i64 3, .int .i64 3, .int .i64 6] [(1, 3), (3, 6)] rfl
  have hkl : Below w0.heap.size w0 (w1.alloc (.cells #[.int .i64 1, .int .i64 3, .int .i64 3, .int .i64 6] 33)) := hk1.alloc hk1.size _
  have c := call_b (span_valid (some ⟨w1.heap.size, 0, none⟩) 2 [(1, 3), (3, 6)] (w1.alloc (.cells #[.int .i64 1, .int .i64 3, .int .i64 3, .int .i64 6] 33)) (by simp) hl) ex2
  simp only [List.length_cons, List.length_nil, Nat.zero_add, Nat.reduceAdd] at c
  have C2 := Lib.hid c
  clear c
  refine C2.out.mono ?_
  rintro e w2 ⟨rfl, hb2⟩
  have hk2 : Below w0.heap.size w0 w2 := hkl.trans (hb2.mono hkl.size)
  clear C2 hb2
  clear hl hkl
  go_wp2_with fail
  have hl := lit_rd w2 #[.int .i64 4, .int .i64 6, .int .i64 1, .int .i64 3, .int .i64 3, .int .i64 4, .int .i64 9, .int .i64 9] [(4, 6), (1, 3), (3, 4), (9, 9)] rfl
  have hkl : Below w0.heap.size w0 (w2.alloc (.cells #[.int .i64 4, .int .i64 6, .int .i64 1, .int .i64 3, .int .i64 3, .int .i64 4, .int .i64 9, .int .i64 9] 33)) := hk2.alloc hk2.size _
  have c := call_eq (span_normal (some ⟨w2.heap.size, 0, none⟩) 4 [(4, 6), (1, 3), (3, 4), (9, 9)] (w2.alloc (.cells #[.int .i64 4, .int .i64 6, .int .i64 1, .int .i64 3, .int .i64 3, .int .i64 4, .int .i64 9, .int .i64 9] 33)) (by simp) hl) ex3
  simp only [List.length_cons, List.length_nil, Nat.zero_add, Nat.reduceAdd] at c
  have C3 := Lib.hid c
  clear c
  refine C3.out.mono ?_
  rintro e w3 ⟨A3, c3, rfl, hR3, hb3⟩
  have hk3 : Below w0.heap.size w0 w3 := hkl.trans (hb3.mono hkl.size)
  clear C3 hb3
  clear hl hkl
  go_wp2_with fail
  have c := call_b (y := true) (ref_same A3 (some ⟨w.heap.size, 0, none⟩) c3 1 [(1, 6)] [(1, 6)] w3 (by simp) (by simp) hR3 (HA.out _ hk3)) (by decide)
  simp only [List.length_cons, List.length_nil, Nat.zero_add, Nat.reduceAdd] at c
  have C4 := Lib.hid c
  clear c
  refine C4.out.mono ?_
  rintro e w4 ⟨rfl, hb4⟩
  have hk4 : Below w0.heap.size w0 w4 := hk3.trans (hb4.mono hk3.size)
  clear C4 hb4
  go_wp2_with fail
  have c := call_b (span_has (some ⟨w.heap.size, 0, none⟩) 1 5 [(1, 6)] w4 (by simp) (HA.out _ hk4)) ex4
  simp only [List.length_cons, List.length_nil, Nat.zero_add, Nat.reduceAdd] at c
  have C5 := Lib.hid c
  clear c
  refine C5.out.mono ?_
  rintro e w5 ⟨rfl, hb5⟩
  have hk5 : Below w0.heap.size w0 w5 := hk4.trans (hb5.mono hk4.size)
  clear C5 hb5
  go_wp2_with fail
  have c := call_b (span_has (some ⟨w.heap.size, 0, none⟩) 1 6 [(1, 6)] w5 (by simp) (HA.out _ hk5)) ex5
  simp only [List.length_cons, List.length_nil, Nat.zero_add, Nat.reduceAdd] at c
  have C6 := Lib.hid c
  clear c
  refine C6.out.mono ?_
  rintro e w6 ⟨rfl, hb6⟩
  have hk6 : Below w0.heap.size w0 w6 := hk5.trans (hb6.mono hk5.size)
  clear C6 hb6
  go_wp2_with fail
  have c := call_eq (span_union (some ⟨w.heap.size, 0, none⟩) (some ⟨w.heap.size + 1, 0, none⟩) 1 2 [(1, 6)] [(3, 4), (5, 9)] w6 (by simp) (by simp) (HA.out _ hk6) (HB.out _ hk6)) ex6
  simp only [List.length_cons, List.length_nil, Nat.zero_add, Nat.reduceAdd] at c
  have C7 := Lib.hid c
  clear c
  refine C7.out.mono ?_
  rintro e w7 ⟨A7, c7, rfl, hR7, hb7⟩
  have hk7 : Below w0.heap.size w0 w7 := hk6.trans (hb7.mono hk6.size)
  clear C7 hb7
  go_wp2_with fail
  have hl := lit_rd w7 #[.int .i64 1, .int .i64 9] [(1, 9)] rfl
  have hkl : Below w0.heap.size w0 (w7.alloc (.cells #[.int .i64 1, .int .i64 9] 33)) := hk7.alloc hk7.size _
  have c := call_b (y := true) (ref_same A7 (some ⟨w7.heap.size, 0, none⟩) c7 1 [(1, 9)] [(1, 9)] (w7.alloc (.cells #[.int .i64 1, .int .i64 9] 33)) (by simp) (by simp) (hR7.alloc _) hl) (by decide)
  simp only [List.length_cons, List.length_nil, Nat.zero_add, Nat.reduceAdd] at c
  have C8 := Lib.hid c
  clear c
  refine C8.out.mono ?_
  rintro e w8 ⟨rfl, hb8⟩
  have hk8 : Below w0.heap.size w0 w8 := hkl.trans (hb8.mono hkl.size)
  clear C8 hb8
  clear hl hkl
  go_wp2_with fail
  have c := call_eq (span_inter (some ⟨w.heap.size, 0, none⟩) (some ⟨w.heap.size + 1, 0, none⟩) 1 2 [(1, 6)] [(3, 4), (5, 9)] w8 (by simp) (by simp) (HA.out _ hk8) (HB.out _ hk8)) ex7
  simp only [List.length_cons, List.length_nil, Nat.zero_add, Nat.reduceAdd] at c
  have C9 := Lib.hid c
  clear c
  refine C9.out.mono ?_
  rintro e w9 ⟨A9, c9, rfl, hR9, hb9⟩
  have hk9 : Below w0.heap.size w0 w9 := hk8.trans (hb9.mono hk8.size)
  clear C9 hb9
  go_wp2_with fail
  have hl := lit_rd w9 #[.int .i64 3, .int .i64 4, .int .i64 5, .int .i64 6] [(3, 4), (5, 6)] rfl
  have hkl : Below w0.heap.size w0 (w9.alloc (.cells #[.int .i64 3, .int .i64 4, .int .i64 5, .int .i64 6] 33)) := hk9.alloc hk9.size _
  have c := call_b (y := true) (ref_same A9 (some ⟨w9.heap.size, 0, none⟩) c9 2 [(3, 4), (5, 6)] [(3, 4), (5, 6)] (w9.alloc (.cells #[.int .i64 3, .int .i64 4, .int .i64 5, .int .i64 6] 33)) (by simp) (by simp) (hR9.alloc _) hl) (by decide)
  simp only [List.length_cons, List.length_nil, Nat.zero_add, Nat.reduceAdd] at c
  have C10 := Lib.hid c
  clear c
  refine C10.out.mono ?_
  rintro e w10 ⟨rfl, hb10⟩
  have hk10 : Below w0.heap.size w0 w10 := hkl.trans (hb10.mono hkl.size)
  clear C10 hb10
  clear hl hkl
  go_wp2_with fail
  have c := call_eq (span_minus (some ⟨w.heap.size, 0, none⟩) (some ⟨w.heap.size + 1, 0, none⟩) 1 2 [(1, 6)] [(3, 4), (5, 9)] w10 (by simp) (by simp) (HA.out _ hk10) (HB.out _ hk10)) ex8
  simp only [List.length_cons, List.length_nil, Nat.zero_add, Nat.reduceAdd] at c
  have C11 := Lib.hid c
  clear c
  refine C11.out.mono ?_
  rintro e w11 ⟨A11, c11, rfl, hR11, hb11⟩
  have hk11 : Below w0.heap.size w0 w11 := hk10.trans (hb11.mono hk10.size)
  clear C11 hb11
  go_wp2_with fail
  have hl := lit_rd w11 #[.int .i64 1, .int .i64 3, .int .i64 4, .int .i64 5] [(1, 3), (4, 5)] rfl
  have hkl : Below w0.heap.size w0 (w11.alloc (.cells #[.int .i64 1, .int .i64 3, .int .i64 4, .int .i64 5] 33)) := hk11.alloc hk11.size _
  have c := call_b (y := true) (ref_same A11 (some ⟨w11.heap.size, 0, none⟩) c11 2 [(1, 3), (4, 5)] [(1, 3), (4, 5)] (w11.alloc (.cells #[.int .i64 1, .int .i64 3, .int .i64 4, .int .i64 5] 33)) (by simp) (by simp) (hR11.alloc _) hl) (by decide)
  simp only [List.length_cons, List.length_nil, Nat.zero_add, Nat.reduceAdd] at c
  have C12 := Lib.hid c
  clear c
  refine C12.out.mono ?_
  rintro e w12 ⟨rfl, hb12⟩
  have hk12 : Below w0.heap.size w0 w12 := hkl.trans (hb12.mono hkl.size)
  clear C12 hb12
  clear hl hkl
  go_wp2_with fail
  have hl := lit_rd w12 #[.int .i64 1, .int .i64 4, .int .i64 3, .int .i64 5] [(1, 4), (3, 5)] rfl
  have hkl : Below w0.heap.size w0 (w12.alloc (.cells #[.int .i64 1, .int .i64 4, .int .i64 3, .int .i64 5] 33)) := hk12.alloc hk12.size _
  have c := call_i (span_total (some ⟨w12.heap.size, 0, none⟩) 2 [(1, 4), (3, 5)] (w12.alloc (.cells #[.int .i64 1, .int .i64 4, .int .i64 3, .int .i64 5] 33)) (by simp) hl) ex9
  simp only [List.length_cons, List.length_nil, Nat.zero_add, Nat.reduceAdd] at c
  have C13 := Lib.hid c
  clear c
  refine C13.out.mono ?_
  rintro e w13 ⟨rfl, hb13⟩
  have hk13 : Below w0.heap.size w0 w13 := hkl.trans (hb13.mono hkl.size)
  clear C13 hb13
  clear hl hkl
  go_wp2
  go_ret
  exact RetV.bool rfl (HW.out.trans (hk13.mono HW.out.size))
end Go.Proofs
