import Derived.Test.YtaampfdgidndkaaT9
set_option linter.unusedVariables false
set_option linter.unusedSimpArgs false
namespace Go.Proofs
open Go.RowKit Go.Proofs.Mp

set_option maxHeartbeats 1000000 in
theorem span_total (A : Option Addr) (c : Nat) (xs : List (Int × Int)) (w : World) (h1 : xs.length ≤ 100000000) (hA : RdR w A xs) :
    Calls Try.prog 17 #[.slice A xs.length c] w (RetV w (.int .i64 (totL (normL xs)))) := by
  have cB := span_normal A c xs w (by omega) hA
  have h2 := normL_len xs
  generalize normL xs = r at *
  have HT := Lib.hid (show totL r = if bigM < r.foldl totStep 0 then 0 else wrap64 (r.foldl totStep 0) from rfl)
  generalize totL r = tt at *
  go_enter Try.func17, Try.ntmps17
  go_wp2_with fail
  refine cB.mono ?_
  rintro e w1 ⟨A', c', rfl, hR1, hb1⟩
  go_wp2_with fail
  go_loopw [3, 9] (fun n i wr => ∃ k : Nat, k ≤ r.length ∧ i = .int .i64 k ∧ n = .int .u64 ((r.take k).foldl totStep 0) ∧ Below w1.heap.size w1 wr) (fun _ i _ => r.length - (intOf i).toNat)
  case atStart => exact ⟨0, by omega, rfl, rfl, Below.refl _ _⟩
  case round =>
    obtain ⟨k, hk, rfl, rfl, hbw⟩ := hrel
    have hbs := hbw.size
    by_cases hlt : k < r.length
    · obtain ⟨b, off, rfl, hb, g1, g2⟩ := RdR.get hR1 hbw hlt
      have HX := Lib.hid (foldl_take_succ totStep 0 r k hlt)
      rcases hz : r[k]! with ⟨lo, hi⟩
      rw [hz] at g1 g2 HX
      clear hz
      generalize (r.take k).foldl totStep 0 = n at *
      have hbr : b < wr.heap.size := Nat.lt_of_lt_of_le hb hbs
      have hbl : Below w1.heap.size w1 (wr.alloc (.cells #[.int .i64 lo, .int .i64 hi] 33)) := hbw.alloc hbs _
      go_wp2
      go_roundw
      case rel => exact ⟨k + 1, by omega, by go_num, by rw [HX.out]; rfl, hbl⟩
      case measure => simp [intOf]; omega
    · obtain rfl : k = r.length := by omega
      simp only [List.take_length]
      generalize r.foldl totStep 0 = n at *
      by_cases hn : (9223372036854775807 : Int) < n
      · go_wp2
        go_ret
        exact RetV.int (by rw [HT.out, if_pos (show bigM < n from hn)]) (hb1.trans (hbw.mono hb1.size))
      · go_wp2
        go_ret
        exact RetV.int (by rw [HT.out, if_neg (by unfold bigM; omega)]) (hb1.trans (hbw.mono hb1.size))

theorem made_split {w : World} {g m n : Nat} (h : Row w g 33 (madeCells (Value.agg #[Value.int IntKind.i64 0, Value.int IntKind.i64 0]).cells ((m + n) * 2)).toList) :
    ∃ p q : List Value, p.length = m * 2 ∧ q.length = n * 2 ∧ Row w g 33 ([] ++ p ++ q) := by
  have hl : (madeCells (Value.agg #[Value.int IntKind.i64 0, Value.int IntKind.i64 0]).cells ((m + n) * 2)).toList.length = (m + n) * 2 := by simp [size_madeCells]
  generalize (madeCells (Value.agg #[Value.int IntKind.i64 0, Value.int IntKind.i64 0]).cells ((m + n) * 2)).toList = cs at *
  exact ⟨cs.take (m * 2), cs.drop (m * 2), by rw [List.length_take]; omega, by rw [List.length_drop]; omega, by simpa using h⟩

set_option maxHeartbeats 2000000 in
theorem span_union (A B : Option Addr) (c d : Nat) (xs ys : List (Int × Int)) (w : World) (h1 : xs.length ≤ 100000000) (h2 : ys.length ≤ 100000000) (hA : RdR w A xs) (hB : RdR w B ys) :
    Calls Try.prog 19 #[.slice A xs.length c, .slice B ys.length d] w (RetR w (normL (xs ++ ys))) := by
  obtain ⟨i0, hi0, hz0, hz1, hz2⟩ := info_parts Try.infoR
  have cN := fun (g : Nat) (W : World) (hr : Row W g 33 ((xs ++ ys).flatMap encR)) => span_normal (some ⟨g, 0, none⟩) (xs.length + ys.length) (xs ++ ys) W (by simp; omega) (Row.rd encR_len hr)
  simp only [List.length_append] at cN
  generalize normL (xs ++ ys) = r at *
  have CN := Lib.hid cN
  clear cN
  have hw : IntKind.i64.wrap ((xs.length : Int) + (ys.length : Int)) = (xs.length : Int) + (ys.length : Int) := IntWalk.i64_in _ (by omega)
  have HA := Lib.hid hA
  have HB := Lib.hid hB
  clear hA hB
  by_cases hy : ys.length = 0
  · have hnil : ys = [] := List.eq_nil_of_length_eq_zero hy
    subst hnil
    simp only [List.length_nil, Nat.add_zero, List.append_nil] at *
    clear hy hw
    go_enter Try.func19, Try.ntmps19
    go_wp2_with (first
      | (at_make; refine wpList_makeRow rfl _ _ 22 rfl 33 i0 _ 2 Try.underlying22 hi0 hz0 hz1 _ _ _ _ xs.length rfl rfl (by simp) (by simp) (by rw [hz2]; omega) (by omega) ?_; intro w1 hr1 hb1; have hr1' : Row w1 w.heap.size 33 ([] ++ (madeCells (Value.agg #[Value.int IntKind.i64 0, Value.int IntKind.i64 0]).cells (xs.length * 2)).toList ++ []) := (by simpa using hr1); clear hr1)
      | (with_reducible refine Try.copyAt (o := ⟨some 14, _, _, _, _, _⟩) hr1' (by simp [size_madeCells]) rfl (HA.out.below hb1) rfl (.tmp 12) (.tmp 13) rfl _ _ _ _ rfl rfl (Nat.le_refl _) (fun _ => rfl) ?_; intro w2 hr2 hb2; have hr2' : Row w2 w.heap.size 33 (xs.flatMap encR) := (by simpa using hr2); clear hr2 hr1')
      | (with_reducible refine Try.copyAt (o := ⟨some 20, _, _, _, _, _⟩) (zs := []) (pre := xs.flatMap encR) (mid := []) (post := []) (by simpa using hr2') rfl rfl (Rd.nil _) rfl (.tmp 18) (.tmp 19) rfl _ _ _ _ rfl rfl (Nat.zero_le _) (fun h => absurd h (by simp)) ?_; intro w3 hr3 hb3; have hr3' : Row w3 w.heap.size 33 (xs.flatMap encR) := (by simpa using hr3); clear hr3 hr2')
      | (go_at_call 13; refine (CN.out w.heap.size w3 hr3').mono ?_; rintro e w4 ⟨A', c', rfl, hR4, hb4⟩))
    go_ret
    exact ⟨A', c', rfl, hR4, ((hb1.trans hb2).trans hb3).trans (hb4.mono (Nat.le_of_lt hr3'.lt))⟩
  · have hyp : 0 < ys.length := by omega
    have hne : xs.length + ys.length ≠ xs.length := by omega
    have hle : (xs.length : Int) ≤ (xs.length : Int) + (ys.length : Int) := by omega
    clear hy
    go_enter Try.func19, Try.ntmps19
    go_wp2_with (first
      | (at_make; refine wpList_makeRow rfl _ _ 22 rfl 33 i0 _ 2 Try.underlying22 hi0 hz0 hz1 _ _ _ _ (xs.length + ys.length) rfl rfl (by simp) (by simp) (by rw [hz2]; omega) (by omega) ?_; intro w1 hr1 hb1; obtain ⟨p, q, hp, hq, hr1'⟩ := made_split hr1; have HP := Lib.hid hp; have HQ := Lib.hid hq; clear hr1 hp hq)
      | (with_reducible refine Try.copyAt (o := ⟨some 14, _, _, _, _, _⟩) hr1' HP.out rfl (HA.out.below hb1) rfl (.tmp 12) (.tmp 13) rfl _ _ _ _ rfl rfl (Nat.le_add_right _ _) (fun _ => rfl) ?_; intro w2 hr2 hb2; have hr2' : Row w2 w.heap.size 33 (xs.flatMap encR ++ q ++ []) := (by simpa using hr2); clear hr2 hr1')
      | (with_reducible refine Try.copyAt (o := ⟨some 20, _, _, _, _, _⟩) hr2' HQ.out (off := xs.length * 2) (flat_len encR_len xs) (HB.out.below (hb1.trans hb2)) rfl (.tmp 18) (.tmp 19) rfl _ _ _ _ rfl rfl (by omega) (fun _ => by first | rfl | simp) ?_; intro w3 hr3 hb3; have hr3' : Row w3 w.heap.size 33 ((xs ++ ys).flatMap encR) := (by simpa using hr3); clear hr3 hr2')
      | (go_at_call 13; refine (CN.out w.heap.size w3 hr3').mono ?_; rintro e w4 ⟨A', c', rfl, hR4, hb4⟩))
    go_ret
    exact ⟨A', c', rfl, hR4, ((hb1.trans hb2).trans hb3).trans (hb4.mono (Nat.le_of_lt hr3'.lt))⟩
end Go.Proofs
