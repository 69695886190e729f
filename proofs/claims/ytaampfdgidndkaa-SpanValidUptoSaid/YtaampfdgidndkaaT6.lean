import Derived.Test.YtaampfdgidndkaaT5
set_option linter.unusedVariables false
set_option linter.unusedSimpArgs false
namespace Go.Proofs
open Go.RowKit Go.Proofs.Mp

theorem ref_normal (A : Option Addr) (c : Nat) (xs : List (Int × Int)) (w : World) (h1 : xs.length ≤ 100000000) (hA : RdR w A xs) :
    Calls Try.prog 14 #[.slice A xs.length c] w (RetR w (buildL xs [] 0)) := by
  have cB := ref_build A none c 0 0 xs [] w h1 (by simp) hA (Rd.nil _)
  simp only [List.length_nil] at cB
  generalize buildL xs [] 0 = r at *
  go_enter Try.func14, Try.ntmps14
  go_wp2_with fail
  refine cB.mono ?_
  rintro e wl ⟨A', c', rfl, hRl, hbl0⟩
  go_wp2
  go_ret
  exact ⟨A', c', rfl, hRl, hbl0⟩

theorem ref_valid (A : Option Addr) (c : Nat) (xs : List (Int × Int)) (w : World) (h1 : xs.length ≤ 100000000) (h2 : (buildL xs [] 0).length ≤ 1000000000000) (hA : RdR w A xs) :
    Calls Try.prog 11 #[.slice A xs.length c] w (RetV w (.bool (decide (xs = buildL xs [] 0)))) := by
  have cB := ref_normal A c xs w h1 hA
  generalize buildL xs [] 0 = r at *
  go_enter Try.func11, Try.ntmps11
  go_wp2_with fail
  refine cB.mono ?_
  rintro e w1 ⟨A', c', rfl, hR1, hb1⟩
  go_wp2_with fail
  refine (ref_same A A' c c' xs r w1 (by omega) h2 (hA.below hb1) hR1).mono ?_
  rintro e w2 ⟨rfl, hb2⟩
  go_wp2
  go_ret
  exact RetV.bool rfl (hb1.trans (hb2.mono hb1.size))

def validAt (zs : List (Int × Int)) (k : Nat) : Bool := decide (zs[k]!.1 < zs[k]!.2) && (decide (k = 0) || decide (zs[k-1]!.2 < zs[k]!.1))
def validB (zs : List (Int × Int)) : Bool := (List.range zs.length).all (validAt zs)
def allTo (p : Nat → Bool) (k : Nat) : Prop := ∀ j, j < k → p j = true
theorem allTo_succ {p : Nat → Bool} {k : Nat} (h : allTo p k) (hk : p k = true) : allTo p (k + 1) := by
  intro j hj
  rcases Nat.lt_succ_iff_lt_or_eq.1 hj with h1 | rfl
  · exact h j h1
  · exact hk
theorem all_yes {p : Nat → Bool} {n : Nat} (h : allTo p n) : (List.range n).all p = true := by
  rw [List.all_eq_true]; intro x hx; exact h x (List.mem_range.1 hx)
theorem all_no {p : Nat → Bool} {n k : Nat} (hk : k < n) (h : p k = false) : (List.range n).all p = false := by
  rw [List.all_eq_false]; exact ⟨k, List.mem_range.2 hk, by simp [h]⟩
def nearAt (zs : List (Int × Int)) (k : Nat) : Bool := decide (-1099511627776 ≤ zs[k]!.1 ∧ zs[k]!.1 ≤ 1099511627776 ∧ -1099511627776 ≤ zs[k]!.2 ∧ zs[k]!.2 ≤ 1099511627776)
def nearB (zs : List (Int × Int)) : Bool := (List.range zs.length).all (nearAt zs)

def totStep (n : Int) (r : Int × Int) : Int := IntKind.u64.wrap (n + IntKind.u64.wrap (IntKind.u64.wrap r.2 - IntKind.u64.wrap r.1))
def bigM : Int := 9223372036854775807
def totL (zs : List (Int × Int)) : Int := if bigM < zs.foldl totStep 0 then 0 else wrap64 (zs.foldl totStep 0)

set_option maxHeartbeats 400000 in
theorem ref_total (A : Option Addr) (c : Nat) (xs : List (Int × Int)) (w : World) (h1 : xs.length ≤ 100000000) (h2 : (buildL xs [] 0).length ≤ 1000000000000) (hA : RdR w A xs) :
    Calls Try.prog 18 #[.slice A xs.length c] w (RetV w (.int .i64 (totL (buildL xs [] 0)))) := by
  have cB := ref_normal A c xs w h1 hA
  generalize buildL xs [] 0 = r at *
  have HT := Lib.hid (show totL r = if bigM < r.foldl totStep 0 then 0 else wrap64 (r.foldl totStep 0) from rfl)
  generalize totL r = tt at *
  go_enter Try.func18, Try.ntmps18
  go_wp2_with fail
  refine cB.mono ?_
  rintro e w1 ⟨A', c', rfl, hR1, hb1⟩
  go_wp2_with fail
  go_loopw [4, 5] (fun n i wr => ∃ k : Nat, k ≤ r.length ∧ i = .int .i64 k ∧ n = .int .u64 ((r.take k).foldl totStep 0) ∧ Below w1.heap.size w1 wr) (fun _ i _ => r.length - (intOf i).toNat)
  case atStart => exact ⟨0, by omega, rfl, rfl, Below.refl _ _⟩
  case round =>
    obtain ⟨k, hk, rfl, rfl, hbw⟩ := hrel
    by_cases hlt : k < r.length
    · obtain ⟨b, off, rfl, hb, g1, g2⟩ := RdR.get hR1 hbw hlt
      have HX := Lib.hid (foldl_take_succ totStep 0 r k hlt)
      rcases hz : r[k]! with ⟨lo, hi⟩
      rw [hz] at g1 g2 HX
      clear hz
      generalize (r.take k).foldl totStep 0 = n at *
      have hk0 : (0 : Int) ≤ (k : Int) := Int.natCast_nonneg _
      have hk1 : (k : Int) < (r.length : Int) := by omega
      go_wp2_with fail
      go_quiet (fail)
      go_wp2
      go_roundw
      case rel => exact ⟨k + 1, by omega, by go_num, by rw [HX.out]; rfl, (below_drewN hbw _)⟩
      case measure => simp [intOf]; omega
    · obtain rfl : k = r.length := by omega
      simp only [List.take_length]
      generalize r.foldl totStep 0 = n at *
      by_cases hn : (9223372036854775807 : Int) < n
      · go_wp2
        go_ret
        exact RetV.int (by rw [HT.out, if_pos (show bigM < n from hn)]) (hb1.trans (hbw.mono hb1.size))
      · go_wp2
        go_ret
        exact RetV.int (by rw [HT.out, if_neg (by unfold bigM; omega)]) (hb1.trans (hbw.mono hb1.size))

set_option maxHeartbeats 600000 in
theorem span_valid (A : Option Addr) (c : Nat) (zs : List (Int × Int)) (w : World) (hmax : zs.length ≤ 1000000000000) (hR : RdR w A zs) :
    Calls Try.prog 10 #[.slice A zs.length c] w (RetV w (.bool (validB zs))) := by
  go_enter Try.func10, Try.ntmps10
  go_wp2
  go_loopw [7] (fun i wr => ∃ k : Nat, k ≤ zs.length ∧ i = .int .i64 k ∧ Below w.heap.size w wr ∧ allTo (validAt zs) k) (fun i _ => zs.length - (intOf i).toNat)
  case atStart => exact ⟨0, by omega, rfl, Below.refl _ _, fun j hj => by omega⟩
  case round =>
    obtain ⟨k, hk, rfl, hbw, hall⟩ := hrel
    have hbs := hbw.size
    by_cases hlt : k < zs.length
    · obtain ⟨b, off, rfl, hb, hc⟩ := RdR.getAll hR hbw hlt
      obtain ⟨h1, h2⟩ := hc k hlt
      rcases hz : zs[k]! with ⟨lo, hi⟩
      rw [hz] at h1 h2
      have HZ := Lib.hid hz
      clear hz
      have hbr : b < wr.heap.size := Nat.lt_of_lt_of_le hb hbs
      have hbl : Below w.heap.size w (wr.alloc (.cells #[.int .i64 lo, .int .i64 hi] 33)) := hbw.alloc hbs _
      by_cases g1 : hi ≤ lo
      · have d1 : decide (hi ≤ lo) = true := decide_eq_true g1
        clear hc
        go_wp2
        go_quiet (fail)
        go_wp2
        go_ret
        exact RetV.bool (all_no hlt (by unfold validAt; rw [HZ.out]; simp; omega)).symm (below_drewN hbl _)
      · have d1 : decide (hi ≤ lo) = false := decide_eq_false g1
        by_cases g2 : 0 < k
        · obtain ⟨m, rfl⟩ : ∃ m, k = m + 1 := ⟨k - 1, by omega⟩
          have d2 : decide ((0:Int) < ((m + 1 : Nat) : Int)) = true := decide_eq_true (by omega)
          obtain ⟨h3, h4⟩ := hc m (by omega)
          rcases hy : zs[m]! with ⟨plo, phi⟩
          rw [hy] at h3 h4
          have HY := Lib.hid hy
          clear hy hc
          have hm0 : (0 : Int) ≤ (m : Int) := Int.natCast_nonneg _
          have hm1 : (m : Int) < (zs.length : Int) := by omega
          have hm2 : (m : Int) + 1 < (zs.length : Int) := by omega
          have hm3 : IntKind.i64.wrap (m : Int) = (m : Int) := IntWalk.i64_in _ (by omega)
          by_cases g3 : lo ≤ phi
          · have d3 : decide (lo ≤ phi) = true := decide_eq_true g3
            go_wp2
            go_quiet (fail)
            go_wp2
            go_ret
            exact RetV.bool (all_no hlt (by unfold validAt; rw [HZ.out, Nat.add_sub_cancel, HY.out]; simp; omega)).symm (below_drewN hbl _)
          · have d3 : decide (lo ≤ phi) = false := decide_eq_false g3
            go_wp2
            go_quiet (fail)
            go_wp2
            go_roundw
            case rel => exact ⟨m + 1 + 1, by omega, by go_num, below_drewN hbl _, allTo_succ hall (by unfold validAt; rw [HZ.out, Nat.add_sub_cancel, HY.out]; simp; omega)⟩
            case measure => simp [intOf]; omega
        · obtain rfl : k = 0 := by omega
          clear hc
          simp only [Nat.zero_mul, Nat.add_zero] at h1 h2
          go_wp2
          go_quiet (fail)
          go_wp2
          go_roundw
          case rel => exact ⟨1, by omega, by go_num, below_drewN hbl _, allTo_succ hall (by unfold validAt; rw [HZ.out]; simp; omega)⟩
          case measure => simp [intOf]; omega
    · obtain rfl : k = zs.length := by omega
      go_wp2
      go_ret
      exact RetV.bool (all_yes hall).symm hbw

set_option maxHeartbeats 600000 in
theorem law_valid (A : Option Addr) (c : Nat) (zs : List (Int × Int)) (w : World) (hmax : zs.length ≤ 1000000000000) (hR : RdR w A zs) :
    Calls Try.prog 22 #[.slice A zs.length c] w (RetV w (.bool (validB zs))) := by
  go_enter Try.func22, Try.ntmps22
  go_wp2
  go_loopw [3] (fun i wr => ∃ k : Nat, k ≤ zs.length ∧ i = .int .i64 k ∧ Below w.heap.size w wr ∧ allTo (validAt zs) k) (fun i _ => zs.length - (intOf i).toNat)
  case atStart => exact ⟨0, by omega, rfl, Below.refl _ _, fun j hj => by omega⟩
  case round =>
    obtain ⟨k, hk, rfl, hbw, hall⟩ := hrel
    have hbs := hbw.size
    by_cases hlt : k < zs.length
    · obtain ⟨b, off, rfl, hb, hc⟩ := RdR.getAll hR hbw hlt
      obtain ⟨h1, h2⟩ := hc k hlt
      rcases hz : zs[k]! with ⟨lo, hi⟩
      rw [hz] at h1 h2
      have HZ := Lib.hid hz
      clear hz
      have hbr : b < wr.heap.size := Nat.lt_of_lt_of_le hb hbs
      have hbl : Below w.heap.size w (wr.alloc (.cells #[.int .i64 lo, .int .i64 hi] 33)) := hbw.alloc hbs _
      by_cases g1 : hi ≤ lo
      · have d1 : decide (hi ≤ lo) = true := decide_eq_true g1
        clear hc
        go_wp2
        go_quiet (fail)
        go_wp2
        go_ret
        exact RetV.bool (all_no hlt (by unfold validAt; rw [HZ.out]; simp; omega)).symm (below_drewN hbw _)
      · have d1 : decide (hi ≤ lo) = false := decide_eq_false g1
        by_cases g2 : 0 < k
        · obtain ⟨m, rfl⟩ : ∃ m, k = m + 1 := ⟨k - 1, by omega⟩
          have d2 : decide ((0:Int) < ((m + 1 : Nat) : Int)) = true := decide_eq_true (by omega)
          obtain ⟨h3, h4⟩ := hc m (by omega)
          rcases hy : zs[m]! with ⟨plo, phi⟩
          rw [hy] at h3 h4
          have HY := Lib.hid hy
          clear hy hc
          have hm0 : (0 : Int) ≤ (m : Int) := Int.natCast_nonneg _
          have hm1 : (m : Int) < (zs.length : Int) := by omega
          have hm2 : (m : Int) + 1 < (zs.length : Int) := by omega
          have hm3 : IntKind.i64.wrap (m : Int) = (m : Int) := IntWalk.i64_in _ (by omega)
          by_cases g3 : lo ≤ phi
          · have d3 : decide (lo ≤ phi) = true := decide_eq_true g3
            go_wp2
            go_quiet (fail)
            go_wp2
            go_ret
            exact RetV.bool (all_no hlt (by unfold validAt; rw [HZ.out, Nat.add_sub_cancel, HY.out]; simp; omega)).symm (below_drewN hbw _)
          · have d3 : decide (lo ≤ phi) = false := decide_eq_false g3
            go_wp2
            go_quiet (fail)
            go_wp2
            go_roundw
            case rel => exact ⟨m + 1 + 1, by omega, by go_num, below_drewN hbw _, allTo_succ hall (by unfold validAt; rw [HZ.out, Nat.add_sub_cancel, HY.out]; simp; omega)⟩
            case measure => simp [intOf]; omega
        · obtain rfl : k = 0 := by omega
          clear hc
          simp only [Nat.zero_mul, Nat.add_zero] at h1 h2
          go_wp2
          go_quiet (fail)
          go_wp2
          go_roundw
          case rel => exact ⟨1, by omega, by go_num, below_drewN hbw _, allTo_succ hall (by unfold validAt; rw [HZ.out]; simp; omega)⟩
          case measure => simp [intOf]; omega
    · obtain rfl : k = zs.length := by omega
      go_wp2
      go_ret
      exact RetV.bool (all_yes hall).symm hbw

set_option maxHeartbeats 600000 in
theorem law_near (A : Option Addr) (c : Nat) (zs : List (Int × Int)) (w : World) (hmax : zs.length ≤ 1000000000000) (hR : RdR w A zs) :
    Calls Try.prog 23 #[.slice A zs.length c] w (RetV w (.bool (nearB zs))) := by
  go_enter Try.func23, Try.ntmps23
  go_wp2
  go_loop [3] (fun i => ∃ k : Nat, k ≤ zs.length ∧ i = .int .i64 k ∧ allTo (nearAt zs) k) (fun i => zs.length - (intOf i).toNat)
  case atStart => exact ⟨0, by omega, rfl, fun j hj => by omega⟩
  case round =>
    obtain ⟨k, hk, rfl, hall⟩ := hrel
    by_cases hlt : k < zs.length
    · obtain ⟨b, off, rfl, hb, h1, h2⟩ := RdR.get hR (Below.refl _ _) hlt
      rcases hz : zs[k]! with ⟨lo, hi⟩
      rw [hz] at h1 h2
      have HZ := Lib.hid hz
      clear hz
      by_cases hn : -1099511627776 ≤ lo ∧ lo ≤ 1099511627776 ∧ -1099511627776 ≤ hi ∧ hi ≤ 1099511627776
      · obtain ⟨a1, a2, a3, a4⟩ := hn
        go_wp2
        go_round
        case rel => exact ⟨k + 1, by omega, by go_num, allTo_succ hall (by unfold nearAt; rw [HZ.out]; exact decide_eq_true ⟨a1, a2, a3, a4⟩)⟩
        case measure => simp [intOf]; omega
      · have HN := Lib.hid (show nearAt zs k = false by unfold nearAt; rw [HZ.out]; exact decide_eq_false hn)
        by_cases a1 : -1099511627776 ≤ lo
        · by_cases a2 : lo ≤ 1099511627776
          · by_cases a3 : -1099511627776 ≤ hi
            · have a4 : ¬ hi ≤ 1099511627776 := fun h => hn ⟨a1, a2, a3, h⟩
              clear hn
              go_wp2
              go_ret
              exact RetV.bool (all_no hlt HN.out).symm (Below.refl _ _)
            · clear hn
              go_wp2
              go_ret
              exact RetV.bool (all_no hlt HN.out).symm (Below.refl _ _)
          · clear hn
            go_wp2
            go_ret
            exact RetV.bool (all_no hlt HN.out).symm (Below.refl _ _)
        · clear hn
          go_wp2
          go_ret
          exact RetV.bool (all_no hlt HN.out).symm (Below.refl _ _)
    · obtain rfl : k = zs.length := by omega
      go_wp2
      go_ret
      exact RetV.bool (all_yes hall).symm (Below.refl _ _)
end Go.Proofs
