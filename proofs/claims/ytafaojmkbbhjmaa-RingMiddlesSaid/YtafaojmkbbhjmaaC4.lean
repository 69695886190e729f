/- Check, and the reference's Check. -/
import Derived.Test.YtafaojmkbbhjmaaC3
set_option linter.unusedVariables false
set_option linter.unusedSimpArgs false
namespace Go.Proofs
open Go.RowKit Go.Proofs.Mp

def pairsB (p : Nat → Nat → Bool) (n : Nat) : Bool := (List.range n).all fun j => (List.range j).all fun i => p i j
def pTo (p : Nat → Nat → Bool) (j k : Nat) : Prop := ∀ i, i < k → p i j = true
def pAll (p : Nat → Nat → Bool) (k : Nat) : Prop := ∀ j, j < k → pTo p j j
theorem pairsB_iff (p : Nat → Nat → Bool) (n : Nat) : pairsB p n = true ↔ pAll p n := by
  unfold pairsB pAll pTo
  simp only [List.all_eq_true, List.mem_range]
theorem pairsB_no {p : Nat → Nat → Bool} {n i j : Nat} (hj : j < n) (hi : i < j) (h : p i j = false) : pairsB p n = false := by
  rw [← Bool.not_eq_true, pairsB_iff]
  intro g
  rw [g j hj i hi] at h
  cases h
theorem pTo_succ {p : Nat → Nat → Bool} {j k : Nat} (h : pTo p j k) (hk : p k j = true) : pTo p j (k + 1) := by
  intro i hi
  rcases Nat.lt_succ_iff_lt_or_eq.1 hi with h1 | rfl
  · exact h i h1
  · exact hk
theorem pAll_succ {p : Nat → Nat → Bool} {k : Nat} (h : pAll p k) (hk : pTo p k k) : pAll p (k + 1) := by
  intro i hi
  rcases Nat.lt_succ_iff_lt_or_eq.1 hi with h1 | rfl
  · exact h i h1
  · exact hk

def neP (l : List Pt) (i j : Nat) : Bool := !(decide (l[j]! = l[i]!))
def apP (l : List Pt) (i j : Nat) : Bool := apartB l j i
def chkE (l : List Pt) : Int := if polyE l = 0 then (if simpleB l = true then 0 else 11) else polyE l
def rchkE (l : List Pt) : Int := if polyE l = 0 then (if pairsB (neP l) l.length = true then (if pairsB (apP l) l.length = true then 0 else 11) else 11) else polyE l

set_option maxHeartbeats 1000000 in
theorem ring_check (A : Option Addr) (c : Nat) (l : List Pt) (w : World) (hmax : l.length ≤ 1000000000000) (hR : RdR w A l) :
    Calls Try.prog 11 #[.slice A l.length c] w (RetV w (.int .i64 (chkE l))) := by
  have cP := Lib.hid (ring_polygon A c l w hmax hR)
  have hp := polyE_cases l
  have HR := Lib.hid (show chkE l = if polyE l = 0 then (if simpleB l = true then 0 else 11) else polyE l from rfl)
  by_cases h0 : polyE l = 0
  · have hv : allVp l := by rcases hp with ⟨h, _⟩ | ⟨h, _⟩ | ⟨_, _, _, h⟩ <;> first | exact h | omega
    have cS := Lib.hid fun (W : World) (hb : Below w.heap.size w W) => ring_simple A c l W hmax hv (hR.below hb)
    have HR := Lib.hid (HR.out.trans (if_pos h0))
    rw [h0] at cP
    clear hp h0 hv hR
    generalize chkE l = E at *
    generalize simpleB l = z at *
    go_enter Try.func11, Try.ntmps11
    go_wp2_with fail
    refine cP.out.mono ?_
    rintro e w1 ⟨rfl, hb1⟩
    go_wp2_with fail
    refine (cS.out _ hb1).mono ?_
    rintro e w2 ⟨rfl, hb2⟩
    have hb3 := below_step hb1 hb2
    cases z
    all_goals
      go_wp2
      go_ret
      exact RetV.int (by rw [HR.out]; rfl) hb3
  · have HR := Lib.hid (HR.out.trans (if_neg h0))
    have hz : (polyE l != 0) = true := by simp [h0]
    clear hp hR
    generalize chkE l = E at *
    generalize polyE l = z at *
    clear h0
    go_enter Try.func11, Try.ntmps11
    go_wp2_with fail
    refine cP.out.mono ?_
    rintro e w1 ⟨rfl, hb1⟩
    go_wp2
    go_ret
    exact RetV.int HR.out.symm hb1

set_option maxRecDepth 100000 in
set_option maxHeartbeats 2000000 in
theorem ref_check (A : Option Addr) (c : Nat) (l : List Pt) (w : World) (hmax : l.length ≤ 1000000000000) (hR : RdR w A l) :
    Calls Try.prog 12 #[.slice A l.length c] w (RetV w (.int .i64 (rchkE l))) := by
  have cP := Lib.hid (ref_polygon A c l w hmax hR)
  have hp := polyE_cases l
  have HR := Lib.hid (show rchkE l = if polyE l = 0 then (if pairsB (neP l) l.length = true then (if pairsB (apP l) l.length = true then 0 else 11) else 11) else polyE l from rfl)
  by_cases h0 : polyE l = 0
  rotate_left
  · have HR := Lib.hid (HR.out.trans (if_neg h0))
    have hz : (polyE l != 0) = true := by simp [h0]
    clear hp hR
    generalize rchkE l = E at *
    generalize polyE l = z at *
    clear h0
    go_enter Try.func12, Try.ntmps12
    go_wp2_with fail
    refine cP.out.mono ?_
    rintro e w1 ⟨rfl, hb1⟩
    go_wp2
    go_ret
    exact RetV.int HR.out.symm hb1
  have hv : allVp l := by rcases hp with ⟨h, _⟩ | ⟨h, _⟩ | ⟨_, _, _, h⟩ <;> first | exact h | omega
  have cA := Lib.hid fun (i k : Nat) (hi : i < l.length) (hk : k < l.length) (W : World) (hb : Below w.heap.size w W) => ref_apart A c l i k W hmax hi hk hv (hR.below hb)
  have HR := Lib.hid (HR.out.trans (if_pos h0))
  rw [h0] at cP
  clear hp h0 hv
  generalize rchkE l = E at *
  have hRR := Lib.hid hR
  clear hR
  go_enter Try.func12, Try.ntmps12
  go_wp2_with fail
  refine cP.out.mono ?_
  rintro e w1 ⟨rfl, hb1⟩
  have hR1 := Lib.hid (hRR.out.below hb1)
  go_upto_block 0 with fail
  go_cut [] (fun wx => Below w.heap.size w wx ∧ Hid (pairsB (neP l) l.length = true))
  case first =>
    go_wp2_with fail
    go_loopw [4] (fun i wr => ∃ j : Nat, j ≤ l.length ∧ i = .int .i64 j ∧ Below w1.heap.size w1 wr ∧ Hid (pAll (neP l) j)) (fun i _ => l.length - (intOf i).toNat)
    case atStart => exact ⟨0, by omega, rfl, Below.refl _ _, Lib.hid fun j hj => by omega⟩
    case round =>
      obtain ⟨j, hj, rfl, hbw, hall⟩ := hrel
      have hbz := below_step hb1 hbw
      by_cases hlt : j < l.length
      rotate_left
      · obtain rfl : j = l.length := by omega
        go_wp2_with fail
        go_meet
        exact ⟨hbz, Lib.hid ((pairsB_iff _ _).2 hall.out)⟩
      · obtain ⟨b, off, rfl, hb, hc⟩ := RdR.getAll hR1.out hbw hlt
        have HC := Lib.hid hc
        have hbr : b < wr.heap.size := Nat.lt_of_lt_of_le hb hbw.size
        clear hc
        go_wp2_with fail
        go_loopw [5] (fun v wx => ∃ i : Nat, i ≤ j ∧ v = .int .i64 i ∧ (∃ n, wx = wr.drewN n) ∧ Hid (pTo (neP l) j i)) (fun v _ => j - (intOf v).toNat)
        case atStart => exact ⟨0, by omega, rfl, ⟨0, rfl⟩, Lib.hid fun j hj => by omega⟩
        case round =>
          obtain ⟨i, hi, rfl, ⟨n, rfl⟩, hto⟩ := hrel
          by_cases hij : i < j
          rotate_left
          · obtain rfl : i = j := by omega
            have hbx := below_drewN hbw n
            go_wp2
            go_roundw
            case rel => exact ⟨i + 1, by omega, by go_num, hbx, Lib.hid (pAll_succ hall.out hto.out)⟩
            case measure => simp [intOf]; omega
          · obtain ⟨g1, g2⟩ := HC.out j hlt
            obtain ⟨g3, g4⟩ := HC.out i (by omega)
            have HN := Lib.hid (show neP l i j = !(decide (l[j]! = l[i]!)) from rfl)
            have hG := Try.guard32
            rcases hx : l[j]! with ⟨x1, x2⟩
            rcases hy : l[i]! with ⟨y1, y2⟩
            rw [hx, hy] at HN
            rw [hx] at g1 g2
            rw [hy] at g3 g4
            clear hx hy
            have hE := fun W => Try.eql32 x1 x2 y1 y2 W
            have hil : (i : Int) < l.length := by omega
            have hjl : (j : Int) < l.length := by omega
            have hi0 : (0 : Int) ≤ (i : Int) := by omega
            have hj0 : (0 : Int) ≤ (j : Int) := by omega
            by_cases he : ((x1, x2) : Pt) = (y1, y2)
            · have HF := Lib.hid (show neP l i j = false by rw [HN.out, decide_eq_true he]; rfl)
              rw [decide_eq_true he] at hE
              have HPF := Lib.hid (pairsB_no hlt hij HF.out)
              have HEE := Lib.hid (show E = 11 by rw [HR.out, if_neg (by rw [HPF.out]; decide)])
              clear he HN HC
              go_wp2_with fail
              go_quiet (fail)
              go_wp2
              go_ret
              exact RetV.int HEE.out.symm (below_drewN (below_drewN hbz _) _)
            · have HF := Lib.hid (show neP l i j = true by rw [HN.out, decide_eq_false he]; rfl)
              rw [decide_eq_false he] at hE
              clear he HN HC
              go_wp2_with fail
              go_quiet (fail)
              go_wp2
              go_roundw
              case rel => exact ⟨i + 1, by omega, by go_num, ⟨_, rfl⟩, Lib.hid (pTo_succ hto.out HF.out)⟩
              case measure => simp [intOf]; omega
  case rest =>
    obtain ⟨hb2, HP⟩ := hcut
    have HR := Lib.hid (HR.out.trans (if_pos HP.out))
    clear hb1 hR1
    go_wp2_with fail
    go_loopw [6] (fun i wr => ∃ j : Nat, j ≤ l.length ∧ i = .int .i64 j ∧ Below w.heap.size w wr ∧ Hid (pAll (apP l) j)) (fun i _ => l.length - (intOf i).toNat)
    case atStart => exact ⟨0, by omega, rfl, hb2, Lib.hid fun j hj => by omega⟩
    case round =>
      obtain ⟨j, hj, rfl, hbw, hall⟩ := hrel
      clear hb2
      by_cases hlt : j < l.length
      rotate_left
      · obtain rfl : j = l.length := by omega
        have HEE := Lib.hid (show E = 0 by rw [HR.out, if_pos ((pairsB_iff _ _).2 hall.out)])
        go_wp2
        go_ret
        exact RetV.int HEE.out.symm hbw
      · go_wp2_with fail
        go_loopw [7] (fun v wx => ∃ i : Nat, i ≤ j ∧ v = .int .i64 i ∧ Below w.heap.size w wx ∧ Hid (pTo (apP l) j i)) (fun v _ => j - (intOf v).toNat)
        case atStart => exact ⟨0, by omega, rfl, hbw, Lib.hid fun j hj => by omega⟩
        case round =>
          obtain ⟨i, hi, rfl, hbx, hto⟩ := hrel
          by_cases hij : i < j
          rotate_left
          · obtain rfl : i = j := by omega
            go_wp2
            go_roundw
            case rel => exact ⟨i + 1, by omega, by go_num, hbx, Lib.hid (pAll_succ hall.out hto.out)⟩
            case measure => simp [intOf]; omega
          · obtain ⟨q, hq⟩ : ∃ q, apartB l j i = q := ⟨_, rfl⟩
            have cAij := Lib.hid (cA.out j i hlt (by omega) _ hbx)
            rw [hq] at cAij
            have HQ := Lib.hid (show apP l i j = q from hq)
            clear hq
            go_wp2_with fail
            refine cAij.out.mono ?_
            rintro e w5 ⟨rfl, hb5⟩
            have hbz := hbx.trans (hb5.mono hbx.size)
            cases q
            · have HPF := Lib.hid (pairsB_no hlt hij HQ.out)
              have HEE := Lib.hid (show E = 11 by rw [HR.out, if_neg (by rw [HPF.out]; decide)])
              go_wp2
              go_ret
              exact RetV.int HEE.out.symm hbz
            · go_wp2
              go_roundw
              case rel => exact ⟨i + 1, by omega, by go_num, hbz, Lib.hid (pTo_succ hto.out HQ.out)⟩
              case measure => simp [intOf]; omega
end Go.Proofs
