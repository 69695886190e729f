/- Lists of points: polygons, edges. -/
import Derived.Test.YtafaojmkbbhjmaaG6
set_option linter.unusedVariables false
set_option linter.unusedSimpArgs false
namespace Go.Proofs
open Go.RowKit Go.Proofs.Mp

def allVp (l : List Pt) : Prop := ∀ j, j < l.length → Vp l[j]!
instance (l : List Pt) : Decidable (allVp l) := by unfold allVp; infer_instance
/-- the error of a list as a polygon -/
def polyE (l : List Pt) : Int := if l.length < 3 ∨ 4096 < l.length then 3 else if allVp l then 0 else 2
theorem polyE_cases (l : List Pt) : (polyE l = 3 ∧ (l.length < 3 ∨ 4096 < l.length)) ∨ (polyE l = 2 ∧ 3 ≤ l.length ∧ l.length ≤ 4096 ∧ ¬ allVp l) ∨ (polyE l = 0 ∧ 3 ≤ l.length ∧ l.length ≤ 4096 ∧ allVp l) := by
  unfold polyE
  split
  · left; exact ⟨rfl, by assumption⟩
  · split
    · right; right; exact ⟨rfl, by omega, by omega, by assumption⟩
    · right; left; exact ⟨rfl, by omega, by omega, by assumption⟩

def vpTo (l : List Pt) (k : Nat) : Prop := ∀ j, j < k → Vp l[j]!
theorem vpTo_succ {l : List Pt} {k : Nat} (h : vpTo l k) (hk : Vp l[k]!) : vpTo l (k + 1) := by
  intro j hj
  rcases Nat.lt_succ_iff_lt_or_eq.1 hj with h1 | rfl
  · exact h j h1
  · exact hk

set_option maxHeartbeats 1000000 in
theorem ring_polygon (A : Option Addr) (c : Nat) (l : List Pt) (w : World) (hmax : l.length ≤ 1000000000000) (hR : RdR w A l) :
    Calls Try.prog 27 #[.slice A l.length c] w (RetV w (.int .i64 (polyE l))) := by
  have hp := polyE_cases l
  generalize polyE l = E at *
  have cV := Lib.hid fun (x y : Int) W => ring_valid (x, y) W
  unfold aggP at cV
  dsimp only at cV
  by_cases h3 : l.length < 3
  · obtain rfl : E = 3 := by omega
    clear hp
    go_enter Try.func27, Try.ntmps27
    go_wp2
    go_ret
    exact RetV.int rfl (Below.refl _ _)
  by_cases h4 : 4096 < l.length
  · obtain rfl : E = 3 := by omega
    clear hp
    go_enter Try.func27, Try.ntmps27
    go_wp2
    go_ret
    exact RetV.int rfl (Below.refl _ _)
  have HE : Hid ((allVp l → E = 0) ∧ (¬ allVp l → E = 2)) := Lib.hid (by
    rcases hp with ⟨_, h⟩ | ⟨h, _, _, h'⟩ | ⟨h, _, _, h'⟩
    · omega
    · exact ⟨fun g => absurd g h', fun _ => h⟩
    · exact ⟨fun _ => h, fun g => absurd h' g⟩)
  clear hp
  go_enter Try.func27, Try.ntmps27
  go_wp2
  go_loopw [15] (fun i wr => ∃ k : Nat, k ≤ l.length ∧ i = .int .i64 k ∧ Below w.heap.size w wr ∧ Hid (vpTo l k)) (fun i _ => l.length - (intOf i).toNat)
  case atStart => exact ⟨0, by omega, rfl, Below.refl _ _, Lib.hid fun j hj => by omega⟩
  case round =>
    obtain ⟨k, hk, rfl, hbw, hto⟩ := hrel
    have hbs := hbw.size
    by_cases hlt : k < l.length
    · obtain ⟨b, off, rfl, hb, h1, h2⟩ := RdR.get hR hbw hlt
      rcases hzz : l[k]! with ⟨x, y⟩
      rw [hzz] at h1 h2
      have HZ := Lib.hid hzz
      dsimp only at h1 h2
      clear hzz
      have hbr : b < wr.heap.size := Nat.lt_of_lt_of_le hb hbs
      have hbl : Below w.heap.size w (wr.alloc (.cells #[.int .i64 x, .int .i64 y] 32)) := hbw.alloc hbs _
      go_wp2_with fail
      refine (cV.out _ _ _).mono ?_
      rintro e w1 ⟨rfl, hb1⟩
      have hbl1 := hbl.trans (hb1.mono hbl.size)
      obtain ⟨z, hz⟩ : ∃ z, decide (Vp (x, y)) = z := ⟨_, rfl⟩
      rw [hz]
      have HV := Lib.hid hz
      clear hz hbl hb1 h1 h2
      cases z
      · go_wp2
        go_ret
        exact RetV.int (HE.out.2 fun h => by have := of_decide_eq_false HV.out; rw [← HZ.out] at this; exact this (h k hlt)).symm hbl1
      · go_wp2
        go_roundw
        case rel => exact ⟨k + 1, by omega, by go_num, hbl1, Lib.hid (vpTo_succ hto.out (by rw [HZ.out]; exact of_decide_eq_true HV.out))⟩
        case measure => simp [intOf]; omega
    · obtain rfl : k = l.length := by omega
      go_wp2
      go_ret
      exact RetV.int (HE.out.1 hto.out).symm hbw

set_option maxHeartbeats 1000000 in
theorem ref_polygon (A : Option Addr) (c : Nat) (l : List Pt) (w : World) (hmax : l.length ≤ 1000000000000) (hR : RdR w A l) :
    Calls Try.prog 29 #[.slice A l.length c] w (RetV w (.int .i64 (polyE l))) := by
  have hp := polyE_cases l
  generalize polyE l = E at *
  have cV := Lib.hid fun (x y : Int) W => ref_point (x, y) W
  unfold aggP at cV
  dsimp only at cV
  by_cases h3 : l.length < 3
  · obtain rfl : E = 3 := by omega
    clear hp
    go_enter Try.func29, Try.ntmps29
    go_wp2
    go_ret
    exact RetV.int rfl (Below.refl _ _)
  by_cases h4 : 4096 < l.length
  · obtain rfl : E = 3 := by omega
    clear hp
    go_enter Try.func29, Try.ntmps29
    go_wp2
    go_ret
    exact RetV.int rfl (Below.refl _ _)
  have HE : Hid ((allVp l → E = 0) ∧ (¬ allVp l → E = 2)) := Lib.hid (by
    rcases hp with ⟨_, h⟩ | ⟨h, _, _, h'⟩ | ⟨h, _, _, h'⟩
    · omega
    · exact ⟨fun g => absurd g h', fun _ => h⟩
    · exact ⟨fun _ => h, fun g => absurd h' g⟩)
  clear hp
  go_enter Try.func29, Try.ntmps29
  go_wp2
  go_loopw [3] (fun i wr => ∃ k : Nat, k ≤ l.length ∧ i = .int .i64 k ∧ Below w.heap.size w wr ∧ Hid (vpTo l k)) (fun i _ => l.length - (intOf i).toNat)
  case atStart => exact ⟨0, by omega, rfl, Below.refl _ _, Lib.hid fun j hj => by omega⟩
  case round =>
    obtain ⟨k, hk, rfl, hbw, hto⟩ := hrel
    have hbs := hbw.size
    by_cases hlt : k < l.length
    · obtain ⟨b, off, rfl, hb, h1, h2⟩ := RdR.get hR hbw hlt
      rcases hzz : l[k]! with ⟨x, y⟩
      rw [hzz] at h1 h2
      have HZ := Lib.hid hzz
      dsimp only at h1 h2
      clear hzz
      go_wp2_with fail
      refine (cV.out _ _ _).mono ?_
      rintro e w1 ⟨rfl, hb1⟩
      have hbl1 := hbw.trans (hb1.mono hbw.size)
      obtain ⟨z, hz⟩ : ∃ z, decide (Vp (x, y)) = z := ⟨_, rfl⟩
      rw [hz]
      have HV := Lib.hid hz
      clear hz hb1 h1 h2
      cases z
      · go_wp2
        go_ret
        exact RetV.int (HE.out.2 fun h => by have := of_decide_eq_false HV.out; rw [← HZ.out] at this; exact this (h k hlt)).symm hbl1
      · go_wp2
        go_roundw
        case rel => exact ⟨k + 1, by omega, by go_num, hbl1, Lib.hid (vpTo_succ hto.out (by rw [HZ.out]; exact of_decide_eq_true HV.out))⟩
        case measure => simp [intOf]; omega
    · obtain rfl : k = l.length := by omega
      go_wp2
      go_ret
      exact RetV.int (HE.out.1 hto.out).symm hbw

/-- the index of an edge's end, and the end -/
def nx (n i : Nat) : Nat := (i + 1) % n
def edE (l : List Pt) (i : Nat) : Pt := l[nx l.length i]!
theorem nx_lt {n i : Nat} (h : i < n) : nx n i < n := Nat.mod_lt _ (by omega)
theorem nx_tmod {n i : Nat} (h : i < n) : ((i : Int) + 1).tmod (n : Int) = ((nx n i : Nat) : Int) := by
  rw [show ((i : Int) + 1) = ((i + 1 : Nat) : Int) by omega]
  rfl

set_option maxHeartbeats 1000000 in
theorem ref_end (A : Option Addr) (c : Nat) (l : List Pt) (i : Nat) (w : World) (hmax : l.length ≤ 1000000000000) (hi : i < l.length) (hR : RdR w A l) :
    Calls Try.prog 32 #[.slice A l.length c, .int .i64 i] w (RetV w (aggP (edE l i))) := by
  obtain ⟨b, off, rfl, hb, hc⟩ := RdR.getAll hR (Below.refl _ _) hi
  obtain ⟨h1, h2⟩ := hc (nx l.length i) (nx_lt hi)
  have hx := nx_lt hi
  have ht := nx_tmod hi
  unfold aggP edE
  generalize nx l.length i = m at *
  rcases hzz : l[m]! with ⟨x, y⟩
  rw [hzz] at h1 h2
  clear hzz hc
  dsimp only at *
  have hn0 : ¬ l.length = 0 := by omega
  have hi0 : (i : Int) + 1 ≤ 1000000000000 := by omega
  have HB := bw1 w (.cells #[.int .i64 0, .int .i64 0] 32)
  go_enter Try.func32, Try.ntmps32
  go_wp2_with fail
  refine bodyPost_ret (v := .agg #[.int .i64 x, .int .i64 y]) ?_ rfl ?_
  · simp [results, Try.results32, go_sem]
    trace_state
  · exact ⟨rfl, bw1 _ _⟩
end Go.Proofs
