/- Check of a plate, the program's and the reference's. -/
import Derived.Test.YtnckglojbhlekaaA11
set_option linter.unusedVariables false
set_option linter.unusedSimpArgs false
namespace Go.Proofs
open Go.RowKit Go.Proofs.Mp

/-- a plate: its columns and rows, where its values lie, and what they are -/
structure Pl where
  w : Int
  h : Int
  a : Option Addr
  c : Nat
  v : List Int
deriving Inhabited
def aggP (p : Pl) : Value := .agg #[.int .i64 p.w, .int .i64 p.h, .slice p.a p.v.length p.c]
def sideB (n : Int) : Bool := decide (1 ≤ n) && decide (n ≤ 256)
def inkB (n : Int) : Bool := decide (0 ≤ n) && decide (n ≤ 100)
/-- the error of a plate -/
def chk (p : Pl) : Int := if sideB p.w && sideB p.h then (if (p.v.length : Int) = p.w * p.h then (if p.v.all inkB then 0 else 2) else 1) else 2

theorem all_inks {v : List Int} (h : ∀ j, j < v.length → inkB v[j]! = true) : v.all inkB = true := by
  rw [List.all_eq_true]
  intro x hx
  obtain ⟨j, hj, rfl⟩ := List.mem_iff_getElem.1 hx
  have := h j hj
  rwa [getElem!_pos v j hj] at this
theorem no_inks {v : List Int} {j : Nat} (hj : j < v.length) (h : inkB v[j]! = false) : v.all inkB = false := by
  rw [List.all_eq_false]
  exact ⟨v[j]!, by rw [getElem!_pos v j hj]; exact List.getElem_mem hj, by rw [h]; simp⟩

set_option maxHeartbeats 400000 in
theorem plates_side (n : Int) (w : World) : Calls Try.prog 39 #[.int .i64 n] w (RetV w (.bool (sideB n))) := by
  by_cases h1 : 1 ≤ n
  · by_cases h2 : n ≤ 256
    all_goals
      go_enter Try.func39, Try.ntmps39
      go_wp2
      go_ret
      exact RetV.bool (by simp [sideB, h1, h2]) (Below.refl _ _)
  · go_enter Try.func39, Try.ntmps39
    go_wp2
    go_ret
    exact RetV.bool (by simp [sideB]; intros; omega) (Below.refl _ _)

set_option maxHeartbeats 400000 in
theorem ref_sized (n m : Int) (w : World) : Calls Try.prog 40 #[.int .i64 n, .int .i64 m] w (RetV w (.bool (sideB n && sideB m))) := by
  by_cases h1 : 1 ≤ n
  rotate_left
  · go_enter Try.func40, Try.ntmps40
    go_wp2
    go_ret
    exact RetV.bool (by simp [sideB]; intros; omega) (Below.refl _ _)
  by_cases h2 : n ≤ 256
  rotate_left
  · go_enter Try.func40, Try.ntmps40
    go_wp2
    go_ret
    exact RetV.bool (by simp [sideB]; intros; omega) (Below.refl _ _)
  by_cases h3 : 1 ≤ m
  rotate_left
  · go_enter Try.func40, Try.ntmps40
    go_wp2
    go_ret
    exact RetV.bool (by simp [sideB]; intros; omega) (Below.refl _ _)
  by_cases h4 : m ≤ 256
  all_goals
    go_enter Try.func40, Try.ntmps40
    go_wp2
    go_ret
    exact RetV.bool (by simp [sideB, h1, h2, h3, h4]) (Below.refl _ _)

theorem bw1 (w : World) (o : Obj) : Below w.heap.size w (w.alloc o) := (Below.refl _ _).alloc (Nat.le_refl _) o

theorem box3 {w w1 : World} {x y z : Value} {t : TypeId} (hb : Below (w.alloc (.cells #[x, y, z] t)).heap.size (w.alloc (.cells #[x, y, z] t)) w1) :
    w1.cell? ⟨w.heap.size, 0, none⟩ = some x ∧ w1.cell? ⟨w.heap.size, 1, none⟩ = some y ∧ w1.cell? ⟨w.heap.size, 2, none⟩ = some z ∧ Below w.heap.size w w1 := by
  have h : w.heap.size < (w.alloc (.cells #[x, y, z] t)).heap.size := by simp
  refine ⟨(hb.cell (p := ⟨w.heap.size, 0, none⟩) h).trans (by simp), (hb.cell (p := ⟨w.heap.size, 1, none⟩) h).trans (by simp), (hb.cell (p := ⟨w.heap.size, 2, none⟩) h).trans (by simp), (bw1 w _).trans (hb.mono (by simp))⟩
theorem inkB_lo {n : Int} (h : n < 0) : inkB n = false := by unfold inkB; simp; omega
theorem inkB_hi {n : Int} (h : ¬ n < 0) (g : 100 < n) : inkB n = false := by unfold inkB; simp; omega
theorem inkB_ok {n : Int} (h : ¬ n < 0) (g : ¬ 100 < n) : inkB n = true := by unfold inkB; simp; omega
theorem sideB_iff {n : Int} (h : sideB n = true) : 1 ≤ n ∧ n ≤ 256 := by unfold sideB at h; simpa using h
theorem mul_le {a b : Int} (h1 : 1 ≤ a ∧ a ≤ 256) (h2 : 1 ≤ b ∧ b ≤ 256) : 1 ≤ a * b ∧ a * b ≤ 65536 := by
  have e1 : (1 : Int) * 1 ≤ a * b := Int.mul_le_mul h1.1 h2.1 (by omega) (by omega)
  have e2 : a * b ≤ 256 * 256 := Int.mul_le_mul h1.2 h2.2 (by omega) (by omega)
  omega

set_option maxHeartbeats 2000000 in
theorem plates_check (p : Pl) (w : World) (hmax : p.v.length ≤ 1000000) (hR : RdI w p.a p.v) : Calls Try.prog 26 #[aggP p] w (RetV w (.int .i64 (chk p))) := by
  obtain ⟨pw, ph, A, c, v⟩ := p
  dsimp only at hmax hR
  have c1 := fun W => plates_side pw W
  have c2 := fun W => plates_side ph W
  have HC := Lib.hid (show chk ⟨pw, ph, A, c, v⟩ = if sideB pw && sideB ph then (if (v.length : Int) = pw * ph then (if v.all inkB then 0 else 2) else 1) else 2 from rfl)
  generalize chk ⟨pw, ph, A, c, v⟩ = r at HC ⊢
  unfold aggP
  dsimp only
  rcases hs1 : sideB pw with _ | _
  · rw [hs1] at c1
    have H1 := Lib.hid hs1
    have C1 := Lib.hid c1
    clear c1 c2 hs1
    go_enter Try.func26, Try.ntmps26
    go_wp2_with fail
    refine (C1.out _).mono ?_
    rintro e w1 ⟨rfl, hb1⟩
    obtain ⟨d0, d1, d2, k1⟩ := box3 hb1
    clear hb1
    go_wp2
    go_ret
    exact RetV.int (by rw [HC.out, H1.out]; rfl) k1
  rcases hs2 : sideB ph with _ | _
  · rw [hs1] at c1
    rw [hs2] at c2
    have H1 := Lib.hid hs1
    have H2 := Lib.hid hs2
    have C1 := Lib.hid c1
    have C2 := Lib.hid c2
    clear c1 c2 hs1 hs2
    go_enter Try.func26, Try.ntmps26
    go_wp2_with fail
    refine (C1.out _).mono ?_
    rintro e w1 ⟨rfl, hb1⟩
    obtain ⟨d0, d1, d2, k1⟩ := box3 hb1
    go_wp2_with fail
    refine (C2.out _).mono ?_
    rintro e w2 ⟨rfl, hb2⟩
    have k2 := k1.trans (hb2.mono k1.size)
    clear hb1 hb2 k1 d0 d1 d2
    go_wp2
    go_ret
    exact RetV.int (by rw [HC.out, H1.out, H2.out]; rfl) k2
  obtain ⟨hm1, hm2⟩ := mul_le (sideB_iff hs1) (sideB_iff hs2)
  have hw : IntKind.i64.wrap (pw * ph) = pw * ph := IntWalk.i64_in _ (by omega)
  rw [hs1] at c1
  rw [hs2] at c2
  have H1 := Lib.hid hs1
  have H2 := Lib.hid hs2
  have C1 := Lib.hid c1
  have C2 := Lib.hid c2
  clear c1 c2 hs1 hs2
  obtain ⟨m, hm⟩ : ∃ m, pw * ph = m := ⟨_, rfl⟩
  rw [hm] at hm1 hm2
  have HM := Lib.hid hm
  have HW : Hid (IntKind.i64.wrap (pw * ph) = m) := Lib.hid (by rw [hw]; exact hm)
  clear hm hw
  go_enter Try.func26, Try.ntmps26
  go_wp2_with fail
  refine (C1.out _).mono ?_
  rintro e w1 ⟨rfl, hb1⟩
  obtain ⟨d0, d1, d2, k1⟩ := box3 hb1
  go_wp2_with fail
  refine (C2.out _).mono ?_
  rintro e w2 ⟨rfl, hb2⟩
  have k2 := k1.trans (hb2.mono k1.size)
  obtain ⟨d0', d1', d2', _⟩ := box3 (hb1.trans (hb2.mono hb1.size))
  have hR2 := hR.below k2
  clear hb1 hb2 k1 d0 d1 d2 hR
  have hw := HW.out
  by_cases hl : (v.length : Int) = m
  · have HL := Lib.hid hl
    have hlb : ((v.length : Int) != m) = false := by simp [hl]
    clear hl
    go_wp2_with fail
    clear hw hlb
    go_loopw [27] (fun i wr => ∃ k : Nat, k ≤ v.length ∧ i = .int .i64 k ∧ (∀ j, j < k → inkB v[j]! = true) ∧ wr = w2) (fun i _ => v.length - (intOf i).toNat)
    case atStart => exact ⟨0, by omega, rfl, fun j hj => by omega, rfl⟩
    case round =>
      obtain ⟨k, hk, rfl, hpre, rfl⟩ := hrel
      by_cases hlt : k < v.length
      · obtain ⟨b, off, rfl, hb, g1⟩ := RdI.get hR2 (Below.refl _ _) hlt
        obtain ⟨x, hx⟩ : ∃ x, v[k]! = x := ⟨_, rfl⟩
        rw [hx] at g1
        have HX := Lib.hid hx
        clear hx
        have HP := Lib.hid hpre
        clear hpre
        by_cases h1 : x < 0
        · go_wp2
          go_ret
          exact RetV.int (by rw [HC.out, H1.out, H2.out, HM.out, if_pos HL.out, no_inks hlt (by rw [HX.out]; exact inkB_lo (by omega))]; rfl) k2
        · by_cases h2 : 100 < x
          · go_wp2
            go_ret
            exact RetV.int (by rw [HC.out, H1.out, H2.out, HM.out, if_pos HL.out, no_inks hlt (by rw [HX.out]; exact inkB_hi (by omega) (by omega))]; rfl) k2
          · go_wp2
            go_roundw
            case rel => exact ⟨k + 1, by omega, by go_num, fun j hj => by
              rcases Nat.lt_succ_iff_lt_or_eq.1 hj with h | rfl
              · exact HP.out j h
              · rw [HX.out]; exact inkB_ok (by omega) (by omega), by first | rfl | trivial⟩
            case measure => simp [intOf]; omega
      · obtain rfl : k = v.length := by omega
        have HP := Lib.hid (all_inks hpre)
        clear hpre
        go_wp2
        go_ret
        exact RetV.int (by rw [HC.out, H1.out, H2.out, HM.out, if_pos HL.out, HP.out]; rfl) k2
  · have HL := Lib.hid hl
    have hlb : ((v.length : Int) != m) = true := by simp; omega
    go_wp2
    go_ret
    exact RetV.int (by rw [HC.out, H1.out, H2.out, HM.out, if_neg HL.out]; rfl) k2

set_option maxHeartbeats 2000000 in
theorem ref_check (p : Pl) (w : World) (hmax : p.v.length ≤ 1000000) (hR : RdI w p.a p.v) : Calls Try.prog 28 #[aggP p] w (RetV w (.int .i64 (chk p))) := by
  obtain ⟨pw, ph, A, c, v⟩ := p
  dsimp only at hmax hR
  have c1 := fun W => ref_sized pw ph W
  have HC := Lib.hid (show chk ⟨pw, ph, A, c, v⟩ = if sideB pw && sideB ph then (if (v.length : Int) = pw * ph then (if v.all inkB then 0 else 2) else 1) else 2 from rfl)
  generalize chk ⟨pw, ph, A, c, v⟩ = r at HC ⊢
  unfold aggP
  dsimp only
  rcases hs1 : (sideB pw && sideB ph) with _ | _
  · rw [hs1] at c1
    have H1 := Lib.hid hs1
    have C1 := Lib.hid c1
    clear c1 hs1
    go_enter Try.func28, Try.ntmps28
    go_wp2_with fail
    refine (C1.out _).mono ?_
    rintro e w1 ⟨rfl, hb1⟩
    obtain ⟨d0, d1, d2, k1⟩ := box3 hb1
    clear hb1
    go_wp2
    go_ret
    exact RetV.int (by rw [HC.out, H1.out]; rfl) k1
  have hs2 := hs1
  rw [Bool.and_eq_true] at hs2
  obtain ⟨hm1, hm2⟩ := mul_le (sideB_iff hs2.1) (sideB_iff hs2.2)
  have hw : IntKind.i64.wrap (pw * ph) = pw * ph := IntWalk.i64_in _ (by omega)
  rw [hs1] at c1
  have H1 := Lib.hid hs1
  have C1 := Lib.hid c1
  clear c1 hs1 hs2
  obtain ⟨m, hm⟩ : ∃ m, pw * ph = m := ⟨_, rfl⟩
  rw [hm] at hm1 hm2
  have HM := Lib.hid hm
  have HW : Hid (IntKind.i64.wrap (pw * ph) = m) := Lib.hid (by rw [hw]; exact hm)
  clear hm hw
  go_enter Try.func28, Try.ntmps28
  go_wp2_with fail
  refine (C1.out _).mono ?_
  rintro e w2 ⟨rfl, hb1⟩
  obtain ⟨d0, d1, d2, k2⟩ := box3 hb1
  have hR2 := hR.below k2
  clear hb1 hR
  have hw := HW.out
  by_cases hl : (v.length : Int) = m
  · have HL := Lib.hid hl
    have hlb : ((v.length : Int) != m) = false := by simp [hl]
    clear hl
    go_wp2_with fail
    clear hw hlb
    go_loopw [3] (fun i wr => ∃ k : Nat, k ≤ v.length ∧ i = .int .i64 k ∧ (∀ j, j < k → inkB v[j]! = true) ∧ wr = w2) (fun i _ => v.length - (intOf i).toNat)
    case atStart => exact ⟨0, by omega, rfl, fun j hj => by omega, rfl⟩
    case round =>
      obtain ⟨k, hk, rfl, hpre, rfl⟩ := hrel
      by_cases hlt : k < v.length
      · obtain ⟨b, off, rfl, hb, g1⟩ := RdI.get hR2 (Below.refl _ _) hlt
        obtain ⟨x, hx⟩ : ∃ x, v[k]! = x := ⟨_, rfl⟩
        rw [hx] at g1
        have HX := Lib.hid hx
        clear hx
        have HP := Lib.hid hpre
        clear hpre
        by_cases h1 : x < 0
        · go_wp2
          go_ret
          exact RetV.int (by rw [HC.out, H1.out, HM.out, if_pos HL.out, no_inks hlt (by rw [HX.out]; exact inkB_lo (by omega))]; rfl) k2
        · by_cases h2 : 100 < x
          · go_wp2
            go_ret
            exact RetV.int (by rw [HC.out, H1.out, HM.out, if_pos HL.out, no_inks hlt (by rw [HX.out]; exact inkB_hi (by omega) (by omega))]; rfl) k2
          · go_wp2
            go_roundw
            case rel => exact ⟨k + 1, by omega, by go_num, fun j hj => by
              rcases Nat.lt_succ_iff_lt_or_eq.1 hj with h | rfl
              · exact HP.out j h
              · rw [HX.out]; exact inkB_ok (by omega) (by omega), by first | rfl | trivial⟩
            case measure => simp [intOf]; omega
      · obtain rfl : k = v.length := by omega
        have HP := Lib.hid (all_inks hpre)
        clear hpre
        go_wp2
        go_ret
        exact RetV.int (by rw [HC.out, H1.out, HM.out, if_pos HL.out, HP.out]; rfl) k2
  · have HL := Lib.hid hl
    have hlb : ((v.length : Int) != m) = true := by simp; omega
    go_wp2
    go_ret
    exact RetV.int (by rw [HC.out, H1.out, HM.out, if_neg HL.out]; rfl) k2
end Go.Proofs
