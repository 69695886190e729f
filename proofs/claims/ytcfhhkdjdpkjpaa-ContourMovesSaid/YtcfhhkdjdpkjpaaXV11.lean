/- Crossed. -/
import Derived.Test.YtcfhhkdjdpkjpaaXJ7
set_option linter.unusedVariables false
set_option linter.unusedSimpArgs false
namespace Go.Proofs
open Go.RowKit Go.Proofs.Mp Go.Lib

def cntC (cr : Nat → Bool) (i : Nat) : Nat := ((List.range (3 * i)).filter cr).length
theorem fil1 (p : Nat → Bool) (x : Nat) : ([x].filter p).length = (p x).toNat := by cases h : p x <;> simp [h]
theorem cntC_succ (cr : Nat → Bool) (i : Nat) : cntC cr (i + 1) = cntC cr i + (cr (3 * i)).toNat + (cr (3 * i + 1)).toNat + (cr (3 * i + 2)).toNat := by
  unfold cntC
  rw [show 3 * (i + 1) = 3 * i + 1 + 1 + 1 by omega, List.range_succ, List.filter_append, List.range_succ, List.filter_append, List.range_succ, List.filter_append]
  simp only [List.length_append]
  rw [show 3 * i + 1 + 1 = 3 * i + 2 by omega, fil1, fil1, fil1]
theorem cntC_le (cr : Nat → Bool) (i : Nat) : cntC cr i ≤ 3 * i := by
  unfold cntC
  have := List.length_filter_le cr (List.range (3 * i))
  rwa [List.length_range] at this
def crossN (t : Ht) (level : Int) : Int := if chkH t = 0 then ((crsL (abv t level) t.w.toNat t.h.toNat).length : Int) else 0
theorem crs_at (ab : Nat → Bool) {W H r c : Nat} (hr : r < H) (hc : c < W) :
    crsB ab W H (3 * (r * W + c)) = (decide (c + 1 < W) && (ab (r * W + c + 1) != ab (r * W + c))) ∧
    crsB ab W H (3 * (r * W + c) + 1) = (decide (r + 1 < H) && (ab (r * W + c + W) != ab (r * W + c))) ∧
    crsB ab W H (3 * (r * W + c) + 2) = ((decide (c + 1 < W) && decide (r + 1 < H)) && (ab (r * W + c + W + 1) != ab (r * W + c))) := by
  obtain ⟨e1, e2⟩ := cell_rc (r := r) hc
  obtain ⟨m1, m2⟩ := n30 (r * W + c)
  obtain ⟨m3, m4⟩ := n31 (r * W + c)
  obtain ⟨m5, m6⟩ := n32 (r * W + c)
  unfold crsB isE offE
  rw [m1, m2, m3, m4, m5, m6, e1, e2]
  have hxor : ∀ a b : Bool, (a != b) = (b != a) := by decide
  refine ⟨?_, ?_, ?_⟩
  · simp [hr, hxor (ab (r * W + c))]
  · simp [hr, hxor (ab (r * W + c))]
  · simp [hr, hxor (ab (r * W + c)), ← Nat.add_assoc]

theorem bn_t {a b : Bool} (h : (!a == b) = true) : (a != b).toNat = 1 := by revert h; cases a <;> cases b <;> decide
theorem bn_f {a b : Bool} (h : (!a == b) = false) : (a != b).toNat = 0 := by revert h; cases a <;> cases b <;> decide

set_option maxRecDepth 100000 in
set_option maxHeartbeats 16000000 in
theorem con_Crossed (t : Ht) (level : Int) (w : World) (hmax : t.v.length ≤ 1000000000000) (hR : RdI w t.a t.v) :
    Calls Try.prog 12 #[aggH t, .int .i64 level] w (RetV w (.tuple #[.int .i64 (crossN t level), .int .i64 (chkH t)])) := by
  have hb0 : Below w.heap.size w (w.alloc (.cells (celH t) 26)) := bw1 _ _
  have hs0 : (w.alloc (.cells (celH t) 26)).heap.size = w.heap.size + 1 := by simp
  have hrow0 := RowH.new w t
  have cC := Lib.hid (ter_check t (w.alloc (.cells (celH t) 26)) hmax (hR.below hb0))
  have HL := Lib.hid (show crossN t level = if chkH t = 0 then ((crsL (abv t level) t.w.toNat t.h.toNat).length : Int) else 0 from rfl)
  have HG := Lib.hid (fun h : chkH t = 0 => Grd.of h)
  have HR := Lib.hid hR
  have HA := Lib.hid (show ∀ i, abv t level i = decide (level ≤ t.v[i]!) from fun _ => rfl)
  clear hR
  generalize crossN t level = L at *
  obtain ⟨r, hr⟩ : ∃ r, chkH t = r := ⟨_, rfl⟩
  by_cases h0 : r = 0
  rotate_left
  · rw [hr] at HL cC ⊢
    rw [if_neg h0] at HL
    clear hr HG HR HA
    obtain ⟨x, y, tw, th, st, A, cc, v⟩ := t
    unfold aggH celH at *
    dsimp only at *
    obtain ⟨r0, r1, r2, r3, r4, r5⟩ := hrow0.cells
    dsimp only at r0 r1 r2 r3 r4 r5
    go_enter Try.func12, Try.ntmps12
    go_upto_region 1 with fail
    generalize (w.alloc (.cells #[.int .i64 x, .int .i64 y, .int .i64 tw, .int .i64 th, .int .i64 st, .slice A v.length cc] 26)) = wA at *
    go_wp2_with fail
    refine cC.out.mono ?_
    rintro e w1 ⟨rfl, hb1⟩
    have HB1 := Lib.hid (hb0.trans (hb1.mono (by omega)))
    clear hrow0 hb0 hb1 cC r0 r1 r2 r3 r4 r5
    go_wp2
    go_ret2
    rw [HL.out]
    exact ⟨rfl, HB1.out⟩
  · subst h0
    have g := HG.out hr
    rw [hr] at HL cC ⊢
    rw [if_pos rfl] at HL
    obtain ⟨a1, a2, a3, a4, a5, a6, a7, a8, a9, a10, a11⟩ := g.all
    have gw := g.w
    have gh := g.h
    generalize t.w.toNat = W at *
    generalize t.h.toNat = H at *
    have HVL := Lib.hid a5
    clear g HG hr a5 a9 a10 a11
    have HCn := Lib.hid (show (crsL (abv t level) W H).length = cntC (crsB (abv t level) W H) (H * W) by
      unfold crsL cntC
      rw [Nat.mul_assoc, Nat.mul_comm W H])
    have HCA := Lib.hid (fun (r c : Nat) (hr : r < H) (hc : c < W) => crs_at (abv t level) hr hc)
    rw [HCn.out] at HL
    clear HCn
    generalize crsB (abv t level) W H = cr at *
    generalize abv t level = ab at *
    obtain ⟨x, y, tw, th, st, A, cc, v⟩ := t
    unfold aggH celH at *
    dsimp only at *
    subst gw gh
    obtain ⟨r0, r1, r2, r3, r4, r5⟩ := hrow0.cells
    dsimp only at r0 r1 r2 r3 r4 r5
    go_enter Try.func12, Try.ntmps12
    go_upto_region 1 with fail
    generalize (w.alloc (.cells #[.int .i64 x, .int .i64 y, .int .i64 W, .int .i64 H, .int .i64 st, .slice A v.length cc] 26)) = wA at *
    go_wp2_with fail
    refine cC.out.mono ?_
    rintro e w1 ⟨rfl, hb1⟩
    have HB1 := Lib.hid (hb0.trans (hb1.mono (by omega)))
    have hrow1 := hrow0.below hb1
    clear r0 r1 r2 r3 r4 r5 hrow0 hb0 hb1 cC
    obtain ⟨r0, r1, r2, r3, r4, r5⟩ := hrow1.cells
    dsimp only at r0 r1 r2 r3 r4 r5
    have HRA := Lib.hid (HR.out.below HB1.out)
    obtain ⟨b, off, rfl, hbl, hcell⟩ := RdI.all HRA.out (by rw [HVL.out]; exact Nat.mul_pos (by omega) (by omega))
    have HC := Lib.hid (fun j (hj : j < v.length) => hcell w1 (Below.refl _ _) j hj)
    clear hcell HRA HR hrow1
    go_wp2_with fail
    go_loopw [4, 17] (fun n i wr => ∃ r : Nat, r ≤ H ∧ i = .int .i64 r ∧ n = .int .i64 (cntC cr (r * W) : Nat) ∧ w1 = wr) (fun _ i _ => H - (intOf i).toNat)
    case atStart => exact ⟨0, by omega, rfl, by rw [Nat.zero_mul]; rfl, rfl⟩
    case round =>
      obtain ⟨r, hr, rfl, rfl, rfl⟩ := hrel
      by_cases hlt : r < H
      rotate_left
      · have hrn : H = r := by omega
        subst hrn
        have hge : ¬ ((H : Int) < (H : Int)) := by omega
        clear r0 r1 r4 r5
        go_wp2
        go_ret2
        exact ⟨by rw [HL.out]; rfl, HB1.out⟩
      · have hri : (r : Int) < (H : Int) := by omega
        obtain ⟨m, hm⟩ : ∃ m, r * W = m := ⟨_, rfl⟩
        have hmi : (r : Int) * (W : Int) = (m : Int) := by rw [← hm, Int.natCast_mul]
        have HM := Lib.hid hm
        rw [hm]
        clear hm
        go_wp2_with fail
        go_loopw [4, 22] (fun n i wr => ∃ c : Nat, c ≤ W ∧ i = .int .i64 c ∧ n = .int .i64 (cntC cr (m + c) : Nat) ∧ w1 = wr) (fun _ i _ => W - (intOf i).toNat)
        case atStart => exact ⟨0, by omega, rfl, rfl, rfl⟩
        case round =>
          obtain ⟨c, hc, rfl, rfl, rfl⟩ := hrel
          by_cases hltc : c < W
          rotate_left
          · have hcn : W = c := by omega
            subst hcn
            have hge : ¬ ((W : Int) < (W : Int)) := by omega
            have HN := Lib.hid (show (r + 1) * W = m + W by rw [Nat.succ_mul, HM.out])
            clear r0 r1 r3 r4 r5 hmi
            go_wp2
            go_roundw
            case rel => exact ⟨r + 1, by omega, by go_num, by rw [HN.out], trivial⟩
            case measure => simp [intOf]; omega
          · have hci : (c : Int) < (W : Int) := by omega
            have hcW := HVL.out
            have hmr : m + W ≤ W * H := by
              rw [← HM.out, ← Nat.succ_mul, Nat.mul_comm W H]
              exact Nat.mul_le_mul_right _ (by omega)
            have hmr2 : r + 1 < H → m + W + W ≤ W * H := fun h => by
              rw [← HM.out, ← Nat.succ_mul, ← Nat.succ_mul, Nat.mul_comm W H]
              exact Nat.mul_le_mul_right _ (by omega)
            obtain ⟨k1, k2, k3⟩ := HCA.out r c hlt hltc
            rw [HM.out, HA.out, HA.out] at k1
            rw [HM.out, HA.out, HA.out] at k2
            rw [HM.out, HA.out, HA.out] at k3
            have hcn := cntC_succ cr (m + c)
            have q0 := HC.out (m + c) (by omega)
            have i0 : (m : Int) + (c : Int) < (v.length : Int) := by omega
            have i00 : (0 : Int) ≤ (m : Int) + (c : Int) := by omega
            have hbig : cntC cr (m + c) ≤ 20000 := by have := cntC_le cr (m + c); omega
            have hmb : (m : Int) ≤ 4096 := by omega
            have hv : v.length ≤ 4096 := by omega
            have HN := Lib.hid (show cntC cr (m + (c + 1)) = cntC cr (m + c) + (cr (3 * (m + c))).toNat + (cr (3 * (m + c) + 1)).toNat + (cr (3 * (m + c) + 2)).toNat from hcn)
            rw [k1, k2, k3] at HN
            have HMR2 := Lib.hid hmr2
            clear hcn k1 k2 k3 hmr2
            by_cases hcw : c + 1 < W
            · by_cases hrh : r + 1 < H
              · have hcwi : (c : Int) + 1 < (W : Int) := by omega
                have q1 := HC.out (m + c + 1) (by omega)
                have i1 : (m : Int) + (c : Int) + 1 < (v.length : Int) := by omega
                have i10 : (0 : Int) ≤ (m : Int) + (c : Int) + 1 := by omega
                have hrhi : (r : Int) + 1 < (H : Int) := by omega
                have hm2 := HMR2.out hrh
                have q2 := HC.out (m + c + W) (by omega)
                have i2 : (m : Int) + (c : Int) + (W : Int) < (v.length : Int) := by omega
                have i20 : (0 : Int) ≤ (m : Int) + (c : Int) + (W : Int) := by omega
                have q3 := HC.out (m + c + W + 1) (by omega)
                have i3 : (m : Int) + (c : Int) + (W : Int) + 1 < (v.length : Int) := by omega
                have i30 : (0 : Int) ≤ (m : Int) + (c : Int) + (W : Int) + 1 := by omega
                simp only [decide_eq_true hcw, decide_eq_true hrh, Bool.true_and, Bool.false_and, Bool.and_false, Bool.and_true, Bool.toNat_false, Nat.add_zero] at HN
                clear hcW hmr
                generalize v[m + c]! = x0 at *
                generalize v[m + c + 1]! = x1 at *
                generalize v[m + c + W]! = x2 at *
                generalize v[m + c + W + 1]! = x3 at *
                go_wp2
                all_goals rename_i h1 h2 h3
                all_goals have hN := HN.out
                all_goals (first | rw [bn_t h1] at hN | rw [bn_f h1] at hN)
                all_goals (first | rw [bn_t h2] at hN | rw [bn_f h2] at hN)
                all_goals (first | rw [bn_t h3] at hN | rw [bn_f h3] at hN)
                all_goals exact ⟨⟨c + 1, by omega, by go_num, by (congr 1; omega), trivial⟩, by simp [intOf]; omega⟩
              · have hcwi : (c : Int) + 1 < (W : Int) := by omega
                have q1 := HC.out (m + c + 1) (by omega)
                have i1 : (m : Int) + (c : Int) + 1 < (v.length : Int) := by omega
                have i10 : (0 : Int) ≤ (m : Int) + (c : Int) + 1 := by omega
                have hrhi : ¬ ((r : Int) + 1 < (H : Int)) := by omega
                simp only [decide_eq_true hcw, decide_eq_false hrh, Bool.true_and, Bool.false_and, Bool.and_false, Bool.and_true, Bool.toNat_false, Nat.add_zero] at HN
                clear hcW hmr
                generalize v[m + c]! = x0 at *
                generalize v[m + c + 1]! = x1 at *
                go_wp2
                all_goals rename_i h1
                all_goals have hN := HN.out
                all_goals (first | rw [bn_t h1] at hN | rw [bn_f h1] at hN)
                all_goals exact ⟨⟨c + 1, by omega, by go_num, by (congr 1; omega), trivial⟩, by simp [intOf]; omega⟩
            · by_cases hrh : r + 1 < H
              · have hcwi : ¬ ((c : Int) + 1 < (W : Int)) := by omega
                have hrhi : (r : Int) + 1 < (H : Int) := by omega
                have hm2 := HMR2.out hrh
                have q2 := HC.out (m + c + W) (by omega)
                have i2 : (m : Int) + (c : Int) + (W : Int) < (v.length : Int) := by omega
                have i20 : (0 : Int) ≤ (m : Int) + (c : Int) + (W : Int) := by omega
                simp only [decide_eq_false hcw, decide_eq_true hrh, Bool.true_and, Bool.false_and, Bool.and_false, Bool.and_true, Bool.toNat_false, Nat.add_zero] at HN
                clear hcW hmr
                generalize v[m + c]! = x0 at *
                generalize v[m + c + W]! = x2 at *
                go_wp2
                all_goals rename_i h1
                all_goals have hN := HN.out
                all_goals (first | rw [bn_t h1] at hN | rw [bn_f h1] at hN)
                all_goals exact ⟨⟨c + 1, by omega, by go_num, by (congr 1; omega), trivial⟩, by simp [intOf]; omega⟩
              · have hcwi : ¬ ((c : Int) + 1 < (W : Int)) := by omega
                have hrhi : ¬ ((r : Int) + 1 < (H : Int)) := by omega
                simp only [decide_eq_false hcw, decide_eq_false hrh, Bool.true_and, Bool.false_and, Bool.and_false, Bool.and_true, Bool.toNat_false, Nat.add_zero] at HN
                clear hcW hmr
                generalize v[m + c]! = x0 at *
                go_wp2
                all_goals have hN := HN.out
                all_goals exact ⟨⟨c + 1, by omega, by go_num, by (congr 1; omega), trivial⟩, by simp [intOf]; omega⟩
end Go.Proofs
