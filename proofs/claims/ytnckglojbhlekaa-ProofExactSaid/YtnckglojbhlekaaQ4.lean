/- Colors, the reference's. -/
import Derived.Test.YtnckglojbhlekaaQ3
import Derived.BigQuiet
import Derived.Deep.QuietTactic
set_option linter.unusedVariables false
set_option linter.unusedSimpArgs false
namespace Go.Proofs
open Go.RowKit Go.Proofs.Mp

theorem colP4 (x : P4) (i : Nat) : colP x i 4 = (((x.get 0).v[i]! * 101 + (x.get 1).v[i]!) * 101 + (x.get 2).v[i]!) * 101 + (x.get 3).v[i]! := by
  simp only [colP]
  omega
theorem range_snoc (x : P4) (k : Nat) : (List.range k).map (fun t => colP x t 4) ++ [colP x k 4] = (List.range (k + 1)).map fun t => colP x t 4 := by
  rw [List.range_succ, List.map_append]; rfl

set_option maxRecDepth 100000 in
set_option maxHeartbeats 8000000 in
theorem ref_colors (x : P4) (w : World) (hf : Few4 x 1000000) (hR : Rd4 w x) : Calls Try.prog 12 #[agg4 x] w (ColPost x w) := by
  have C := Lib.hid (fun (j : Nat) (W : World) (hb : Below w.heap.size w W) => ref_check (x.get j) W (hf j) ((hR j).below hb))
  unfold agg4
  have k0 := bw1 w (.cells #[.int .i64 x.p0.w, .int .i64 x.p0.h, .slice x.p0.a x.p0.v.length x.p0.c, .int .i64 x.p1.w, .int .i64 x.p1.h, .slice x.p1.a x.p1.v.length x.p1.c, .int .i64 x.p2.w, .int .i64 x.p2.h, .slice x.p2.a x.p2.v.length x.p2.c, .int .i64 x.p3.w, .int .i64 x.p3.h, .slice x.p3.a x.p3.v.length x.p3.c] 25)
  have hs0 : (w.alloc (.cells #[.int .i64 x.p0.w, .int .i64 x.p0.h, .slice x.p0.a x.p0.v.length x.p0.c, .int .i64 x.p1.w, .int .i64 x.p1.h, .slice x.p1.a x.p1.v.length x.p1.c, .int .i64 x.p2.w, .int .i64 x.p2.h, .slice x.p2.a x.p2.v.length x.p2.c, .int .i64 x.p3.w, .int .i64 x.p3.h, .slice x.p3.a x.p3.v.length x.p3.c] 25)).heap.size = w.heap.size + 1 := by simp
  have hc0 : (w.alloc (.cells #[.int .i64 x.p0.w, .int .i64 x.p0.h, .slice x.p0.a x.p0.v.length x.p0.c, .int .i64 x.p1.w, .int .i64 x.p1.h, .slice x.p1.a x.p1.v.length x.p1.c, .int .i64 x.p2.w, .int .i64 x.p2.h, .slice x.p2.a x.p2.v.length x.p2.c, .int .i64 x.p3.w, .int .i64 x.p3.h, .slice x.p3.a x.p3.v.length x.p3.c] 25)).cell? ⟨w.heap.size, 0, none⟩ = some (.int .i64 x.p0.w) ∧ (w.alloc (.cells #[.int .i64 x.p0.w, .int .i64 x.p0.h, .slice x.p0.a x.p0.v.length x.p0.c, .int .i64 x.p1.w, .int .i64 x.p1.h, .slice x.p1.a x.p1.v.length x.p1.c, .int .i64 x.p2.w, .int .i64 x.p2.h, .slice x.p2.a x.p2.v.length x.p2.c, .int .i64 x.p3.w, .int .i64 x.p3.h, .slice x.p3.a x.p3.v.length x.p3.c] 25)).cell? ⟨w.heap.size, 1, none⟩ = some (.int .i64 x.p0.h) ∧ (w.alloc (.cells #[.int .i64 x.p0.w, .int .i64 x.p0.h, .slice x.p0.a x.p0.v.length x.p0.c, .int .i64 x.p1.w, .int .i64 x.p1.h, .slice x.p1.a x.p1.v.length x.p1.c, .int .i64 x.p2.w, .int .i64 x.p2.h, .slice x.p2.a x.p2.v.length x.p2.c, .int .i64 x.p3.w, .int .i64 x.p3.h, .slice x.p3.a x.p3.v.length x.p3.c] 25)).cell? ⟨w.heap.size, 2, none⟩ = some (.slice x.p0.a x.p0.v.length x.p0.c) ∧ (w.alloc (.cells #[.int .i64 x.p0.w, .int .i64 x.p0.h, .slice x.p0.a x.p0.v.length x.p0.c, .int .i64 x.p1.w, .int .i64 x.p1.h, .slice x.p1.a x.p1.v.length x.p1.c, .int .i64 x.p2.w, .int .i64 x.p2.h, .slice x.p2.a x.p2.v.length x.p2.c, .int .i64 x.p3.w, .int .i64 x.p3.h, .slice x.p3.a x.p3.v.length x.p3.c] 25)).cell? ⟨w.heap.size, 3, none⟩ = some (.int .i64 x.p1.w) ∧ (w.alloc (.cells #[.int .i64 x.p0.w, .int .i64 x.p0.h, .slice x.p0.a x.p0.v.length x.p0.c, .int .i64 x.p1.w, .int .i64 x.p1.h, .slice x.p1.a x.p1.v.length x.p1.c, .int .i64 x.p2.w, .int .i64 x.p2.h, .slice x.p2.a x.p2.v.length x.p2.c, .int .i64 x.p3.w, .int .i64 x.p3.h, .slice x.p3.a x.p3.v.length x.p3.c] 25)).cell? ⟨w.heap.size, 4, none⟩ = some (.int .i64 x.p1.h) ∧ (w.alloc (.cells #[.int .i64 x.p0.w, .int .i64 x.p0.h, .slice x.p0.a x.p0.v.length x.p0.c, .int .i64 x.p1.w, .int .i64 x.p1.h, .slice x.p1.a x.p1.v.length x.p1.c, .int .i64 x.p2.w, .int .i64 x.p2.h, .slice x.p2.a x.p2.v.length x.p2.c, .int .i64 x.p3.w, .int .i64 x.p3.h, .slice x.p3.a x.p3.v.length x.p3.c] 25)).cell? ⟨w.heap.size, 5, none⟩ = some (.slice x.p1.a x.p1.v.length x.p1.c) ∧ (w.alloc (.cells #[.int .i64 x.p0.w, .int .i64 x.p0.h, .slice x.p0.a x.p0.v.length x.p0.c, .int .i64 x.p1.w, .int .i64 x.p1.h, .slice x.p1.a x.p1.v.length x.p1.c, .int .i64 x.p2.w, .int .i64 x.p2.h, .slice x.p2.a x.p2.v.length x.p2.c, .int .i64 x.p3.w, .int .i64 x.p3.h, .slice x.p3.a x.p3.v.length x.p3.c] 25)).cell? ⟨w.heap.size, 6, none⟩ = some (.int .i64 x.p2.w) ∧ (w.alloc (.cells #[.int .i64 x.p0.w, .int .i64 x.p0.h, .slice x.p0.a x.p0.v.length x.p0.c, .int .i64 x.p1.w, .int .i64 x.p1.h, .slice x.p1.a x.p1.v.length x.p1.c, .int .i64 x.p2.w, .int .i64 x.p2.h, .slice x.p2.a x.p2.v.length x.p2.c, .int .i64 x.p3.w, .int .i64 x.p3.h, .slice x.p3.a x.p3.v.length x.p3.c] 25)).cell? ⟨w.heap.size, 7, none⟩ = some (.int .i64 x.p2.h) ∧ (w.alloc (.cells #[.int .i64 x.p0.w, .int .i64 x.p0.h, .slice x.p0.a x.p0.v.length x.p0.c, .int .i64 x.p1.w, .int .i64 x.p1.h, .slice x.p1.a x.p1.v.length x.p1.c, .int .i64 x.p2.w, .int .i64 x.p2.h, .slice x.p2.a x.p2.v.length x.p2.c, .int .i64 x.p3.w, .int .i64 x.p3.h, .slice x.p3.a x.p3.v.length x.p3.c] 25)).cell? ⟨w.heap.size, 8, none⟩ = some (.slice x.p2.a x.p2.v.length x.p2.c) ∧ (w.alloc (.cells #[.int .i64 x.p0.w, .int .i64 x.p0.h, .slice x.p0.a x.p0.v.length x.p0.c, .int .i64 x.p1.w, .int .i64 x.p1.h, .slice x.p1.a x.p1.v.length x.p1.c, .int .i64 x.p2.w, .int .i64 x.p2.h, .slice x.p2.a x.p2.v.length x.p2.c, .int .i64 x.p3.w, .int .i64 x.p3.h, .slice x.p3.a x.p3.v.length x.p3.c] 25)).cell? ⟨w.heap.size, 9, none⟩ = some (.int .i64 x.p3.w) ∧ (w.alloc (.cells #[.int .i64 x.p0.w, .int .i64 x.p0.h, .slice x.p0.a x.p0.v.length x.p0.c, .int .i64 x.p1.w, .int .i64 x.p1.h, .slice x.p1.a x.p1.v.length x.p1.c, .int .i64 x.p2.w, .int .i64 x.p2.h, .slice x.p2.a x.p2.v.length x.p2.c, .int .i64 x.p3.w, .int .i64 x.p3.h, .slice x.p3.a x.p3.v.length x.p3.c] 25)).cell? ⟨w.heap.size, 10, none⟩ = some (.int .i64 x.p3.h) ∧ (w.alloc (.cells #[.int .i64 x.p0.w, .int .i64 x.p0.h, .slice x.p0.a x.p0.v.length x.p0.c, .int .i64 x.p1.w, .int .i64 x.p1.h, .slice x.p1.a x.p1.v.length x.p1.c, .int .i64 x.p2.w, .int .i64 x.p2.h, .slice x.p2.a x.p2.v.length x.p2.c, .int .i64 x.p3.w, .int .i64 x.p3.h, .slice x.p3.a x.p3.v.length x.p3.c] 25)).cell? ⟨w.heap.size, 11, none⟩ = some (.slice x.p3.a x.p3.v.length x.p3.c) := by
    refine ⟨?_, ?_, ?_, ?_, ?_, ?_, ?_, ?_, ?_, ?_, ?_, ?_⟩ <;> simp
  go_enter Try.func12, Try.ntmps12
  go_wp2_with fail
  generalize (w.alloc (.cells #[.int .i64 x.p0.w, .int .i64 x.p0.h, .slice x.p0.a x.p0.v.length x.p0.c, .int .i64 x.p1.w, .int .i64 x.p1.h, .slice x.p1.a x.p1.v.length x.p1.c, .int .i64 x.p2.w, .int .i64 x.p2.h, .slice x.p2.a x.p2.v.length x.p2.c, .int .i64 x.p3.w, .int .i64 x.p3.h, .slice x.p3.a x.p3.v.length x.p3.c] 25)) = w0 at *
  have HB : Hid (∀ W, Below w0.heap.size w0 W → W.cell? ⟨w.heap.size, 0, none⟩ = some (.int .i64 x.p0.w) ∧ W.cell? ⟨w.heap.size, 1, none⟩ = some (.int .i64 x.p0.h) ∧ W.cell? ⟨w.heap.size, 2, none⟩ = some (.slice x.p0.a x.p0.v.length x.p0.c) ∧ W.cell? ⟨w.heap.size, 3, none⟩ = some (.int .i64 x.p1.w) ∧ W.cell? ⟨w.heap.size, 4, none⟩ = some (.int .i64 x.p1.h) ∧ W.cell? ⟨w.heap.size, 5, none⟩ = some (.slice x.p1.a x.p1.v.length x.p1.c) ∧ W.cell? ⟨w.heap.size, 6, none⟩ = some (.int .i64 x.p2.w) ∧ W.cell? ⟨w.heap.size, 7, none⟩ = some (.int .i64 x.p2.h) ∧ W.cell? ⟨w.heap.size, 8, none⟩ = some (.slice x.p2.a x.p2.v.length x.p2.c) ∧ W.cell? ⟨w.heap.size, 9, none⟩ = some (.int .i64 x.p3.w) ∧ W.cell? ⟨w.heap.size, 10, none⟩ = some (.int .i64 x.p3.h) ∧ W.cell? ⟨w.heap.size, 11, none⟩ = some (.slice x.p3.a x.p3.v.length x.p3.c)) := Lib.hid (fun W hb => by
    obtain ⟨c0, c1, c2, c3, c4, c5, c6, c7, c8, c9, c10, c11⟩ := hc0
    have hlt : w.heap.size < w0.heap.size := by omega
    exact ⟨(hb.cell (p := ⟨w.heap.size, 0, none⟩) hlt).trans c0, (hb.cell (p := ⟨w.heap.size, 1, none⟩) hlt).trans c1, (hb.cell (p := ⟨w.heap.size, 2, none⟩) hlt).trans c2, (hb.cell (p := ⟨w.heap.size, 3, none⟩) hlt).trans c3, (hb.cell (p := ⟨w.heap.size, 4, none⟩) hlt).trans c4, (hb.cell (p := ⟨w.heap.size, 5, none⟩) hlt).trans c5, (hb.cell (p := ⟨w.heap.size, 6, none⟩) hlt).trans c6, (hb.cell (p := ⟨w.heap.size, 7, none⟩) hlt).trans c7, (hb.cell (p := ⟨w.heap.size, 8, none⟩) hlt).trans c8, (hb.cell (p := ⟨w.heap.size, 9, none⟩) hlt).trans c9, (hb.cell (p := ⟨w.heap.size, 10, none⟩) hlt).trans c10, (hb.cell (p := ⟨w.heap.size, 11, none⟩) hlt).trans c11⟩)
  have HS := Lib.hid hs0
  clear hc0 hs0
  go_loopw [4] (fun i wr => ∃ k : Nat, k ≤ 4 ∧ i = .int .i64 k ∧ (∀ j, j < k → chk (x.get j) = 0) ∧ Below w0.heap.size w0 wr) (fun i _ => 4 - (intOf i).toNat)
  case atStart => exact ⟨0, by omega, rfl, fun j hj => by omega, Below.refl _ _⟩
  case round =>
    obtain ⟨k, hk, rfl, hpre, hbw⟩ := hrel
    obtain ⟨c0, c1, c2, c3, c4, c5, c6, c7, c8, c9, c10, c11⟩ := HB.out wr hbw
    have hbw' := k0.trans (hbw.mono k0.size)
    have HPRE := Lib.hid hpre
    clear hpre
    by_cases h4 : k < 4
    · have h4' : k = 0 ∨ k = 1 ∨ k = 2 ∨ k = 3 := by omega
      clear h4 hk
      rcases h4' with rfl | rfl | rfl | rfl
      · go_wp2_with fail
        refine (C.out 0 _ hbw').mono ?_
        rintro e w1 ⟨rfl, hb1⟩
        have hbw1 := hbw.trans (hb1.mono hbw.size)
        have kb := k0.trans (hbw1.mono k0.size)
        clear c0 c1 c2 c3 c4 c5 c6 c7 c8 c9 c10 c11 hb1 hbw
        by_cases hz : chk (x.get 0) = 0
        · rw [hz]
          have HZ := Lib.hid hz
          clear hz
          go_wp2
          go_roundw
          case rel => exact ⟨0 + 1, by omega, by go_num, fun j hj => by
            rcases Nat.lt_succ_iff_lt_or_eq.1 hj with h | rfl
            · exact HPRE.out j h
            · exact HZ.out, hbw1⟩
          case measure => simp [intOf]
        · have HZ := Lib.hid hz
          have HE := Lib.hid (colE_bad (by omega) HPRE.out hz)
          obtain ⟨r, hr⟩ : ∃ r, chk (x.get 0) = r := ⟨_, rfl⟩
          rw [hr] at hz ⊢
          have HR := Lib.hid hr
          clear hr
          have hrb : (r != 0) = true := by simp [hz]
          go_wp2
          go_ret2
          exact colPost_err (by rw [HE.out, HR.out]) hz kb
      · go_wp2_with fail
        refine (C.out 1 _ hbw').mono ?_
        rintro e w1 ⟨rfl, hb1⟩
        have hbw1 := hbw.trans (hb1.mono hbw.size)
        have kb := k0.trans (hbw1.mono k0.size)
        clear c0 c1 c2 c3 c4 c5 c6 c7 c8 c9 c10 c11 hb1 hbw
        by_cases hz : chk (x.get 1) = 0
        · rw [hz]
          have HZ := Lib.hid hz
          clear hz
          go_wp2
          go_roundw
          case rel => exact ⟨1 + 1, by omega, by go_num, fun j hj => by
            rcases Nat.lt_succ_iff_lt_or_eq.1 hj with h | rfl
            · exact HPRE.out j h
            · exact HZ.out, hbw1⟩
          case measure => simp [intOf]
        · have HZ := Lib.hid hz
          have HE := Lib.hid (colE_bad (by omega) HPRE.out hz)
          obtain ⟨r, hr⟩ : ∃ r, chk (x.get 1) = r := ⟨_, rfl⟩
          rw [hr] at hz ⊢
          have HR := Lib.hid hr
          clear hr
          have hrb : (r != 0) = true := by simp [hz]
          go_wp2
          go_ret2
          exact colPost_err (by rw [HE.out, HR.out]) hz kb
      · go_wp2_with fail
        refine (C.out 2 _ hbw').mono ?_
        rintro e w1 ⟨rfl, hb1⟩
        have hbw1 := hbw.trans (hb1.mono hbw.size)
        have kb := k0.trans (hbw1.mono k0.size)
        clear c0 c1 c2 c3 c4 c5 c6 c7 c8 c9 c10 c11 hb1 hbw
        by_cases hz : chk (x.get 2) = 0
        · rw [hz]
          have HZ := Lib.hid hz
          clear hz
          go_wp2
          go_roundw
          case rel => exact ⟨2 + 1, by omega, by go_num, fun j hj => by
            rcases Nat.lt_succ_iff_lt_or_eq.1 hj with h | rfl
            · exact HPRE.out j h
            · exact HZ.out, hbw1⟩
          case measure => simp [intOf]
        · have HZ := Lib.hid hz
          have HE := Lib.hid (colE_bad (by omega) HPRE.out hz)
          obtain ⟨r, hr⟩ : ∃ r, chk (x.get 2) = r := ⟨_, rfl⟩
          rw [hr] at hz ⊢
          have HR := Lib.hid hr
          clear hr
          have hrb : (r != 0) = true := by simp [hz]
          go_wp2
          go_ret2
          exact colPost_err (by rw [HE.out, HR.out]) hz kb
      · go_wp2_with fail
        refine (C.out 3 _ hbw').mono ?_
        rintro e w1 ⟨rfl, hb1⟩
        have hbw1 := hbw.trans (hb1.mono hbw.size)
        have kb := k0.trans (hbw1.mono k0.size)
        clear c0 c1 c2 c3 c4 c5 c6 c7 c8 c9 c10 c11 hb1 hbw
        by_cases hz : chk (x.get 3) = 0
        · rw [hz]
          have HZ := Lib.hid hz
          clear hz
          go_wp2
          go_roundw
          case rel => exact ⟨3 + 1, by omega, by go_num, fun j hj => by
            rcases Nat.lt_succ_iff_lt_or_eq.1 hj with h | rfl
            · exact HPRE.out j h
            · exact HZ.out, hbw1⟩
          case measure => simp [intOf]
        · have HZ := Lib.hid hz
          have HE := Lib.hid (colE_bad (by omega) HPRE.out hz)
          obtain ⟨r, hr⟩ : ∃ r, chk (x.get 3) = r := ⟨_, rfl⟩
          rw [hr] at hz ⊢
          have HR := Lib.hid hr
          clear hr
          have hrb : (r != 0) = true := by simp [hz]
          go_wp2
          go_ret2
          exact colPost_err (by rw [HE.out, HR.out]) hz kb
    · obtain rfl : k = 4 := by omega
      have HOK : Hid (Ok4 x) := Lib.hid HPRE.out
      clear h4 hk HPRE hbw'
      rw [show (((4 : Nat) : Int)) = 4 from rfl]
      clear c0 c1 c2 c3 c4 c5 c6 c7 c8 c9 c10 c11
      go_wp2_with fail
      go_loopw [6] (fun i wr => ∃ k : Nat, 1 ≤ k ∧ k ≤ 4 ∧ i = .int .i64 k ∧ (∀ j, j < k → (x.get j).w = x.p0.w ∧ (x.get j).h = x.p0.h) ∧ Below w0.heap.size w0 wr) (fun i _ => 4 - (intOf i).toNat)
      case atStart => exact ⟨1, by omega, by omega, rfl, fun j hj => by
        obtain rfl : j = 0 := by omega
        exact ⟨rfl, rfl⟩, hbw⟩
      case round =>
        clear hbw
        obtain ⟨k, hk1, hk, rfl, hpre, hbw⟩ := hrel
        obtain ⟨c0, c1, c2, c3, c4, c5, c6, c7, c8, c9, c10, c11⟩ := HB.out wr hbw
        have HPRE := Lib.hid hpre
        clear hpre
        by_cases h4 : k < 4
        · have h4' : k = 1 ∨ k = 2 ∨ k = 3 := by omega
          clear h4 hk hk1
          rcases h4' with rfl | rfl | rfl
          · by_cases h1 : x.p1.w = x.p0.w
            · have hb1 : (x.p1.w != x.p0.w) = false := by simp [h1]
              by_cases h2 : x.p1.h = x.p0.h
              · have hb2 : (x.p1.h != x.p0.h) = false := by simp [h2]
                have HE := Lib.hid (show x.p1.w = x.p0.w ∧ x.p1.h = x.p0.h from ⟨h1, h2⟩)
                clear h1 h2
                skip
                go_wp2
                go_quiet (fail)
                clear c0 c1 c2 c3 c4 c5 c6 c7 c8 c9 c10 c11
                have hbw2 := fun n => hbw.trans (below_drewN (Below.refl w0.heap.size wr) n)
                go_wp2
                go_roundw
                case rel => exact ⟨1 + 1, by omega, by omega, by go_num, fun j hj => by
                  rcases Nat.lt_succ_iff_lt_or_eq.1 hj with h | rfl
                  · exact HPRE.out j h
                  · exact HE.out, hbw2 _⟩
                case measure => simp [intOf]
              · have hb2 : (x.p1.h != x.p0.h) = true := by simp [h2]
                have HE := Lib.hid (show ¬ (x.p1.w = x.p0.w ∧ x.p1.h = x.p0.h) from fun h => h2 h.2)
                clear h1 h2
                skip
                go_wp2
                go_quiet (fail)
                clear c0 c1 c2 c3 c4 c5 c6 c7 c8 c9 c10 c11
                have hbw2 := fun n => hbw.trans (below_drewN (Below.refl w0.heap.size wr) n)
                have kb := fun n => k0.trans ((hbw2 n).mono k0.size)
                go_wp2
                go_ret2
                exact colPost_err (colE_odd HOK.out (k := 1) (by omega) HE.out) (by omega) (kb _)
            · have hb1 : (x.p1.w != x.p0.w) = true := by simp [h1]
              have HE := Lib.hid (show ¬ (x.p1.w = x.p0.w ∧ x.p1.h = x.p0.h) from fun h => h1 h.1)
              clear h1
              skip
              go_wp2
              go_quiet (fail)
              clear c0 c1 c2 c3 c4 c5 c6 c7 c8 c9 c10 c11
              have hbw2 := fun n => hbw.trans (below_drewN (Below.refl w0.heap.size wr) n)
              have kb := fun n => k0.trans ((hbw2 n).mono k0.size)
              go_wp2
              go_ret2
              exact colPost_err (colE_odd HOK.out (k := 1) (by omega) HE.out) (by omega) (kb _)
          · by_cases h1 : x.p2.w = x.p0.w
            · have hb1 : (x.p2.w != x.p0.w) = false := by simp [h1]
              by_cases h2 : x.p2.h = x.p0.h
              · have hb2 : (x.p2.h != x.p0.h) = false := by simp [h2]
                have HE := Lib.hid (show x.p2.w = x.p0.w ∧ x.p2.h = x.p0.h from ⟨h1, h2⟩)
                clear h1 h2
                skip
                go_wp2
                go_quiet (fail)
                clear c0 c1 c2 c3 c4 c5 c6 c7 c8 c9 c10 c11
                have hbw2 := fun n => hbw.trans (below_drewN (Below.refl w0.heap.size wr) n)
                go_wp2
                go_roundw
                case rel => exact ⟨2 + 1, by omega, by omega, by go_num, fun j hj => by
                  rcases Nat.lt_succ_iff_lt_or_eq.1 hj with h | rfl
                  · exact HPRE.out j h
                  · exact HE.out, hbw2 _⟩
                case measure => simp [intOf]
              · have hb2 : (x.p2.h != x.p0.h) = true := by simp [h2]
                have HE := Lib.hid (show ¬ (x.p2.w = x.p0.w ∧ x.p2.h = x.p0.h) from fun h => h2 h.2)
                clear h1 h2
                skip
                go_wp2
                go_quiet (fail)
                clear c0 c1 c2 c3 c4 c5 c6 c7 c8 c9 c10 c11
                have hbw2 := fun n => hbw.trans (below_drewN (Below.refl w0.heap.size wr) n)
                have kb := fun n => k0.trans ((hbw2 n).mono k0.size)
                go_wp2
                go_ret2
                exact colPost_err (colE_odd HOK.out (k := 2) (by omega) HE.out) (by omega) (kb _)
            · have hb1 : (x.p2.w != x.p0.w) = true := by simp [h1]
              have HE := Lib.hid (show ¬ (x.p2.w = x.p0.w ∧ x.p2.h = x.p0.h) from fun h => h1 h.1)
              clear h1
              skip
              go_wp2
              go_quiet (fail)
              clear c0 c1 c2 c3 c4 c5 c6 c7 c8 c9 c10 c11
              have hbw2 := fun n => hbw.trans (below_drewN (Below.refl w0.heap.size wr) n)
              have kb := fun n => k0.trans ((hbw2 n).mono k0.size)
              go_wp2
              go_ret2
              exact colPost_err (colE_odd HOK.out (k := 2) (by omega) HE.out) (by omega) (kb _)
          · by_cases h1 : x.p3.w = x.p0.w
            · have hb1 : (x.p3.w != x.p0.w) = false := by simp [h1]
              by_cases h2 : x.p3.h = x.p0.h
              · have hb2 : (x.p3.h != x.p0.h) = false := by simp [h2]
                have HE := Lib.hid (show x.p3.w = x.p0.w ∧ x.p3.h = x.p0.h from ⟨h1, h2⟩)
                clear h1 h2
                skip
                go_wp2
                go_quiet (fail)
                clear c0 c1 c2 c3 c4 c5 c6 c7 c8 c9 c10 c11
                have hbw2 := fun n => hbw.trans (below_drewN (Below.refl w0.heap.size wr) n)
                go_wp2
                go_roundw
                case rel => exact ⟨3 + 1, by omega, by omega, by go_num, fun j hj => by
                  rcases Nat.lt_succ_iff_lt_or_eq.1 hj with h | rfl
                  · exact HPRE.out j h
                  · exact HE.out, hbw2 _⟩
                case measure => simp [intOf]
              · have hb2 : (x.p3.h != x.p0.h) = true := by simp [h2]
                have HE := Lib.hid (show ¬ (x.p3.w = x.p0.w ∧ x.p3.h = x.p0.h) from fun h => h2 h.2)
                clear h1 h2
                skip
                go_wp2
                go_quiet (fail)
                clear c0 c1 c2 c3 c4 c5 c6 c7 c8 c9 c10 c11
                have hbw2 := fun n => hbw.trans (below_drewN (Below.refl w0.heap.size wr) n)
                have kb := fun n => k0.trans ((hbw2 n).mono k0.size)
                go_wp2
                go_ret2
                exact colPost_err (colE_odd HOK.out (k := 3) (by omega) HE.out) (by omega) (kb _)
            · have hb1 : (x.p3.w != x.p0.w) = true := by simp [h1]
              have HE := Lib.hid (show ¬ (x.p3.w = x.p0.w ∧ x.p3.h = x.p0.h) from fun h => h1 h.1)
              clear h1
              skip
              go_wp2
              go_quiet (fail)
              clear c0 c1 c2 c3 c4 c5 c6 c7 c8 c9 c10 c11
              have hbw2 := fun n => hbw.trans (below_drewN (Below.refl w0.heap.size wr) n)
              have kb := fun n => k0.trans ((hbw2 n).mono k0.size)
              go_wp2
              go_ret2
              exact colPost_err (colE_odd HOK.out (k := 3) (by omega) HE.out) (by omega) (kb _)

        · obtain rfl : k = 4 := by omega
          have HEV : Hid (Even4 x) := Lib.hid HPRE.out
          clear h4 hk HPRE hk1 c0 c1 c2 c3 c4 c5 c6 c7 c8 c9 c10 c11
          rw [show (((4 : Nat) : Int)) = 4 from rfl]
          have HE0 := Lib.hid (colE_even HOK.out HEV.out)
          have hnm : x.p0.v.length ≤ 1000000 := hf 0
          have HLEN : Hid (∀ j, j < 4 → (x.get j).v.length = x.p0.v.length) := Lib.hid (fun j hj => by
            have h1 := (chk_zero (HOK.out j hj)).2.2.1
            have h0 := (chk_zero (HOK.out 0 (by omega))).2.2.1
            obtain ⟨e1, e2⟩ := HEV.out j hj
            have e3 : (x.get 0).v.length = x.p0.v.length := rfl
            rw [e1, e2] at h1
            have e4 : ((x.get 0).v.length : Int) = x.p0.w * x.p0.h := h0
            omega)
          have HRW : Hid (∀ j, RdI w (x.get j).a (x.get j).v) := Lib.hid hR
          clear C hf hR
          go_wp2_with fail
          go_loopw [7, 8] (fun v i wr => ∃ k : Nat, k ≤ x.p0.v.length ∧ i = .int .i64 k ∧ OwnI 3 wr w0.heap.size v ((List.range k).map fun t => colP x t 4) ∧ Below w0.heap.size w0 wr) (fun _ i _ => x.p0.v.length - (intOf i).toNat)
          case atStart => exact ⟨0, by omega, rfl, Own.nil wr _, hbw⟩
          case round =>
            clear hbw
            obtain ⟨k, hk, rfl, hown, hbw⟩ := hrel
            obtain ⟨c0, c1, c2, c3, c4, c5, c6, c7, c8, c9, c10, c11⟩ := HB.out wr hbw
            by_cases hlt : k < x.p0.v.length
            · go_wp2_with fail
              clear c0 c1 c2 c3 c4 c5 c6 c7 c8 c9 c10 c11
              have hS0 : (fun W : World => Below w0.heap.size w0 W) wr.drew := hbw.drew
              have hown1 := hown.below (Below.refl wr.heap.size wr).drew
              refine wp_region_held_drew (S := (fun W : World => Below w0.heap.size w0 W)) (by kernel_rfl) hS0 (fun hHeld => ?_)
              clear hHeld hown hbw
              generalize wr.drew = w1 at *
              have hvl0 : k < x.p0.v.length := by have := HLEN.out 0 (by omega); change x.p0.v.length = x.p0.v.length at this; omega
              obtain ⟨b0, off0, hA0, hb0, g0⟩ := RdI.get (HRW.out 0) (Below.refl _ _) (show k < (x.get 0).v.length from hvl0)
              change x.p0.a = _ at hA0
              obtain ⟨hl0, hh0⟩ := (chk_zero (HOK.out 0 (by omega))).2.2.2 k hvl0
              obtain ⟨y0, hy0⟩ : ∃ y, (x.get 0).v[k]! = y := ⟨_, rfl⟩
              have HY0 := Lib.hid hy0
              rw [hy0] at g0 hl0 hh0
              clear hy0
              have HV0 : Hid (∀ W, Below w0.heap.size w0 W → W.cell? ⟨b0, off0 + k, none⟩ = some (.int .i64 y0)) := Lib.hid (fun W hb => (hb.cell (p := ⟨b0, off0 + k, none⟩) (show b0 < w0.heap.size from by have := HS.out; omega)).trans ((k0.cell (p := ⟨b0, off0 + k, none⟩) hb0).trans g0))
              have HA0 := Lib.hid hA0
              clear g0 hA0
              have hvl1 : k < x.p1.v.length := by have := HLEN.out 1 (by omega); change x.p1.v.length = x.p0.v.length at this; omega
              obtain ⟨b1, off1, hA1, hb1, g1⟩ := RdI.get (HRW.out 1) (Below.refl _ _) (show k < (x.get 1).v.length from hvl1)
              change x.p1.a = _ at hA1
              obtain ⟨hl1, hh1⟩ := (chk_zero (HOK.out 1 (by omega))).2.2.2 k hvl1
              obtain ⟨y1, hy1⟩ : ∃ y, (x.get 1).v[k]! = y := ⟨_, rfl⟩
              have HY1 := Lib.hid hy1
              rw [hy1] at g1 hl1 hh1
              clear hy1
              have HV1 : Hid (∀ W, Below w0.heap.size w0 W → W.cell? ⟨b1, off1 + k, none⟩ = some (.int .i64 y1)) := Lib.hid (fun W hb => (hb.cell (p := ⟨b1, off1 + k, none⟩) (show b1 < w0.heap.size from by have := HS.out; omega)).trans ((k0.cell (p := ⟨b1, off1 + k, none⟩) hb1).trans g1))
              have HA1 := Lib.hid hA1
              clear g1 hA1
              have hvl2 : k < x.p2.v.length := by have := HLEN.out 2 (by omega); change x.p2.v.length = x.p0.v.length at this; omega
              obtain ⟨b2, off2, hA2, hb2, g2⟩ := RdI.get (HRW.out 2) (Below.refl _ _) (show k < (x.get 2).v.length from hvl2)
              change x.p2.a = _ at hA2
              obtain ⟨hl2, hh2⟩ := (chk_zero (HOK.out 2 (by omega))).2.2.2 k hvl2
              obtain ⟨y2, hy2⟩ : ∃ y, (x.get 2).v[k]! = y := ⟨_, rfl⟩
              have HY2 := Lib.hid hy2
              rw [hy2] at g2 hl2 hh2
              clear hy2
              have HV2 : Hid (∀ W, Below w0.heap.size w0 W → W.cell? ⟨b2, off2 + k, none⟩ = some (.int .i64 y2)) := Lib.hid (fun W hb => (hb.cell (p := ⟨b2, off2 + k, none⟩) (show b2 < w0.heap.size from by have := HS.out; omega)).trans ((k0.cell (p := ⟨b2, off2 + k, none⟩) hb2).trans g2))
              have HA2 := Lib.hid hA2
              clear g2 hA2
              have hvl3 : k < x.p3.v.length := by have := HLEN.out 3 (by omega); change x.p3.v.length = x.p0.v.length at this; omega
              obtain ⟨b3, off3, hA3, hb3, g3⟩ := RdI.get (HRW.out 3) (Below.refl _ _) (show k < (x.get 3).v.length from hvl3)
              change x.p3.a = _ at hA3
              obtain ⟨hl3, hh3⟩ := (chk_zero (HOK.out 3 (by omega))).2.2.2 k hvl3
              obtain ⟨y3, hy3⟩ : ∃ y, (x.get 3).v[k]! = y := ⟨_, rfl⟩
              have HY3 := Lib.hid hy3
              rw [hy3] at g3 hl3 hh3
              clear hy3
              have HV3 : Hid (∀ W, Below w0.heap.size w0 W → W.cell? ⟨b3, off3 + k, none⟩ = some (.int .i64 y3)) := Lib.hid (fun W hb => (hb.cell (p := ⟨b3, off3 + k, none⟩) (show b3 < w0.heap.size from by have := HS.out; omega)).trans ((k0.cell (p := ⟨b3, off3 + k, none⟩) hb3).trans g3))
              have HA3 := Lib.hid hA3
              clear g3 hA3
              have hw1 : IntKind.i64.wrap (y0 * 101) = y0 * 101 := IntWalk.i64_in _ (by omega)
              have hw2 : IntKind.i64.wrap (y0 * 101 + y1) = y0 * 101 + y1 := IntWalk.i64_in _ (by omega)
              have hw3 : IntKind.i64.wrap ((y0 * 101 + y1) * 101) = (y0 * 101 + y1) * 101 := IntWalk.i64_in _ (by omega)
              have hw4 : IntKind.i64.wrap ((y0 * 101 + y1) * 101 + y2) = (y0 * 101 + y1) * 101 + y2 := IntWalk.i64_in _ (by omega)
              have hw5 : IntKind.i64.wrap (((y0 * 101 + y1) * 101 + y2) * 101) = ((y0 * 101 + y1) * 101 + y2) * 101 := IntWalk.i64_in _ (by omega)
              have hw6 : IntKind.i64.wrap (((y0 * 101 + y1) * 101 + y2) * 101 + y3) = ((y0 * 101 + y1) * 101 + y2) * 101 + y3 := IntWalk.i64_in _ (by omega)
              have hA0 := HA0.out
              have hA1 := HA1.out
              have hA2 := HA2.out
              have hA3 := HA3.out
              refine wpAnyH_take (i := 0) (oi := ⟨some 50, _, _, _, _, _⟩) (v := ?vq1) rfl (by kernel_rfl) (by kernel_rfl) (by kernel_rfl) (fun _ _ _ h => h) (Or.inl ⟨by kernel_rfl, ?hyq1⟩) (by assumption) ?restq1
              case hyq1 => (intro W hSw; (try dsimp only at hSw); go_simp; try with_reducible rfl)
              case' restq1 => try simp only [Act.put, List.setIfInBounds_toArray, List.set_cons_zero, List.set_cons_succ]
              refine wpAnyH_take (i := 1) (oi := ⟨some 51, _, _, _, _, _⟩) (v := ?vq2) rfl (by kernel_rfl) (by kernel_rfl) (by kernel_rfl) (fun _ _ _ h => h) (Or.inl ⟨by kernel_rfl, ?hyq2⟩) (by assumption) ?restq2
              case hyq2 => (intro W hSw; (try dsimp only at hSw); go_simp; try with_reducible rfl)
              case' restq2 => try simp only [Act.put, List.setIfInBounds_toArray, List.set_cons_zero, List.set_cons_succ]
              refine wpAnyH_take (i := 2) (oi := ⟨some 52, _, _, _, _, _⟩) (v := ?vq3) rfl (by kernel_rfl) (by kernel_rfl) (by kernel_rfl) (fun _ _ _ h => h) (Or.inl ⟨by kernel_rfl, ?hyq3⟩) (by assumption) ?restq3
              case hyq3 => (intro W hSw; (try dsimp only at hSw); go_simp; try with_reducible rfl)
              case' restq3 => try simp only [Act.put, List.setIfInBounds_toArray, List.set_cons_zero, List.set_cons_succ]
              refine wpAnyH_take (i := 3) (oi := ⟨some 53, _, _, _, _, _⟩) (v := ?vq4) rfl (by kernel_rfl) (by kernel_rfl) (by kernel_rfl) (fun _ _ _ h => h) (Or.inl ⟨by kernel_rfl, ?hyq4⟩) (by assumption) ?restq4
              case hyq4 => (intro W hSw; obtain ⟨c0, c1, c2, c3, c4, c5, c6, c7, c8, c9, c10, c11⟩ := HB.out W hSw; clear hSw; (try dsimp only at hSw); go_simp; try with_reducible rfl)
              case' restq4 => try simp only [Act.put, List.setIfInBounds_toArray, List.set_cons_zero, List.set_cons_succ]
              refine wpAnyH_take (i := 4) (oi := ⟨some 54, _, _, _, _, _⟩) (v := ?vq5) rfl (by kernel_rfl) (by kernel_rfl) (by kernel_rfl) (fun _ _ _ h => h) (Or.inl ⟨by kernel_rfl, ?hyq5⟩) (by assumption) ?restq5
              case hyq5 => (intro W hSw; (try dsimp only at hSw); go_simp; try with_reducible rfl)
              case' restq5 => try simp only [Act.put, List.setIfInBounds_toArray, List.set_cons_zero, List.set_cons_succ]
              refine wpAnyH_take (i := 5) (oi := ⟨some 55, _, _, _, _, _⟩) (v := ?vq6) rfl (by kernel_rfl) (by kernel_rfl) (by kernel_rfl) (fun _ _ _ h => h) (Or.inl ⟨by kernel_rfl, ?hyq6⟩) (by assumption) ?restq6
              case hyq6 => (intro W hSw; (try dsimp only at hSw); go_simp; try with_reducible rfl)
              case' restq6 => try simp only [Act.put, List.setIfInBounds_toArray, List.set_cons_zero, List.set_cons_succ]
              refine wpAnyH_take (i := 6) (oi := ⟨some 56, _, _, _, _, _⟩) (v := ?vq7) rfl (by kernel_rfl) (by kernel_rfl) (by kernel_rfl) (fun _ _ _ h => h) (Or.inl ⟨by kernel_rfl, ?hyq7⟩) (by assumption) ?restq7
              case hyq7 => (intro W hSw; have g0 := HV0.out W hSw; clear hSw; (try dsimp only at hSw); go_simp; try with_reducible rfl)
              case' restq7 => try simp only [Act.put, List.setIfInBounds_toArray, List.set_cons_zero, List.set_cons_succ]
              refine wpAnyH_take (i := 7) (oi := ⟨some 57, _, _, _, _, _⟩) (v := ?vq8) rfl (by kernel_rfl) (by kernel_rfl) (by kernel_rfl) (fun _ _ _ h => h) (Or.inl ⟨by kernel_rfl, ?hyq8⟩) (by assumption) ?restq8
              case hyq8 => (intro W hSw; (try dsimp only at hSw); go_simp; try with_reducible rfl)
              case' restq8 => try simp only [Act.put, List.setIfInBounds_toArray, List.set_cons_zero, List.set_cons_succ]
              refine wpAnyH_take (i := 8) (oi := ⟨some 58, _, _, _, _, _⟩) (v := ?vq9) rfl (by kernel_rfl) (by kernel_rfl) (by kernel_rfl) (fun _ _ _ h => h) (Or.inl ⟨by kernel_rfl, ?hyq9⟩) (by assumption) ?restq9
              case hyq9 => (intro W hSw; (try dsimp only at hSw); go_simp; try with_reducible rfl)
              case' restq9 => try simp only [Act.put, List.setIfInBounds_toArray, List.set_cons_zero, List.set_cons_succ]
              refine wpAnyH_take (i := 9) (oi := ⟨some 59, _, _, _, _, _⟩) (v := ?vq10) rfl (by kernel_rfl) (by kernel_rfl) (by kernel_rfl) (fun _ _ _ h => h) (Or.inl ⟨by kernel_rfl, ?hyq10⟩) (by assumption) ?restq10
              case hyq10 => (intro W hSw; (try dsimp only at hSw); go_simp; try with_reducible rfl)
              case' restq10 => try simp only [Act.put, List.setIfInBounds_toArray, List.set_cons_zero, List.set_cons_succ]
              refine wpAnyH_take (i := 10) (oi := ⟨some 60, _, _, _, _, _⟩) (v := ?vq11) rfl (by kernel_rfl) (by kernel_rfl) (by kernel_rfl) (fun _ _ _ h => h) (Or.inl ⟨by kernel_rfl, ?hyq11⟩) (by assumption) ?restq11
              case hyq11 => (intro W hSw; obtain ⟨c0, c1, c2, c3, c4, c5, c6, c7, c8, c9, c10, c11⟩ := HB.out W hSw; clear hSw; (try dsimp only at hSw); go_simp; try with_reducible rfl)
              case' restq11 => try simp only [Act.put, List.setIfInBounds_toArray, List.set_cons_zero, List.set_cons_succ]
              refine wpAnyH_take (i := 11) (oi := ⟨some 61, _, _, _, _, _⟩) (v := ?vq12) rfl (by kernel_rfl) (by kernel_rfl) (by kernel_rfl) (fun _ _ _ h => h) (Or.inl ⟨by kernel_rfl, ?hyq12⟩) (by assumption) ?restq12
              case hyq12 => (intro W hSw; (try dsimp only at hSw); go_simp; try with_reducible rfl)
              case' restq12 => try simp only [Act.put, List.setIfInBounds_toArray, List.set_cons_zero, List.set_cons_succ]
              refine wpAnyH_take (i := 12) (oi := ⟨some 62, _, _, _, _, _⟩) (v := ?vq13) rfl (by kernel_rfl) (by kernel_rfl) (by kernel_rfl) (fun _ _ _ h => h) (Or.inl ⟨by kernel_rfl, ?hyq13⟩) (by assumption) ?restq13
              case hyq13 => (intro W hSw; (try dsimp only at hSw); go_simp; try with_reducible rfl)
              case' restq13 => try simp only [Act.put, List.setIfInBounds_toArray, List.set_cons_zero, List.set_cons_succ]
              refine wpAnyH_take (i := 13) (oi := ⟨some 63, _, _, _, _, _⟩) (v := ?vq14) rfl (by kernel_rfl) (by kernel_rfl) (by kernel_rfl) (fun _ _ _ h => h) (Or.inl ⟨by kernel_rfl, ?hyq14⟩) (by assumption) ?restq14
              case hyq14 => (intro W hSw; have g1 := HV1.out W hSw; clear hSw; (try dsimp only at hSw); go_simp; try with_reducible rfl)
              case' restq14 => try simp only [Act.put, List.setIfInBounds_toArray, List.set_cons_zero, List.set_cons_succ]
              refine wpAnyH_take (i := 14) (oi := ⟨some 64, _, _, _, _, _⟩) (v := ?vq15) rfl (by kernel_rfl) (by kernel_rfl) (by kernel_rfl) (fun _ _ _ h => h) (Or.inl ⟨by kernel_rfl, ?hyq15⟩) (by assumption) ?restq15
              case hyq15 => (intro W hSw; (try dsimp only at hSw); go_simp; try with_reducible rfl)
              case' restq15 => try simp only [Act.put, List.setIfInBounds_toArray, List.set_cons_zero, List.set_cons_succ]
              refine wpAnyH_take (i := 15) (oi := ⟨some 65, _, _, _, _, _⟩) (v := ?vq16) rfl (by kernel_rfl) (by kernel_rfl) (by kernel_rfl) (fun _ _ _ h => h) (Or.inl ⟨by kernel_rfl, ?hyq16⟩) (by assumption) ?restq16
              case hyq16 => (intro W hSw; (try dsimp only at hSw); go_simp; try with_reducible rfl)
              case' restq16 => try simp only [Act.put, List.setIfInBounds_toArray, List.set_cons_zero, List.set_cons_succ]
              refine wpAnyH_take (i := 16) (oi := ⟨some 66, _, _, _, _, _⟩) (v := ?vq17) rfl (by kernel_rfl) (by kernel_rfl) (by kernel_rfl) (fun _ _ _ h => h) (Or.inl ⟨by kernel_rfl, ?hyq17⟩) (by assumption) ?restq17
              case hyq17 => (intro W hSw; (try dsimp only at hSw); go_simp; try with_reducible rfl)
              case' restq17 => try simp only [Act.put, List.setIfInBounds_toArray, List.set_cons_zero, List.set_cons_succ]
              refine wpAnyH_take (i := 17) (oi := ⟨some 67, _, _, _, _, _⟩) (v := ?vq18) rfl (by kernel_rfl) (by kernel_rfl) (by kernel_rfl) (fun _ _ _ h => h) (Or.inl ⟨by kernel_rfl, ?hyq18⟩) (by assumption) ?restq18
              case hyq18 => (intro W hSw; (try dsimp only at hSw); go_simp; try with_reducible rfl)
              case' restq18 => try simp only [Act.put, List.setIfInBounds_toArray, List.set_cons_zero, List.set_cons_succ]
              refine wpAnyH_take (i := 18) (oi := ⟨some 68, _, _, _, _, _⟩) (v := ?vq19) rfl (by kernel_rfl) (by kernel_rfl) (by kernel_rfl) (fun _ _ _ h => h) (Or.inl ⟨by kernel_rfl, ?hyq19⟩) (by assumption) ?restq19
              case hyq19 => (intro W hSw; obtain ⟨c0, c1, c2, c3, c4, c5, c6, c7, c8, c9, c10, c11⟩ := HB.out W hSw; clear hSw; (try dsimp only at hSw); go_simp; try with_reducible rfl)
              case' restq19 => try simp only [Act.put, List.setIfInBounds_toArray, List.set_cons_zero, List.set_cons_succ]
              refine wpAnyH_take (i := 19) (oi := ⟨some 69, _, _, _, _, _⟩) (v := ?vq20) rfl (by kernel_rfl) (by kernel_rfl) (by kernel_rfl) (fun _ _ _ h => h) (Or.inl ⟨by kernel_rfl, ?hyq20⟩) (by assumption) ?restq20
              case hyq20 => (intro W hSw; (try dsimp only at hSw); go_simp; try with_reducible rfl)
              case' restq20 => try simp only [Act.put, List.setIfInBounds_toArray, List.set_cons_zero, List.set_cons_succ]
              refine wpAnyH_take (i := 20) (oi := ⟨some 70, _, _, _, _, _⟩) (v := ?vq21) rfl (by kernel_rfl) (by kernel_rfl) (by kernel_rfl) (fun _ _ _ h => h) (Or.inl ⟨by kernel_rfl, ?hyq21⟩) (by assumption) ?restq21
              case hyq21 => (intro W hSw; (try dsimp only at hSw); go_simp; try with_reducible rfl)
              case' restq21 => try simp only [Act.put, List.setIfInBounds_toArray, List.set_cons_zero, List.set_cons_succ]
              refine wpAnyH_take (i := 21) (oi := ⟨some 71, _, _, _, _, _⟩) (v := ?vq22) rfl (by kernel_rfl) (by kernel_rfl) (by kernel_rfl) (fun _ _ _ h => h) (Or.inl ⟨by kernel_rfl, ?hyq22⟩) (by assumption) ?restq22
              case hyq22 => (intro W hSw; have g2 := HV2.out W hSw; clear hSw; (try dsimp only at hSw); go_simp; try with_reducible rfl)
              case' restq22 => try simp only [Act.put, List.setIfInBounds_toArray, List.set_cons_zero, List.set_cons_succ]
              refine wpAnyH_take (i := 22) (oi := ⟨some 72, _, _, _, _, _⟩) (v := ?vq23) rfl (by kernel_rfl) (by kernel_rfl) (by kernel_rfl) (fun _ _ _ h => h) (Or.inl ⟨by kernel_rfl, ?hyq23⟩) (by assumption) ?restq23
              case hyq23 => (intro W hSw; (try dsimp only at hSw); go_simp; try with_reducible rfl)
              case' restq23 => try simp only [Act.put, List.setIfInBounds_toArray, List.set_cons_zero, List.set_cons_succ]
              refine wpAnyH_take (i := 23) (oi := ⟨some 73, _, _, _, _, _⟩) (v := ?vq24) rfl (by kernel_rfl) (by kernel_rfl) (by kernel_rfl) (fun _ _ _ h => h) (Or.inl ⟨by kernel_rfl, ?hyq24⟩) (by assumption) ?restq24
              case hyq24 => (intro W hSw; (try dsimp only at hSw); go_simp; try with_reducible rfl)
              case' restq24 => try simp only [Act.put, List.setIfInBounds_toArray, List.set_cons_zero, List.set_cons_succ]
              refine wpAnyH_take (i := 24) (oi := ⟨some 74, _, _, _, _, _⟩) (v := ?vq25) rfl (by kernel_rfl) (by kernel_rfl) (by kernel_rfl) (fun _ _ _ h => h) (Or.inl ⟨by kernel_rfl, ?hyq25⟩) (by assumption) ?restq25
              case hyq25 => (intro W hSw; (try dsimp only at hSw); go_simp; try with_reducible rfl)
              case' restq25 => try simp only [Act.put, List.setIfInBounds_toArray, List.set_cons_zero, List.set_cons_succ]
              refine wpAnyH_take (i := 25) (oi := ⟨some 75, _, _, _, _, _⟩) (v := ?vq26) rfl (by kernel_rfl) (by kernel_rfl) (by kernel_rfl) (fun _ _ _ h => h) (Or.inl ⟨by kernel_rfl, ?hyq26⟩) (by assumption) ?restq26
              case hyq26 => (intro W hSw; (try dsimp only at hSw); go_simp; try with_reducible rfl)
              case' restq26 => try simp only [Act.put, List.setIfInBounds_toArray, List.set_cons_zero, List.set_cons_succ]
              refine wpAnyH_take (i := 26) (oi := ⟨some 76, _, _, _, _, _⟩) (v := ?vq27) rfl (by kernel_rfl) (by kernel_rfl) (by kernel_rfl) (fun _ _ _ h => h) (Or.inl ⟨by kernel_rfl, ?hyq27⟩) (by assumption) ?restq27
              case hyq27 => (intro W hSw; obtain ⟨c0, c1, c2, c3, c4, c5, c6, c7, c8, c9, c10, c11⟩ := HB.out W hSw; clear hSw; (try dsimp only at hSw); go_simp; try with_reducible rfl)
              case' restq27 => try simp only [Act.put, List.setIfInBounds_toArray, List.set_cons_zero, List.set_cons_succ]
              refine wpAnyH_take (i := 27) (oi := ⟨some 77, _, _, _, _, _⟩) (v := ?vq28) rfl (by kernel_rfl) (by kernel_rfl) (by kernel_rfl) (fun _ _ _ h => h) (Or.inl ⟨by kernel_rfl, ?hyq28⟩) (by assumption) ?restq28
              case hyq28 => (intro W hSw; (try dsimp only at hSw); go_simp; try with_reducible rfl)
              case' restq28 => try simp only [Act.put, List.setIfInBounds_toArray, List.set_cons_zero, List.set_cons_succ]
              refine wpAnyH_take (i := 28) (oi := ⟨some 78, _, _, _, _, _⟩) (v := ?vq29) rfl (by kernel_rfl) (by kernel_rfl) (by kernel_rfl) (fun _ _ _ h => h) (Or.inl ⟨by kernel_rfl, ?hyq29⟩) (by assumption) ?restq29
              case hyq29 => (intro W hSw; (try dsimp only at hSw); go_simp; try with_reducible rfl)
              case' restq29 => try simp only [Act.put, List.setIfInBounds_toArray, List.set_cons_zero, List.set_cons_succ]
              refine wpAnyH_take (i := 29) (oi := ⟨some 79, _, _, _, _, _⟩) (v := ?vq30) rfl (by kernel_rfl) (by kernel_rfl) (by kernel_rfl) (fun _ _ _ h => h) (Or.inl ⟨by kernel_rfl, ?hyq30⟩) (by assumption) ?restq30
              case hyq30 => (intro W hSw; have g3 := HV3.out W hSw; clear hSw; (try dsimp only at hSw); go_simp; try with_reducible rfl)
              case' restq30 => try simp only [Act.put, List.setIfInBounds_toArray, List.set_cons_zero, List.set_cons_succ]
              refine wpAnyH_take (i := 30) (oi := ⟨some 80, _, _, _, _, _⟩) (v := ?vq31) rfl (by kernel_rfl) (by kernel_rfl) (by kernel_rfl) (fun _ _ _ h => h) (Or.inl ⟨by kernel_rfl, ?hyq31⟩) (by assumption) ?restq31
              case hyq31 => (intro W hSw; (try dsimp only at hSw); go_simp; try with_reducible rfl)
              case' restq31 => try simp only [Act.put, List.setIfInBounds_toArray, List.set_cons_zero, List.set_cons_succ]
              refine wpAnyH_ready (rs := [31]) (by kernel_rfl) (by simp) ?_
              refine AllReadyH.cons (o := ⟨some 81, _, _, _, _, _⟩) rfl (fun K hK => ?_) AllReadyH.nil
              clear hA0 hA1 hA2 hA3
              go_simp
              have hS1 := hS0.alloc hS0.size (.cells #[.int .i64 (((y0 * 101 + y1) * 101 + y2) * 101 + y3)] 3)
              refine hK.out _ _ hS1 (fun hHeld => ?_)
              clear hK hHeld K
              try simp only [Act.put, List.setIfInBounds_toArray, List.set_cons_zero, List.set_cons_succ]
              refine wpAnyH_ready (rs := [32]) (by kernel_rfl) (by simp) ?_
              refine AllReadyH.cons (o := ⟨some 82, _, _, _, _, _⟩) rfl (fun K hK => ?_) AllReadyH.nil
              refine Try.stepI hown1 (((y0 * 101 + y1) * 101 + y2) * 101 + y3) rfl _ _ rfl rfl rfl (by rw [List.length_map, List.length_range]; omega) hS0.size ?_
              intro v2 w2 hown2 hb2
              have hS2 := hS0.trans hb2
              refine hK.out _ _ hS2 (fun hHeld => ?_)
              clear hK hHeld K
              try simp only [Act.put, List.setIfInBounds_toArray, List.set_cons_zero, List.set_cons_succ]
              refine wpAnyH_take (i := 33) (oi := ⟨some 7, _, _, _, _, _⟩) (v := ?vq32) rfl (by kernel_rfl) (by kernel_rfl) (by kernel_rfl) (fun _ _ _ h => h) (Or.inl ⟨by kernel_rfl, ?hyq32⟩) (by assumption) ?restq32
              case hyq32 => (intro W hSw; (try dsimp only at hSw); go_simp; try with_reducible rfl)
              case' restq32 => try simp only [Act.put, List.setIfInBounds_toArray, List.set_cons_zero, List.set_cons_succ]
              refine wpAnyH_done (by kernel_rfl) ?_ _
              skip
              clear hw1 hw2 hw3 hw4 hw5 hw6
              rw [← HY0.out, ← HY1.out, ← HY2.out, ← HY3.out, ← colP4, range_snoc] at hown2
              go_wp2
              go_roundw
              case rel => exact ⟨k + 1, by omega, by go_num, hown2, hS2⟩
              case measure => simp [intOf]; omega
            · obtain rfl : k = x.p0.v.length := by omega
              obtain ⟨A, cap, rfl⟩ := Own.slice hown
              have hl : ((List.range x.p0.v.length).map fun t => colP x t 4) = colL x := rfl
              rw [hl] at hown ⊢
              have kb := k0.trans (hbw.mono k0.size)
              clear hl
              go_wp2
              go_ret2
              have hslr : SlI wr (.slice A (colL x).length cap) (colL x) := by
                rcases hown.2 with ⟨h1, h2⟩ | ⟨g, cap', cur, h1, _, _, hnc, _⟩
                · injection h1 with h1 h3 h4
                  subst h1
                  subst h4
                  exact ⟨_, _, rfl, by omega, Own.rd encI_len hown⟩
                · injection h1 with h1 h3 h4
                  subst h4
                  exact ⟨_, _, rfl, hnc, Own.rd encI_len hown⟩
              refine ⟨.slice A (colL x).length cap, by rw [HE0.out]; rfl, ?_, kb⟩
              unfold colR
              rw [if_pos HE0.out]
              exact hslr
end Go.Proofs
