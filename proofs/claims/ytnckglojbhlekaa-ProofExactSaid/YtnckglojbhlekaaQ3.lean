/- Colors, the program's. -/
import Derived.Test.YtnckglojbhlekaaQ2
import Derived.Deep.RegionHeld3
import Derived.StillTailTactics
set_option linter.unusedVariables false
set_option linter.unusedSimpArgs false
namespace Go.Proofs
open Go.RowKit Go.Proofs.Mp

/-- what Colors leaves -/
def ColPost (x : P4) (w : World) (e : Ending) (w' : World) : Prop := ∃ v, e = .returned (.tuple #[v, .int .i64 (colE x)]) ∧ SlI w' v (colR x) ∧ Below w.heap.size w w'
/-- the colors while they are being counted: those of the cells before i are done, that of i for j plates -/
def stL (x : P4) (n i j : Nat) : List Int := (List.range n).map fun t => if t < i then colP x t 4 else if t = i then colP x i j else 0
theorem stL_len (x : P4) (n i j : Nat) : (stL x n i j).length = n := by simp [stL]
theorem stL_start (x : P4) (n : Nat) : List.replicate n (0 : Int) = stL x n 0 0 := by
  apply List.ext_getElem (by simp [stL])
  intro t h1 h2
  simp [stL, colP]
theorem stL_next (x : P4) (n i : Nat) : stL x n i 4 = stL x n (i + 1) 0 := by
  apply List.ext_getElem (by simp [stL])
  intro t h1 h2
  simp only [stL, List.getElem_map, List.getElem_range, colP]
  by_cases e : t < i
  · rw [if_pos e, if_pos (by omega)]
  · by_cases e2 : t = i
    · rw [if_neg e, if_pos e2, if_pos (by omega), e2]
    · rw [if_neg e, if_neg e2, if_neg (by omega)]; split <;> rfl
theorem stL_get {x : P4} {n i j : Nat} (h : i < n) : (stL x n i j)[i]! = colP x i j := by
  rw [getElem!_pos _ i (by rw [stL_len]; exact h)]
  simp [stL]
theorem stL_set {x : P4} {n i j : Nat} (h : i < n) : (stL x n i j).set i (colP x i (j + 1)) = stL x n i (j + 1) := by
  apply List.ext_getElem (by simp [stL])
  intro t h1 h2
  rw [List.getElem_set]
  simp only [stL, List.getElem_map, List.getElem_range]
  by_cases e : i = t
  · subst e; simp
  · rw [if_neg e]
    by_cases e2 : t < i
    · rw [if_pos e2, if_pos e2]
    · rw [if_neg e2, if_neg e2, if_neg (by omega), if_neg (by omega)]
theorem stL_done (x : P4) : stL x x.p0.v.length x.p0.v.length 0 = colL x := by
  apply List.ext_getElem (by simp [stL, colL])
  intro t h1 h2
  simp only [stL_len] at h1
  simp [stL, colL, h1]

theorem flat_rep : ∀ n : Nat, List.replicate n (Value.int .i64 0) = (List.replicate n (0 : Int)).flatMap Mp.encI
  | 0 => rfl
  | n + 1 => by rw [List.replicate_succ, List.replicate_succ, List.flatMap_cons, flat_rep n]; rfl
/-- make([]int, n) -/
theorem Try.makeI {w : World} {ops : Array Oper} {rest : List Oper} {o : Oper} {a : Act} {Q : Exit → Act → World → Prop}
    (hg : o.guard = none) (l c : Operand) (hop : o.op = Op.makeSlice 22 l c) (kl kc : IntKind) (L C : Int) (n : Nat) (hl : a.eval l = .int kl L) (hc : a.eval c = .int kc C) (hL : L = (n : Int)) (hC : C = (n : Int)) (hn : n ≤ 1000000000)
    (hK : ∀ w', OwnI 3 w' w.heap.size (.slice (some ⟨w.heap.size, 0, none⟩) n n) (List.replicate n 0) → Below w.heap.size w w' → wpList Try.prog ops Q rest (a.put o.dst (.slice (some ⟨w.heap.size, 0, none⟩) n n)) w') :
    wpList Try.prog ops Q (o :: rest) a w := by
  obtain ⟨i0, hi, hz0, hz1, hz2⟩ := Mp.info_parts Try.infoI
  refine wpList_make_full w hg l c 22 hop w.heap.size 3 i0 _ 1 Try.underlying22 hi hz0 hz1 kl kc L C n hl hc hL hC (by rw [hz2]; omega) (by unfold maxLen; omega) (Nat.le_refl _) ?_
  intro w' ho hgr
  refine hK w' ?_ ((Below.refl _ _).grown hgr (Nat.le_refl _) (fun k hk => by cases hk))
  unfold OwnI Own
  rw [List.length_replicate]
  have e : (madeCells (Value.int IntKind.i64 0).cells (n * 1)).toList = (List.replicate n (0 : Int)).flatMap Mp.encI := by
    rw [Nat.mul_one, show (Value.int IntKind.i64 0).cells = #[.int .i64 0] from rfl, toList_madeCells_one]
    exact flat_rep n
  rw [e] at ho
  exact ho

theorem colPost_err {x : P4} {w w' : World} {r : Int} (h : colE x = r) (hn : r ≠ 0) (hb : Below w.heap.size w w') : ColPost x w (.returned (.tuple #[.slice none 0 0, .int .i64 r])) w' := by
  subst h
  refine ⟨_, rfl, ?_, hb⟩
  rw [show colR x = [] from by unfold colR; rw [if_neg hn]]
  exact ⟨_, _, rfl, Nat.le_refl _, Rd.nil _⟩

set_option maxRecDepth 100000 in
set_option maxHeartbeats 8000000 in
theorem colors_any (x : P4) (w : World) (hf : Few4 x 1000000) (hR : Rd4 w x) : Calls Try.prog 11 #[agg4 x] w (ColPost x w) := by
  have C := Lib.hid (fun (j : Nat) (W : World) (hb : Below w.heap.size w W) => plates_check (x.get j) W (hf j) ((hR j).below hb))
  have hi := fun W => Try.index25 x W
  unfold agg4 aggP at hi
  have HI := Lib.hid hi
  clear hi
  unfold agg4
  have k0 := bw1 w (.cells #[.int .i64 x.p0.w, .int .i64 x.p0.h, .slice x.p0.a x.p0.v.length x.p0.c, .int .i64 x.p1.w, .int .i64 x.p1.h, .slice x.p1.a x.p1.v.length x.p1.c, .int .i64 x.p2.w, .int .i64 x.p2.h, .slice x.p2.a x.p2.v.length x.p2.c, .int .i64 x.p3.w, .int .i64 x.p3.h, .slice x.p3.a x.p3.v.length x.p3.c] 25)
  have hs0 : (w.alloc (.cells #[.int .i64 x.p0.w, .int .i64 x.p0.h, .slice x.p0.a x.p0.v.length x.p0.c, .int .i64 x.p1.w, .int .i64 x.p1.h, .slice x.p1.a x.p1.v.length x.p1.c, .int .i64 x.p2.w, .int .i64 x.p2.h, .slice x.p2.a x.p2.v.length x.p2.c, .int .i64 x.p3.w, .int .i64 x.p3.h, .slice x.p3.a x.p3.v.length x.p3.c] 25)).heap.size = w.heap.size + 1 := by simp
  have hc0 : (w.alloc (.cells #[.int .i64 x.p0.w, .int .i64 x.p0.h, .slice x.p0.a x.p0.v.length x.p0.c, .int .i64 x.p1.w, .int .i64 x.p1.h, .slice x.p1.a x.p1.v.length x.p1.c, .int .i64 x.p2.w, .int .i64 x.p2.h, .slice x.p2.a x.p2.v.length x.p2.c, .int .i64 x.p3.w, .int .i64 x.p3.h, .slice x.p3.a x.p3.v.length x.p3.c] 25)).cell? ⟨w.heap.size, 0, none⟩ = some (.int .i64 x.p0.w) ∧ (w.alloc (.cells #[.int .i64 x.p0.w, .int .i64 x.p0.h, .slice x.p0.a x.p0.v.length x.p0.c, .int .i64 x.p1.w, .int .i64 x.p1.h, .slice x.p1.a x.p1.v.length x.p1.c, .int .i64 x.p2.w, .int .i64 x.p2.h, .slice x.p2.a x.p2.v.length x.p2.c, .int .i64 x.p3.w, .int .i64 x.p3.h, .slice x.p3.a x.p3.v.length x.p3.c] 25)).cell? ⟨w.heap.size, 1, none⟩ = some (.int .i64 x.p0.h) ∧ (w.alloc (.cells #[.int .i64 x.p0.w, .int .i64 x.p0.h, .slice x.p0.a x.p0.v.length x.p0.c, .int .i64 x.p1.w, .int .i64 x.p1.h, .slice x.p1.a x.p1.v.length x.p1.c, .int .i64 x.p2.w, .int .i64 x.p2.h, .slice x.p2.a x.p2.v.length x.p2.c, .int .i64 x.p3.w, .int .i64 x.p3.h, .slice x.p3.a x.p3.v.length x.p3.c] 25)).cell? ⟨w.heap.size, 2, none⟩ = some (.slice x.p0.a x.p0.v.length x.p0.c) ∧ (w.alloc (.cells #[.int .i64 x.p0.w, .int .i64 x.p0.h, .slice x.p0.a x.p0.v.length x.p0.c, .int .i64 x.p1.w, .int .i64 x.p1.h, .slice x.p1.a x.p1.v.length x.p1.c, .int .i64 x.p2.w, .int .i64 x.p2.h, .slice x.p2.a x.p2.v.length x.p2.c, .int .i64 x.p3.w, .int .i64 x.p3.h, .slice x.p3.a x.p3.v.length x.p3.c] 25)).cell? ⟨w.heap.size, 3, none⟩ = some (.int .i64 x.p1.w) ∧ (w.alloc (.cells #[.int .i64 x.p0.w, .int .i64 x.p0.h, .slice x.p0.a x.p0.v.length x.p0.c, .int .i64 x.p1.w, .int .i64 x.p1.h, .slice x.p1.a x.p1.v.length x.p1.c, .int .i64 x.p2.w, .int .i64 x.p2.h, .slice x.p2.a x.p2.v.length x.p2.c, .int .i64 x.p3.w, .int .i64 x.p3.h, .slice x.p3.a x.p3.v.length x.p3.c] 25)).cell? ⟨w.heap.size, 4, none⟩ = some (.int .i64 x.p1.h) ∧ (w.alloc (.cells #[.int .i64 x.p0.w, .int .i64 x.p0.h, .slice x.p0.a x.p0.v.length x.p0.c, .int .i64 x.p1.w, .int .i64 x.p1.h, .slice x.p1.a x.p1.v.length x.p1.c, .int .i64 x.p2.w, .int .i64 x.p2.h, .slice x.p2.a x.p2.v.length x.p2.c, .int .i64 x.p3.w, .int .i64 x.p3.h, .slice x.p3.a x.p3.v.length x.p3.c] 25)).cell? ⟨w.heap.size, 5, none⟩ = some (.slice x.p1.a x.p1.v.length x.p1.c) ∧ (w.alloc (.cells #[.int .i64 x.p0.w, .int .i64 x.p0.h, .slice x.p0.a x.p0.v.length x.p0.c, .int .i64 x.p1.w, .int .i64 x.p1.h, .slice x.p1.a x.p1.v.length x.p1.c, .int .i64 x.p2.w, .int .i64 x.p2.h, .slice x.p2.a x.p2.v.length x.p2.c, .int .i64 x.p3.w, .int .i64 x.p3.h, .slice x.p3.a x.p3.v.length x.p3.c] 25)).cell? ⟨w.heap.size, 6, none⟩ = some (.int .i64 x.p2.w) ∧ (w.alloc (.cells #[.int .i64 x.p0.w, .int .i64 x.p0.h, .slice x.p0.a x.p0.v.length x.p0.c, .int .i64 x.p1.w, .int .i64 x.p1.h, .slice x.p1.a x.p1.v.length x.p1.c, .int .i64 x.p2.w, .int .i64 x.p2.h, .slice x.p2.a x.p2.v.length x.p2.c, .int .i64 x.p3.w, .int .i64 x.p3.h, .slice x.p3.a x.p3.v.length x.p3.c] 25)).cell? ⟨w.heap.size, 7, none⟩ = some (.int .i64 x.p2.h) ∧ (w.alloc (.cells #[.int .i64 x.p0.w, .int .i64 x.p0.h, .slice x.p0.a x.p0.v.length x.p0.c, .int .i64 x.p1.w, .int .i64 x.p1.h, .slice x.p1.a x.p1.v.length x.p1.c, .int .i64 x.p2.w, .int .i64 x.p2.h, .slice x.p2.a x.p2.v.length x.p2.c, .int .i64 x.p3.w, .int .i64 x.p3.h, .slice x.p3.a x.p3.v.length x.p3.c] 25)).cell? ⟨w.heap.size, 8, none⟩ = some (.slice x.p2.a x.p2.v.length x.p2.c) ∧ (w.alloc (.cells #[.int .i64 x.p0.w, .int .i64 x.p0.h, .slice x.p0.a x.p0.v.length x.p0.c, .int .i64 x.p1.w, .int .i64 x.p1.h, .slice x.p1.a x.p1.v.length x.p1.c, .int .i64 x.p2.w, .int .i64 x.p2.h, .slice x.p2.a x.p2.v.length x.p2.c, .int .i64 x.p3.w, .int .i64 x.p3.h, .slice x.p3.a x.p3.v.length x.p3.c] 25)).cell? ⟨w.heap.size, 9, none⟩ = some (.int .i64 x.p3.w) ∧ (w.alloc (.cells #[.int .i64 x.p0.w, .int .i64 x.p0.h, .slice x.p0.a x.p0.v.length x.p0.c, .int .i64 x.p1.w, .int .i64 x.p1.h, .slice x.p1.a x.p1.v.length x.p1.c, .int .i64 x.p2.w, .int .i64 x.p2.h, .slice x.p2.a x.p2.v.length x.p2.c, .int .i64 x.p3.w, .int .i64 x.p3.h, .slice x.p3.a x.p3.v.length x.p3.c] 25)).cell? ⟨w.heap.size, 10, none⟩ = some (.int .i64 x.p3.h) ∧ (w.alloc (.cells #[.int .i64 x.p0.w, .int .i64 x.p0.h, .slice x.p0.a x.p0.v.length x.p0.c, .int .i64 x.p1.w, .int .i64 x.p1.h, .slice x.p1.a x.p1.v.length x.p1.c, .int .i64 x.p2.w, .int .i64 x.p2.h, .slice x.p2.a x.p2.v.length x.p2.c, .int .i64 x.p3.w, .int .i64 x.p3.h, .slice x.p3.a x.p3.v.length x.p3.c] 25)).cell? ⟨w.heap.size, 11, none⟩ = some (.slice x.p3.a x.p3.v.length x.p3.c) := by
    refine ⟨?_, ?_, ?_, ?_, ?_, ?_, ?_, ?_, ?_, ?_, ?_, ?_⟩ <;> simp
  go_enter Try.func11, Try.ntmps11
  go_wp2_with fail
  generalize (w.alloc (.cells #[.int .i64 x.p0.w, .int .i64 x.p0.h, .slice x.p0.a x.p0.v.length x.p0.c, .int .i64 x.p1.w, .int .i64 x.p1.h, .slice x.p1.a x.p1.v.length x.p1.c, .int .i64 x.p2.w, .int .i64 x.p2.h, .slice x.p2.a x.p2.v.length x.p2.c, .int .i64 x.p3.w, .int .i64 x.p3.h, .slice x.p3.a x.p3.v.length x.p3.c] 25)) = w0 at *
  have HB : Hid (∀ W, Below w0.heap.size w0 W → W.cell? ⟨w.heap.size, 0, none⟩ = some (.int .i64 x.p0.w) ∧ W.cell? ⟨w.heap.size, 1, none⟩ = some (.int .i64 x.p0.h) ∧ W.cell? ⟨w.heap.size, 2, none⟩ = some (.slice x.p0.a x.p0.v.length x.p0.c) ∧ W.cell? ⟨w.heap.size, 3, none⟩ = some (.int .i64 x.p1.w) ∧ W.cell? ⟨w.heap.size, 4, none⟩ = some (.int .i64 x.p1.h) ∧ W.cell? ⟨w.heap.size, 5, none⟩ = some (.slice x.p1.a x.p1.v.length x.p1.c) ∧ W.cell? ⟨w.heap.size, 6, none⟩ = some (.int .i64 x.p2.w) ∧ W.cell? ⟨w.heap.size, 7, none⟩ = some (.int .i64 x.p2.h) ∧ W.cell? ⟨w.heap.size, 8, none⟩ = some (.slice x.p2.a x.p2.v.length x.p2.c) ∧ W.cell? ⟨w.heap.size, 9, none⟩ = some (.int .i64 x.p3.w) ∧ W.cell? ⟨w.heap.size, 10, none⟩ = some (.int .i64 x.p3.h) ∧ W.cell? ⟨w.heap.size, 11, none⟩ = some (.slice x.p3.a x.p3.v.length x.p3.c)) := Lib.hid (fun W hb => by
    obtain ⟨c0, c1, c2, c3, c4, c5, c6, c7, c8, c9, c10, c11⟩ := hc0
    have hlt : w.heap.size < w0.heap.size := by omega
    exact ⟨(hb.cell (p := ⟨w.heap.size, 0, none⟩) hlt).trans c0, (hb.cell (p := ⟨w.heap.size, 1, none⟩) hlt).trans c1, (hb.cell (p := ⟨w.heap.size, 2, none⟩) hlt).trans c2, (hb.cell (p := ⟨w.heap.size, 3, none⟩) hlt).trans c3, (hb.cell (p := ⟨w.heap.size, 4, none⟩) hlt).trans c4, (hb.cell (p := ⟨w.heap.size, 5, none⟩) hlt).trans c5, (hb.cell (p := ⟨w.heap.size, 6, none⟩) hlt).trans c6, (hb.cell (p := ⟨w.heap.size, 7, none⟩) hlt).trans c7, (hb.cell (p := ⟨w.heap.size, 8, none⟩) hlt).trans c8, (hb.cell (p := ⟨w.heap.size, 9, none⟩) hlt).trans c9, (hb.cell (p := ⟨w.heap.size, 10, none⟩) hlt).trans c10, (hb.cell (p := ⟨w.heap.size, 11, none⟩) hlt).trans c11⟩)
  have HS := Lib.hid hs0
  clear hc0 hs0
  go_loopw [3, 12] (fun e i wr => ∃ k : Nat, k ≤ 4 ∧ i = .int .i64 k ∧ e = .int .i64 0 ∧ (∀ j, j < k → chk (x.get j) = 0) ∧ Below w0.heap.size w0 wr) (fun _ i _ => 4 - (intOf i).toNat)
  case atStart => exact ⟨0, by omega, rfl, rfl, fun j hj => by omega, Below.refl _ _⟩
  case round =>
    obtain ⟨k, hk, rfl, rfl, hpre, hbw⟩ := hrel
    obtain ⟨c0, c1, c2, c3, c4, c5, c6, c7, c8, c9, c10, c11⟩ := HB.out wr hbw
    have hbw' := k0.trans (hbw.mono k0.size)
    have HPRE := Lib.hid hpre
    clear hpre
    by_cases h4 : k < 4
    · have h4' : k = 0 ∨ k = 1 ∨ k = 2 ∨ k = 3 := by omega
      clear h4 hk
      rcases h4' with rfl | rfl | rfl | rfl
      · obtain ⟨hi0, hi1, hi2, hi3⟩ := HI.out wr
        go_wp2_with fail
        clear hi0 hi1 hi2 hi3
        refine (C.out 0 _ (hbw'.alloc hbw'.size _)).mono ?_
        rintro e w1 ⟨rfl, hb1⟩
        have hbw1 := (hbw.alloc hbw.size _).trans (hb1.mono (by have := hbw.size; simp; omega))
        have kb := k0.trans (hbw1.mono k0.size)
        clear c0 c1 c2 c3 c4 c5 c6 c7 c8 c9 c10 c11 hb1 hbw
        by_cases hz : chk (x.get 0) = 0
        · rw [hz]
          have HZ := Lib.hid hz
          clear hz
          go_wp2
          go_roundw
          case rel => exact ⟨0 + 1, by omega, by go_num, by first | rfl | trivial, fun j hj => by
            rcases Nat.lt_succ_iff_lt_or_eq.1 hj with h | rfl
            · exact HPRE.out j h
            · exact HZ.out, hbw1⟩
          case measure => simp [intOf]
        · have HZ := Lib.hid hz
          have HE := Lib.hid (colE_bad (by omega) HPRE.out hz)
          obtain ⟨r, hr⟩ : ∃ r, chk (x.get 0) = r := ⟨_, rfl⟩
          rw [hr] at hz ⊢
          have HR := Lib.hid hr
          clear hr
          have hrb : (r != 0) = true := by simp [hz]
          go_wp2
          go_ret2
          exact colPost_err (by rw [HE.out, HR.out]) hz kb
      · obtain ⟨hi0, hi1, hi2, hi3⟩ := HI.out wr
        go_wp2_with fail
        clear hi0 hi1 hi2 hi3
        refine (C.out 1 _ (hbw'.alloc hbw'.size _)).mono ?_
        rintro e w1 ⟨rfl, hb1⟩
        have hbw1 := (hbw.alloc hbw.size _).trans (hb1.mono (by have := hbw.size; simp; omega))
        have kb := k0.trans (hbw1.mono k0.size)
        clear c0 c1 c2 c3 c4 c5 c6 c7 c8 c9 c10 c11 hb1 hbw
        by_cases hz : chk (x.get 1) = 0
        · rw [hz]
          have HZ := Lib.hid hz
          clear hz
          go_wp2
          go_roundw
          case rel => exact ⟨1 + 1, by omega, by go_num, by first | rfl | trivial, fun j hj => by
            rcases Nat.lt_succ_iff_lt_or_eq.1 hj with h | rfl
            · exact HPRE.out j h
            · exact HZ.out, hbw1⟩
          case measure => simp [intOf]
        · have HZ := Lib.hid hz
          have HE := Lib.hid (colE_bad (by omega) HPRE.out hz)
          obtain ⟨r, hr⟩ : ∃ r, chk (x.get 1) = r := ⟨_, rfl⟩
          rw [hr] at hz ⊢
          have HR := Lib.hid hr
          clear hr
          have hrb : (r != 0) = true := by simp [hz]
          go_wp2
          go_ret2
          exact colPost_err (by rw [HE.out, HR.out]) hz kb
      · obtain ⟨hi0, hi1, hi2, hi3⟩ := HI.out wr
        go_wp2_with fail
        clear hi0 hi1 hi2 hi3
        refine (C.out 2 _ (hbw'.alloc hbw'.size _)).mono ?_
        rintro e w1 ⟨rfl, hb1⟩
        have hbw1 := (hbw.alloc hbw.size _).trans (hb1.mono (by have := hbw.size; simp; omega))
        have kb := k0.trans (hbw1.mono k0.size)
        clear c0 c1 c2 c3 c4 c5 c6 c7 c8 c9 c10 c11 hb1 hbw
        by_cases hz : chk (x.get 2) = 0
        · rw [hz]
          have HZ := Lib.hid hz
          clear hz
          go_wp2
          go_roundw
          case rel => exact ⟨2 + 1, by omega, by go_num, by first | rfl | trivial, fun j hj => by
            rcases Nat.lt_succ_iff_lt_or_eq.1 hj with h | rfl
            · exact HPRE.out j h
            · exact HZ.out, hbw1⟩
          case measure => simp [intOf]
        · have HZ := Lib.hid hz
          have HE := Lib.hid (colE_bad (by omega) HPRE.out hz)
          obtain ⟨r, hr⟩ : ∃ r, chk (x.get 2) = r := ⟨_, rfl⟩
          rw [hr] at hz ⊢
          have HR := Lib.hid hr
          clear hr
          have hrb : (r != 0) = true := by simp [hz]
          go_wp2
          go_ret2
          exact colPost_err (by rw [HE.out, HR.out]) hz kb
      · obtain ⟨hi0, hi1, hi2, hi3⟩ := HI.out wr
        go_wp2_with fail
        clear hi0 hi1 hi2 hi3
        refine (C.out 3 _ (hbw'.alloc hbw'.size _)).mono ?_
        rintro e w1 ⟨rfl, hb1⟩
        have hbw1 := (hbw.alloc hbw.size _).trans (hb1.mono (by have := hbw.size; simp; omega))
        have kb := k0.trans (hbw1.mono k0.size)
        clear c0 c1 c2 c3 c4 c5 c6 c7 c8 c9 c10 c11 hb1 hbw
        by_cases hz : chk (x.get 3) = 0
        · rw [hz]
          have HZ := Lib.hid hz
          clear hz
          go_wp2
          go_roundw
          case rel => exact ⟨3 + 1, by omega, by go_num, by first | rfl | trivial, fun j hj => by
            rcases Nat.lt_succ_iff_lt_or_eq.1 hj with h | rfl
            · exact HPRE.out j h
            · exact HZ.out, hbw1⟩
          case measure => simp [intOf]
        · have HZ := Lib.hid hz
          have HE := Lib.hid (colE_bad (by omega) HPRE.out hz)
          obtain ⟨r, hr⟩ : ∃ r, chk (x.get 3) = r := ⟨_, rfl⟩
          rw [hr] at hz ⊢
          have HR := Lib.hid hr
          clear hr
          have hrb : (r != 0) = true := by simp [hz]
          go_wp2
          go_ret2
          exact colPost_err (by rw [HE.out, HR.out]) hz kb
    · obtain rfl : k = 4 := by omega
      have HOK : Hid (Ok4 x) := Lib.hid HPRE.out
      clear h4 hk HPRE hbw'
      generalize wr = wa at *
      rw [show (((4 : Nat) : Int)) = 4 from rfl]
      go_wp2_with fail
      have k1 := k0.trans (hbw.mono k0.size)
      have HB2 : Hid (∀ W, Below wa.heap.size wa W → Below w0.heap.size w0 W) := Lib.hid (fun W hb => hbw.trans (hb.mono hbw.size))
      go_loopw [22] (fun i wr => ∃ k : Nat, k ≤ 4 ∧ i = .int .i64 k ∧ (∀ j, j < k → (x.get j).w = x.p0.w ∧ (x.get j).h = x.p0.h) ∧ Below w0.heap.size w0 wr) (fun i _ => 4 - (intOf i).toNat)
      case atStart => exact ⟨0, by omega, rfl, fun j hj => by omega, hbw⟩
      case round =>
        clear hbw
        obtain ⟨k, hk, rfl, hpre, hbw⟩ := hrel
        obtain ⟨c0, c1, c2, c3, c4, c5, c6, c7, c8, c9, c10, c11⟩ := HB.out wr hbw
        have HPRE := Lib.hid hpre
        clear hpre
        by_cases h4 : k < 4
        · have h4' : k = 0 ∨ k = 1 ∨ k = 2 ∨ k = 3 := by omega
          clear h4 hk
          rcases h4' with rfl | rfl | rfl | rfl
          · obtain ⟨hi0, hi1, hi2, hi3⟩ := HI.out wr
            have hN : ∀ W, (binOp .neq 68 (.agg #[.int .i64 x.p0.w, .int .i64 x.p0.h]) (.agg #[.int .i64 x.p0.w, .int .i64 x.p0.h])).run Try.prog W = .ok (.bool false) W := fun W => by rw [Try.neq68]; simp
            go_wp2_with fail
            clear hi0 hi1 hi2 hi3 c0 c1 c2 c3 c4 c5 c6 c7 c8 c9 c10 c11
            refine wp_region_held_drew (S := fun W : World => Below (wr.alloc (.cells #[.int .i64 x.p0.w, .int .i64 x.p0.h, .slice x.p0.a x.p0.v.length x.p0.c] 24)).drew.heap.size (wr.alloc (.cells #[.int .i64 x.p0.w, .int .i64 x.p0.h, .slice x.p0.a x.p0.v.length x.p0.c] 24)).drew W) (by kernel_rfl) (Below.refl _ _) (fun hHeld => ?_)
            clear hHeld
            have hbw1 : Below w0.heap.size w0 (wr.alloc (.cells #[.int .i64 x.p0.w, .int .i64 x.p0.h, .slice x.p0.a x.p0.v.length x.p0.c] 24)).drew := (hbw.alloc hbw.size _).drew
            have hlt : wr.heap.size < (wr.alloc (.cells #[.int .i64 x.p0.w, .int .i64 x.p0.h, .slice x.p0.a x.p0.v.length x.p0.c] 24)).drew.heap.size := by show _ < (wr.alloc _).heap.size; simp
            have hk3 : (wr.alloc (.cells #[.int .i64 x.p0.w, .int .i64 x.p0.h, .slice x.p0.a x.p0.v.length x.p0.c] 24)).drew.cell? ⟨wr.heap.size, 0, none⟩ = some (.int .i64 x.p0.w) ∧ (wr.alloc (.cells #[.int .i64 x.p0.w, .int .i64 x.p0.h, .slice x.p0.a x.p0.v.length x.p0.c] 24)).drew.cell? ⟨wr.heap.size, 1, none⟩ = some (.int .i64 x.p0.h) ∧ (wr.alloc (.cells #[.int .i64 x.p0.w, .int .i64 x.p0.h, .slice x.p0.a x.p0.v.length x.p0.c] 24)).drew.cell? ⟨wr.heap.size, 2, none⟩ = some (.slice x.p0.a x.p0.v.length x.p0.c) := by
              show (wr.alloc _).cell? _ = _ ∧ (wr.alloc _).cell? _ = _ ∧ (wr.alloc _).cell? _ = _
              refine ⟨?_, ?_, ?_⟩ <;> simp
            generalize (wr.alloc (.cells #[.int .i64 x.p0.w, .int .i64 x.p0.h, .slice x.p0.a x.p0.v.length x.p0.c] 24)).drew = w1 at *
            have HK : Hid (∀ W, Below w1.heap.size w1 W → W.cell? ⟨wr.heap.size, 0, none⟩ = some (.int .i64 x.p0.w) ∧ W.cell? ⟨wr.heap.size, 1, none⟩ = some (.int .i64 x.p0.h) ∧ W.cell? ⟨wr.heap.size, 2, none⟩ = some (.slice x.p0.a x.p0.v.length x.p0.c)) := Lib.hid (fun W hb => by
              obtain ⟨g0, g1, g2⟩ := hk3
              exact ⟨(hb.cell (p := ⟨wr.heap.size, 0, none⟩) hlt).trans g0, (hb.cell (p := ⟨wr.heap.size, 1, none⟩) hlt).trans g1, (hb.cell (p := ⟨wr.heap.size, 2, none⟩) hlt).trans g2⟩)
            have HB1 : Hid (∀ W, Below w1.heap.size w1 W → W.cell? ⟨w.heap.size, 0, none⟩ = some (.int .i64 x.p0.w) ∧ W.cell? ⟨w.heap.size, 1, none⟩ = some (.int .i64 x.p0.h) ∧ W.cell? ⟨w.heap.size, 2, none⟩ = some (.slice x.p0.a x.p0.v.length x.p0.c) ∧ W.cell? ⟨w.heap.size, 3, none⟩ = some (.int .i64 x.p1.w) ∧ W.cell? ⟨w.heap.size, 4, none⟩ = some (.int .i64 x.p1.h) ∧ W.cell? ⟨w.heap.size, 5, none⟩ = some (.slice x.p1.a x.p1.v.length x.p1.c) ∧ W.cell? ⟨w.heap.size, 6, none⟩ = some (.int .i64 x.p2.w) ∧ W.cell? ⟨w.heap.size, 7, none⟩ = some (.int .i64 x.p2.h) ∧ W.cell? ⟨w.heap.size, 8, none⟩ = some (.slice x.p2.a x.p2.v.length x.p2.c) ∧ W.cell? ⟨w.heap.size, 9, none⟩ = some (.int .i64 x.p3.w) ∧ W.cell? ⟨w.heap.size, 10, none⟩ = some (.int .i64 x.p3.h) ∧ W.cell? ⟨w.heap.size, 11, none⟩ = some (.slice x.p3.a x.p3.v.length x.p3.c)) := Lib.hid (fun W hb => HB.out W (hbw1.trans (hb.mono hbw1.size)))
            have hS0 : (fun W : World => Below w1.heap.size w1 W) w1 := Below.refl _ _
            clear hk3 hlt hbw
            have hG := Try.guard68
            refine wpAnyH_take (i := 0) (oi := ⟨some 25, _, _, _, _, _⟩) (v := ?vs0t1) rfl (by kernel_rfl) (by kernel_rfl) (by kernel_rfl) (fun _ _ _ h => h) (Or.inl ⟨by kernel_rfl, ?hys0t1⟩) (by assumption) ?rests0t1
            case hys0t1 => (intro W hSw; obtain ⟨e0, e1, e2⟩ := HK.out W hSw; clear hSw; (try dsimp only at hSw); go_simp; try with_reducible rfl)
            case' rests0t1 => try simp only [Act.put, List.setIfInBounds_toArray, List.set_cons_zero, List.set_cons_succ]
            refine wpAnyH_take (i := 2) (oi := ⟨some 27, _, _, _, _, _⟩) (v := ?vs0t2) rfl (by kernel_rfl) (by kernel_rfl) (by kernel_rfl) (fun _ _ _ h => h) (Or.inl ⟨by kernel_rfl, ?hys0t2⟩) (by assumption) ?rests0t2
            case hys0t2 => (intro W hSw; (try dsimp only at hSw); go_simp; try with_reducible rfl)
            case' rests0t2 => try simp only [Act.put, List.setIfInBounds_toArray, List.set_cons_zero, List.set_cons_succ]
            refine wpAnyH_take (i := 3) (oi := ⟨some 28, _, _, _, _, _⟩) (v := ?vs0t3) rfl (by kernel_rfl) (by kernel_rfl) (by kernel_rfl) (fun _ _ _ h => h) (Or.inl ⟨by kernel_rfl, ?hys0t3⟩) (by assumption) ?rests0t3
            case hys0t3 => (intro W hSw; obtain ⟨c0, c1, c2, _⟩ := HB1.out W hSw; clear hSw; (try dsimp only at hSw); go_simp; try with_reducible rfl)
            case' rests0t3 => try simp only [Act.put, List.setIfInBounds_toArray, List.set_cons_zero, List.set_cons_succ]
            refine wpAnyH_ready (rs := [1]) (by kernel_rfl) (by simp) ?_
            refine AllReadyH.cons (o := ⟨some 26, _, _, _, _, _⟩) rfl (fun K hK => ?_) AllReadyH.nil
            go_simp
            go_at_call 27
            refine (size_of x.p0 _).mono ?_
            rintro e Ws0t1 ⟨rfl, hbWs0t1⟩
            have hSWs0t1 := hS0.trans (hbWs0t1.mono hS0.size)
            try clear hS0
            clear hbWs0t1
            go_wp2_with fail
            refine hK.out _ _ hSWs0t1 (fun hHeld => ?_)
            clear hK hHeld K
            try simp only [Act.put, List.setIfInBounds_toArray, List.set_cons_zero, List.set_cons_succ]
            refine wpAnyH_ready (rs := [4]) (by kernel_rfl) (by simp) ?_
            refine AllReadyH.cons (o := ⟨some 29, _, _, _, _, _⟩) rfl (fun K hK => ?_) AllReadyH.nil
            go_simp
            go_at_call 27
            refine (size_of x.p0 _).mono ?_
            rintro e Ws0t2 ⟨rfl, hbWs0t2⟩
            have hSWs0t2 := hSWs0t1.trans (hbWs0t2.mono hSWs0t1.size)
            try clear hSWs0t1
            clear hbWs0t2
            go_wp2_with fail
            refine hK.out _ _ hSWs0t2 (fun hHeld => ?_)
            clear hK hHeld K
            try simp only [Act.put, List.setIfInBounds_toArray, List.set_cons_zero, List.set_cons_succ]
            refine wpAnyH_take (i := 5) (oi := ⟨some 30, _, _, _, _, _⟩) (v := ?vs0t4) rfl (by kernel_rfl) (by kernel_rfl) (by kernel_rfl) (fun _ _ _ h => h) (Or.inl ⟨by kernel_rfl, ?hys0t4⟩) (by assumption) ?rests0t4
            case hys0t4 => (intro W hSw; (try dsimp only at hSw); go_simp; try with_reducible rfl)
            case' rests0t4 => try simp only [Act.put, List.setIfInBounds_toArray, List.set_cons_zero, List.set_cons_succ]
            refine wpAnyH_done (by kernel_rfl) ?_ _
            have hS9 := hSWs0t2
            clear hN hG
            have hbw2 := hbw1.trans (hS9.mono hbw1.size)
            go_wp2
            go_roundw
            case rel => exact ⟨0 + 1, by omega, by go_num, fun j hj => by
              obtain rfl : j = 0 := by omega
              exact ⟨rfl, rfl⟩, hbw2⟩
            case measure => simp [intOf]
          · obtain ⟨hi0, hi1, hi2, hi3⟩ := HI.out wr
            by_cases he : x.p1.w = x.p0.w ∧ x.p1.h = x.p0.h
            · have HE := Lib.hid he
              have hN : ∀ W, (binOp .neq 68 (.agg #[.int .i64 x.p1.w, .int .i64 x.p1.h]) (.agg #[.int .i64 x.p0.w, .int .i64 x.p0.h])).run Try.prog W = .ok (.bool false) W := fun W => by rw [Try.neq68]; simp [he]
              clear he
              go_wp2_with fail
              clear hi0 hi1 hi2 hi3 c0 c1 c2 c3 c4 c5 c6 c7 c8 c9 c10 c11
              refine wp_region_held_drew (S := fun W : World => Below (wr.alloc (.cells #[.int .i64 x.p1.w, .int .i64 x.p1.h, .slice x.p1.a x.p1.v.length x.p1.c] 24)).drew.heap.size (wr.alloc (.cells #[.int .i64 x.p1.w, .int .i64 x.p1.h, .slice x.p1.a x.p1.v.length x.p1.c] 24)).drew W) (by kernel_rfl) (Below.refl _ _) (fun hHeld => ?_)
              clear hHeld
              have hbw1 : Below w0.heap.size w0 (wr.alloc (.cells #[.int .i64 x.p1.w, .int .i64 x.p1.h, .slice x.p1.a x.p1.v.length x.p1.c] 24)).drew := (hbw.alloc hbw.size _).drew
              have hlt : wr.heap.size < (wr.alloc (.cells #[.int .i64 x.p1.w, .int .i64 x.p1.h, .slice x.p1.a x.p1.v.length x.p1.c] 24)).drew.heap.size := by show _ < (wr.alloc _).heap.size; simp
              have hk3 : (wr.alloc (.cells #[.int .i64 x.p1.w, .int .i64 x.p1.h, .slice x.p1.a x.p1.v.length x.p1.c] 24)).drew.cell? ⟨wr.heap.size, 0, none⟩ = some (.int .i64 x.p1.w) ∧ (wr.alloc (.cells #[.int .i64 x.p1.w, .int .i64 x.p1.h, .slice x.p1.a x.p1.v.length x.p1.c] 24)).drew.cell? ⟨wr.heap.size, 1, none⟩ = some (.int .i64 x.p1.h) ∧ (wr.alloc (.cells #[.int .i64 x.p1.w, .int .i64 x.p1.h, .slice x.p1.a x.p1.v.length x.p1.c] 24)).drew.cell? ⟨wr.heap.size, 2, none⟩ = some (.slice x.p1.a x.p1.v.length x.p1.c) := by
                show (wr.alloc _).cell? _ = _ ∧ (wr.alloc _).cell? _ = _ ∧ (wr.alloc _).cell? _ = _
                refine ⟨?_, ?_, ?_⟩ <;> simp
              generalize (wr.alloc (.cells #[.int .i64 x.p1.w, .int .i64 x.p1.h, .slice x.p1.a x.p1.v.length x.p1.c] 24)).drew = w1 at *
              have HK : Hid (∀ W, Below w1.heap.size w1 W → W.cell? ⟨wr.heap.size, 0, none⟩ = some (.int .i64 x.p1.w) ∧ W.cell? ⟨wr.heap.size, 1, none⟩ = some (.int .i64 x.p1.h) ∧ W.cell? ⟨wr.heap.size, 2, none⟩ = some (.slice x.p1.a x.p1.v.length x.p1.c)) := Lib.hid (fun W hb => by
                obtain ⟨g0, g1, g2⟩ := hk3
                exact ⟨(hb.cell (p := ⟨wr.heap.size, 0, none⟩) hlt).trans g0, (hb.cell (p := ⟨wr.heap.size, 1, none⟩) hlt).trans g1, (hb.cell (p := ⟨wr.heap.size, 2, none⟩) hlt).trans g2⟩)
              have HB1 : Hid (∀ W, Below w1.heap.size w1 W → W.cell? ⟨w.heap.size, 0, none⟩ = some (.int .i64 x.p0.w) ∧ W.cell? ⟨w.heap.size, 1, none⟩ = some (.int .i64 x.p0.h) ∧ W.cell? ⟨w.heap.size, 2, none⟩ = some (.slice x.p0.a x.p0.v.length x.p0.c) ∧ W.cell? ⟨w.heap.size, 3, none⟩ = some (.int .i64 x.p1.w) ∧ W.cell? ⟨w.heap.size, 4, none⟩ = some (.int .i64 x.p1.h) ∧ W.cell? ⟨w.heap.size, 5, none⟩ = some (.slice x.p1.a x.p1.v.length x.p1.c) ∧ W.cell? ⟨w.heap.size, 6, none⟩ = some (.int .i64 x.p2.w) ∧ W.cell? ⟨w.heap.size, 7, none⟩ = some (.int .i64 x.p2.h) ∧ W.cell? ⟨w.heap.size, 8, none⟩ = some (.slice x.p2.a x.p2.v.length x.p2.c) ∧ W.cell? ⟨w.heap.size, 9, none⟩ = some (.int .i64 x.p3.w) ∧ W.cell? ⟨w.heap.size, 10, none⟩ = some (.int .i64 x.p3.h) ∧ W.cell? ⟨w.heap.size, 11, none⟩ = some (.slice x.p3.a x.p3.v.length x.p3.c)) := Lib.hid (fun W hb => HB.out W (hbw1.trans (hb.mono hbw1.size)))
              have hS0 : (fun W : World => Below w1.heap.size w1 W) w1 := Below.refl _ _
              clear hk3 hlt hbw
              have hG := Try.guard68
              refine wpAnyH_take (i := 0) (oi := ⟨some 25, _, _, _, _, _⟩) (v := ?vs1t1) rfl (by kernel_rfl) (by kernel_rfl) (by kernel_rfl) (fun _ _ _ h => h) (Or.inl ⟨by kernel_rfl, ?hys1t1⟩) (by assumption) ?rests1t1
              case hys1t1 => (intro W hSw; obtain ⟨e0, e1, e2⟩ := HK.out W hSw; clear hSw; (try dsimp only at hSw); go_simp; try with_reducible rfl)
              case' rests1t1 => try simp only [Act.put, List.setIfInBounds_toArray, List.set_cons_zero, List.set_cons_succ]
              refine wpAnyH_take (i := 2) (oi := ⟨some 27, _, _, _, _, _⟩) (v := ?vs1t2) rfl (by kernel_rfl) (by kernel_rfl) (by kernel_rfl) (fun _ _ _ h => h) (Or.inl ⟨by kernel_rfl, ?hys1t2⟩) (by assumption) ?rests1t2
              case hys1t2 => (intro W hSw; (try dsimp only at hSw); go_simp; try with_reducible rfl)
              case' rests1t2 => try simp only [Act.put, List.setIfInBounds_toArray, List.set_cons_zero, List.set_cons_succ]
              refine wpAnyH_take (i := 3) (oi := ⟨some 28, _, _, _, _, _⟩) (v := ?vs1t3) rfl (by kernel_rfl) (by kernel_rfl) (by kernel_rfl) (fun _ _ _ h => h) (Or.inl ⟨by kernel_rfl, ?hys1t3⟩) (by assumption) ?rests1t3
              case hys1t3 => (intro W hSw; obtain ⟨c0, c1, c2, _⟩ := HB1.out W hSw; clear hSw; (try dsimp only at hSw); go_simp; try with_reducible rfl)
              case' rests1t3 => try simp only [Act.put, List.setIfInBounds_toArray, List.set_cons_zero, List.set_cons_succ]
              refine wpAnyH_ready (rs := [1]) (by kernel_rfl) (by simp) ?_
              refine AllReadyH.cons (o := ⟨some 26, _, _, _, _, _⟩) rfl (fun K hK => ?_) AllReadyH.nil
              go_simp
              go_at_call 27
              refine (size_of x.p1 _).mono ?_
              rintro e Ws1t1 ⟨rfl, hbWs1t1⟩
              have hSWs1t1 := hS0.trans (hbWs1t1.mono hS0.size)
              try clear hS0
              clear hbWs1t1
              go_wp2_with fail
              refine hK.out _ _ hSWs1t1 (fun hHeld => ?_)
              clear hK hHeld K
              try simp only [Act.put, List.setIfInBounds_toArray, List.set_cons_zero, List.set_cons_succ]
              refine wpAnyH_ready (rs := [4]) (by kernel_rfl) (by simp) ?_
              refine AllReadyH.cons (o := ⟨some 29, _, _, _, _, _⟩) rfl (fun K hK => ?_) AllReadyH.nil
              go_simp
              go_at_call 27
              refine (size_of x.p0 _).mono ?_
              rintro e Ws1t2 ⟨rfl, hbWs1t2⟩
              have hSWs1t2 := hSWs1t1.trans (hbWs1t2.mono hSWs1t1.size)
              try clear hSWs1t1
              clear hbWs1t2
              go_wp2_with fail
              refine hK.out _ _ hSWs1t2 (fun hHeld => ?_)
              clear hK hHeld K
              try simp only [Act.put, List.setIfInBounds_toArray, List.set_cons_zero, List.set_cons_succ]
              refine wpAnyH_take (i := 5) (oi := ⟨some 30, _, _, _, _, _⟩) (v := ?vs1t4) rfl (by kernel_rfl) (by kernel_rfl) (by kernel_rfl) (fun _ _ _ h => h) (Or.inl ⟨by kernel_rfl, ?hys1t4⟩) (by assumption) ?rests1t4
              case hys1t4 => (intro W hSw; (try dsimp only at hSw); go_simp; try with_reducible rfl)
              case' rests1t4 => try simp only [Act.put, List.setIfInBounds_toArray, List.set_cons_zero, List.set_cons_succ]
              refine wpAnyH_done (by kernel_rfl) ?_ _
              have hS9 := hSWs1t2
              clear hN hG
              have hbw2 := hbw1.trans (hS9.mono hbw1.size)
              go_wp2
              go_roundw
              case rel => exact ⟨1 + 1, by omega, by go_num, fun j hj => by
                rcases Nat.lt_succ_iff_lt_or_eq.1 hj with h | rfl
                · exact HPRE.out j h
                · exact HE.out, hbw2⟩
              case measure => simp [intOf]
            · have HE := Lib.hid he
              have hN : ∀ W, (binOp .neq 68 (.agg #[.int .i64 x.p1.w, .int .i64 x.p1.h]) (.agg #[.int .i64 x.p0.w, .int .i64 x.p0.h])).run Try.prog W = .ok (.bool true) W := fun W => by rw [Try.neq68, decide_eq_true (show x.p1.w = x.p0.w → x.p1.h ≠ x.p0.h from fun h1 h2 => he ⟨h1, h2⟩)]
              clear he
              go_wp2_with fail
              clear hi0 hi1 hi2 hi3 c0 c1 c2 c3 c4 c5 c6 c7 c8 c9 c10 c11
              refine wp_region_held_drew (S := fun W : World => Below (wr.alloc (.cells #[.int .i64 x.p1.w, .int .i64 x.p1.h, .slice x.p1.a x.p1.v.length x.p1.c] 24)).drew.heap.size (wr.alloc (.cells #[.int .i64 x.p1.w, .int .i64 x.p1.h, .slice x.p1.a x.p1.v.length x.p1.c] 24)).drew W) (by kernel_rfl) (Below.refl _ _) (fun hHeld => ?_)
              clear hHeld
              have hbw1 : Below w0.heap.size w0 (wr.alloc (.cells #[.int .i64 x.p1.w, .int .i64 x.p1.h, .slice x.p1.a x.p1.v.length x.p1.c] 24)).drew := (hbw.alloc hbw.size _).drew
              have hlt : wr.heap.size < (wr.alloc (.cells #[.int .i64 x.p1.w, .int .i64 x.p1.h, .slice x.p1.a x.p1.v.length x.p1.c] 24)).drew.heap.size := by show _ < (wr.alloc _).heap.size; simp
              have hk3 : (wr.alloc (.cells #[.int .i64 x.p1.w, .int .i64 x.p1.h, .slice x.p1.a x.p1.v.length x.p1.c] 24)).drew.cell? ⟨wr.heap.size, 0, none⟩ = some (.int .i64 x.p1.w) ∧ (wr.alloc (.cells #[.int .i64 x.p1.w, .int .i64 x.p1.h, .slice x.p1.a x.p1.v.length x.p1.c] 24)).drew.cell? ⟨wr.heap.size, 1, none⟩ = some (.int .i64 x.p1.h) ∧ (wr.alloc (.cells #[.int .i64 x.p1.w, .int .i64 x.p1.h, .slice x.p1.a x.p1.v.length x.p1.c] 24)).drew.cell? ⟨wr.heap.size, 2, none⟩ = some (.slice x.p1.a x.p1.v.length x.p1.c) := by
                show (wr.alloc _).cell? _ = _ ∧ (wr.alloc _).cell? _ = _ ∧ (wr.alloc _).cell? _ = _
                refine ⟨?_, ?_, ?_⟩ <;> simp
              generalize (wr.alloc (.cells #[.int .i64 x.p1.w, .int .i64 x.p1.h, .slice x.p1.a x.p1.v.length x.p1.c] 24)).drew = w1 at *
              have HK : Hid (∀ W, Below w1.heap.size w1 W → W.cell? ⟨wr.heap.size, 0, none⟩ = some (.int .i64 x.p1.w) ∧ W.cell? ⟨wr.heap.size, 1, none⟩ = some (.int .i64 x.p1.h) ∧ W.cell? ⟨wr.heap.size, 2, none⟩ = some (.slice x.p1.a x.p1.v.length x.p1.c)) := Lib.hid (fun W hb => by
                obtain ⟨g0, g1, g2⟩ := hk3
                exact ⟨(hb.cell (p := ⟨wr.heap.size, 0, none⟩) hlt).trans g0, (hb.cell (p := ⟨wr.heap.size, 1, none⟩) hlt).trans g1, (hb.cell (p := ⟨wr.heap.size, 2, none⟩) hlt).trans g2⟩)
              have HB1 : Hid (∀ W, Below w1.heap.size w1 W → W.cell? ⟨w.heap.size, 0, none⟩ = some (.int .i64 x.p0.w) ∧ W.cell? ⟨w.heap.size, 1, none⟩ = some (.int .i64 x.p0.h) ∧ W.cell? ⟨w.heap.size, 2, none⟩ = some (.slice x.p0.a x.p0.v.length x.p0.c) ∧ W.cell? ⟨w.heap.size, 3, none⟩ = some (.int .i64 x.p1.w) ∧ W.cell? ⟨w.heap.size, 4, none⟩ = some (.int .i64 x.p1.h) ∧ W.cell? ⟨w.heap.size, 5, none⟩ = some (.slice x.p1.a x.p1.v.length x.p1.c) ∧ W.cell? ⟨w.heap.size, 6, none⟩ = some (.int .i64 x.p2.w) ∧ W.cell? ⟨w.heap.size, 7, none⟩ = some (.int .i64 x.p2.h) ∧ W.cell? ⟨w.heap.size, 8, none⟩ = some (.slice x.p2.a x.p2.v.length x.p2.c) ∧ W.cell? ⟨w.heap.size, 9, none⟩ = some (.int .i64 x.p3.w) ∧ W.cell? ⟨w.heap.size, 10, none⟩ = some (.int .i64 x.p3.h) ∧ W.cell? ⟨w.heap.size, 11, none⟩ = some (.slice x.p3.a x.p3.v.length x.p3.c)) := Lib.hid (fun W hb => HB.out W (hbw1.trans (hb.mono hbw1.size)))
              have hS0 : (fun W : World => Below w1.heap.size w1 W) w1 := Below.refl _ _
              clear hk3 hlt hbw
              have hG := Try.guard68
              refine wpAnyH_take (i := 0) (oi := ⟨some 25, _, _, _, _, _⟩) (v := ?vs1f1) rfl (by kernel_rfl) (by kernel_rfl) (by kernel_rfl) (fun _ _ _ h => h) (Or.inl ⟨by kernel_rfl, ?hys1f1⟩) (by assumption) ?rests1f1
              case hys1f1 => (intro W hSw; obtain ⟨e0, e1, e2⟩ := HK.out W hSw; clear hSw; (try dsimp only at hSw); go_simp; try with_reducible rfl)
              case' rests1f1 => try simp only [Act.put, List.setIfInBounds_toArray, List.set_cons_zero, List.set_cons_succ]
              refine wpAnyH_take (i := 2) (oi := ⟨some 27, _, _, _, _, _⟩) (v := ?vs1f2) rfl (by kernel_rfl) (by kernel_rfl) (by kernel_rfl) (fun _ _ _ h => h) (Or.inl ⟨by kernel_rfl, ?hys1f2⟩) (by assumption) ?rests1f2
              case hys1f2 => (intro W hSw; (try dsimp only at hSw); go_simp; try with_reducible rfl)
              case' rests1f2 => try simp only [Act.put, List.setIfInBounds_toArray, List.set_cons_zero, List.set_cons_succ]
              refine wpAnyH_take (i := 3) (oi := ⟨some 28, _, _, _, _, _⟩) (v := ?vs1f3) rfl (by kernel_rfl) (by kernel_rfl) (by kernel_rfl) (fun _ _ _ h => h) (Or.inl ⟨by kernel_rfl, ?hys1f3⟩) (by assumption) ?rests1f3
              case hys1f3 => (intro W hSw; obtain ⟨c0, c1, c2, _⟩ := HB1.out W hSw; clear hSw; (try dsimp only at hSw); go_simp; try with_reducible rfl)
              case' rests1f3 => try simp only [Act.put, List.setIfInBounds_toArray, List.set_cons_zero, List.set_cons_succ]
              refine wpAnyH_ready (rs := [1]) (by kernel_rfl) (by simp) ?_
              refine AllReadyH.cons (o := ⟨some 26, _, _, _, _, _⟩) rfl (fun K hK => ?_) AllReadyH.nil
              go_simp
              go_at_call 27
              refine (size_of x.p1 _).mono ?_
              rintro e Ws1f1 ⟨rfl, hbWs1f1⟩
              have hSWs1f1 := hS0.trans (hbWs1f1.mono hS0.size)
              try clear hS0
              clear hbWs1f1
              go_wp2_with fail
              refine hK.out _ _ hSWs1f1 (fun hHeld => ?_)
              clear hK hHeld K
              try simp only [Act.put, List.setIfInBounds_toArray, List.set_cons_zero, List.set_cons_succ]
              refine wpAnyH_ready (rs := [4]) (by kernel_rfl) (by simp) ?_
              refine AllReadyH.cons (o := ⟨some 29, _, _, _, _, _⟩) rfl (fun K hK => ?_) AllReadyH.nil
              go_simp
              go_at_call 27
              refine (size_of x.p0 _).mono ?_
              rintro e Ws1f2 ⟨rfl, hbWs1f2⟩
              have hSWs1f2 := hSWs1f1.trans (hbWs1f2.mono hSWs1f1.size)
              try clear hSWs1f1
              clear hbWs1f2
              go_wp2_with fail
              refine hK.out _ _ hSWs1f2 (fun hHeld => ?_)
              clear hK hHeld K
              try simp only [Act.put, List.setIfInBounds_toArray, List.set_cons_zero, List.set_cons_succ]
              refine wpAnyH_take (i := 5) (oi := ⟨some 30, _, _, _, _, _⟩) (v := ?vs1f4) rfl (by kernel_rfl) (by kernel_rfl) (by kernel_rfl) (fun _ _ _ h => h) (Or.inl ⟨by kernel_rfl, ?hys1f4⟩) (by assumption) ?rests1f4
              case hys1f4 => (intro W hSw; (try dsimp only at hSw); go_simp; try with_reducible rfl)
              case' rests1f4 => try simp only [Act.put, List.setIfInBounds_toArray, List.set_cons_zero, List.set_cons_succ]
              refine wpAnyH_done (by kernel_rfl) ?_ _
              have hS9 := hSWs1f2
              clear hN hG
              have hbw2 := hbw1.trans (hS9.mono hbw1.size)
              have kb := k0.trans (hbw2.mono k0.size)
              go_wp2
              go_ret2
              exact colPost_err (colE_odd HOK.out (k := 1) (by omega) HE.out) (by omega) kb
          · obtain ⟨hi0, hi1, hi2, hi3⟩ := HI.out wr
            by_cases he : x.p2.w = x.p0.w ∧ x.p2.h = x.p0.h
            · have HE := Lib.hid he
              have hN : ∀ W, (binOp .neq 68 (.agg #[.int .i64 x.p2.w, .int .i64 x.p2.h]) (.agg #[.int .i64 x.p0.w, .int .i64 x.p0.h])).run Try.prog W = .ok (.bool false) W := fun W => by rw [Try.neq68]; simp [he]
              clear he
              go_wp2_with fail
              clear hi0 hi1 hi2 hi3 c0 c1 c2 c3 c4 c5 c6 c7 c8 c9 c10 c11
              refine wp_region_held_drew (S := fun W : World => Below (wr.alloc (.cells #[.int .i64 x.p2.w, .int .i64 x.p2.h, .slice x.p2.a x.p2.v.length x.p2.c] 24)).drew.heap.size (wr.alloc (.cells #[.int .i64 x.p2.w, .int .i64 x.p2.h, .slice x.p2.a x.p2.v.length x.p2.c] 24)).drew W) (by kernel_rfl) (Below.refl _ _) (fun hHeld => ?_)
              clear hHeld
              have hbw1 : Below w0.heap.size w0 (wr.alloc (.cells #[.int .i64 x.p2.w, .int .i64 x.p2.h, .slice x.p2.a x.p2.v.length x.p2.c] 24)).drew := (hbw.alloc hbw.size _).drew
              have hlt : wr.heap.size < (wr.alloc (.cells #[.int .i64 x.p2.w, .int .i64 x.p2.h, .slice x.p2.a x.p2.v.length x.p2.c] 24)).drew.heap.size := by show _ < (wr.alloc _).heap.size; simp
              have hk3 : (wr.alloc (.cells #[.int .i64 x.p2.w, .int .i64 x.p2.h, .slice x.p2.a x.p2.v.length x.p2.c] 24)).drew.cell? ⟨wr.heap.size, 0, none⟩ = some (.int .i64 x.p2.w) ∧ (wr.alloc (.cells #[.int .i64 x.p2.w, .int .i64 x.p2.h, .slice x.p2.a x.p2.v.length x.p2.c] 24)).drew.cell? ⟨wr.heap.size, 1, none⟩ = some (.int .i64 x.p2.h) ∧ (wr.alloc (.cells #[.int .i64 x.p2.w, .int .i64 x.p2.h, .slice x.p2.a x.p2.v.length x.p2.c] 24)).drew.cell? ⟨wr.heap.size, 2, none⟩ = some (.slice x.p2.a x.p2.v.length x.p2.c) := by
                show (wr.alloc _).cell? _ = _ ∧ (wr.alloc _).cell? _ = _ ∧ (wr.alloc _).cell? _ = _
                refine ⟨?_, ?_, ?_⟩ <;> simp
              generalize (wr.alloc (.cells #[.int .i64 x.p2.w, .int .i64 x.p2.h, .slice x.p2.a x.p2.v.length x.p2.c] 24)).drew = w1 at *
              have HK : Hid (∀ W, Below w1.heap.size w1 W → W.cell? ⟨wr.heap.size, 0, none⟩ = some (.int .i64 x.p2.w) ∧ W.cell? ⟨wr.heap.size, 1, none⟩ = some (.int .i64 x.p2.h) ∧ W.cell? ⟨wr.heap.size, 2, none⟩ = some (.slice x.p2.a x.p2.v.length x.p2.c)) := Lib.hid (fun W hb => by
                obtain ⟨g0, g1, g2⟩ := hk3
                exact ⟨(hb.cell (p := ⟨wr.heap.size, 0, none⟩) hlt).trans g0, (hb.cell (p := ⟨wr.heap.size, 1, none⟩) hlt).trans g1, (hb.cell (p := ⟨wr.heap.size, 2, none⟩) hlt).trans g2⟩)
              have HB1 : Hid (∀ W, Below w1.heap.size w1 W → W.cell? ⟨w.heap.size, 0, none⟩ = some (.int .i64 x.p0.w) ∧ W.cell? ⟨w.heap.size, 1, none⟩ = some (.int .i64 x.p0.h) ∧ W.cell? ⟨w.heap.size, 2, none⟩ = some (.slice x.p0.a x.p0.v.length x.p0.c) ∧ W.cell? ⟨w.heap.size, 3, none⟩ = some (.int .i64 x.p1.w) ∧ W.cell? ⟨w.heap.size, 4, none⟩ = some (.int .i64 x.p1.h) ∧ W.cell? ⟨w.heap.size, 5, none⟩ = some (.slice x.p1.a x.p1.v.length x.p1.c) ∧ W.cell? ⟨w.heap.size, 6, none⟩ = some (.int .i64 x.p2.w) ∧ W.cell? ⟨w.heap.size, 7, none⟩ = some (.int .i64 x.p2.h) ∧ W.cell? ⟨w.heap.size, 8, none⟩ = some (.slice x.p2.a x.p2.v.length x.p2.c) ∧ W.cell? ⟨w.heap.size, 9, none⟩ = some (.int .i64 x.p3.w) ∧ W.cell? ⟨w.heap.size, 10, none⟩ = some (.int .i64 x.p3.h) ∧ W.cell? ⟨w.heap.size, 11, none⟩ = some (.slice x.p3.a x.p3.v.length x.p3.c)) := Lib.hid (fun W hb => HB.out W (hbw1.trans (hb.mono hbw1.size)))
              have hS0 : (fun W : World => Below w1.heap.size w1 W) w1 := Below.refl _ _
              clear hk3 hlt hbw
              have hG := Try.guard68
              refine wpAnyH_take (i := 0) (oi := ⟨some 25, _, _, _, _, _⟩) (v := ?vs2t1) rfl (by kernel_rfl) (by kernel_rfl) (by kernel_rfl) (fun _ _ _ h => h) (Or.inl ⟨by kernel_rfl, ?hys2t1⟩) (by assumption) ?rests2t1
              case hys2t1 => (intro W hSw; obtain ⟨e0, e1, e2⟩ := HK.out W hSw; clear hSw; (try dsimp only at hSw); go_simp; try with_reducible rfl)
              case' rests2t1 => try simp only [Act.put, List.setIfInBounds_toArray, List.set_cons_zero, List.set_cons_succ]
              refine wpAnyH_take (i := 2) (oi := ⟨some 27, _, _, _, _, _⟩) (v := ?vs2t2) rfl (by kernel_rfl) (by kernel_rfl) (by kernel_rfl) (fun _ _ _ h => h) (Or.inl ⟨by kernel_rfl, ?hys2t2⟩) (by assumption) ?rests2t2
              case hys2t2 => (intro W hSw; (try dsimp only at hSw); go_simp; try with_reducible rfl)
              case' rests2t2 => try simp only [Act.put, List.setIfInBounds_toArray, List.set_cons_zero, List.set_cons_succ]
              refine wpAnyH_take (i := 3) (oi := ⟨some 28, _, _, _, _, _⟩) (v := ?vs2t3) rfl (by kernel_rfl) (by kernel_rfl) (by kernel_rfl) (fun _ _ _ h => h) (Or.inl ⟨by kernel_rfl, ?hys2t3⟩) (by assumption) ?rests2t3
              case hys2t3 => (intro W hSw; obtain ⟨c0, c1, c2, _⟩ := HB1.out W hSw; clear hSw; (try dsimp only at hSw); go_simp; try with_reducible rfl)
              case' rests2t3 => try simp only [Act.put, List.setIfInBounds_toArray, List.set_cons_zero, List.set_cons_succ]
              refine wpAnyH_ready (rs := [1]) (by kernel_rfl) (by simp) ?_
              refine AllReadyH.cons (o := ⟨some 26, _, _, _, _, _⟩) rfl (fun K hK => ?_) AllReadyH.nil
              go_simp
              go_at_call 27
              refine (size_of x.p2 _).mono ?_
              rintro e Ws2t1 ⟨rfl, hbWs2t1⟩
              have hSWs2t1 := hS0.trans (hbWs2t1.mono hS0.size)
              try clear hS0
              clear hbWs2t1
              go_wp2_with fail
              refine hK.out _ _ hSWs2t1 (fun hHeld => ?_)
              clear hK hHeld K
              try simp only [Act.put, List.setIfInBounds_toArray, List.set_cons_zero, List.set_cons_succ]
              refine wpAnyH_ready (rs := [4]) (by kernel_rfl) (by simp) ?_
              refine AllReadyH.cons (o := ⟨some 29, _, _, _, _, _⟩) rfl (fun K hK => ?_) AllReadyH.nil
              go_simp
              go_at_call 27
              refine (size_of x.p0 _).mono ?_
              rintro e Ws2t2 ⟨rfl, hbWs2t2⟩
              have hSWs2t2 := hSWs2t1.trans (hbWs2t2.mono hSWs2t1.size)
              try clear hSWs2t1
              clear hbWs2t2
              go_wp2_with fail
              refine hK.out _ _ hSWs2t2 (fun hHeld => ?_)
              clear hK hHeld K
              try simp only [Act.put, List.setIfInBounds_toArray, List.set_cons_zero, List.set_cons_succ]
              refine wpAnyH_take (i := 5) (oi := ⟨some 30, _, _, _, _, _⟩) (v := ?vs2t4) rfl (by kernel_rfl) (by kernel_rfl) (by kernel_rfl) (fun _ _ _ h => h) (Or.inl ⟨by kernel_rfl, ?hys2t4⟩) (by assumption) ?rests2t4
              case hys2t4 => (intro W hSw; (try dsimp only at hSw); go_simp; try with_reducible rfl)
              case' rests2t4 => try simp only [Act.put, List.setIfInBounds_toArray, List.set_cons_zero, List.set_cons_succ]
              refine wpAnyH_done (by kernel_rfl) ?_ _
              have hS9 := hSWs2t2
              clear hN hG
              have hbw2 := hbw1.trans (hS9.mono hbw1.size)
              go_wp2
              go_roundw
              case rel => exact ⟨2 + 1, by omega, by go_num, fun j hj => by
                rcases Nat.lt_succ_iff_lt_or_eq.1 hj with h | rfl
                · exact HPRE.out j h
                · exact HE.out, hbw2⟩
              case measure => simp [intOf]
            · have HE := Lib.hid he
              have hN : ∀ W, (binOp .neq 68 (.agg #[.int .i64 x.p2.w, .int .i64 x.p2.h]) (.agg #[.int .i64 x.p0.w, .int .i64 x.p0.h])).run Try.prog W = .ok (.bool true) W := fun W => by rw [Try.neq68, decide_eq_true (show x.p2.w = x.p0.w → x.p2.h ≠ x.p0.h from fun h1 h2 => he ⟨h1, h2⟩)]
              clear he
              go_wp2_with fail
              clear hi0 hi1 hi2 hi3 c0 c1 c2 c3 c4 c5 c6 c7 c8 c9 c10 c11
              refine wp_region_held_drew (S := fun W : World => Below (wr.alloc (.cells #[.int .i64 x.p2.w, .int .i64 x.p2.h, .slice x.p2.a x.p2.v.length x.p2.c] 24)).drew.heap.size (wr.alloc (.cells #[.int .i64 x.p2.w, .int .i64 x.p2.h, .slice x.p2.a x.p2.v.length x.p2.c] 24)).drew W) (by kernel_rfl) (Below.refl _ _) (fun hHeld => ?_)
              clear hHeld
              have hbw1 : Below w0.heap.size w0 (wr.alloc (.cells #[.int .i64 x.p2.w, .int .i64 x.p2.h, .slice x.p2.a x.p2.v.length x.p2.c] 24)).drew := (hbw.alloc hbw.size _).drew
              have hlt : wr.heap.size < (wr.alloc (.cells #[.int .i64 x.p2.w, .int .i64 x.p2.h, .slice x.p2.a x.p2.v.length x.p2.c] 24)).drew.heap.size := by show _ < (wr.alloc _).heap.size; simp
              have hk3 : (wr.alloc (.cells #[.int .i64 x.p2.w, .int .i64 x.p2.h, .slice x.p2.a x.p2.v.length x.p2.c] 24)).drew.cell? ⟨wr.heap.size, 0, none⟩ = some (.int .i64 x.p2.w) ∧ (wr.alloc (.cells #[.int .i64 x.p2.w, .int .i64 x.p2.h, .slice x.p2.a x.p2.v.length x.p2.c] 24)).drew.cell? ⟨wr.heap.size, 1, none⟩ = some (.int .i64 x.p2.h) ∧ (wr.alloc (.cells #[.int .i64 x.p2.w, .int .i64 x.p2.h, .slice x.p2.a x.p2.v.length x.p2.c] 24)).drew.cell? ⟨wr.heap.size, 2, none⟩ = some (.slice x.p2.a x.p2.v.length x.p2.c) := by
                show (wr.alloc _).cell? _ = _ ∧ (wr.alloc _).cell? _ = _ ∧ (wr.alloc _).cell? _ = _
                refine ⟨?_, ?_, ?_⟩ <;> simp
              generalize (wr.alloc (.cells #[.int .i64 x.p2.w, .int .i64 x.p2.h, .slice x.p2.a x.p2.v.length x.p2.c] 24)).drew = w1 at *
              have HK : Hid (∀ W, Below w1.heap.size w1 W → W.cell? ⟨wr.heap.size, 0, none⟩ = some (.int .i64 x.p2.w) ∧ W.cell? ⟨wr.heap.size, 1, none⟩ = some (.int .i64 x.p2.h) ∧ W.cell? ⟨wr.heap.size, 2, none⟩ = some (.slice x.p2.a x.p2.v.length x.p2.c)) := Lib.hid (fun W hb => by
                obtain ⟨g0, g1, g2⟩ := hk3
                exact ⟨(hb.cell (p := ⟨wr.heap.size, 0, none⟩) hlt).trans g0, (hb.cell (p := ⟨wr.heap.size, 1, none⟩) hlt).trans g1, (hb.cell (p := ⟨wr.heap.size, 2, none⟩) hlt).trans g2⟩)
              have HB1 : Hid (∀ W, Below w1.heap.size w1 W → W.cell? ⟨w.heap.size, 0, none⟩ = some (.int .i64 x.p0.w) ∧ W.cell? ⟨w.heap.size, 1, none⟩ = some (.int .i64 x.p0.h) ∧ W.cell? ⟨w.heap.size, 2, none⟩ = some (.slice x.p0.a x.p0.v.length x.p0.c) ∧ W.cell? ⟨w.heap.size, 3, none⟩ = some (.int .i64 x.p1.w) ∧ W.cell? ⟨w.heap.size, 4, none⟩ = some (.int .i64 x.p1.h) ∧ W.cell? ⟨w.heap.size, 5, none⟩ = some (.slice x.p1.a x.p1.v.length x.p1.c) ∧ W.cell? ⟨w.heap.size, 6, none⟩ = some (.int .i64 x.p2.w) ∧ W.cell? ⟨w.heap.size, 7, none⟩ = some (.int .i64 x.p2.h) ∧ W.cell? ⟨w.heap.size, 8, none⟩ = some (.slice x.p2.a x.p2.v.length x.p2.c) ∧ W.cell? ⟨w.heap.size, 9, none⟩ = some (.int .i64 x.p3.w) ∧ W.cell? ⟨w.heap.size, 10, none⟩ = some (.int .i64 x.p3.h) ∧ W.cell? ⟨w.heap.size, 11, none⟩ = some (.slice x.p3.a x.p3.v.length x.p3.c)) := Lib.hid (fun W hb => HB.out W (hbw1.trans (hb.mono hbw1.size)))
              have hS0 : (fun W : World => Below w1.heap.size w1 W) w1 := Below.refl _ _
              clear hk3 hlt hbw
              have hG := Try.guard68
              refine wpAnyH_take (i := 0) (oi := ⟨some 25, _, _, _, _, _⟩) (v := ?vs2f1) rfl (by kernel_rfl) (by kernel_rfl) (by kernel_rfl) (fun _ _ _ h => h) (Or.inl ⟨by kernel_rfl, ?hys2f1⟩) (by assumption) ?rests2f1
              case hys2f1 => (intro W hSw; obtain ⟨e0, e1, e2⟩ := HK.out W hSw; clear hSw; (try dsimp only at hSw); go_simp; try with_reducible rfl)
              case' rests2f1 => try simp only [Act.put, List.setIfInBounds_toArray, List.set_cons_zero, List.set_cons_succ]
              refine wpAnyH_take (i := 2) (oi := ⟨some 27, _, _, _, _, _⟩) (v := ?vs2f2) rfl (by kernel_rfl) (by kernel_rfl) (by kernel_rfl) (fun _ _ _ h => h) (Or.inl ⟨by kernel_rfl, ?hys2f2⟩) (by assumption) ?rests2f2
              case hys2f2 => (intro W hSw; (try dsimp only at hSw); go_simp; try with_reducible rfl)
              case' rests2f2 => try simp only [Act.put, List.setIfInBounds_toArray, List.set_cons_zero, List.set_cons_succ]
              refine wpAnyH_take (i := 3) (oi := ⟨some 28, _, _, _, _, _⟩) (v := ?vs2f3) rfl (by kernel_rfl) (by kernel_rfl) (by kernel_rfl) (fun _ _ _ h => h) (Or.inl ⟨by kernel_rfl, ?hys2f3⟩) (by assumption) ?rests2f3
              case hys2f3 => (intro W hSw; obtain ⟨c0, c1, c2, _⟩ := HB1.out W hSw; clear hSw; (try dsimp only at hSw); go_simp; try with_reducible rfl)
              case' rests2f3 => try simp only [Act.put, List.setIfInBounds_toArray, List.set_cons_zero, List.set_cons_succ]
              refine wpAnyH_ready (rs := [1]) (by kernel_rfl) (by simp) ?_
              refine AllReadyH.cons (o := ⟨some 26, _, _, _, _, _⟩) rfl (fun K hK => ?_) AllReadyH.nil
              go_simp
              go_at_call 27
              refine (size_of x.p2 _).mono ?_
              rintro e Ws2f1 ⟨rfl, hbWs2f1⟩
              have hSWs2f1 := hS0.trans (hbWs2f1.mono hS0.size)
              try clear hS0
              clear hbWs2f1
              go_wp2_with fail
              refine hK.out _ _ hSWs2f1 (fun hHeld => ?_)
              clear hK hHeld K
              try simp only [Act.put, List.setIfInBounds_toArray, List.set_cons_zero, List.set_cons_succ]
              refine wpAnyH_ready (rs := [4]) (by kernel_rfl) (by simp) ?_
              refine AllReadyH.cons (o := ⟨some 29, _, _, _, _, _⟩) rfl (fun K hK => ?_) AllReadyH.nil
              go_simp
              go_at_call 27
              refine (size_of x.p0 _).mono ?_
              rintro e Ws2f2 ⟨rfl, hbWs2f2⟩
              have hSWs2f2 := hSWs2f1.trans (hbWs2f2.mono hSWs2f1.size)
              try clear hSWs2f1
              clear hbWs2f2
              go_wp2_with fail
              refine hK.out _ _ hSWs2f2 (fun hHeld => ?_)
              clear hK hHeld K
              try simp only [Act.put, List.setIfInBounds_toArray, List.set_cons_zero, List.set_cons_succ]
              refine wpAnyH_take (i := 5) (oi := ⟨some 30, _, _, _, _, _⟩) (v := ?vs2f4) rfl (by kernel_rfl) (by kernel_rfl) (by kernel_rfl) (fun _ _ _ h => h) (Or.inl ⟨by kernel_rfl, ?hys2f4⟩) (by assumption) ?rests2f4
              case hys2f4 => (intro W hSw; (try dsimp only at hSw); go_simp; try with_reducible rfl)
              case' rests2f4 => try simp only [Act.put, List.setIfInBounds_toArray, List.set_cons_zero, List.set_cons_succ]
              refine wpAnyH_done (by kernel_rfl) ?_ _
              have hS9 := hSWs2f2
              clear hN hG
              have hbw2 := hbw1.trans (hS9.mono hbw1.size)
              have kb := k0.trans (hbw2.mono k0.size)
              go_wp2
              go_ret2
              exact colPost_err (colE_odd HOK.out (k := 2) (by omega) HE.out) (by omega) kb
          · obtain ⟨hi0, hi1, hi2, hi3⟩ := HI.out wr
            by_cases he : x.p3.w = x.p0.w ∧ x.p3.h = x.p0.h
            · have HE := Lib.hid he
              have hN : ∀ W, (binOp .neq 68 (.agg #[.int .i64 x.p3.w, .int .i64 x.p3.h]) (.agg #[.int .i64 x.p0.w, .int .i64 x.p0.h])).run Try.prog W = .ok (.bool false) W := fun W => by rw [Try.neq68]; simp [he]
              clear he
              go_wp2_with fail
              clear hi0 hi1 hi2 hi3 c0 c1 c2 c3 c4 c5 c6 c7 c8 c9 c10 c11
              refine wp_region_held_drew (S := fun W : World => Below (wr.alloc (.cells #[.int .i64 x.p3.w, .int .i64 x.p3.h, .slice x.p3.a x.p3.v.length x.p3.c] 24)).drew.heap.size (wr.alloc (.cells #[.int .i64 x.p3.w, .int .i64 x.p3.h, .slice x.p3.a x.p3.v.length x.p3.c] 24)).drew W) (by kernel_rfl) (Below.refl _ _) (fun hHeld => ?_)
              clear hHeld
              have hbw1 : Below w0.heap.size w0 (wr.alloc (.cells #[.int .i64 x.p3.w, .int .i64 x.p3.h, .slice x.p3.a x.p3.v.length x.p3.c] 24)).drew := (hbw.alloc hbw.size _).drew
              have hlt : wr.heap.size < (wr.alloc (.cells #[.int .i64 x.p3.w, .int .i64 x.p3.h, .slice x.p3.a x.p3.v.length x.p3.c] 24)).drew.heap.size := by show _ < (wr.alloc _).heap.size; simp
              have hk3 : (wr.alloc (.cells #[.int .i64 x.p3.w, .int .i64 x.p3.h, .slice x.p3.a x.p3.v.length x.p3.c] 24)).drew.cell? ⟨wr.heap.size, 0, none⟩ = some (.int .i64 x.p3.w) ∧ (wr.alloc (.cells #[.int .i64 x.p3.w, .int .i64 x.p3.h, .slice x.p3.a x.p3.v.length x.p3.c] 24)).drew.cell? ⟨wr.heap.size, 1, none⟩ = some (.int .i64 x.p3.h) ∧ (wr.alloc (.cells #[.int .i64 x.p3.w, .int .i64 x.p3.h, .slice x.p3.a x.p3.v.length x.p3.c] 24)).drew.cell? ⟨wr.heap.size, 2, none⟩ = some (.slice x.p3.a x.p3.v.length x.p3.c) := by
                show (wr.alloc _).cell? _ = _ ∧ (wr.alloc _).cell? _ = _ ∧ (wr.alloc _).cell? _ = _
                refine ⟨?_, ?_, ?_⟩ <;> simp
              generalize (wr.alloc (.cells #[.int .i64 x.p3.w, .int .i64 x.p3.h, .slice x.p3.a x.p3.v.length x.p3.c] 24)).drew = w1 at *
              have HK : Hid (∀ W, Below w1.heap.size w1 W → W.cell? ⟨wr.heap.size, 0, none⟩ = some (.int .i64 x.p3.w) ∧ W.cell? ⟨wr.heap.size, 1, none⟩ = some (.int .i64 x.p3.h) ∧ W.cell? ⟨wr.heap.size, 2, none⟩ = some (.slice x.p3.a x.p3.v.length x.p3.c)) := Lib.hid (fun W hb => by
                obtain ⟨g0, g1, g2⟩ := hk3
                exact ⟨(hb.cell (p := ⟨wr.heap.size, 0, none⟩) hlt).trans g0, (hb.cell (p := ⟨wr.heap.size, 1, none⟩) hlt).trans g1, (hb.cell (p := ⟨wr.heap.size, 2, none⟩) hlt).trans g2⟩)
              have HB1 : Hid (∀ W, Below w1.heap.size w1 W → W.cell? ⟨w.heap.size, 0, none⟩ = some (.int .i64 x.p0.w) ∧ W.cell? ⟨w.heap.size, 1, none⟩ = some (.int .i64 x.p0.h) ∧ W.cell? ⟨w.heap.size, 2, none⟩ = some (.slice x.p0.a x.p0.v.length x.p0.c) ∧ W.cell? ⟨w.heap.size, 3, none⟩ = some (.int .i64 x.p1.w) ∧ W.cell? ⟨w.heap.size, 4, none⟩ = some (.int .i64 x.p1.h) ∧ W.cell? ⟨w.heap.size, 5, none⟩ = some (.slice x.p1.a x.p1.v.length x.p1.c) ∧ W.cell? ⟨w.heap.size, 6, none⟩ = some (.int .i64 x.p2.w) ∧ W.cell? ⟨w.heap.size, 7, none⟩ = some (.int .i64 x.p2.h) ∧ W.cell? ⟨w.heap.size, 8, none⟩ = some (.slice x.p2.a x.p2.v.length x.p2.c) ∧ W.cell? ⟨w.heap.size, 9, none⟩ = some (.int .i64 x.p3.w) ∧ W.cell? ⟨w.heap.size, 10, none⟩ = some (.int .i64 x.p3.h) ∧ W.cell? ⟨w.heap.size, 11, none⟩ = some (.slice x.p3.a x.p3.v.length x.p3.c)) := Lib.hid (fun W hb => HB.out W (hbw1.trans (hb.mono hbw1.size)))
              have hS0 : (fun W : World => Below w1.heap.size w1 W) w1 := Below.refl _ _
              clear hk3 hlt hbw
              have hG := Try.guard68
              refine wpAnyH_take (i := 0) (oi := ⟨some 25, _, _, _, _, _⟩) (v := ?vs3t1) rfl (by kernel_rfl) (by kernel_rfl) (by kernel_rfl) (fun _ _ _ h => h) (Or.inl ⟨by kernel_rfl, ?hys3t1⟩) (by assumption) ?rests3t1
              case hys3t1 => (intro W hSw; obtain ⟨e0, e1, e2⟩ := HK.out W hSw; clear hSw; (try dsimp only at hSw); go_simp; try with_reducible rfl)
              case' rests3t1 => try simp only [Act.put, List.setIfInBounds_toArray, List.set_cons_zero, List.set_cons_succ]
              refine wpAnyH_take (i := 2) (oi := ⟨some 27, _, _, _, _, _⟩) (v := ?vs3t2) rfl (by kernel_rfl) (by kernel_rfl) (by kernel_rfl) (fun _ _ _ h => h) (Or.inl ⟨by kernel_rfl, ?hys3t2⟩) (by assumption) ?rests3t2
              case hys3t2 => (intro W hSw; (try dsimp only at hSw); go_simp; try with_reducible rfl)
              case' rests3t2 => try simp only [Act.put, List.setIfInBounds_toArray, List.set_cons_zero, List.set_cons_succ]
              refine wpAnyH_take (i := 3) (oi := ⟨some 28, _, _, _, _, _⟩) (v := ?vs3t3) rfl (by kernel_rfl) (by kernel_rfl) (by kernel_rfl) (fun _ _ _ h => h) (Or.inl ⟨by kernel_rfl, ?hys3t3⟩) (by assumption) ?rests3t3
              case hys3t3 => (intro W hSw; obtain ⟨c0, c1, c2, _⟩ := HB1.out W hSw; clear hSw; (try dsimp only at hSw); go_simp; try with_reducible rfl)
              case' rests3t3 => try simp only [Act.put, List.setIfInBounds_toArray, List.set_cons_zero, List.set_cons_succ]
              refine wpAnyH_ready (rs := [1]) (by kernel_rfl) (by simp) ?_
              refine AllReadyH.cons (o := ⟨some 26, _, _, _, _, _⟩) rfl (fun K hK => ?_) AllReadyH.nil
              go_simp
              go_at_call 27
              refine (size_of x.p3 _).mono ?_
              rintro e Ws3t1 ⟨rfl, hbWs3t1⟩
              have hSWs3t1 := hS0.trans (hbWs3t1.mono hS0.size)
              try clear hS0
              clear hbWs3t1
              go_wp2_with fail
              refine hK.out _ _ hSWs3t1 (fun hHeld => ?_)
              clear hK hHeld K
              try simp only [Act.put, List.setIfInBounds_toArray, List.set_cons_zero, List.set_cons_succ]
              refine wpAnyH_ready (rs := [4]) (by kernel_rfl) (by simp) ?_
              refine AllReadyH.cons (o := ⟨some 29, _, _, _, _, _⟩) rfl (fun K hK => ?_) AllReadyH.nil
              go_simp
              go_at_call 27
              refine (size_of x.p0 _).mono ?_
              rintro e Ws3t2 ⟨rfl, hbWs3t2⟩
              have hSWs3t2 := hSWs3t1.trans (hbWs3t2.mono hSWs3t1.size)
              try clear hSWs3t1
              clear hbWs3t2
              go_wp2_with fail
              refine hK.out _ _ hSWs3t2 (fun hHeld => ?_)
              clear hK hHeld K
              try simp only [Act.put, List.setIfInBounds_toArray, List.set_cons_zero, List.set_cons_succ]
              refine wpAnyH_take (i := 5) (oi := ⟨some 30, _, _, _, _, _⟩) (v := ?vs3t4) rfl (by kernel_rfl) (by kernel_rfl) (by kernel_rfl) (fun _ _ _ h => h) (Or.inl ⟨by kernel_rfl, ?hys3t4⟩) (by assumption) ?rests3t4
              case hys3t4 => (intro W hSw; (try dsimp only at hSw); go_simp; try with_reducible rfl)
              case' rests3t4 => try simp only [Act.put, List.setIfInBounds_toArray, List.set_cons_zero, List.set_cons_succ]
              refine wpAnyH_done (by kernel_rfl) ?_ _
              have hS9 := hSWs3t2
              clear hN hG
              have hbw2 := hbw1.trans (hS9.mono hbw1.size)
              go_wp2
              go_roundw
              case rel => exact ⟨3 + 1, by omega, by go_num, fun j hj => by
                rcases Nat.lt_succ_iff_lt_or_eq.1 hj with h | rfl
                · exact HPRE.out j h
                · exact HE.out, hbw2⟩
              case measure => simp [intOf]
            · have HE := Lib.hid he
              have hN : ∀ W, (binOp .neq 68 (.agg #[.int .i64 x.p3.w, .int .i64 x.p3.h]) (.agg #[.int .i64 x.p0.w, .int .i64 x.p0.h])).run Try.prog W = .ok (.bool true) W := fun W => by rw [Try.neq68, decide_eq_true (show x.p3.w = x.p0.w → x.p3.h ≠ x.p0.h from fun h1 h2 => he ⟨h1, h2⟩)]
              clear he
              go_wp2_with fail
              clear hi0 hi1 hi2 hi3 c0 c1 c2 c3 c4 c5 c6 c7 c8 c9 c10 c11
              refine wp_region_held_drew (S := fun W : World => Below (wr.alloc (.cells #[.int .i64 x.p3.w, .int .i64 x.p3.h, .slice x.p3.a x.p3.v.length x.p3.c] 24)).drew.heap.size (wr.alloc (.cells #[.int .i64 x.p3.w, .int .i64 x.p3.h, .slice x.p3.a x.p3.v.length x.p3.c] 24)).drew W) (by kernel_rfl) (Below.refl _ _) (fun hHeld => ?_)
              clear hHeld
              have hbw1 : Below w0.heap.size w0 (wr.alloc (.cells #[.int .i64 x.p3.w, .int .i64 x.p3.h, .slice x.p3.a x.p3.v.length x.p3.c] 24)).drew := (hbw.alloc hbw.size _).drew
              have hlt : wr.heap.size < (wr.alloc (.cells #[.int .i64 x.p3.w, .int .i64 x.p3.h, .slice x.p3.a x.p3.v.length x.p3.c] 24)).drew.heap.size := by show _ < (wr.alloc _).heap.size; simp
              have hk3 : (wr.alloc (.cells #[.int .i64 x.p3.w, .int .i64 x.p3.h, .slice x.p3.a x.p3.v.length x.p3.c] 24)).drew.cell? ⟨wr.heap.size, 0, none⟩ = some (.int .i64 x.p3.w) ∧ (wr.alloc (.cells #[.int .i64 x.p3.w, .int .i64 x.p3.h, .slice x.p3.a x.p3.v.length x.p3.c] 24)).drew.cell? ⟨wr.heap.size, 1, none⟩ = some (.int .i64 x.p3.h) ∧ (wr.alloc (.cells #[.int .i64 x.p3.w, .int .i64 x.p3.h, .slice x.p3.a x.p3.v.length x.p3.c] 24)).drew.cell? ⟨wr.heap.size, 2, none⟩ = some (.slice x.p3.a x.p3.v.length x.p3.c) := by
                show (wr.alloc _).cell? _ = _ ∧ (wr.alloc _).cell? _ = _ ∧ (wr.alloc _).cell? _ = _
                refine ⟨?_, ?_, ?_⟩ <;> simp
              generalize (wr.alloc (.cells #[.int .i64 x.p3.w, .int .i64 x.p3.h, .slice x.p3.a x.p3.v.length x.p3.c] 24)).drew = w1 at *
              have HK : Hid (∀ W, Below w1.heap.size w1 W → W.cell? ⟨wr.heap.size, 0, none⟩ = some (.int .i64 x.p3.w) ∧ W.cell? ⟨wr.heap.size, 1, none⟩ = some (.int .i64 x.p3.h) ∧ W.cell? ⟨wr.heap.size, 2, none⟩ = some (.slice x.p3.a x.p3.v.length x.p3.c)) := Lib.hid (fun W hb => by
                obtain ⟨g0, g1, g2⟩ := hk3
                exact ⟨(hb.cell (p := ⟨wr.heap.size, 0, none⟩) hlt).trans g0, (hb.cell (p := ⟨wr.heap.size, 1, none⟩) hlt).trans g1, (hb.cell (p := ⟨wr.heap.size, 2, none⟩) hlt).trans g2⟩)
              have HB1 : Hid (∀ W, Below w1.heap.size w1 W → W.cell? ⟨w.heap.size, 0, none⟩ = some (.int .i64 x.p0.w) ∧ W.cell? ⟨w.heap.size, 1, none⟩ = some (.int .i64 x.p0.h) ∧ W.cell? ⟨w.heap.size, 2, none⟩ = some (.slice x.p0.a x.p0.v.length x.p0.c) ∧ W.cell? ⟨w.heap.size, 3, none⟩ = some (.int .i64 x.p1.w) ∧ W.cell? ⟨w.heap.size, 4, none⟩ = some (.int .i64 x.p1.h) ∧ W.cell? ⟨w.heap.size, 5, none⟩ = some (.slice x.p1.a x.p1.v.length x.p1.c) ∧ W.cell? ⟨w.heap.size, 6, none⟩ = some (.int .i64 x.p2.w) ∧ W.cell? ⟨w.heap.size, 7, none⟩ = some (.int .i64 x.p2.h) ∧ W.cell? ⟨w.heap.size, 8, none⟩ = some (.slice x.p2.a x.p2.v.length x.p2.c) ∧ W.cell? ⟨w.heap.size, 9, none⟩ = some (.int .i64 x.p3.w) ∧ W.cell? ⟨w.heap.size, 10, none⟩ = some (.int .i64 x.p3.h) ∧ W.cell? ⟨w.heap.size, 11, none⟩ = some (.slice x.p3.a x.p3.v.length x.p3.c)) := Lib.hid (fun W hb => HB.out W (hbw1.trans (hb.mono hbw1.size)))
              have hS0 : (fun W : World => Below w1.heap.size w1 W) w1 := Below.refl _ _
              clear hk3 hlt hbw
              have hG := Try.guard68
              refine wpAnyH_take (i := 0) (oi := ⟨some 25, _, _, _, _, _⟩) (v := ?vs3f1) rfl (by kernel_rfl) (by kernel_rfl) (by kernel_rfl) (fun _ _ _ h => h) (Or.inl ⟨by kernel_rfl, ?hys3f1⟩) (by assumption) ?rests3f1
              case hys3f1 => (intro W hSw; obtain ⟨e0, e1, e2⟩ := HK.out W hSw; clear hSw; (try dsimp only at hSw); go_simp; try with_reducible rfl)
              case' rests3f1 => try simp only [Act.put, List.setIfInBounds_toArray, List.set_cons_zero, List.set_cons_succ]
              refine wpAnyH_take (i := 2) (oi := ⟨some 27, _, _, _, _, _⟩) (v := ?vs3f2) rfl (by kernel_rfl) (by kernel_rfl) (by kernel_rfl) (fun _ _ _ h => h) (Or.inl ⟨by kernel_rfl, ?hys3f2⟩) (by assumption) ?rests3f2
              case hys3f2 => (intro W hSw; (try dsimp only at hSw); go_simp; try with_reducible rfl)
              case' rests3f2 => try simp only [Act.put, List.setIfInBounds_toArray, List.set_cons_zero, List.set_cons_succ]
              refine wpAnyH_take (i := 3) (oi := ⟨some 28, _, _, _, _, _⟩) (v := ?vs3f3) rfl (by kernel_rfl) (by kernel_rfl) (by kernel_rfl) (fun _ _ _ h => h) (Or.inl ⟨by kernel_rfl, ?hys3f3⟩) (by assumption) ?rests3f3
              case hys3f3 => (intro W hSw; obtain ⟨c0, c1, c2, _⟩ := HB1.out W hSw; clear hSw; (try dsimp only at hSw); go_simp; try with_reducible rfl)
              case' rests3f3 => try simp only [Act.put, List.setIfInBounds_toArray, List.set_cons_zero, List.set_cons_succ]
              refine wpAnyH_ready (rs := [1]) (by kernel_rfl) (by simp) ?_
              refine AllReadyH.cons (o := ⟨some 26, _, _, _, _, _⟩) rfl (fun K hK => ?_) AllReadyH.nil
              go_simp
              go_at_call 27
              refine (size_of x.p3 _).mono ?_
              rintro e Ws3f1 ⟨rfl, hbWs3f1⟩
              have hSWs3f1 := hS0.trans (hbWs3f1.mono hS0.size)
              try clear hS0
              clear hbWs3f1
              go_wp2_with fail
              refine hK.out _ _ hSWs3f1 (fun hHeld => ?_)
              clear hK hHeld K
              try simp only [Act.put, List.setIfInBounds_toArray, List.set_cons_zero, List.set_cons_succ]
              refine wpAnyH_ready (rs := [4]) (by kernel_rfl) (by simp) ?_
              refine AllReadyH.cons (o := ⟨some 29, _, _, _, _, _⟩) rfl (fun K hK => ?_) AllReadyH.nil
              go_simp
              go_at_call 27
              refine (size_of x.p0 _).mono ?_
              rintro e Ws3f2 ⟨rfl, hbWs3f2⟩
              have hSWs3f2 := hSWs3f1.trans (hbWs3f2.mono hSWs3f1.size)
              try clear hSWs3f1
              clear hbWs3f2
              go_wp2_with fail
              refine hK.out _ _ hSWs3f2 (fun hHeld => ?_)
              clear hK hHeld K
              try simp only [Act.put, List.setIfInBounds_toArray, List.set_cons_zero, List.set_cons_succ]
              refine wpAnyH_take (i := 5) (oi := ⟨some 30, _, _, _, _, _⟩) (v := ?vs3f4) rfl (by kernel_rfl) (by kernel_rfl) (by kernel_rfl) (fun _ _ _ h => h) (Or.inl ⟨by kernel_rfl, ?hys3f4⟩) (by assumption) ?rests3f4
              case hys3f4 => (intro W hSw; (try dsimp only at hSw); go_simp; try with_reducible rfl)
              case' rests3f4 => try simp only [Act.put, List.setIfInBounds_toArray, List.set_cons_zero, List.set_cons_succ]
              refine wpAnyH_done (by kernel_rfl) ?_ _
              have hS9 := hSWs3f2
              clear hN hG
              have hbw2 := hbw1.trans (hS9.mono hbw1.size)
              have kb := k0.trans (hbw2.mono k0.size)
              go_wp2
              go_ret2
              exact colPost_err (colE_odd HOK.out (k := 3) (by omega) HE.out) (by omega) kb

        · obtain rfl : k = 4 := by omega
          have HEV : Hid (Even4 x) := Lib.hid HPRE.out
          clear h4 hk HPRE
          generalize wr = wb at *
          rw [show (((4 : Nat) : Int)) = 4 from rfl]
          have HE0 := Lib.hid (colE_even HOK.out HEV.out)
          obtain ⟨n, hn⟩ : ∃ n, x.p0.v.length = n := ⟨_, rfl⟩
          have hnm : n ≤ 1000000 := by rw [← hn]; exact hf 0
          have HLEN : Hid (∀ j, j < 4 → (x.get j).v.length = n) := Lib.hid (fun j hj => by
            have h1 := (chk_zero (HOK.out j hj)).2.2.1
            have h0 := (chk_zero (HOK.out 0 (by omega))).2.2.1
            obtain ⟨e1, e2⟩ := HEV.out j hj
            have e3 : (x.get 0).v.length = n := hn
            rw [e1, e2] at h1
            have e4 : ((x.get 0).v.length : Int) = x.p0.w * x.p0.h := h0
            omega)
          have HN := Lib.hid hn
          have HR : Hid (∀ j W, Below w.heap.size w W → RdI W (x.get j).a (x.get j).v) := Lib.hid (fun j W hb => (hR j).below hb)
          have kb := k0.trans (hbw.mono k0.size)
          have HB3 : Hid (∀ W, Below wb.heap.size wb W → Below w0.heap.size w0 W) := Lib.hid (fun W hb => hbw.trans (hb.mono hbw.size))
          clear hn HB2 hbw C
          go_wp2_with (at_make; refine Try.makeI rfl _ _ rfl _ _ _ _ n rfl rfl (by rw [HN.out]) (by rw [HN.out]) (by omega) ?_; intro wm hown hbm)
          rw [stL_start x] at hown
          go_loopw [39] (fun i wr => ∃ k : Nat, k ≤ n ∧ i = .int .i64 k ∧ OwnI 3 wr wb.heap.size (.slice (some ⟨wb.heap.size, 0, none⟩) n n) (stL x n k 0) ∧ Below wb.heap.size wb wr) (fun i _ => n - (intOf i).toNat)
          case atStart => exact ⟨0, by omega, rfl, hown, hbm⟩
          case round =>
            clear hown hbm
            obtain ⟨k, hk, rfl, hown, hbw⟩ := hrel
            by_cases hlt : k < n
            · obtain ⟨c0, c1, c2, c3, c4, c5, c6, c7, c8, c9, c10, c11⟩ := HB.out wr (HB3.out wr hbw)
              go_wp2_with fail
              clear c0 c1 c2 c3 c4 c5 c6 c7 c8 c9 c10 c11
              go_loopw [43] (fun j wr => ∃ m : Nat, m ≤ 4 ∧ j = .int .i64 m ∧ OwnI 3 wr wb.heap.size (.slice (some ⟨wb.heap.size, 0, none⟩) n n) (stL x n k m) ∧ Below wb.heap.size wb wr) (fun j _ => 4 - (intOf j).toNat)
              case atStart => exact ⟨0, by omega, rfl, hown, hbw⟩
              case round =>
                clear hown hbw
                obtain ⟨m, hm, rfl, hown, hbw⟩ := hrel
                by_cases h4 : m < 4
                · have h4' : m = 0 ∨ m = 1 ∨ m = 2 ∨ m = 3 := by omega
                  clear h4 hm
                  rcases h4' with rfl | rfl | rfl | rfl
                  · obtain ⟨hi0, hi1, hi2, hi3⟩ := HI.out wr
                    have hvl : k < x.p0.v.length := by have := HLEN.out 0 (by omega); change x.p0.v.length = n at this; omega
                    obtain ⟨b', off', hA, hb', g1⟩ := RdI.get (HR.out 0 wr (kb.trans (hbw.mono kb.size))) (Below.refl _ _) (show k < (x.get 0).v.length from hvl)
                    change x.p0.a = _ at hA
                    have HAA := Lib.hid hA
                    clear hA
                    obtain ⟨g, cap, he, hbg, hgl, cg, cf, hst⟩ := Mp.OwnI.at_ hown (k := k) (by rw [stL_len]; exact hlt)
                    injection he with he hx1 hx2
                    clear hx1 hx2
                    injection he with he
                    injection he with he
                    subst he
                    rw [stL_get hlt] at cg
                    obtain ⟨hv1, hv2⟩ := (chk_zero (HOK.out 0 (by omega))).2.2.2 k hvl
                    obtain ⟨hq1, hq2⟩ := colP_bound HOK.out (i := k) (fun j hj => by rw [HLEN.out j hj]; exact hlt) 0 (by omega)
                    have hstep : colP x k (0 + 1) = colP x k 0 * 101 + (x.get 0).v[k]! := rfl
                    obtain ⟨y, hy⟩ : ∃ y, (x.get 0).v[k]! = y := ⟨_, rfl⟩
                    rw [hy] at g1 hv1 hv2 hstep
                    obtain ⟨q, hq⟩ : ∃ q, colP x k 0 = q := ⟨_, rfl⟩
                    rw [hq] at cg hq1 hq2 hstep
                    have hw1 : IntKind.i64.wrap (q * 101) = q * 101 := IntWalk.i64_in _ (by omega)
                    have hw2 : IntKind.i64.wrap (q * 101 + y) = q * 101 + y := IntWalk.i64_in _ (by omega)
                    have HST := Lib.hid (fun u => hst u)
                    have HSP := Lib.hid hstep
                    have hlw : wb.heap.size < wr.heap.size := hgl
                    clear hy hq hst hstep
                    have HW1 := Lib.hid hw1
                    have HW2 := Lib.hid hw2
                    clear hw1 hw2
                    go_wp2_with fail
                    clear hi0 hi1 hi2 hi3
                    have hw1 := HW1.out
                    have hw2 := HW2.out
                    have hA := HAA.out
                    refine wp_region_still_tail 14 (by kernel_rfl) (by kernel_rfl) ?_
                    simp only [List.take_succ_cons, List.take_zero, List.drop_succ_cons, List.drop_zero]
                    have q1 : (wr.alloc (.cells #[.int .i64 x.p0.w, .int .i64 x.p0.h, .slice x.p0.a x.p0.v.length x.p0.c] 24)).drew.cell? ⟨wb.heap.size, k, none⟩ = some (.int .i64 q) := (((Below.refl wr.heap.size wr).alloc (Nat.le_refl _) _).drew.cell (p := ⟨wb.heap.size, k, none⟩) hgl).trans cg
                    have q2 : (wr.alloc (.cells #[.int .i64 x.p0.w, .int .i64 x.p0.h, .slice x.p0.a x.p0.v.length x.p0.c] 24)).drew.cell? ⟨b', off' + k, none⟩ = some (.int .i64 y) := (((Below.refl wr.heap.size wr).alloc (Nat.le_refl _) _).drew.cell (p := ⟨b', off' + k, none⟩) hb').trans g1
                    have q3 : (wr.alloc (.cells #[.int .i64 x.p0.w, .int .i64 x.p0.h, .slice x.p0.a x.p0.v.length x.p0.c] 24)).drew.cell? ⟨wr.heap.size, 2, none⟩ = some (.slice x.p0.a x.p0.v.length x.p0.c) := by show (wr.alloc _).cell? _ = _; simp
                    have q4 : (wr.alloc (.cells #[.int .i64 x.p0.w, .int .i64 x.p0.h, .slice x.p0.a x.p0.v.length x.p0.c] 24)).drew.frozen? ⟨wb.heap.size, k, none⟩ = false := (((Below.refl wr.heap.size wr).alloc (Nat.le_refl _) _).drew.frozen (p := ⟨wb.heap.size, k, none⟩) hgl).trans cf
                    have q5 : Below wr.heap.size wr (wr.alloc (.cells #[.int .i64 x.p0.w, .int .i64 x.p0.h, .slice x.p0.a x.p0.v.length x.p0.c] 24)).drew := ((Below.refl _ _).alloc (Nat.le_refl _) _).drew
                    have q6 : OwnI 3 (wr.alloc (.cells #[.int .i64 x.p0.w, .int .i64 x.p0.h, .slice x.p0.a x.p0.v.length x.p0.c] 24)).drew wb.heap.size (.slice (some ⟨wb.heap.size, 0, none⟩) n n) (stL x n k 0) := hown.below q5
                    have HST2 : Hid (OwnI 3 ((wr.alloc (.cells #[.int .i64 x.p0.w, .int .i64 x.p0.h, .slice x.p0.a x.p0.v.length x.p0.c] 24)).drew.setCell ⟨wb.heap.size, k, none⟩ (.int .i64 (q * 101 + y))) wb.heap.size (.slice (some ⟨wb.heap.size, 0, none⟩) n n) (stL x n k (0 + 1)) ∧ Below wb.heap.size wb ((wr.alloc (.cells #[.int .i64 x.p0.w, .int .i64 x.p0.h, .slice x.p0.a x.p0.v.length x.p0.c] 24)).drew.setCell ⟨wb.heap.size, k, none⟩ (.int .i64 (q * 101 + y)))) := Lib.hid (by
                      obtain ⟨_, _, he, _, _, _, _, h9⟩ := Mp.OwnI.at_ q6 (k := k) (by rw [stL_len]; exact hlt)
                      injection he with he hx1 hx2
                      injection he with he
                      injection he with he
                      subst he
                      obtain ⟨h10, h11⟩ := h9 (q * 101 + y)
                      rw [← HSP.out, stL_set hlt] at h10
                      rw [HSP.out] at h10
                      exact ⟨h10, (hbw.trans (q5.mono hbw.size)).trans h11⟩)
                    change wpStill _ _ (wr.alloc (.cells #[.int .i64 x.p0.w, .int .i64 x.p0.h, .slice x.p0.a x.p0.v.length x.p0.c] 24)).drew (fun a' => wpList _ _ _ _ a' (wr.alloc (.cells #[.int .i64 x.p0.w, .int .i64 x.p0.h, .slice x.p0.a x.p0.v.length x.p0.c] 24)).drew) _ _
                    clear q5 q6 hown HST cg g1 cf
                    generalize (wr.alloc (.cells #[.int .i64 x.p0.w, .int .i64 x.p0.h, .slice x.p0.a x.p0.v.length x.p0.c] 24)).drew = w2 at *
                    repeat still_step
                    refine wpStill_nil ?_
                    go_wp2
                    rw [← hA]
                    clear hA
                    go_roundw
                    case rel => exact ⟨0 + 1, by omega, by go_num, HST2.out.1, HST2.out.2⟩
                    case measure => simp [intOf]
                  · obtain ⟨hi0, hi1, hi2, hi3⟩ := HI.out wr
                    have hvl : k < x.p1.v.length := by have := HLEN.out 1 (by omega); change x.p1.v.length = n at this; omega
                    obtain ⟨b', off', hA, hb', g1⟩ := RdI.get (HR.out 1 wr (kb.trans (hbw.mono kb.size))) (Below.refl _ _) (show k < (x.get 1).v.length from hvl)
                    change x.p1.a = _ at hA
                    have HAA := Lib.hid hA
                    clear hA
                    obtain ⟨g, cap, he, hbg, hgl, cg, cf, hst⟩ := Mp.OwnI.at_ hown (k := k) (by rw [stL_len]; exact hlt)
                    injection he with he hx1 hx2
                    clear hx1 hx2
                    injection he with he
                    injection he with he
                    subst he
                    rw [stL_get hlt] at cg
                    obtain ⟨hv1, hv2⟩ := (chk_zero (HOK.out 1 (by omega))).2.2.2 k hvl
                    obtain ⟨hq1, hq2⟩ := colP_bound HOK.out (i := k) (fun j hj => by rw [HLEN.out j hj]; exact hlt) 1 (by omega)
                    have hstep : colP x k (1 + 1) = colP x k 1 * 101 + (x.get 1).v[k]! := rfl
                    obtain ⟨y, hy⟩ : ∃ y, (x.get 1).v[k]! = y := ⟨_, rfl⟩
                    rw [hy] at g1 hv1 hv2 hstep
                    obtain ⟨q, hq⟩ : ∃ q, colP x k 1 = q := ⟨_, rfl⟩
                    rw [hq] at cg hq1 hq2 hstep
                    have hw1 : IntKind.i64.wrap (q * 101) = q * 101 := IntWalk.i64_in _ (by omega)
                    have hw2 : IntKind.i64.wrap (q * 101 + y) = q * 101 + y := IntWalk.i64_in _ (by omega)
                    have HST := Lib.hid (fun u => hst u)
                    have HSP := Lib.hid hstep
                    have hlw : wb.heap.size < wr.heap.size := hgl
                    clear hy hq hst hstep
                    have HW1 := Lib.hid hw1
                    have HW2 := Lib.hid hw2
                    clear hw1 hw2
                    go_wp2_with fail
                    clear hi0 hi1 hi2 hi3
                    have hw1 := HW1.out
                    have hw2 := HW2.out
                    have hA := HAA.out
                    refine wp_region_still_tail 14 (by kernel_rfl) (by kernel_rfl) ?_
                    simp only [List.take_succ_cons, List.take_zero, List.drop_succ_cons, List.drop_zero]
                    have q1 : (wr.alloc (.cells #[.int .i64 x.p1.w, .int .i64 x.p1.h, .slice x.p1.a x.p1.v.length x.p1.c] 24)).drew.cell? ⟨wb.heap.size, k, none⟩ = some (.int .i64 q) := (((Below.refl wr.heap.size wr).alloc (Nat.le_refl _) _).drew.cell (p := ⟨wb.heap.size, k, none⟩) hgl).trans cg
                    have q2 : (wr.alloc (.cells #[.int .i64 x.p1.w, .int .i64 x.p1.h, .slice x.p1.a x.p1.v.length x.p1.c] 24)).drew.cell? ⟨b', off' + k, none⟩ = some (.int .i64 y) := (((Below.refl wr.heap.size wr).alloc (Nat.le_refl _) _).drew.cell (p := ⟨b', off' + k, none⟩) hb').trans g1
                    have q3 : (wr.alloc (.cells #[.int .i64 x.p1.w, .int .i64 x.p1.h, .slice x.p1.a x.p1.v.length x.p1.c] 24)).drew.cell? ⟨wr.heap.size, 2, none⟩ = some (.slice x.p1.a x.p1.v.length x.p1.c) := by show (wr.alloc _).cell? _ = _; simp
                    have q4 : (wr.alloc (.cells #[.int .i64 x.p1.w, .int .i64 x.p1.h, .slice x.p1.a x.p1.v.length x.p1.c] 24)).drew.frozen? ⟨wb.heap.size, k, none⟩ = false := (((Below.refl wr.heap.size wr).alloc (Nat.le_refl _) _).drew.frozen (p := ⟨wb.heap.size, k, none⟩) hgl).trans cf
                    have q5 : Below wr.heap.size wr (wr.alloc (.cells #[.int .i64 x.p1.w, .int .i64 x.p1.h, .slice x.p1.a x.p1.v.length x.p1.c] 24)).drew := ((Below.refl _ _).alloc (Nat.le_refl _) _).drew
                    have q6 : OwnI 3 (wr.alloc (.cells #[.int .i64 x.p1.w, .int .i64 x.p1.h, .slice x.p1.a x.p1.v.length x.p1.c] 24)).drew wb.heap.size (.slice (some ⟨wb.heap.size, 0, none⟩) n n) (stL x n k 1) := hown.below q5
                    have HST2 : Hid (OwnI 3 ((wr.alloc (.cells #[.int .i64 x.p1.w, .int .i64 x.p1.h, .slice x.p1.a x.p1.v.length x.p1.c] 24)).drew.setCell ⟨wb.heap.size, k, none⟩ (.int .i64 (q * 101 + y))) wb.heap.size (.slice (some ⟨wb.heap.size, 0, none⟩) n n) (stL x n k (1 + 1)) ∧ Below wb.heap.size wb ((wr.alloc (.cells #[.int .i64 x.p1.w, .int .i64 x.p1.h, .slice x.p1.a x.p1.v.length x.p1.c] 24)).drew.setCell ⟨wb.heap.size, k, none⟩ (.int .i64 (q * 101 + y)))) := Lib.hid (by
                      obtain ⟨_, _, he, _, _, _, _, h9⟩ := Mp.OwnI.at_ q6 (k := k) (by rw [stL_len]; exact hlt)
                      injection he with he hx1 hx2
                      injection he with he
                      injection he with he
                      subst he
                      obtain ⟨h10, h11⟩ := h9 (q * 101 + y)
                      rw [← HSP.out, stL_set hlt] at h10
                      rw [HSP.out] at h10
                      exact ⟨h10, (hbw.trans (q5.mono hbw.size)).trans h11⟩)
                    change wpStill _ _ (wr.alloc (.cells #[.int .i64 x.p1.w, .int .i64 x.p1.h, .slice x.p1.a x.p1.v.length x.p1.c] 24)).drew (fun a' => wpList _ _ _ _ a' (wr.alloc (.cells #[.int .i64 x.p1.w, .int .i64 x.p1.h, .slice x.p1.a x.p1.v.length x.p1.c] 24)).drew) _ _
                    clear q5 q6 hown HST cg g1 cf
                    generalize (wr.alloc (.cells #[.int .i64 x.p1.w, .int .i64 x.p1.h, .slice x.p1.a x.p1.v.length x.p1.c] 24)).drew = w2 at *
                    repeat still_step
                    refine wpStill_nil ?_
                    go_wp2
                    rw [← hA]
                    clear hA
                    go_roundw
                    case rel => exact ⟨1 + 1, by omega, by go_num, HST2.out.1, HST2.out.2⟩
                    case measure => simp [intOf]
                  · obtain ⟨hi0, hi1, hi2, hi3⟩ := HI.out wr
                    have hvl : k < x.p2.v.length := by have := HLEN.out 2 (by omega); change x.p2.v.length = n at this; omega
                    obtain ⟨b', off', hA, hb', g1⟩ := RdI.get (HR.out 2 wr (kb.trans (hbw.mono kb.size))) (Below.refl _ _) (show k < (x.get 2).v.length from hvl)
                    change x.p2.a = _ at hA
                    have HAA := Lib.hid hA
                    clear hA
                    obtain ⟨g, cap, he, hbg, hgl, cg, cf, hst⟩ := Mp.OwnI.at_ hown (k := k) (by rw [stL_len]; exact hlt)
                    injection he with he hx1 hx2
                    clear hx1 hx2
                    injection he with he
                    injection he with he
                    subst he
                    rw [stL_get hlt] at cg
                    obtain ⟨hv1, hv2⟩ := (chk_zero (HOK.out 2 (by omega))).2.2.2 k hvl
                    obtain ⟨hq1, hq2⟩ := colP_bound HOK.out (i := k) (fun j hj => by rw [HLEN.out j hj]; exact hlt) 2 (by omega)
                    have hstep : colP x k (2 + 1) = colP x k 2 * 101 + (x.get 2).v[k]! := rfl
                    obtain ⟨y, hy⟩ : ∃ y, (x.get 2).v[k]! = y := ⟨_, rfl⟩
                    rw [hy] at g1 hv1 hv2 hstep
                    obtain ⟨q, hq⟩ : ∃ q, colP x k 2 = q := ⟨_, rfl⟩
                    rw [hq] at cg hq1 hq2 hstep
                    have hw1 : IntKind.i64.wrap (q * 101) = q * 101 := IntWalk.i64_in _ (by omega)
                    have hw2 : IntKind.i64.wrap (q * 101 + y) = q * 101 + y := IntWalk.i64_in _ (by omega)
                    have HST := Lib.hid (fun u => hst u)
                    have HSP := Lib.hid hstep
                    have hlw : wb.heap.size < wr.heap.size := hgl
                    clear hy hq hst hstep
                    have HW1 := Lib.hid hw1
                    have HW2 := Lib.hid hw2
                    clear hw1 hw2
                    go_wp2_with fail
                    clear hi0 hi1 hi2 hi3
                    have hw1 := HW1.out
                    have hw2 := HW2.out
                    have hA := HAA.out
                    refine wp_region_still_tail 14 (by kernel_rfl) (by kernel_rfl) ?_
                    simp only [List.take_succ_cons, List.take_zero, List.drop_succ_cons, List.drop_zero]
                    have q1 : (wr.alloc (.cells #[.int .i64 x.p2.w, .int .i64 x.p2.h, .slice x.p2.a x.p2.v.length x.p2.c] 24)).drew.cell? ⟨wb.heap.size, k, none⟩ = some (.int .i64 q) := (((Below.refl wr.heap.size wr).alloc (Nat.le_refl _) _).drew.cell (p := ⟨wb.heap.size, k, none⟩) hgl).trans cg
                    have q2 : (wr.alloc (.cells #[.int .i64 x.p2.w, .int .i64 x.p2.h, .slice x.p2.a x.p2.v.length x.p2.c] 24)).drew.cell? ⟨b', off' + k, none⟩ = some (.int .i64 y) := (((Below.refl wr.heap.size wr).alloc (Nat.le_refl _) _).drew.cell (p := ⟨b', off' + k, none⟩) hb').trans g1
                    have q3 : (wr.alloc (.cells #[.int .i64 x.p2.w, .int .i64 x.p2.h, .slice x.p2.a x.p2.v.length x.p2.c] 24)).drew.cell? ⟨wr.heap.size, 2, none⟩ = some (.slice x.p2.a x.p2.v.length x.p2.c) := by show (wr.alloc _).cell? _ = _; simp
                    have q4 : (wr.alloc (.cells #[.int .i64 x.p2.w, .int .i64 x.p2.h, .slice x.p2.a x.p2.v.length x.p2.c] 24)).drew.frozen? ⟨wb.heap.size, k, none⟩ = false := (((Below.refl wr.heap.size wr).alloc (Nat.le_refl _) _).drew.frozen (p := ⟨wb.heap.size, k, none⟩) hgl).trans cf
                    have q5 : Below wr.heap.size wr (wr.alloc (.cells #[.int .i64 x.p2.w, .int .i64 x.p2.h, .slice x.p2.a x.p2.v.length x.p2.c] 24)).drew := ((Below.refl _ _).alloc (Nat.le_refl _) _).drew
                    have q6 : OwnI 3 (wr.alloc (.cells #[.int .i64 x.p2.w, .int .i64 x.p2.h, .slice x.p2.a x.p2.v.length x.p2.c] 24)).drew wb.heap.size (.slice (some ⟨wb.heap.size, 0, none⟩) n n) (stL x n k 2) := hown.below q5
                    have HST2 : Hid (OwnI 3 ((wr.alloc (.cells #[.int .i64 x.p2.w, .int .i64 x.p2.h, .slice x.p2.a x.p2.v.length x.p2.c] 24)).drew.setCell ⟨wb.heap.size, k, none⟩ (.int .i64 (q * 101 + y))) wb.heap.size (.slice (some ⟨wb.heap.size, 0, none⟩) n n) (stL x n k (2 + 1)) ∧ Below wb.heap.size wb ((wr.alloc (.cells #[.int .i64 x.p2.w, .int .i64 x.p2.h, .slice x.p2.a x.p2.v.length x.p2.c] 24)).drew.setCell ⟨wb.heap.size, k, none⟩ (.int .i64 (q * 101 + y)))) := Lib.hid (by
                      obtain ⟨_, _, he, _, _, _, _, h9⟩ := Mp.OwnI.at_ q6 (k := k) (by rw [stL_len]; exact hlt)
                      injection he with he hx1 hx2
                      injection he with he
                      injection he with he
                      subst he
                      obtain ⟨h10, h11⟩ := h9 (q * 101 + y)
                      rw [← HSP.out, stL_set hlt] at h10
                      rw [HSP.out] at h10
                      exact ⟨h10, (hbw.trans (q5.mono hbw.size)).trans h11⟩)
                    change wpStill _ _ (wr.alloc (.cells #[.int .i64 x.p2.w, .int .i64 x.p2.h, .slice x.p2.a x.p2.v.length x.p2.c] 24)).drew (fun a' => wpList _ _ _ _ a' (wr.alloc (.cells #[.int .i64 x.p2.w, .int .i64 x.p2.h, .slice x.p2.a x.p2.v.length x.p2.c] 24)).drew) _ _
                    clear q5 q6 hown HST cg g1 cf
                    generalize (wr.alloc (.cells #[.int .i64 x.p2.w, .int .i64 x.p2.h, .slice x.p2.a x.p2.v.length x.p2.c] 24)).drew = w2 at *
                    repeat still_step
                    refine wpStill_nil ?_
                    go_wp2
                    rw [← hA]
                    clear hA
                    go_roundw
                    case rel => exact ⟨2 + 1, by omega, by go_num, HST2.out.1, HST2.out.2⟩
                    case measure => simp [intOf]
                  · obtain ⟨hi0, hi1, hi2, hi3⟩ := HI.out wr
                    have hvl : k < x.p3.v.length := by have := HLEN.out 3 (by omega); change x.p3.v.length = n at this; omega
                    obtain ⟨b', off', hA, hb', g1⟩ := RdI.get (HR.out 3 wr (kb.trans (hbw.mono kb.size))) (Below.refl _ _) (show k < (x.get 3).v.length from hvl)
                    change x.p3.a = _ at hA
                    have HAA := Lib.hid hA
                    clear hA
                    obtain ⟨g, cap, he, hbg, hgl, cg, cf, hst⟩ := Mp.OwnI.at_ hown (k := k) (by rw [stL_len]; exact hlt)
                    injection he with he hx1 hx2
                    clear hx1 hx2
                    injection he with he
                    injection he with he
                    subst he
                    rw [stL_get hlt] at cg
                    obtain ⟨hv1, hv2⟩ := (chk_zero (HOK.out 3 (by omega))).2.2.2 k hvl
                    obtain ⟨hq1, hq2⟩ := colP_bound HOK.out (i := k) (fun j hj => by rw [HLEN.out j hj]; exact hlt) 3 (by omega)
                    have hstep : colP x k (3 + 1) = colP x k 3 * 101 + (x.get 3).v[k]! := rfl
                    obtain ⟨y, hy⟩ : ∃ y, (x.get 3).v[k]! = y := ⟨_, rfl⟩
                    rw [hy] at g1 hv1 hv2 hstep
                    obtain ⟨q, hq⟩ : ∃ q, colP x k 3 = q := ⟨_, rfl⟩
                    rw [hq] at cg hq1 hq2 hstep
                    have hw1 : IntKind.i64.wrap (q * 101) = q * 101 := IntWalk.i64_in _ (by omega)
                    have hw2 : IntKind.i64.wrap (q * 101 + y) = q * 101 + y := IntWalk.i64_in _ (by omega)
                    have HST := Lib.hid (fun u => hst u)
                    have HSP := Lib.hid hstep
                    have hlw : wb.heap.size < wr.heap.size := hgl
                    clear hy hq hst hstep
                    have HW1 := Lib.hid hw1
                    have HW2 := Lib.hid hw2
                    clear hw1 hw2
                    go_wp2_with fail
                    clear hi0 hi1 hi2 hi3
                    have hw1 := HW1.out
                    have hw2 := HW2.out
                    have hA := HAA.out
                    refine wp_region_still_tail 14 (by kernel_rfl) (by kernel_rfl) ?_
                    simp only [List.take_succ_cons, List.take_zero, List.drop_succ_cons, List.drop_zero]
                    have q1 : (wr.alloc (.cells #[.int .i64 x.p3.w, .int .i64 x.p3.h, .slice x.p3.a x.p3.v.length x.p3.c] 24)).drew.cell? ⟨wb.heap.size, k, none⟩ = some (.int .i64 q) := (((Below.refl wr.heap.size wr).alloc (Nat.le_refl _) _).drew.cell (p := ⟨wb.heap.size, k, none⟩) hgl).trans cg
                    have q2 : (wr.alloc (.cells #[.int .i64 x.p3.w, .int .i64 x.p3.h, .slice x.p3.a x.p3.v.length x.p3.c] 24)).drew.cell? ⟨b', off' + k, none⟩ = some (.int .i64 y) := (((Below.refl wr.heap.size wr).alloc (Nat.le_refl _) _).drew.cell (p := ⟨b', off' + k, none⟩) hb').trans g1
                    have q3 : (wr.alloc (.cells #[.int .i64 x.p3.w, .int .i64 x.p3.h, .slice x.p3.a x.p3.v.length x.p3.c] 24)).drew.cell? ⟨wr.heap.size, 2, none⟩ = some (.slice x.p3.a x.p3.v.length x.p3.c) := by show (wr.alloc _).cell? _ = _; simp
                    have q4 : (wr.alloc (.cells #[.int .i64 x.p3.w, .int .i64 x.p3.h, .slice x.p3.a x.p3.v.length x.p3.c] 24)).drew.frozen? ⟨wb.heap.size, k, none⟩ = false := (((Below.refl wr.heap.size wr).alloc (Nat.le_refl _) _).drew.frozen (p := ⟨wb.heap.size, k, none⟩) hgl).trans cf
                    have q5 : Below wr.heap.size wr (wr.alloc (.cells #[.int .i64 x.p3.w, .int .i64 x.p3.h, .slice x.p3.a x.p3.v.length x.p3.c] 24)).drew := ((Below.refl _ _).alloc (Nat.le_refl _) _).drew
                    have q6 : OwnI 3 (wr.alloc (.cells #[.int .i64 x.p3.w, .int .i64 x.p3.h, .slice x.p3.a x.p3.v.length x.p3.c] 24)).drew wb.heap.size (.slice (some ⟨wb.heap.size, 0, none⟩) n n) (stL x n k 3) := hown.below q5
                    have HST2 : Hid (OwnI 3 ((wr.alloc (.cells #[.int .i64 x.p3.w, .int .i64 x.p3.h, .slice x.p3.a x.p3.v.length x.p3.c] 24)).drew.setCell ⟨wb.heap.size, k, none⟩ (.int .i64 (q * 101 + y))) wb.heap.size (.slice (some ⟨wb.heap.size, 0, none⟩) n n) (stL x n k (3 + 1)) ∧ Below wb.heap.size wb ((wr.alloc (.cells #[.int .i64 x.p3.w, .int .i64 x.p3.h, .slice x.p3.a x.p3.v.length x.p3.c] 24)).drew.setCell ⟨wb.heap.size, k, none⟩ (.int .i64 (q * 101 + y)))) := Lib.hid (by
                      obtain ⟨_, _, he, _, _, _, _, h9⟩ := Mp.OwnI.at_ q6 (k := k) (by rw [stL_len]; exact hlt)
                      injection he with he hx1 hx2
                      injection he with he
                      injection he with he
                      subst he
                      obtain ⟨h10, h11⟩ := h9 (q * 101 + y)
                      rw [← HSP.out, stL_set hlt] at h10
                      rw [HSP.out] at h10
                      exact ⟨h10, (hbw.trans (q5.mono hbw.size)).trans h11⟩)
                    change wpStill _ _ (wr.alloc (.cells #[.int .i64 x.p3.w, .int .i64 x.p3.h, .slice x.p3.a x.p3.v.length x.p3.c] 24)).drew (fun a' => wpList _ _ _ _ a' (wr.alloc (.cells #[.int .i64 x.p3.w, .int .i64 x.p3.h, .slice x.p3.a x.p3.v.length x.p3.c] 24)).drew) _ _
                    clear q5 q6 hown HST cg g1 cf
                    generalize (wr.alloc (.cells #[.int .i64 x.p3.w, .int .i64 x.p3.h, .slice x.p3.a x.p3.v.length x.p3.c] 24)).drew = w2 at *
                    repeat still_step
                    refine wpStill_nil ?_
                    go_wp2
                    rw [← hA]
                    clear hA
                    go_roundw
                    case rel => exact ⟨3 + 1, by omega, by go_num, HST2.out.1, HST2.out.2⟩
                    case measure => simp [intOf]
                · obtain rfl : m = 4 := by omega
                  rw [stL_next] at hown
                  rw [show (((4 : Nat) : Int)) = 4 from rfl]
                  go_wp2
                  go_roundw
                  case rel => exact ⟨k + 1, by omega, by go_num, hown, hbw⟩
                  case measure => simp [intOf]; omega
            · obtain rfl : k = n := by omega
              go_wp2
              go_ret2
              refine ⟨.slice (some ⟨wb.heap.size, 0, none⟩) k k, by rw [HE0.out]; rfl, ?_, kb.trans (hbw.mono kb.size)⟩
              unfold colR
              rw [if_pos HE0.out, ← stL_done, HN.out]
              exact ⟨_, _, by rw [stL_len], by rw [stL_len]; exact Nat.le_refl _, Own.rd encI_len hown⟩
end Go.Proofs
