/- few, edition, covered; the callees' contracts in one shape. -/
import Derived.Test.YtnckglojbhlekaaQ18
import Derived.Test.YtnckglojbhlekaaK1
import Derived.Test.YtnckglojbhlekaaE1
set_option linter.unusedVariables false
set_option linter.unusedSimpArgs false
namespace Go.Proofs
open Go.RowKit Go.Proofs.Mp

theorem c_same {W : World} {u v : Value} {xs ys : List Int} (h : SlI W u xs) (g : SlI W v ys) (hl : xs.length ≤ 1000000) (hm : ys.length ≤ 1000000) : Calls Try.prog 13 #[u, v] W (RetV W (.bool (decide (xs = ys)))) := by
  obtain ⟨A, c, rfl, h1, hR⟩ := h
  obtain ⟨B, d, rfl, g1, hS⟩ := g
  exact ref_same A B c d xs ys W (by omega) (by omega) hR hS
theorem c_sameX {W : World} {u v : Value} {xs ys : List Bx} (h : SlX W u xs) (g : SlX W v ys) (hl : xs.length ≤ 1000000) (hm : ys.length ≤ 1000000) : Calls Try.prog 16 #[u, v] W (RetV W (.bool (decide (xs = ys)))) := by
  obtain ⟨A, c, rfl, hR⟩ := h
  obtain ⟨B, d, rfl, hS⟩ := g
  exact same_boxes A B c d xs ys W (by omega) (by omega) hR hS
theorem c_sameD {W : World} {u v : Value} {xs ys : List Df} (h : SlD W u xs) (g : SlD W v ys) (hl : xs.length ≤ 1000000) (hm : ys.length ≤ 1000000) : Calls Try.prog 21 #[u, v] W (RetV W (.bool (decide (xs = ys)))) := by
  obtain ⟨A, c, rfl, _, hR⟩ := h
  obtain ⟨B, d, rfl, _, hS⟩ := g
  exact same_diffs A B c d xs ys W (by omega) (by omega) hR hS

/-- a copy: its number and its plates -/
def encC (x : Pd) : List Value := .int .i64 x.s :: cells4 x.p
theorem encC_len (x : Pd) : (encC x).length = 13 := rfl
/-- the value v is a slice that reads as the copies xs -/
def SlC (w : World) (v : Value) (xs : List Pd) : Prop := ∃ A c, v = .slice A xs.length c ∧ xs.length ≤ c ∧ Rd 13 encC w A xs ∧ ∀ x ∈ xs, Few4 x.p 9223372036854775807 ∧ Rd4 w x.p
theorem SlC.below {w w' : World} {v : Value} {xs : List Pd} (h : SlC w v xs) (hb : Below w.heap.size w w') : SlC w' v xs := by
  obtain ⟨A, c, rfl, h1, hR, hP⟩ := h
  exact ⟨A, c, rfl, h1, hR.below hb, fun x hx => ⟨(hP x hx).1, (hP x hx).2.below hb⟩⟩
def fewB (l : List Pd) : Bool := decide (l.length ≤ 6) && l.all fun x => lightB x.p
theorem fewB_big {l : List Pd} (h : ¬ l.length ≤ 6) : fewB l = false := by unfold fewB; rw [decide_eq_false h, Bool.false_and]
theorem fewB_no {l : List Pd} {k : Nat} (hk : k < l.length) (h : lightB l[k]!.p = false) : fewB l = false := by
  unfold fewB
  rw [show (l.all fun x => lightB x.p) = false from ?_, Bool.and_false]
  rw [List.all_eq_false]
  rw [getElem!_pos l k hk] at h
  exact ⟨l[k], List.getElem_mem hk, by simp [h]⟩
theorem fewB_yes {l : List Pd} (hl : l.length ≤ 6) (h : ∀ j, j < l.length → lightB l[j]!.p = true) : fewB l = true := by
  unfold fewB
  rw [decide_eq_true hl, Bool.true_and, List.all_eq_true]
  intro x hx
  obtain ⟨j, hj, rfl⟩ := List.mem_iff_getElem.1 hx
  have := h j hj
  rwa [getElem!_pos l j hj] at this
theorem fewB_len {l : List Pd} (h : fewB l = true) : l.length ≤ 6 ∧ ∀ x ∈ l, lightB x.p = true := by
  unfold fewB at h
  rw [Bool.and_eq_true, List.all_eq_true] at h
  exact ⟨of_decide_eq_true h.1, h.2⟩
theorem mem_get {l : List Pd} {k : Nat} (h : k < l.length) : l[k]! ∈ l := by rw [getElem!_pos l k h]; exact List.getElem_mem h
theorem Rd.rangeC {w wr : World} {A : Option Addr} {xs : List Pd} (h : Rd 13 encC w A xs) (hb : Below w.heap.size w wr) {j : Nat} (hj : j < xs.length) :
    ∃ b off, A = some ⟨b, off, none⟩ ∧ b < w.heap.size ∧ wr.cell? ⟨b, off + j * 13, none⟩ = some (.int .i64 xs[j]!.s) ∧ wr.rangeAt b (off + j * 13 + 1) (cells4 xs[j]!.p) := by
  obtain ⟨b, off, rfl, hlt, hc⟩ := Mp.Rd.get h hb hj
  refine ⟨b, off, rfl, hlt, by simpa using hc j hj 0 _ rfl, fun i v hv => ?_⟩
  have := hc j hj (i + 1) v hv
  rw [← this]
  congr 2
  omega
theorem few_dec {l : List Pd} (hl : ∀ j, j < l.length → lightB l[j]!.p = true) : decide (l.length ≤ 6) = fewB l := by
  by_cases h : l.length ≤ 6
  · rw [decide_eq_true h, fewB_yes h hl]
  · rw [decide_eq_false h, fewB_big h]

set_option maxRecDepth 100000 in
set_option maxHeartbeats 2000000 in
theorem few_any (v : Value) (xs : List Pd) (w : World) (hmax : xs.length ≤ 9223372036854775807) (h : SlC w v xs) : Calls Try.prog 17 #[v] w (RetV w (.bool (fewB xs))) := by
  obtain ⟨A, c, rfl, h1, hR, hP⟩ := h
  have HR := Lib.hid hR
  have HP := Lib.hid hP
  clear hR hP h1
  go_enter Try.func17, Try.ntmps17
  go_wp2
  go_loopw [3] (fun i wr => ∃ k : Nat, k ≤ xs.length ∧ k ≤ 7 ∧ i = .int .i64 k ∧ Hid (∀ j, j < k → lightB xs[j]!.p = true) ∧ Below w.heap.size w wr) (fun i _ => xs.length - (intOf i).toNat)
  case atStart => exact ⟨0, Nat.zero_le _, by omega, rfl, Lib.hid (fun j hj => by omega), Below.refl _ _⟩
  case round =>
    obtain ⟨k, hk, hk7, rfl, hal, hbw⟩ := hrel
    by_cases hlt : k < xs.length
    · by_cases h7 : k < 7
      · obtain ⟨b, off, rfl, hb, g0, g1⟩ := Rd.rangeC HR.out hbw hlt
        obtain ⟨hf, hr4⟩ := HP.out _ (mem_get hlt)
        obtain ⟨x, hx⟩ : ∃ x, xs[k]! = x := ⟨_, rfl⟩
        rw [hx] at g1 hf hr4
        have HX := Lib.hid hx
        have hd : decide (k < xs.length) = true := decide_eq_true hlt
        clear hx g0
        go_wp2_with (refine Try.load25 x.p rfl _ rfl b (off + k * 13 + 1) rfl g1 ?_)
        refine (light_any x.p wr hf).mono ?_
        rintro e w2 ⟨rfl, hb2⟩
        have hbw2 := hbw.trans (hb2.mono hbw.size)
        obtain ⟨p, hp⟩ : ∃ p, lightB x.p = p := ⟨_, rfl⟩
        rw [hp]
        have HLP := Lib.hid hp
        clear hp
        cases p
        · go_wp2
          go_ret
          exact RetV.bool (fewB_no hlt (by rw [HX.out]; exact HLP.out)).symm hbw2
        · go_wp2
          go_roundw
          case rel => exact ⟨k + 1, by omega, by omega, by go_num, Lib.hid (fun j hj => by
            rcases Nat.lt_succ_iff_lt_or_eq.1 hj with h2 | rfl
            · exact hal.out j h2
            · rw [HX.out]; exact HLP.out), hbw2⟩
          case measure => simp [intOf]; omega
      · obtain rfl : k = 7 := by omega
        have HFB : Hid (fewB xs = false) := Lib.hid (fewB_big (by omega))
        have hd2 : decide ((xs.length : Int) ≤ 6) = false := decide_eq_false (by omega)
        go_wp2
        go_ret
        exact RetV.bool (by rw [HFB.out]) hbw
    · obtain rfl : k = xs.length := by omega
      have HFB : Hid (decide ((xs.length : Int) ≤ 6) = fewB xs) := Lib.hid (by rw [← few_dec hal.out]; exact decide_eq_decide.2 (by omega))
      go_wp2
      go_ret
      exact RetV.bool HFB.out hbw

set_option maxHeartbeats 2000000 in
theorem covered_any (v : Value) (xs : List Bx) (X Y : Int) (w : World) (hmax : xs.length ≤ 1000000) (h : SlX w v xs) : Calls Try.prog 24 #[v, .int .i64 X, .int .i64 Y] w (RetV w (.bool (xs.any fun b => coverB b X Y))) := by
  obtain ⟨A, c, rfl, hR⟩ := h
  have HR := Lib.hid hR
  clear hR
  go_enter Try.func24, Try.ntmps24
  go_wp2
  go_loop [7] (fun i => ∃ k : Nat, k ≤ xs.length ∧ i = .int .i64 k ∧ Hid (∀ j, j < k → coverB xs[j]! X Y = false)) (fun i => xs.length - (intOf i).toNat)
  case atStart => exact ⟨0, Nat.zero_le _, rfl, Lib.hid (fun j hj => by omega)⟩
  case round =>
    obtain ⟨k, hk, rfl, hno⟩ := hrel
    by_cases hlt : k < xs.length
    · obtain ⟨b, off, rfl, hb, hc⟩ := Mp.Rd.get HR.out (Below.refl _ _) hlt
      obtain ⟨x, hx⟩ : ∃ x, xs[k]! = x := ⟨_, rfl⟩
      have hck := hc k hlt
      rw [hx] at hck
      have g0 : w.cell? ⟨b, off + k * 4, none⟩ = some (.int .i64 x.x0) := hck 0 _ rfl
      have g1 : w.cell? ⟨b, off + k * 4 + 1, none⟩ = some (.int .i64 x.y0) := hck 1 _ rfl
      have g2 : w.cell? ⟨b, off + k * 4 + 2, none⟩ = some (.int .i64 x.x1) := hck 2 _ rfl
      have g3 : w.cell? ⟨b, off + k * 4 + 3, none⟩ = some (.int .i64 x.y1) := hck 3 _ rfl
      have HX := Lib.hid hx
      have hd : decide (k < xs.length) = true := decide_eq_true hlt
      clear hx hc hck
      have HNO : Hid (coverB x X Y = false → ∀ j, j < k + 1 → coverB xs[j]! X Y = false) := Lib.hid (fun h j hj => by
        rcases Nat.lt_succ_iff_lt_or_eq.1 hj with h2 | rfl
        · exact hno.out j h2
        · rw [HX.out]; exact h)
      have HYES : Hid (coverB x X Y = true → (xs.any fun b => coverB b X Y) = true) := Lib.hid (fun h => by
        rw [List.any_eq_true]
        exact ⟨x, by rw [← HX.out, getElem!_pos xs k hlt]; exact List.getElem_mem hlt, h⟩)
      by_cases c0 : x.x0 ≤ X
      · have d0 : decide (x.x0 ≤ X) = true := decide_eq_true c0
        by_cases c1 : X ≤ x.x1
        · have d1 : decide (X ≤ x.x1) = true := decide_eq_true c1
          by_cases c2 : x.y0 ≤ Y
          · have d2 : decide (x.y0 ≤ Y) = true := decide_eq_true c2
            by_cases c3 : Y ≤ x.y1
            · have d3 : decide (Y ≤ x.y1) = true := decide_eq_true c3
              have HT : Hid (coverB x X Y = true) := Lib.hid (coverB_iff.2 ⟨c0, c1, c2, c3⟩)
              clear c0 c1 c2 c3
              go_wp2
              go_ret
              exact RetV.bool (HYES.out HT.out).symm (Below.refl _ _)
            · have d3 : decide (Y ≤ x.y1) = false := decide_eq_false c3
              have HT : Hid (coverB x X Y = false) := Lib.hid (coverB_no.2 (by omega))
              clear c0 c1 c2 c3
              go_wp2
              go_round
              case rel => exact ⟨k + 1, by omega, by go_num, Lib.hid (HNO.out HT.out)⟩
              case measure => simp [intOf]; omega
          · have d2 : decide (x.y0 ≤ Y) = false := decide_eq_false c2
            have HT : Hid (coverB x X Y = false) := Lib.hid (coverB_no.2 (by omega))
            clear c0 c1 c2
            go_wp2
            go_round
            case rel => exact ⟨k + 1, by omega, by go_num, Lib.hid (HNO.out HT.out)⟩
            case measure => simp [intOf]; omega
        · have d1 : decide (X ≤ x.x1) = false := decide_eq_false c1
          have HT : Hid (coverB x X Y = false) := Lib.hid (coverB_no.2 (by omega))
          clear c0 c1
          go_wp2
          go_round
          case rel => exact ⟨k + 1, by omega, by go_num, Lib.hid (HNO.out HT.out)⟩
          case measure => simp [intOf]; omega
      · have d0 : decide (x.x0 ≤ X) = false := decide_eq_false c0
        have HT : Hid (coverB x X Y = false) := Lib.hid (coverB_no.2 (by omega))
        clear c0
        go_wp2
        go_round
        case rel => exact ⟨k + 1, by omega, by go_num, Lib.hid (HNO.out HT.out)⟩
        case measure => simp [intOf]; omega
    · obtain rfl : k = xs.length := by omega
      have HF : Hid ((xs.any fun b => coverB b X Y) = false) := Lib.hid (by
        rw [List.any_eq_false]
        intro x hx
        obtain ⟨j, hj, rfl⟩ := List.mem_iff_getElem.1 hx
        have := hno.out j hj
        rw [getElem!_pos xs j hj] at this
        simp [this])
      go_wp2
      go_ret
      exact RetV.bool HF.out.symm (Below.refl _ _)
end Go.Proofs
